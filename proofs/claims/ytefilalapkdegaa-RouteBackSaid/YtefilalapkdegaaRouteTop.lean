/- Better: of two routes, the program and the reference. -/
import Derived.Test.YtefilalapkdegaaRouteBetter2
namespace Go.Proofs.Ytefilalapkdegaa
open Go.RowKit Str Mem
set_option linter.unusedVariables false
set_option linter.unusedSimpArgs false

theorem arr0 (v1 v2 v3 u1 u2 u3 : Value) (w : World) : (Instr.index 75 (.agg #[v1, v2, v3, u1, u2, u3]) (.int .i64 0)).run Try.prog w = .ok (.agg #[v1, v2, v3]) w := by kernel_rfl
theorem arr1 (v1 v2 v3 u1 u2 u3 : Value) (w : World) : (Instr.index 75 (.agg #[v1, v2, v3, u1, u2, u3]) (.int .i64 1)).run Try.prog w = .ok (.agg #[u1, u2, u3]) w := by kernel_rfl

def BetI (w : World) (l m : List (List UInt8)) (e1 e2 : Int) (v1 v2 v3 u1 u2 u3 : Value) (i : Value) (wr : World) : Prop :=
  ∃ k : Nat, i = .int .i64 k ∧ k ≤ 2 ∧ (1 ≤ k → e1 = 0) ∧ (2 ≤ k → e2 = 0) ∧ Below w.heap.size w wr ∧ Rd wr 3 (some ⟨w.heap.size, 0, none⟩) 1 [v1, v2, v3] ∧ Rd wr 3 (some ⟨w.heap.size + 1, 0, none⟩) 1 [u1, u2, u3]

set_option maxRecDepth 20000 in
set_option maxHeartbeats 4000000 in
theorem vBetter_any (a a2 : Option Addr) (c c2 : Nat) (l m : List (List UInt8)) (kd kd2 : Int) (t t2 : List UInt8) (w : World) (h : RtOk w a l.length c l t) (h2 : RtOk w a2 m.length c2 m t2) :
    Calls Try.prog 24 #[rtv a l.length c kd t, rtv a2 m.length c2 kd2 t2] w fun e w' => e = .returned (.tuple #[.int .i64 (Route.betterR (Route.err l kd t) (Route.err m kd2 t2) l m).1, .int .i64 (Route.betterR (Route.err l kd t) (Route.err m kd2 t2) l m).2]) ∧ Below w.heap.size w w' := by
  have hv1 := fun w' (hb : Below w.heap.size w w') => vroute_any a c l kd t w' (h.below hb)
  have hv2 := fun w' (hb : Below w.heap.size w w') => vroute_any a2 c2 m kd2 t2 w' (h2.below hb)
  have hcom := fun (he : Route.err l kd t = 0) (he2 : Route.err m kd2 t2 = 0) w' (hb : Below w.heap.size w w') => common_any a a2 c c2 l m kd kd2 t t2 w' (h.below hb) (h2.below hb) (Route.fine_of he) (Route.fine_of he2) (Route.err_ok he).1 (Route.err_ok he2).1
  have hcmp := fun (he : Route.err l kd t = 0) (he2 : Route.err m kd2 t2 = 0) w' (hb : Below w.heap.size w w') => compare_any a a2 c c2 l m kd kd2 t t2 w' (h.below hb) (h2.below hb) (Route.fine_of he) (Route.fine_of he2) (Route.err_ok he).1 (Route.err_ok he2).1
  unfold rtv at hv1 hv2 hcom hcmp ⊢
  obtain ⟨e1, he1⟩ : ∃ e, Route.err l kd t = e := ⟨_, rfl⟩
  obtain ⟨e2, he2⟩ : ∃ e, Route.err m kd2 t2 = e := ⟨_, rfl⟩
  obtain ⟨x, hx⟩ : ∃ x, Route.betterR e1 e2 l m = x := ⟨_, rfl⟩
  rw [he1] at hv1 hcom hcmp ⊢
  rw [he2] at hv2 hcom hcmp ⊢
  rw [hx]
  have HX := Lib.hid hx
  obtain ⟨hb0, hx0, hy0⟩ := two_boxes w 35 (.slice a l.length c) (.int .i64 kd) (.string ⟨t.toArray⟩) (.slice a2 m.length c2) (.int .i64 kd2) (.string ⟨t2.toArray⟩)
  obtain ⟨p0, p1, p2⟩ := box3 hx0
  obtain ⟨q0, q1, q2⟩ := box3 hy0
  clear he1 he2 hx h h2
  have hi0 := fun w => arr0 (.slice a l.length c) (.int .i64 kd) (.string ⟨t.toArray⟩) (.slice a2 m.length c2) (.int .i64 kd2) (.string ⟨t2.toArray⟩) w
  have hi1 := fun w => arr1 (.slice a l.length c) (.int .i64 kd) (.string ⟨t.toArray⟩) (.slice a2 m.length c2) (.int .i64 kd2) (.string ⟨t2.toArray⟩) w
  go_enter Try.func24, Try.ntmps24
  go_wp2
  go_loopw [12, 7, 8] (fun i _ _ wr => BetI w l m e1 e2 (.slice a l.length c) (.int .i64 kd) (.string ⟨t.toArray⟩) (.slice a2 m.length c2) (.int .i64 kd2) (.string ⟨t2.toArray⟩) i wr) (fun i _ _ _ => 2 - (intOf i).toNat)
  case atStart => exact ⟨0, rfl, by omega, by omega, by omega, hb0, hx0, hy0⟩
  case round =>
    clear p0 p1 p2 q0 q1 q2 hx0 hy0
    obtain ⟨k, rfl, hk, hk1, hk2, hbl, hbx, hby⟩ := hrel
    obtain ⟨p0, p1, p2⟩ := box3 hbx
    obtain ⟨q0, q1, q2⟩ := box3 hby
    have hk3 : k = 0 ∨ k = 1 ∨ k = 2 := by omega
    rcases hk3 with rfl | rfl | rfl
    · clear hk1 hk2 hcom hcmp
      have hba := hbl.alloc (by have := hbl.size; omega) (.cells #[.slice a l.length c, .int .i64 kd, .string ⟨t.toArray⟩] 35)
      have hxa := hbx.alloc (.cells #[.slice a l.length c, .int .i64 kd, .string ⟨t.toArray⟩] 35)
      have hya := hby.alloc (.cells #[.slice a l.length c, .int .i64 kd, .string ⟨t.toArray⟩] 35)
      have hq := hv1 _ hba
      by_cases h0 : e1 = 0
      · have H0 := Lib.hid h0
        have h0b : (e1 != 0) = false := by rw [h0]; rfl
        clear h0
        go_wp2_with fail
        refine hq.mono ?_
        rintro e w1 ⟨rfl, h1⟩
        go_wp2
        refine ⟨⟨1, rfl, by omega, fun _ => H0.out, by omega, hba.trans (h1.mono hba.size), hxa.below h1, hya.below h1⟩, by simp [intOf]⟩
      · have Hx := Lib.hid (show x = (0, e1) by rw [← HX.out]; unfold Route.betterR; rw [if_pos h0])
        have h0b : (e1 != 0) = true := by simpa using h0
        clear h0
        go_wp2_with fail
        refine hq.mono ?_
        rintro e w1 ⟨rfl, h1⟩
        go_wp2
        go_ret2
        exact ⟨by rw [Hx.out]; rfl, hba.trans (h1.mono hba.size)⟩
    · have z1 := hk1 (by omega); clear hk1 hk2 hcom hcmp
      have hba := hbl.alloc (by have := hbl.size; omega) (.cells #[.slice a2 m.length c2, .int .i64 kd2, .string ⟨t2.toArray⟩] 35)
      have hxa := hbx.alloc (.cells #[.slice a2 m.length c2, .int .i64 kd2, .string ⟨t2.toArray⟩] 35)
      have hya := hby.alloc (.cells #[.slice a2 m.length c2, .int .i64 kd2, .string ⟨t2.toArray⟩] 35)
      have hq := hv2 _ hba
      by_cases h0 : e2 = 0
      · have H0 := Lib.hid h0
        have h0b : (e2 != 0) = false := by rw [h0]; rfl
        clear h0
        go_wp2_with fail
        refine hq.mono ?_
        rintro e w1 ⟨rfl, h1⟩
        go_wp2
        refine ⟨⟨2, rfl, by omega, fun _ => z1, fun _ => H0.out, hba.trans (h1.mono hba.size), hxa.below h1, hya.below h1⟩, by simp [intOf]⟩
      · have Hx := Lib.hid (show x = (0, e2) by rw [← HX.out]; unfold Route.betterR; rw [if_neg (by simp [z1]), if_pos h0])
        have h0b : (e2 != 0) = true := by simpa using h0
        clear h0
        go_wp2_with fail
        refine hq.mono ?_
        rintro e w1 ⟨rfl, h1⟩
        go_wp2
        go_ret2
        exact ⟨by rw [Hx.out]; rfl, hba.trans (h1.mono hba.size)⟩
    · have z1 := hk1 (by omega)
      have z2 := hk2 (by omega)
      have hc1 := hcom z1 z2 _ hbl
      have hc2 := fun w' hb => hcmp z1 z2 w' hb
      have HZ := Lib.hid (And.intro z1 z2)
      obtain ⟨b, hb⟩ : ∃ b, Route.both l m = b := ⟨_, rfl⟩
      rw [hb] at hc1
      have HB := Lib.hid hb
      clear hk1 hk2 hcom hcmp z1 z2 hb
      rcases b with _ | _
      · have Hx := Lib.hid (show x = (0, 3) by rw [← HX.out]; unfold Route.betterR; rw [if_neg (by simp [HZ.out.1]), if_neg (by simp [HZ.out.2]), if_pos HB.out])
        go_wp2_with fail
        refine hc1.mono ?_
        rintro e w1 ⟨rfl, h1⟩
        go_wp2
        go_ret2
        exact ⟨by rw [Hx.out]; rfl, hbl.trans (h1.mono hbl.size)⟩
      · have Hx := Lib.hid (show x = (Route.better l m, 0) by rw [← HX.out]; unfold Route.betterR; rw [if_neg (by simp [HZ.out.1]), if_neg (by simp [HZ.out.2]), if_neg (by simp [HB.out])])
        go_wp2_with fail
        refine hc1.mono ?_
        rintro e w1 ⟨rfl, h1⟩
        have hb1 := hbl.trans (h1.mono hbl.size)
        obtain ⟨p0, p1, p2⟩ := box3 (hbx.below h1)
        obtain ⟨q0, q1, q2⟩ := box3 (hby.below h1)
        have hc3 := hc2 _ hb1
        go_wp2_with fail
        refine hc3.mono ?_
        rintro e w2 ⟨rfl, h2⟩
        go_wp2
        go_ret2
        exact ⟨by rw [Hx.out]; rfl, hb1.trans (h2.mono hb1.size)⟩

end Go.Proofs.Ytefilalapkdegaa
