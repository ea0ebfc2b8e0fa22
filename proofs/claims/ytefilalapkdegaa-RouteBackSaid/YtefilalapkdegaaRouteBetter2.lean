/- Whether some path fits both of two valid routes: the program and the reference. -/
import Derived.Test.YtefilalapkdegaaRouteBetter1
namespace Go.Proofs.Ytefilalapkdegaa
open Go.RowKit Str Mem
set_option linter.unusedVariables false
set_option linter.unusedSimpArgs false

def BothI (w : World) (l m : List (List UInt8)) (v1 v2 v3 u1 u2 u3 : Value) (i : Value) (wr : World) : Prop :=
  ∃ k : Nat, i = .int .i64 k ∧ k ≤ l.length ∧ Route.bothTo l m k = none ∧ Below w.heap.size w wr ∧ Rd wr 3 (some ⟨w.heap.size, 0, none⟩) 1 [v1, v2, v3] ∧ Rd wr 3 (some ⟨w.heap.size + 1, 0, none⟩) 1 [u1, u2, u3]

set_option maxRecDepth 20000 in
set_option maxHeartbeats 4000000 in
theorem common_any (a a2 : Option Addr) (c c2 : Nat) (l m : List (List UInt8)) (kd kd2 : Int) (t t2 : List UInt8) (w : World) (h : RtOk w a l.length c l t) (h2 : RtOk w a2 m.length c2 m t2) (hf : Route.Fine l) (hf2 : Route.Fine m) (hl : l.length ≤ 16) (hm : m.length ≤ 16) :
    Calls Try.prog 47 #[rtv a l.length c kd t, rtv a2 m.length c2 kd2 t2] w fun e w' => e = .returned (.bool (Route.both l m)) ∧ Below w.heap.size w w' := by
  have hat := fun (k : Nat) (hk : k ≤ 16) w' (hb : Below w.heap.size w w') => at_any a c l kd t k w' (h.below hb) hf (by omega)
  have hat2 := fun (k : Nat) (hk : k ≤ 16) w' (hb : Below w.heap.size w w') => at_any a2 c2 m kd2 t2 k w' (h2.below hb) hf2 (by omega)
  unfold rtv at hat hat2 ⊢
  obtain ⟨hb0, hx0, hy0⟩ := two_boxes w 35 (.slice a l.length c) (.int .i64 kd) (.string ⟨t.toArray⟩) (.slice a2 m.length c2) (.int .i64 kd2) (.string ⟨t2.toArray⟩)
  obtain ⟨p0, p1, p2⟩ := box3 hx0
  obtain ⟨q0, q1, q2⟩ := box3 hy0
  go_enter Try.func47, Try.ntmps47
  go_wp2
  go_loopw [5, 6, 7] (fun i _ _ wr => BothI w l m (.slice a l.length c) (.int .i64 kd) (.string ⟨t.toArray⟩) (.slice a2 m.length c2) (.int .i64 kd2) (.string ⟨t2.toArray⟩) i wr) (fun i _ _ _ => l.length + 1 - (intOf i).toNat)
  case atStart => exact ⟨0, rfl, Nat.zero_le _, rfl, hb0, hx0, hy0⟩
  case round =>
    clear p0 p1 p2 q0 q1 q2 hx0 hy0
    obtain ⟨k, rfl, hk, hd, hbl, hbx, hby⟩ := hrel
    obtain ⟨p0, p1, p2⟩ := box3 hbx
    obtain ⟨q0, q1, q2⟩ := box3 hby
    have hk16 : k ≤ 16 := by omega
    have Hd := Lib.hid hd
    have hq := hat k hk16
    have hq2 := hat2 k hk16
    have hc1 := Route.atK_cases l k
    have hc2 := Route.atK_cases m k
    have HR := Lib.hid (And.intro (Route.rank_at l k) (Route.rank_at m k))
    obtain ⟨y1, hy1⟩ : ∃ x, Route.atK l k = x := ⟨_, rfl⟩
    obtain ⟨y2, hy2⟩ : ∃ x, Route.atK m k = x := ⟨_, rfl⟩
    have HY := Lib.hid (show Route.place l[k]? = Route.rankP y1 ∧ Route.place m[k]? = Route.rankP y2 by rw [← hy1, ← hy2]; exact ⟨HR.out.1.symm, HR.out.2.symm⟩)
    rw [hy1] at hq hc1
    rw [hy2] at hq2 hc2
    clear hy1 hy2 HR
    clear hd hat hat2
    go_wp2
    refine wp_region_noPanic ?_
    refine wp_region_held_drew (S := fun w' => w'.cell? ⟨w.heap.size, 0, none⟩ = some (.slice a l.length c) ∧ w'.cell? ⟨w.heap.size, 1, none⟩ = some (.int .i64 kd) ∧ w'.cell? ⟨w.heap.size, 2, none⟩ = some (.string ⟨t.toArray⟩) ∧ w'.cell? ⟨w.heap.size + 1, 0, none⟩ = some (.slice a2 m.length c2) ∧ w'.cell? ⟨w.heap.size + 1, 1, none⟩ = some (.int .i64 kd2) ∧ w'.cell? ⟨w.heap.size + 1, 2, none⟩ = some (.string ⟨t2.toArray⟩)) (by kernel_rfl) ?_ (fun hH => ?_)
    · exact ⟨p0, p1, p2, q0, q1, q2⟩
    refine Reg.take (i := 0) (u := ?b5_v0) rfl rfl rfl (by kernel_rfl) (by kernel_rfl) (by kernel_rfl) hH ?b5_y0 ?b5_r0
    case b5_y0 => (intro w hSw; (try dsimp only at hSw); go_simp; try (with_reducible rfl))
    case' b5_r0 => simp only [List.setIfInBounds_toArray, List.set_cons_zero, List.set_cons_succ]
    refine Reg.take (i := 1) (u := ?b5_v1) rfl rfl rfl (by kernel_rfl) (by kernel_rfl) (by kernel_rfl) hH ?b5_y1 ?b5_r1
    case b5_y1 => (intro w hSw; (try dsimp only at hSw); go_simp; try (with_reducible rfl))
    case' b5_r1 => simp only [List.setIfInBounds_toArray, List.set_cons_zero, List.set_cons_succ]
    refine Reg.take (i := 3) (u := ?b5_v3) rfl rfl rfl (by kernel_rfl) (by kernel_rfl) (by kernel_rfl) hH ?b5_y3 ?b5_r3
    case b5_y3 => (intro w hSw; (try dsimp only at hSw); go_simp; try (with_reducible rfl))
    case' b5_r3 => simp only [List.setIfInBounds_toArray, List.set_cons_zero, List.set_cons_succ]
    refine Reg.take (i := 4) (u := ?b5_v4) rfl rfl rfl (by kernel_rfl) (by kernel_rfl) (by kernel_rfl) hH ?b5_y4 ?b5_r4
    case b5_y4 => (intro w hSw; (try dsimp only at hSw); go_simp; try (with_reducible rfl))
    case' b5_r4 => simp only [List.setIfInBounds_toArray, List.set_cons_zero, List.set_cons_succ]
    refine Reg.only (i := 2) rfl (Reg.wanted_free rfl) (by kernel_rfl) (fun K hK => ?_)
    go_simp
    go_at_call 62; refine (hq _ (hbl.drew)).mono ?_; rintro e w1 ⟨rfl, hw1⟩; go_simp
    refine hK.out _ _ ?_ (fun hH2 => ?_)
    · (have r1 := hbx.drew.below (hw1); have r2 := hby.drew.below (hw1); obtain ⟨p0, p1, p2⟩ := box3 r1; obtain ⟨q0, q1, q2⟩ := box3 r2; exact ⟨p0, p1, p2, q0, q1, q2⟩)
    clear hK hH
    have hH := hH2; clear hH2
    try simp only [Act.put, List.setIfInBounds_toArray, List.set_cons_zero, List.set_cons_succ]
    refine Reg.only (i := 5) rfl (Reg.wanted_free rfl) (by kernel_rfl) (fun K hK => ?_)
    go_simp
    go_at_call 62; refine (hq2 _ (hbl.drew.trans (hw1.mono hbl.size))).mono ?_; rintro e w2 ⟨rfl, hw2⟩; go_simp
    refine hK.out _ _ ?_ (fun hH2 => ?_)
    · (have r1 := hbx.drew.below ((hw1.trans (hw2.mono hw1.size))); have r2 := hby.drew.below ((hw1.trans (hw2.mono hw1.size))); obtain ⟨p0, p1, p2⟩ := box3 r1; obtain ⟨q0, q1, q2⟩ := box3 r2; exact ⟨p0, p1, p2, q0, q1, q2⟩)
    clear hK hH
    have hH := hH2; clear hH2
    try simp only [Act.put, List.setIfInBounds_toArray, List.set_cons_zero, List.set_cons_succ]
    refine Reg.take (i := 6) (u := ?b5_v6) rfl rfl rfl (by kernel_rfl) (by kernel_rfl) (by kernel_rfl) hH ?b5_y6 ?b5_r6
    case b5_y6 => (intro w hSw; (try dsimp only at hSw); go_simp; try (with_reducible rfl))
    case' b5_r6 => simp only [List.setIfInBounds_toArray, List.set_cons_zero, List.set_cons_succ]
    refine Reg.take (i := 7) (u := ?b5_v7) rfl rfl rfl (by kernel_rfl) (by kernel_rfl) (by kernel_rfl) hH ?b5_y7 ?b5_r7
    case b5_y7 => (intro w hSw; (try dsimp only at hSw); go_simp; try (with_reducible rfl))
    case' b5_r7 => simp only [List.setIfInBounds_toArray, List.set_cons_zero, List.set_cons_succ]
    refine wpAnyH_done (by kernel_rfl) ?_ _
    refine NoPanic.normal ?_
    have hbw := hbl.drew.trans ((hw1.trans (hw2.mono hw1.size)).mono hbl.size)
    have hbx2 := hbx.drew.below (hw1.trans (hw2.mono hw1.size))
    have hby2 := hby.drew.below (hw1.trans (hw2.mono hw1.size))
    obtain ⟨p0, p1, p2⟩ := box3 hbx2
    obtain ⟨q0, q1, q2⟩ := box3 hby2
    have hgl := fun (hk : k < l.length) => (h.below hbw).get hk
    have hgm := fun (hk : k < m.length) => (h2.below hbw).get hk
    rcases hc1 with rfl | rfl | rfl | rfl <;> rcases hc2 with rfl | rfl | rfl | rfl
    case inl.inl =>
      have hkl : k < l.length := Route.place_lt (by rw [HY.out.1]; decide)
      have hkm : k < m.length := Route.place_lt (by rw [HY.out.2]; decide)
      obtain ⟨ad, rfl, _, hls, hcell, hsl⟩ := hgl hkl
      obtain ⟨ad2, rfl, _, hls2, hcell2, hsl2⟩ := hgm hkm
      obtain ⟨b, hb⟩ : ∃ b, (Route.nth l k == Route.nth m k) = b := ⟨_, rfl⟩
      have i1 : (k : Int) < (l.length : Int) := by omega
      have i2 : (k : Int) < (m.length : Int) := by omega
      clear hls hls2
      rcases b with _ | _
      · have Hx := Lib.hid (Route.both_at (v := false) Hd.out hk (by unfold Route.bothAt; rw [HY.out.1, HY.out.2]; simp [Route.rankP]; simpa using hb))
        go_wp2_with (go_quiet (fail))
        go_ret
        exact ⟨by rw [Hx.out]; rfl, below_dn hbw _⟩
      · have HN := Lib.hid (show Route.bothAt l m k = none by unfold Route.bothAt; rw [HY.out.1, HY.out.2]; simp [Route.rankP]; simpa using hb)
        go_wp2_with (go_quiet (fail))
        refine ⟨⟨k + 1, by go_num, by omega, by rw [Route.bothTo_succ Hd.out, HN.out], below_dn hbw _, hbx2.drewN _, hby2.drewN _⟩, by simp [intOf]; omega⟩
    all_goals clear hgl hgm
    all_goals first
      | (have Hx := Lib.hid (Route.both_at (v := true) Hd.out hk (by unfold Route.bothAt; rw [HY.out.1, HY.out.2]; rfl))
         go_wp2
         go_ret
         exact ⟨by rw [Hx.out]; rfl, hbw⟩)
      | (have Hx := Lib.hid (Route.both_at (v := false) Hd.out hk (by unfold Route.bothAt; rw [HY.out.1, HY.out.2]; rfl))
         go_wp2
         go_ret
         exact ⟨by rw [Hx.out]; rfl, hbw⟩)
      | (have HN := Lib.hid (show Route.bothAt l m k = none by unfold Route.bothAt; rw [HY.out.1, HY.out.2]; rfl)
         have hkl : k < l.length := Route.place_lt (by rw [HY.out.1]; decide)
         go_wp2_with (go_quiet (fail))
         refine ⟨⟨k + 1, by go_num, by omega, by rw [Route.bothTo_succ Hd.out, HN.out], below_dn hbw _, hbx2.drewN _, hby2.drewN _⟩, by simp [intOf]; omega⟩)

end Go.Proofs.Ytefilalapkdegaa
