/- The statement RouteFits, walked: it returns true. -/
import Derived.Test.YtefilalapkdegaaGreatRouteLaw0
import Derived.Test.YtefilalapkdegaaGreatRouteRPath
import Derived.Test.YtefilalapkdegaaGreatRouteTop
namespace Go.Proofs.YtefilalapkdegaaGreat
open Go.RowKit Str Mem
set_option linter.unusedVariables false
set_option linter.unusedSimpArgs false

theorem fit_len {op : Bool} : ∀ (r p : List (List UInt8)) (x : List (List UInt8) × List (List UInt8) × List UInt8), Route.fit op r p = some x → x.1.length ≤ r.length ∧ x.2.1.length ≤ r.length
  | [], [], x, h => by simp [Route.fit] at h; subst h; simp
  | [], _ :: _, x, h => by simp [Route.fit] at h
  | s :: r, [], x, h => by
    unfold Route.fit at h
    split at h
    · simp at h; subst h; simp
    · cases h
  | s :: r, y :: t, x, h => by
    unfold Route.fit at h
    split at h
    · simp at h; subst h; simp
    · split at h
      · obtain ⟨z, hz, rfl⟩ := Option.map_eq_some_iff.1 h
        have := fit_len r t z hz
        simp; omega
      · split at h
        · have := fit_len r t x h
          simp; omega
        · cases h

def askv (xp xr : ByteArray) (va : Option Addr) (n vc : Nat) : Value := .agg #[.string xp, .slice va n vc, .string xr]

set_option maxRecDepth 40000 in
set_option maxHeartbeats 16000000 in
theorem lawFits_any (a a2 va : Option Addr) (c c2 vc : Nat) (l m vals : List (List UInt8)) (kd kd2 : Int) (t t2 : List UInt8) (xp xr : ByteArray) (w : World) (hS1 : Strs w a l.length l) (hS2 : Strs w a2 m.length m) (hV : Strs w va vals.length vals)
    (hc : l.length ≤ c) (hcm : c ≤ maxLen) (hc2 : m.length ≤ c2) (hc2m : c2 ≤ maxLen) :
    Calls Tryz.prog 3 #[rtv a l.length c kd t, rtv a2 m.length c2 kd2 t2, askv xp xr va vals.length vc] w fun e w' => e = .returned (.bool true) ∧ Below w.heap.size w w' := by
  have haw := fun W => awake41_any W
  unfold rtv askv
  obtain ⟨W0, hW0⟩ : ∃ W0, W0 = ((w.alloc (.cells #[.slice a l.length c, .int .i64 kd, .string ⟨t.toArray⟩] 24)).alloc (.cells #[.slice a2 m.length c2, .int .i64 kd2, .string ⟨t2.toArray⟩] 24)).alloc (.cells #[.string xp, .slice va vals.length vc, .string xr] 26) := ⟨_, rfl⟩
  have hb0 : Below w.heap.size w W0 := by rw [hW0]; exact (((Below.refl _ w).alloc (Nat.le_refl _) _).alloc (by simp) _).alloc (by simp; omega) _
  have hsz0 : W0.heap.size = w.heap.size + 3 := by rw [hW0]; simp
  have xa0 : Rd W0 3 (some ⟨w.heap.size, 0, none⟩) 1 [.slice a l.length c, .int .i64 kd, .string ⟨t.toArray⟩] := by rw [hW0]; exact ((box3_new w _ _ _ _).alloc _).alloc _
  have xb0 : Rd W0 3 (some ⟨w.heap.size + 1, 0, none⟩) 1 [.slice a2 m.length c2, .int .i64 kd2, .string ⟨t2.toArray⟩] := by rw [hW0]; exact (box3_at _ _ _ _ _ _ (by simp)).alloc _
  have xx0 : Rd W0 3 (some ⟨w.heap.size + 2, 0, none⟩) 1 [.string xp, .slice va vals.length vc, .string xr] := by rw [hW0]; exact box3_at _ _ _ _ _ _ (by simp)
  have HW := Lib.hid hW0
  have hA := fun W (hb : Below W0.heap.size W0 W) => box3 (xa0.below hb)
  have hBx := fun W (hb : Below W0.heap.size W0 W) => box3 (xb0.below hb)
  have hX := fun W (hb : Below W0.heap.size W0 W) => box3 (xx0.below hb)
  obtain ⟨p0, p1, p2⟩ := box3 xa0
  obtain ⟨q0, q1, q2⟩ := box3 xb0
  obtain ⟨y0, y1, y2⟩ := box3 xx0
  rw [hW0] at p0 p1 p2 q0 q1 q2 y0 y1 y2
  obtain ⟨WL, hWL⟩ : ∃ WL, WL = W0.alloc (.cells #[.slice a l.length c, .int .i64 kd, .string ⟨t.toArray⟩, .slice a2 m.length c2, .int .i64 kd2, .string ⟨t2.toArray⟩] 24) := ⟨_, rfl⟩
  have BL : Below W0.heap.size W0 WL := by rw [hWL]; exact (Below.refl _ W0).alloc (Nat.le_refl _) _
  have hbL := hb0.trans (BL.mono hb0.size)
  have hli := light_any (some ⟨W0.heap.size, 0, none⟩) 2 [⟨a, c, l, kd, t⟩, ⟨a2, c2, m, kd2, t2⟩] WL (by rw [hWL]; exact Rd.fresh W0 _ [.slice a l.length c, .int .i64 kd, .string ⟨t.toArray⟩, .slice a2 m.length c2, .int .i64 kd2, .string ⟨t2.toArray⟩] 3 2 _ rfl rfl) (by
    intro r hr
    simp only [List.mem_cons, List.not_mem_nil, or_false] at hr
    rcases hr with rfl | rfl
    · exact Strs.below hS1 hbL
    · exact Strs.below hS2 hbL) (by simp)
  rw [hsz0] at hli
  have HL := Lib.hid hWL
  obtain ⟨lb, hlb⟩ : ∃ b, ([⟨a, c, l, kd, t⟩, ⟨a2, c2, m, kd2, t2⟩] : List RtV).all okR = b := ⟨_, rfl⟩
  rw [hlb] at hli
  simp only [List.length_cons, List.length_nil, Nat.zero_add, Nat.reduceAdd] at hli
  obtain ⟨r0, r1, r2⟩ := hA _ BL
  obtain ⟨s0, s1, s2⟩ := hBx _ BL
  obtain ⟨z0, z1, z2⟩ := hX _ BL
  rcases lb with _ | _
  · clear hlb hWL hW0
    go_enter Tryz.func3, Tryz.ntmps3
    go_wp2_with fail
    rw [← HW.out, ← HL.out]
    refine hli.mono ?_
    rintro e w1 ⟨rfl, rfl⟩
    go_wp2_with fail
    refine (haw _).mono ?_
    rintro e w2 ⟨rfl, g2⟩
    go_wp2
    go_ret
    exact ⟨rfl, hbL.trans (g2.mono hbL.size)⟩
  · simp only [List.all_cons, List.all_nil, Bool.and_true, okR, Bool.and_eq_true, decide_eq_true_eq] at hlb
    obtain ⟨⟨⟨hl1, ht1⟩, hs1⟩, ⟨⟨hl2, ht2⟩, hs2⟩⟩ := hlb
    rw [List.all_eq_true] at hs1 hs2
    have ok1 : RtOk w a l.length c l t := ⟨hS1, hc, hcm, fun s hs => by have := of_decide_eq_true (hs1 s hs); omega, by omega⟩
    have ok2 : RtOk w a2 m.length c2 m t2 := ⟨hS2, hc2, hc2m, fun s hs => by have := of_decide_eq_true (hs2 s hs); omega, by omega⟩
    have hbad : ∀ W, Below w.heap.size w W → Calls Tryz.prog 6 #[] W fun e w' => e = .returned (.bool true) ∧ Below W.heap.size W w' := fun W _ => haw W
    by_cases k1 : 200 < xp.size
    · have k1' : (200 : Int) < (xp.size : Int) := by omega
      clear hWL hW0
      go_enter Tryz.func3, Tryz.ntmps3
      go_wp2_with fail
      rw [← HW.out, ← HL.out]
      refine hli.mono ?_
      rintro e w1 ⟨rfl, rfl⟩
      go_wp2_with fail
      refine (haw _).mono ?_
      rintro e w2 ⟨rfl, g2⟩
      go_wp2
      go_ret
      exact ⟨rfl, hbL.trans (g2.mono hbL.size)⟩
    have k1' : (xp.size : Int) ≤ 200 := by omega
    by_cases k2 : 200 < xr.size
    · have k2' : (200 : Int) < (xr.size : Int) := by omega
      clear hWL hW0
      go_enter Tryz.func3, Tryz.ntmps3
      go_wp2_with fail
      rw [← HW.out, ← HL.out]
      refine hli.mono ?_
      rintro e w1 ⟨rfl, rfl⟩
      go_wp2_with fail
      refine (haw _).mono ?_
      rintro e w2 ⟨rfl, g2⟩
      go_wp2
      go_ret
      exact ⟨rfl, hbL.trans (g2.mono hbL.size)⟩
    have k2' : (xr.size : Int) ≤ 200 := by omega
    by_cases k3 : 20 < vals.length
    · have k3' : (20 : Int) < (vals.length : Int) := by omega
      clear hWL hW0
      go_enter Tryz.func3, Tryz.ntmps3
      go_wp2_with fail
      rw [← HW.out, ← HL.out]
      refine hli.mono ?_
      rintro e w1 ⟨rfl, rfl⟩
      go_wp2_with fail
      refine (haw _).mono ?_
      rintro e w2 ⟨rfl, g2⟩
      go_wp2
      go_ret
      exact ⟨rfl, hbL.trans (g2.mono hbL.size)⟩
    have k3' : (vals.length : Int) ≤ 20 := by omega
    have hsh := short_any va vc 200 vals WL (Strs.below hV hbL) (by omega)
    obtain ⟨sb, hsb⟩ : ∃ b, vals.all (shortP 200) = b := ⟨_, rfl⟩
    rw [hsb] at hsh
    rcases sb with _ | _
    · clear hWL hW0 hsb
      go_enter Tryz.func3, Tryz.ntmps3
      go_wp2_with fail
      rw [← HW.out, ← HL.out]
      refine hli.mono ?_
      rintro e w1 ⟨rfl, rfl⟩
      go_wp2_with fail
      refine hsh.mono ?_
      rintro e w1 ⟨rfl, rfl⟩
      go_wp2_with fail
      refine (haw _).mono ?_
      rintro e w2 ⟨rfl, g2⟩
      go_wp2
      go_ret
      exact ⟨rfl, hbL.trans (g2.mono hbL.size)⟩
    rw [List.all_eq_true] at hsb
    have hbd : bounded vals xr.data.toList := ⟨by omega, fun s hs => by have := of_decide_eq_true (hsb s hs); omega, by rw [← size_data]; omega⟩
    have hk1 := fun W (hb : Below w.heap.size w W) => kinds_any a c l kd t W (ok1.below hb)
    have hk2 := fun W (hb : Below w.heap.size w W) => rkinds_any a c l kd t W (ok1.below hb)
    have hf1 := fun W (hb : Below w.heap.size w W) => vFits_any a c l kd t xp W (ok1.below hb)
    have hf2 := fun W (hb : Below w.heap.size w W) => rFits_any a c l kd t xp W (ok1.below hb)
    have hpv := fun oa oc W (hb : Below w.heap.size w W) hoS => vPath_any a oa c oc l vals kd t xr W (ok1.below hb) hoS hbd
    have hpr := fun W (hb : Below w.heap.size w W) => rPath_any a va c vc l vals kd t xr W (ok1.below hb) (Strs.below hV hb) hbd
    have hbe1 := fun W (hb : Below w.heap.size w W) => vBetter_any a a2 c c2 l m kd kd2 t t2 W (ok1.below hb) (ok2.below hb)
    have hbe2 := fun W (hb : Below w.heap.size w W) => rBetter_any a a2 c c2 l m kd kd2 t t2 W (ok1.below hb) (ok2.below hb)
    unfold rtv at hk1 hk2 hf1 hf2 hpv hpr hbe1 hbe2
    obtain ⟨er, her⟩ : ∃ e, Route.err l kd t = e := ⟨_, rfl⟩
    obtain ⟨fe, hfe⟩ : ∃ e, Route.fitsErr er xp.data.toList = e := ⟨_, rfl⟩
    obtain ⟨fo, hfo⟩ : ∃ o, Route.fitR er l xp.data.toList = o := ⟨_, rfl⟩
    obtain ⟨pr, hpr0⟩ : ∃ x, Route.pathR er l vals xr.data.toList = x := ⟨_, rfl⟩
    obtain ⟨be, hbe0⟩ : ∃ x, Route.betterR er (Route.err m kd2 t2) l m = x := ⟨_, rfl⟩
    obtain ⟨ks, hks⟩ : ∃ x, Route.kindsR er l = x := ⟨_, rfl⟩
    rw [her] at hk1 hk2 hf1 hf2 hpv hpr hbe1 hbe2
    rw [hfe, hfo] at hf1 hf2
    rw [hpr0] at hpv hpr
    rw [hbe0] at hbe1 hbe2
    unfold KindsPost at hk1 hk2
    rw [hks] at hk1 hk2
    have hksl : ks.length ≤ 100000 := by rw [← hks]; unfold Route.kindsR; split <;> simp [Route.kindsOf]; omega
    have hfD : (fdOf l kd t fo).l.length ≤ 100000 ∧ (fdOf l kd t fo).N.length ≤ 100000 ∧ (fdOf l kd t fo).V.length ≤ 100000 := by
      rcases fo with _ | ⟨N, V, R⟩
      · simp [fdOf]
      · have : Route.fit (Dots.isOpen xp.data.toList) l (Dots.segments xp.data.toList) = some (N, V, R) := by
          unfold Route.fitR at hfo
          split at hfo
          · exact hfo
          · cases hfo
        have := fit_len _ _ _ this
        simp only [fdOf]
        dsimp only at this
        omega
    clear hWL hW0 hsb her hfe hfo hpr0 hbe0 hks hs1 hs2
    go_enter Tryz.func3, Tryz.ntmps3
    go_wp2_with fail
    rw [← HW.out, ← HL.out]
    refine hli.mono ?_
    rintro e w1 ⟨rfl, rfl⟩
    go_wp2_with fail
    refine hsh.mono ?_
    rintro e w1 ⟨rfl, rfl⟩
    clear p0 p1 p2 q0 q1 q2 y0 y1 y2 hli hsh HL
    go_wp2_with fail
    refine (hk1 _ hbL).mono ?_
    rintro e w2 ⟨ka, kc, rfl, hKI, hkc, hkcm, g2⟩
    have B2 := BL.trans (g2.mono BL.size)
    have hb2 := hbL.trans (g2.mono hbL.size)
    clear r0 r1 r2 s0 s1 s2 z0 z1 z2
    obtain ⟨r0, r1, r2⟩ := hA _ B2
    obtain ⟨s0, s1, s2⟩ := hBx _ B2
    obtain ⟨z0, z1, z2⟩ := hX _ B2
    go_wp2_with fail
    refine (hk2 _ hb2).mono ?_
    rintro e w3 ⟨kb, kc2, rfl, hKI2, hkc2, hkcm2, g3⟩
    have B3 := B2.trans (g3.mono B2.size)
    have hb3 := hb2.trans (g3.mono hb2.size)
    clear r0 r1 r2 s0 s1 s2 z0 z1 z2
    obtain ⟨r0, r1, r2⟩ := hA _ B3
    obtain ⟨s0, s1, s2⟩ := hBx _ B3
    obtain ⟨z0, z1, z2⟩ := hX _ B3
    go_wp2_with fail
    refine (hf1 _ hb3).mono ?_
    rintro e w4 ⟨v4, rfl, hF1, g4⟩
    have B4 := B3.trans (g4.mono B3.size)
    have hb4 := hb3.trans (g4.mono hb3.size)
    clear r0 r1 r2 s0 s1 s2 z0 z1 z2
    obtain ⟨r0, r1, r2⟩ := hA _ B4
    obtain ⟨s0, s1, s2⟩ := hBx _ B4
    obtain ⟨z0, z1, z2⟩ := hX _ B4
    have hG1 := hF1.form
    have hG1' := hG1
    obtain ⟨al, cl, aN, cN, aV, cV, rfl, _⟩ := hG1
    obtain ⟨D, hD⟩ : ∃ D, D = fdOf l kd t fo := ⟨_, rfl⟩
    rw [← hD] at hG1' hfD ⊢
    have HD := Lib.hid hD
    clear hD
    obtain ⟨W5, hW5⟩ : ∃ W5, W5 = w4.alloc (.cells #[.bool D.b, .slice al D.l.length cl, .int .i64 D.kd, .string ⟨D.t.toArray⟩, .slice aN D.N.length cN, .slice aV D.V.length cV, .string ⟨D.R.toArray⟩] 36) := ⟨_, rfl⟩
    have g5 : Below w4.heap.size w4 W5 := by rw [hW5]; exact (Below.refl _ w4).alloc (Nat.le_refl _) _
    have B5 := B4.trans (g5.mono B4.size)
    have hb5 := hb4.trans (g5.mono hb4.size)
    have ra5 : W5.heap[w4.heap.size]? = some (.cells [.bool D.b, .slice al D.l.length cl, .int .i64 D.kd, .string ⟨D.t.toArray⟩, .slice aN D.N.length cN, .slice aV D.V.length cV, .string ⟨D.R.toArray⟩].toArray 36 (0, 0)) := by rw [hW5]; exact heap_alloc_new _ _
    have hs5 : W5.heap.size = w4.heap.size + 1 := by rw [hW5]; simp
    obtain ⟨r0', r1', r2'⟩ := hA _ B5
    obtain ⟨s0', s1', s2'⟩ := hBx _ B5
    obtain ⟨z0', z1', z2'⟩ := hX _ B5
    rw [hW5] at r0' r1' r2' s0' s1' s2' z0' z1' z2'
    have H5 := Lib.hid hW5
    clear hW5
    go_wp2_with fail
    rw [← H5.out]
    refine (hf2 _ hb5).mono ?_
    rintro e w6 ⟨v6, rfl, hF2, g6⟩
    clear r0' r1' r2' s0' s1' s2' z0' z1' z2'
    have B6 := B5.trans (g6.mono B5.size)
    have hb6 := hb5.trans (g6.mono hb5.size)
    have hG2 := hF2.form
    rw [← HD.out] at hG2
    have hG2' := hG2
    obtain ⟨bl, dl, bN, dN, bV, dV, rfl, _⟩ := hG2
    obtain ⟨W7, hW7⟩ : ∃ W7, W7 = w6.alloc (.cells #[.bool D.b, .slice bl D.l.length dl, .int .i64 D.kd, .string ⟨D.t.toArray⟩, .slice bN D.N.length dN, .slice bV D.V.length dV, .string ⟨D.R.toArray⟩] 36) := ⟨_, rfl⟩
    have g7 : Below w6.heap.size w6 W7 := by rw [hW7]; exact (Below.refl _ w6).alloc (Nat.le_refl _) _
    have B7 := B6.trans (g7.mono B6.size)
    have hb7 := hb6.trans (g7.mono hb6.size)
    have rb7 : W7.heap[w6.heap.size]? = some (.cells [.bool D.b, .slice bl D.l.length dl, .int .i64 D.kd, .string ⟨D.t.toArray⟩, .slice bN D.N.length dN, .slice bV D.V.length dV, .string ⟨D.R.toArray⟩].toArray 36 (0, 0)) := by rw [hW7]; exact heap_alloc_new _ _
    have hs7 : W7.heap.size = w6.heap.size + 1 := by rw [hW7]; simp
    have hs6 := g6.size
    have ra7 : W7.heap[w4.heap.size]? = _ := (g7.block _ (by omega)).trans ((g6.block _ (by omega)).trans ra5)
    have B37 : Below w3.heap.size w3 W7 := g4.trans ((g5.mono g4.size).trans ((g6.mono (by have := g4.size; have := g5.size; omega)).trans (g7.mono (by have := g4.size; have := g5.size; omega))))
    have hsi := sameInts_any ka kb kc kc2 ks W7 ((Ints.below hKI g3).below B37) (hKI2.below B37) hksl
    have H7 := Lib.hid hW7
    rw [hW7] at hsi
    go_wp2_with fail
    refine hsi.mono ?_
    rintro e w8 ⟨rfl, g8⟩
    rw [← hW7] at g8
    clear hW7
    have B8 := B7.trans (g8.mono B7.size)
    have hb8 := hb7.trans (g8.mono hb7.size)
    have ra8 := (g8.block _ (by omega)).trans ra7
    have rb8 := (g8.block _ (by omega)).trans rb7
    obtain ⟨⟨d0, d1, d2, d3, d4, d5, d6⟩, _⟩ := row7 ra8
    obtain ⟨⟨e0, e1, e2, e3, e4, e5, e6⟩, _⟩ := row7 rb8
    have B48 : Below w4.heap.size w4 w8 := g5.trans ((g6.mono (by have := g5.size; omega)).trans ((g7.mono (by omega)).trans (g8.mono (by omega))))
    have B68 : Below w6.heap.size w6 w8 := g7.trans (g8.mono (by omega))
    have hsf := sameFound_any D _ _ w8 (hG1'.below B48) (hG2'.below B68) hfD.1 hfD.2.1 hfD.2.2
    go_wp2_with fail
    refine hsf.mono ?_
    rintro e w7 ⟨rfl, g9⟩
    clear d0 d1 d2 d3 d4 d5 d6 e0 e1 e2 e3 e4 e5 e6
    have C7 := B8.trans (g9.mono B8.size)
    have D7 := hb8.trans (g9.mono hb8.size)
    clear B7 hb7
    have B7 := C7
    have hb7 := D7
    clear r0 r1 r2 s0 s1 s2 z0 z1 z2
    obtain ⟨r0, r1, r2⟩ := hA _ B7
    obtain ⟨s0, s1, s2⟩ := hBx _ B7
    obtain ⟨z0, z1, z2⟩ := hX _ B7
    go_wp2_with fail
    refine wp_region_noPanic ?_
    refine wp_region_held_drew (S := fun w' => (w'.cell? ⟨w.heap.size, 0, none⟩ = some (.slice a l.length c) ∧ w'.cell? ⟨w.heap.size, 1, none⟩ = some (.int .i64 kd) ∧ w'.cell? ⟨w.heap.size, 2, none⟩ = some (.string ⟨t.toArray⟩)) ∧ w'.cell? ⟨w.heap.size + 2, 1, none⟩ = some (.slice va vals.length vc) ∧ w'.cell? ⟨w.heap.size + 2, 2, none⟩ = some (.string xr)) (by kernel_rfl) ?_ (fun hH => ?_)
    · exact ⟨(hA _ (B7.drew)), (hX _ (B7.drew)).2⟩
    refine Reg.take (i := 0) (u := ?rav0) rfl rfl rfl (by kernel_rfl) (by kernel_rfl) (by kernel_rfl) hH ?ray0 ?rar0
    case ray0 => (intro w hSw; (try dsimp only at hSw); go_simp; try (with_reducible rfl))
    case' rar0 => simp only [List.setIfInBounds_toArray, List.set_cons_zero, List.set_cons_succ]
    refine Reg.take (i := 1) (u := ?rav1) rfl rfl rfl (by kernel_rfl) (by kernel_rfl) (by kernel_rfl) hH ?ray1 ?rar1
    case ray1 => (intro w hSw; (try dsimp only at hSw); go_simp; try (with_reducible rfl))
    case' rar1 => simp only [List.setIfInBounds_toArray, List.set_cons_zero, List.set_cons_succ]
    refine Reg.take (i := 4) (u := ?rav4) rfl rfl rfl (by kernel_rfl) (by kernel_rfl) (by kernel_rfl) hH ?ray4 ?rar4
    case ray4 => (intro w hSw; (try dsimp only at hSw); go_simp; try (with_reducible rfl))
    case' rar4 => simp only [List.setIfInBounds_toArray, List.set_cons_zero, List.set_cons_succ]
    refine Reg.take (i := 2) (u := ?rav2) rfl rfl rfl (by kernel_rfl) (by kernel_rfl) (by kernel_rfl) hH ?ray2 ?rar2
    case ray2 => (intro w hSw; (try dsimp only at hSw); go_simp; try (with_reducible rfl))
    case' rar2 => simp only [List.setIfInBounds_toArray, List.set_cons_zero, List.set_cons_succ]
    refine Reg.take (i := 5) (u := ?rav5) rfl rfl rfl (by kernel_rfl) (by kernel_rfl) (by kernel_rfl) hH ?ray5 ?rar5
    case ray5 => (intro w hSw; (try dsimp only at hSw); go_simp; try (with_reducible rfl))
    case' rar5 => simp only [List.setIfInBounds_toArray, List.set_cons_zero, List.set_cons_succ]
    refine Reg.only (i := 3) rfl (Reg.wanted_free rfl) (by kernel_rfl) (fun K hK => ?_)
    go_simp
    refine (ownTexts_any va vc vals w7.drew (Strs.below hV (hb7.drew)) (by omega)).mono ?_
    rintro e w28 ⟨v8, rfl, ⟨oa, oc, rfl, hoc, hocm, hoS⟩, g28⟩
    go_simp
    have B28 := B7.drew.trans (g28.mono B7.size)
    have hb28 := hb7.drew.trans (g28.mono hb7.size)
    refine hK.out _ _ ⟨(hA _ (B28)), (hX _ (B28)).2⟩ (fun hH2 => ?_)
    clear hK hH
    have hH := hH2; clear hH2
    try simp only [Act.put, List.setIfInBounds_toArray, List.set_cons_zero, List.set_cons_succ]
    refine Reg.only (i := 6) rfl (Reg.wanted_free rfl) (by kernel_rfl) (fun K hK => ?_)
    go_simp
    refine (hpv oa oc w28 hb28 hoS).mono ?_
    rintro e w29 ⟨rfl, g29⟩
    go_simp
    have B29 := B28.trans (g29.mono B28.size)
    have hb29 := hb28.trans (g29.mono hb28.size)
    refine hK.out _ _ ⟨(hA _ (B29)), (hX _ (B29)).2⟩ (fun hH2 => ?_)
    clear hK hH
    have hH := hH2; clear hH2
    try simp only [Act.put, List.setIfInBounds_toArray, List.set_cons_zero, List.set_cons_succ]
    refine Reg.take (i := 7) (u := ?rbv7) rfl rfl rfl (by kernel_rfl) (by kernel_rfl) (by kernel_rfl) hH ?rby7 ?rbr7
    case rby7 => (intro w hSw; (try dsimp only at hSw); go_simp; try (with_reducible rfl))
    case' rbr7 => simp only [List.setIfInBounds_toArray, List.set_cons_zero, List.set_cons_succ]
    refine Reg.take (i := 8) (u := ?rbv8) rfl rfl rfl (by kernel_rfl) (by kernel_rfl) (by kernel_rfl) hH ?rby8 ?rbr8
    case rby8 => (intro w hSw; (try dsimp only at hSw); go_simp; try (with_reducible rfl))
    case' rbr8 => simp only [List.setIfInBounds_toArray, List.set_cons_zero, List.set_cons_succ]
    refine Reg.take (i := 9) (u := ?rbv9) rfl rfl rfl (by kernel_rfl) (by kernel_rfl) (by kernel_rfl) hH ?rby9 ?rbr9
    case rby9 => (intro w hSw; (try dsimp only at hSw); go_simp; try (with_reducible rfl))
    case' rbr9 => simp only [List.setIfInBounds_toArray, List.set_cons_zero, List.set_cons_succ]
    refine Reg.take (i := 10) (u := ?rbv10) rfl rfl rfl (by kernel_rfl) (by kernel_rfl) (by kernel_rfl) hH ?rby10 ?rbr10
    case rby10 => (intro w hSw; (try dsimp only at hSw); go_simp; try (with_reducible rfl))
    case' rbr10 => simp only [List.setIfInBounds_toArray, List.set_cons_zero, List.set_cons_succ]
    refine Reg.take (i := 11) (u := ?rbv11) rfl rfl rfl (by kernel_rfl) (by kernel_rfl) (by kernel_rfl) hH ?rby11 ?rbr11
    case rby11 => (intro w hSw; (try dsimp only at hSw); go_simp; try (with_reducible rfl))
    case' rbr11 => simp only [List.setIfInBounds_toArray, List.set_cons_zero, List.set_cons_succ]
    refine wpAnyH_done (by kernel_rfl) ?_ _
    refine NoPanic.normal ?_
    clear r0 r1 r2 s0 s1 s2 z0 z1 z2
    obtain ⟨r0, r1, r2⟩ := hA _ B29
    obtain ⟨s0, s1, s2⟩ := hBx _ B29
    obtain ⟨z0, z1, z2⟩ := hX _ B29
    go_wp2_with fail
    refine (hpr _ hb29).mono ?_
    rintro e w30 ⟨rfl, g30⟩
    have B30 := B29.trans (g30.mono B29.size)
    have hb30 := hb29.trans (g30.mono hb29.size)
    clear r0 r1 r2 s0 s1 s2 z0 z1 z2
    obtain ⟨r0, r1, r2⟩ := hA _ B30
    obtain ⟨s0, s1, s2⟩ := hBx _ B30
    obtain ⟨z0, z1, z2⟩ := hX _ B30
    go_wp2_with fail
    refine (hbe1 _ hb30).mono ?_
    rintro e w31 ⟨rfl, g31⟩
    have B31 := B30.trans (g31.mono B30.size)
    have hb31 := hb30.trans (g31.mono hb30.size)
    clear r0 r1 r2 s0 s1 s2 z0 z1 z2
    obtain ⟨r0, r1, r2⟩ := hA _ B31
    obtain ⟨s0, s1, s2⟩ := hBx _ B31
    obtain ⟨z0, z1, z2⟩ := hX _ B31
    go_wp2_with fail
    refine (hbe2 _ hb31).mono ?_
    rintro e w32 ⟨rfl, g32⟩
    have B32 := B31.trans (g32.mono B31.size)
    have hb32 := hb31.trans (g32.mono hb31.size)
    clear r0 r1 r2 s0 s1 s2 z0 z1 z2
    obtain ⟨r0, r1, r2⟩ := hA _ B32
    obtain ⟨s0, s1, s2⟩ := hBx _ B32
    obtain ⟨z0, z1, z2⟩ := hX _ B32
    have hbb : ((bs pr.1).toList == (bs pr.1).toList) = true := by simp
    go_wp2_with fail
    refine (haw _).mono ?_
    rintro e w33 ⟨rfl, g33⟩
    go_wp2
    go_ret
    exact ⟨rfl, hb32.trans (g33.mono hb32.size)⟩

end Go.Proofs.YtefilalapkdegaaGreat
