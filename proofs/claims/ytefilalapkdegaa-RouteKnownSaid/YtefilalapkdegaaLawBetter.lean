/- What the statement's better says of two of the chapter's routes. -/
import Derived.Test.YtefilalapkdegaaRouteHidden
import Derived.Test.YtefilalapkdegaaRouteAwake
import Derived.Test.YtefilalapkdegaaRouteTop
import Derived.Test.YtefilalapkdegaaReg2
namespace Go.Proofs.Ytefilalapkdegaa
open Go.RowKit Str Mem
set_option linter.unusedVariables false
set_option linter.unusedSimpArgs false

/-- Route i of the chapter's examples, in memory: what its three cells hold. -/
def CellsOf (W : World) (ad : Addr) (i : Nat) (r : RtV) : Prop :=
  W.cell? (ad.add (i * 3)) = some (.slice r.a r.l.length r.c) ∧ W.cell? ⟨(ad.add (i * 3)).block, (ad.add (i * 3)).off + 1, none⟩ = some (.int .i64 r.kd) ∧ W.cell? ⟨(ad.add (i * 3)).block, (ad.add (i * 3)).off + 2, none⟩ = some (.string ⟨r.t.toArray⟩)
theorem routes_at (w : World) (i : Nat) (hi : i < 5) : Calls Try.prog 9 #[] w fun e w' => ∃ ad c r, e = .returned (.slice (some ad) 5 c) ∧ (exR w.heap.size)[i]? = some r ∧ (∀ W, Below w'.heap.size w' W → CellsOf W ad i r ∧ RtOk W r.a r.l.length r.c r.l r.t) ∧ Below w.heap.size w w' := by
  refine (routes_any w).mono ?_
  rintro e w1 ⟨a1, k1, rfl, hR1, g1⟩
  have hi' : i < (exR w.heap.size).length := hi
  obtain ⟨ad, r, rfl, hlt, hr, hm, _⟩ := hR1.fields hi'
  refine ⟨ad, k1, r, rfl, hr, fun W hW => ?_, g1⟩
  obtain ⟨ad', r', e', _, hr', _, c0, c1, c2⟩ := (hR1.below hW).fields hi'
  cases e'
  rw [hr] at hr'
  cases hr'
  exact ⟨⟨c0, c1, c2⟩, (hR1.each r hm).below hW⟩

set_option maxRecDepth 20000 in
set_option maxHeartbeats 4000000 in
theorem lawBetter_any (i j : Nat) (hi : i < 5) (hj : j < 5) (v : Int × Int) (w : World)
    (hv : ∀ n m r s, (exR n)[i]? = some r → (exR m)[j]? = some s → Route.betterR (Route.err r.l r.kd r.t) (Route.err s.l s.kd s.t) r.l s.l = v) :
    Calls Try.prog 12 #[.int .i64 i, .int .i64 j] w fun e w' => e = .returned (.int .i64 (if v.2 = 3 then 9 else v.1)) ∧ Below w.heap.size w w' := by
  obtain ⟨v1, v2⟩ := v
  show Calls Try.prog 12 #[.int .i64 i, .int .i64 j] w fun e w' => e = .returned (.int .i64 (if v2 = 3 then 9 else v1)) ∧ Below w.heap.size w w'
  obtain ⟨q, hq⟩ : ∃ q : Int, (if v2 = 3 then 9 else v1) = q := ⟨_, rfl⟩
  rw [hq]
  have HQ := Lib.hid hq
  clear hq
  have hbD : Below w.heap.size w w.drew := ⟨rfl, rfl, rfl, Nat.le_refl _, fun _ _ => rfl⟩
  have i0 : (0 : Int) ≤ (i : Int) := by omega
  have i1 : (i : Int) < 5 := by omega
  have i2 : (0 : Int) ≤ (j : Int) := by omega
  have i3 : (j : Int) < 5 := by omega
  go_enter Try.func12, Try.ntmps12
  go_wp2
  refine wp_region_noPanic ?_
  refine wp_region_held_drew (S := fun w' => True) (by kernel_rfl) trivial (fun hH => ?_)
  refine Reg.take (i := 1) (u := ?v1) rfl rfl rfl (by kernel_rfl) (by kernel_rfl) (by kernel_rfl) hH ?y1 ?r1
  case y1 => (intro w hSw; (try dsimp only at hSw); go_simp; try (with_reducible rfl))
  case' r1 => simp only [List.setIfInBounds_toArray, List.set_cons_zero, List.set_cons_succ]
  refine Reg.take (i := 5) (u := ?v5) rfl rfl rfl (by kernel_rfl) (by kernel_rfl) (by kernel_rfl) hH ?y5 ?r5
  case y5 => (intro w hSw; (try dsimp only at hSw); go_simp; try (with_reducible rfl))
  case' r5 => simp only [List.setIfInBounds_toArray, List.set_cons_zero, List.set_cons_succ]
  refine Reg.only (i := 0) rfl (Reg.wanted_free rfl) (by kernel_rfl) (fun K hK => ?_)
  · go_simp
    refine (routes_at _ i hi).mono ?_
    rintro e w1 ⟨ad1, k1, r, rfl, hr, hA, g1⟩
    have hb1 := hbD.trans (g1.mono hbD.size)
    go_simp
    refine hK.out _ _ trivial (fun _ => ?_)
    clear hK hH
    refine Reg.under (S' := fun W => CellsOf W ad1 i r) (fun _ _ => trivial) _ _ _ _ ?_
    have hH : CellsOf w1 ad1 i r := (hA w1 (Below.refl _ _)).1
    try simp only [Act.put, List.setIfInBounds_toArray, List.set_cons_zero, List.set_cons_succ]
    refine Reg.take (i := 2) (u := ?v2) rfl rfl rfl (by kernel_rfl) (by kernel_rfl) (by kernel_rfl) hH ?y2 ?r2
    case y2 => (intro w hSw; (try dsimp only [CellsOf] at hSw); go_simp; try (with_reducible rfl))
    case' r2 => simp only [List.setIfInBounds_toArray, List.set_cons_zero, List.set_cons_succ]
    refine Reg.take (i := 3) (u := ?v3) rfl rfl rfl (by kernel_rfl) (by kernel_rfl) (by kernel_rfl) hH ?y3 ?r3
    case y3 => (intro w hSw; (try dsimp only [CellsOf] at hSw); go_simp; try (with_reducible rfl))
    case' r3 => simp only [List.setIfInBounds_toArray, List.set_cons_zero, List.set_cons_succ]
    refine Reg.only (i := 4) rfl (Reg.wanted_free rfl) (by kernel_rfl) (fun K hK => ?_)
    go_simp
    refine (routes_at _ j hj).mono ?_
    rintro e w2 ⟨ad2, k2, s, rfl, hs, hA2, g2⟩
    have hb2 := hb1.trans (g2.mono hb1.size)
    go_simp
    refine hK.out _ _ (hA w2 g2).1 (fun _ => ?_)
    clear hK hH
    refine Reg.under (S' := fun W => CellsOf W ad1 i r ∧ CellsOf W ad2 j s) (fun _ h => h.1) _ _ _ _ ?_
    have hH : CellsOf w2 ad1 i r ∧ CellsOf w2 ad2 j s := ⟨(hA w2 g2).1, (hA2 w2 (Below.refl _ _)).1⟩
    try simp only [Act.put, List.setIfInBounds_toArray, List.set_cons_zero, List.set_cons_succ]
    refine Reg.take (i := 6) (u := ?v6) rfl rfl rfl (by kernel_rfl) (by kernel_rfl) (by kernel_rfl) hH ?y6 ?r6
    case y6 => (intro w hSw; (try dsimp only [CellsOf] at hSw); go_simp; try (with_reducible rfl))
    case' r6 => simp only [List.setIfInBounds_toArray, List.set_cons_zero, List.set_cons_succ]
    refine Reg.take (i := 7) (u := ?v7) rfl rfl rfl (by kernel_rfl) (by kernel_rfl) (by kernel_rfl) hH ?y7 ?r7
    case y7 => (intro w hSw; (try dsimp only [CellsOf] at hSw); go_simp; try (with_reducible rfl))
    case' r7 => simp only [List.setIfInBounds_toArray, List.set_cons_zero, List.set_cons_succ]
    have hbt := vBetter_any r.a s.a r.c s.c r.l s.l r.kd s.kd r.t s.t w2 (hA w2 g2).2 (hA2 w2 (Below.refl _ _)).2
    rw [hv _ _ r s hr hs] at hbt
    unfold rtv at hbt
    refine Reg.only (i := 8) rfl (Reg.wanted_free rfl) (by kernel_rfl) (fun K hK => ?_)
    go_simp
    refine hbt.mono ?_
    rintro e w3 ⟨rfl, g3⟩
    have hb3 := hb2.trans (g3.mono hb2.size)
    go_simp
    refine hK.out _ _ ⟨(hA w3 (g2.trans (g3.mono g2.size))).1, (hA2 w3 g3).1⟩ (fun hH2 => ?_)
    clear hK hH hbt
    have hH := hH2; clear hH2
    try simp only [Act.put, List.setIfInBounds_toArray, List.set_cons_zero, List.set_cons_succ]
    refine Reg.take (i := 9) (u := ?v9) rfl rfl rfl (by kernel_rfl) (by kernel_rfl) (by kernel_rfl) hH ?y9 ?r9
    case y9 => (intro w hSw; (try dsimp only [CellsOf] at hSw); go_simp; try (with_reducible rfl))
    case' r9 => simp only [List.setIfInBounds_toArray, List.set_cons_zero, List.set_cons_succ]
    refine Reg.take (i := 10) (u := ?v10) rfl rfl rfl (by kernel_rfl) (by kernel_rfl) (by kernel_rfl) hH ?y10 ?r10
    case y10 => (intro w hSw; (try dsimp only [CellsOf] at hSw); go_simp; try (with_reducible rfl))
    case' r10 => simp only [List.setIfInBounds_toArray, List.set_cons_zero, List.set_cons_succ]
    refine Reg.take (i := 11) (u := ?v11) rfl rfl rfl (by kernel_rfl) (by kernel_rfl) (by kernel_rfl) hH ?y11 ?r11
    case y11 => (intro w hSw; (try dsimp only [CellsOf] at hSw); go_simp; try (with_reducible rfl))
    case' r11 => simp only [List.setIfInBounds_toArray, List.set_cons_zero, List.set_cons_succ]
    refine Reg.take (i := 12) (u := ?v12) rfl rfl rfl (by kernel_rfl) (by kernel_rfl) (by kernel_rfl) hH ?y12 ?r12
    case y12 => (intro w hSw; (try dsimp only [CellsOf] at hSw); go_simp; try (with_reducible rfl))
    case' r12 => simp only [List.setIfInBounds_toArray, List.set_cons_zero, List.set_cons_succ]
    refine Reg.take (i := 13) (u := ?v13) rfl rfl rfl (by kernel_rfl) (by kernel_rfl) (by kernel_rfl) hH ?y13 ?r13
    case y13 => (intro w hSw; (try dsimp only [CellsOf] at hSw); go_simp; try (with_reducible rfl))
    case' r13 => simp only [List.setIfInBounds_toArray, List.set_cons_zero, List.set_cons_succ]
    refine wpAnyH_done (by kernel_rfl) ?_ _
    refine NoPanic.normal ?_
    clear hr hs hH hA hA2
    by_cases h3 : v2 = 3
    · have h3b : (v2 == 3) = true := by rw [h3]; rfl
      have HI := Lib.hid (show (9 : Int) = q by rw [← HQ.out, if_pos h3])
      clear h3
      go_wp2
      go_ret
      exact ⟨by rw [← HI.out]; rfl, hb3⟩
    · have h3b : (v2 == 3) = false := by simpa using h3
      have HI := Lib.hid (show v1 = q by rw [← HQ.out, if_neg h3])
      clear h3
      go_wp2
      go_ret
      exact ⟨by rw [← HI.out]; rfl, hb3⟩
end Go.Proofs.Ytefilalapkdegaa
