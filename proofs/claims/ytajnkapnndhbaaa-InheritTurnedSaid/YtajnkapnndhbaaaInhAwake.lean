/- The law's small functions: finds, rules, fails, awake. -/
import Derived.Test.YtajnkapnndhbaaaInhDirs
import Derived.Test.YtajnkapnndhbaaaReg
namespace Go.Proofs.Ytajnkapnndhbaaa
open Go.RowKit Str Mem
set_option linter.unusedVariables false
set_option linter.unusedSimpArgs false


theorem finds_yes (p : List UInt8) (n : Nat) (w : World) (hp : p.length ≤ 200) (h : ∀ r1 r2 r3, Inh.findR (exDirs r1 r2 r3) p = (((n : Int), true), 0)) :
    Calls Try.prog 32 #[.string ⟨p.toArray⟩, .int .i64 n] w fun e w' => e = .returned (.bool true) ∧ Below w.heap.size w w' := by
  have hd := fun w => dirs_any w
  have hf := fun a c r1 r2 r3 w hD hc => inhFind_any a c (exDirs r1 r2 r3) w p hD hc (exSmall r1 r2 r3) hp
  simp only [h] at hf
  unfold DirsPost at hd
  unfold tri at hf
  clear h
  go_enter Try.func32, Try.ntmps32
  go_wp2_with fail
  refine (hd _).mono ?_
  rintro e w1 ⟨a, c, r1, r2, r3, rfl, hD, hc, h1⟩
  go_wp2_with fail
  refine (hf a c r1 r2 r3 _ hD hc).mono ?_
  rintro e w2 ⟨rfl, h2⟩
  go_wp2_with fail
  go_ret
  exact ⟨rfl, h1.trans (h2.mono h1.size)⟩

/-- A list of places, as the law's list of numbers. -/
def flat (l : List Inh.Spot) : List Int := l.flatMap fun s => [(s.1 : Int), (s.2 : Int)]
theorem flat_length (l : List Inh.Spot) : (flat l).length = 2 * l.length := by
  induction l with
  | nil => rfl
  | cons a t ih => unfold flat at *; rw [List.flatMap_cons, List.length_append, ih]; simp; omega
theorem flat_get : ∀ (l : List Inh.Spot) (k : Nat) (s : Inh.Spot), l[k]? = some s → (flat l)[2 * k]? = some (s.1 : Int) ∧ (flat l)[2 * k + 1]? = some (s.2 : Int)
  | [], k, s, h => by simp at h
  | a :: t, 0, s, h => by
    simp at h; subst h
    exact ⟨rfl, rfl⟩
  | a :: t, k + 1, s, h => by
    have := flat_get t k s (by simpa using h)
    show ([(a.1 : Int), (a.2 : Int)] ++ flat t)[2 * (k + 1)]? = _ ∧ ([(a.1 : Int), (a.2 : Int)] ++ flat t)[2 * (k + 1) + 1]? = _
    rw [List.getElem?_append_right (by simp; omega), List.getElem?_append_right (by simp; omega)]
    rw [show 2 * (k + 1) - ([(a.1 : Int), (a.2 : Int)]).length = 2 * k by simp; omega, show 2 * (k + 1) + 1 - ([(a.1 : Int), (a.2 : Int)]).length = 2 * k + 1 by simp; omega]
    exact this

set_option maxRecDepth 20000 in
set_option maxHeartbeats 2000000 in
theorem rules_yes (p : List UInt8) (S : List Inh.Spot) (b : Option Addr) (cb : Nat) (w : World) (hp : p.length ≤ 200) (h : ∀ r1 r2 r3, Inh.rulesR (exDirs r1 r2 r3) p = (S, 0)) (hS : S.length ≤ 100) (hw : Ints w b (2 * S.length) (flat S)) :
    Calls Try.prog 33 #[.string ⟨p.toArray⟩, .slice b (2 * S.length) cb] w fun e w' => e = .returned (.bool true) ∧ Below w.heap.size w w' := by
  have hd := fun w => dirs_any w
  have hf := fun a c r1 r2 r3 w hD hc => inhRules_any a c (exDirs r1 r2 r3) p w hD hc (exSmall r1 r2 r3) hp
  simp only [h] at hf
  unfold DirsPost at hd
  unfold SpotsPost at hf
  simp only at hf
  clear h
  have hm2 : wrap64 (2 * (S.length : Int)) = ((2 * S.length : Nat) : Int) := by unfold wrap64; omega
  go_enter Try.func33, Try.ntmps33
  go_wp2_with fail
  refine (hd _).mono ?_
  rintro e w1 ⟨a, c, r1, r2, r3, rfl, hD, hc, h1⟩
  go_wp2_with fail
  refine (hf a c r1 r2 r3 _ hD hc).mono ?_
  rintro e w2 ⟨a', c', rfl, hR, _, _, h2⟩
  have g2 := h1.trans (h2.mono h1.size)
  have hw2 := hw.below g2
  clear hm2
  go_wp2_with fail
  go_loopw [7] (fun i wr => ∃ k : Nat, i = .int .i64 k ∧ k ≤ S.length ∧ ∃ n, wr = w2.drewN n) (fun i _ => S.length - (intOf i).toNat)
  case atStart => exact ⟨0, rfl, Nat.zero_le _, 0, rfl⟩
  case round =>
    obtain ⟨k, rfl, hk, n, rfl⟩ := hrel
    by_cases hlt : k < S.length
    · obtain ⟨ad, rfl, hbb, hcs⟩ := hR.get (by omega)
      have hls : S[k]? = some S[k] := List.getElem?_eq_getElem hlt
      obtain ⟨g0, g1⟩ := scells_get S k S[k] hls
      have s0 := hcs _ _ g0
      have s1 : w2.cell? ⟨(ad.add (k * 2)).block, (ad.add (k * 2)).off + 1, none⟩ = some (.int .i64 (S[k]).2) := by rw [field_addr _ _ _ (by omega)]; exact hcs _ _ g1
      obtain ⟨bd, x, rfl, _, hx, t0⟩ := hw2.get (show 2 * k < 2 * S.length by omega)
      obtain ⟨bd', y, eb, _, hy, t1⟩ := hw2.get (show 2 * k + 1 < 2 * S.length by omega)
      cases eb
      obtain ⟨f0, f1⟩ := flat_get S k S[k] hls
      rw [f0] at hx
      rw [f1] at hy
      cases hx
      cases hy
      obtain ⟨s, hs⟩ : ∃ s, s = S[k] := ⟨_, rfl⟩
      rw [← hs] at s0 s1 t0 t1
      clear hs g0 g1 hcs hls f0 f1
      have t1' : w2.cell? ⟨bd.block, bd.off + (2 * k + 1), none⟩ = some (.int .i64 s.2) := by have := t1; unfold Addr.add at this; rwa [if_neg (by omega)] at this
      have i0 : (0 : Int) ≤ (k : Int) := by omega
      have i1 : (k : Int) < (S.length : Int) := by omega
      have i2 : (0 : Int) ≤ 2 * (k : Int) := by omega
      have i3 : 2 * (k : Int) < ((2 * S.length : Nat) : Int) := by omega
      have i3' : 2 * (k : Int) < 2 * (S.length : Int) := by omega
      have i4 : (0 : Int) ≤ 2 * (k : Int) + 1 := by omega
      have i5 : 2 * (k : Int) + 1 < ((2 * S.length : Nat) : Int) := by omega
      have i5' : 2 * (k : Int) + 1 < 2 * (S.length : Int) := by omega
      have n1 : (2 * (k : Int)).toNat = 2 * k := by omega
      have n2 : (2 * (k : Int) + 1).toNat = 2 * k + 1 := by omega
      have m1 : IntKind.i64.wrap (2 * (k : Int)) = 2 * (k : Int) := by rw [IntKind.wrap_i64]; omega
      have m2 : IntKind.i64.wrap (2 * (k : Int) + 1) = 2 * (k : Int) + 1 := by rw [IntKind.wrap_i64]; omega
      go_wp2
      refine wp_region_noPanic ?_
      refine wp_region_held_drew (S := fun w' => w'.cell? (ad.add (k * 2)) = some (.int .i64 s.1) ∧ w'.cell? ⟨(ad.add (k * 2)).block, (ad.add (k * 2)).off + 1, none⟩ = some (.int .i64 s.2) ∧ w'.cell? (bd.add (2 * k)) = some (.int .i64 s.1) ∧ w'.cell? ⟨bd.block, bd.off + (2 * k + 1), none⟩ = some (.int .i64 s.2)) (by kernel_rfl) ?_ (fun hH => ?_)
      · exact ⟨s0, s1, t0, t1'⟩
      refine Reg.take (i := 0) (u := ?b1_v0) rfl rfl rfl (by kernel_rfl) (by kernel_rfl) (by kernel_rfl) hH ?b1_y0 ?b1_r0
      case b1_y0 => (intro w hSw; (try dsimp only at hSw); go_simp; try (with_reducible rfl))
      case' b1_r0 => simp only [List.setIfInBounds_toArray, List.set_cons_zero, List.set_cons_succ]
      refine Reg.take (i := 1) (u := ?b1_v1) rfl rfl rfl (by kernel_rfl) (by kernel_rfl) (by kernel_rfl) hH ?b1_y1 ?b1_r1
      case b1_y1 => (intro w hSw; (try dsimp only at hSw); go_simp; try (with_reducible rfl))
      case' b1_r1 => simp only [List.setIfInBounds_toArray, List.set_cons_zero, List.set_cons_succ]
      refine Reg.take (i := 2) (u := ?b1_v2) rfl rfl rfl (by kernel_rfl) (by kernel_rfl) (by kernel_rfl) hH ?b1_y2 ?b1_r2
      case b1_y2 => (intro w hSw; (try dsimp only at hSw); go_simp; try (with_reducible rfl))
      case' b1_r2 => simp only [List.setIfInBounds_toArray, List.set_cons_zero, List.set_cons_succ]
      refine Reg.take (i := 3) (u := ?b1_v3) rfl rfl rfl (by kernel_rfl) (by kernel_rfl) (by kernel_rfl) hH ?b1_y3 ?b1_r3
      case b1_y3 => (intro w hSw; (try dsimp only at hSw); go_simp; try (with_reducible rfl))
      case' b1_r3 => simp only [List.setIfInBounds_toArray, List.set_cons_zero, List.set_cons_succ]
      refine Reg.take (i := 4) (u := ?b1_v4) rfl rfl rfl (by kernel_rfl) (by kernel_rfl) (by kernel_rfl) hH ?b1_y4 ?b1_r4
      case b1_y4 => (intro w hSw; (try dsimp only at hSw); go_simp; try (with_reducible rfl))
      case' b1_r4 => simp only [List.setIfInBounds_toArray, List.set_cons_zero, List.set_cons_succ]
      refine Reg.take (i := 5) (u := ?b1_v5) rfl rfl rfl (by kernel_rfl) (by kernel_rfl) (by kernel_rfl) hH ?b1_y5 ?b1_r5
      case b1_y5 => (intro w hSw; (try dsimp only at hSw); go_simp; try (with_reducible rfl))
      case' b1_r5 => simp only [List.setIfInBounds_toArray, List.set_cons_zero, List.set_cons_succ]
      refine Reg.take (i := 6) (u := ?b1_v6) rfl rfl rfl (by kernel_rfl) (by kernel_rfl) (by kernel_rfl) hH ?b1_y6 ?b1_r6
      case b1_y6 => (intro w hSw; (try dsimp only at hSw); go_simp; try (with_reducible rfl))
      case' b1_r6 => simp only [List.setIfInBounds_toArray, List.set_cons_zero, List.set_cons_succ]
      refine Reg.take (i := 7) (u := ?b1_v7) rfl rfl rfl (by kernel_rfl) (by kernel_rfl) (by kernel_rfl) hH ?b1_y7 ?b1_r7
      case b1_y7 => (intro w hSw; (try dsimp only at hSw); go_simp; try (with_reducible rfl))
      case' b1_r7 => simp only [List.setIfInBounds_toArray, List.set_cons_zero, List.set_cons_succ]
      refine Reg.take (i := 8) (u := ?b1_v8) rfl rfl rfl (by kernel_rfl) (by kernel_rfl) (by kernel_rfl) hH ?b1_y8 ?b1_r8
      case b1_y8 => (intro w hSw; (try dsimp only at hSw); go_simp; try (with_reducible rfl))
      case' b1_r8 => simp only [List.setIfInBounds_toArray, List.set_cons_zero, List.set_cons_succ]
      refine Reg.take (i := 9) (u := ?b1_v9) rfl rfl rfl (by kernel_rfl) (by kernel_rfl) (by kernel_rfl) hH ?b1_y9 ?b1_r9
      case b1_y9 => (intro w hSw; (try dsimp only at hSw); go_simp; try (with_reducible rfl))
      case' b1_r9 => simp only [List.setIfInBounds_toArray, List.set_cons_zero, List.set_cons_succ]
      refine Reg.take (i := 10) (u := ?b1_v10) rfl rfl rfl (by kernel_rfl) (by kernel_rfl) (by kernel_rfl) hH ?b1_y10 ?b1_r10
      case b1_y10 => (intro w hSw; (try dsimp only at hSw); go_simp; try (with_reducible rfl))
      case' b1_r10 => simp only [List.setIfInBounds_toArray, List.set_cons_zero, List.set_cons_succ]
      refine Reg.take (i := 11) (u := ?b1_v11) rfl rfl rfl (by kernel_rfl) (by kernel_rfl) (by kernel_rfl) hH ?b1_y11 ?b1_r11
      case b1_y11 => (intro w hSw; (try dsimp only at hSw); go_simp; try (with_reducible rfl))
      case' b1_r11 => simp only [List.setIfInBounds_toArray, List.set_cons_zero, List.set_cons_succ]
      refine Reg.takeIf (i := 12) (u := ?b1_v12) rfl rfl rfl rfl rfl (by kernel_rfl) (by kernel_rfl) (by kernel_rfl) hH ?b1_y12 ?b1_r12
      case b1_y12 => (intro w hSw; (try dsimp only at hSw); go_simp; try (with_reducible rfl))
      case' b1_r12 => simp only [List.setIfInBounds_toArray, List.set_cons_zero, List.set_cons_succ]
      refine Reg.takeIf (i := 13) (u := ?b1_v13) rfl rfl rfl rfl rfl (by kernel_rfl) (by kernel_rfl) (by kernel_rfl) hH ?b1_y13 ?b1_r13
      case b1_y13 => (intro w hSw; (try dsimp only at hSw); go_simp; try (with_reducible rfl))
      case' b1_r13 => simp only [List.setIfInBounds_toArray, List.set_cons_zero, List.set_cons_succ]
      refine Reg.takeIf (i := 14) (u := ?b1_v14) rfl rfl rfl rfl rfl (by kernel_rfl) (by kernel_rfl) (by kernel_rfl) hH ?b1_y14 ?b1_r14
      case b1_y14 => (intro w hSw; (try dsimp only at hSw); go_simp; try (with_reducible rfl))
      case' b1_r14 => simp only [List.setIfInBounds_toArray, List.set_cons_zero, List.set_cons_succ]
      refine Reg.takeIf (i := 15) (u := ?b1_v15) rfl rfl rfl rfl rfl (by kernel_rfl) (by kernel_rfl) (by kernel_rfl) hH ?b1_y15 ?b1_r15
      case b1_y15 => (intro w hSw; (try dsimp only at hSw); go_simp; try (with_reducible rfl))
      case' b1_r15 => simp only [List.setIfInBounds_toArray, List.set_cons_zero, List.set_cons_succ]
      refine Reg.takeIf (i := 16) (u := ?b1_v16) rfl rfl rfl rfl rfl (by kernel_rfl) (by kernel_rfl) (by kernel_rfl) hH ?b1_y16 ?b1_r16
      case b1_y16 => (intro w hSw; (try dsimp only at hSw); go_simp; try (with_reducible rfl))
      case' b1_r16 => simp only [List.setIfInBounds_toArray, List.set_cons_zero, List.set_cons_succ]
      refine Reg.takeIf (i := 17) (u := ?b1_v17) rfl rfl rfl rfl rfl (by kernel_rfl) (by kernel_rfl) (by kernel_rfl) hH ?b1_y17 ?b1_r17
      case b1_y17 => (intro w hSw; (try dsimp only at hSw); go_simp; try (with_reducible rfl))
      case' b1_r17 => simp only [List.setIfInBounds_toArray, List.set_cons_zero, List.set_cons_succ]
      refine Reg.takeIf (i := 18) (u := ?b1_v18) rfl rfl rfl rfl rfl (by kernel_rfl) (by kernel_rfl) (by kernel_rfl) hH ?b1_y18 ?b1_r18
      case b1_y18 => (intro w hSw; (try dsimp only at hSw); go_simp; try (with_reducible rfl))
      case' b1_r18 => simp only [List.setIfInBounds_toArray, List.set_cons_zero, List.set_cons_succ]
      refine Reg.takeIf (i := 19) (u := ?b1_v19) rfl rfl rfl rfl rfl (by kernel_rfl) (by kernel_rfl) (by kernel_rfl) hH ?b1_y19 ?b1_r19
      case b1_y19 => (intro w hSw; (try dsimp only at hSw); go_simp; try (with_reducible rfl))
      case' b1_r19 => simp only [List.setIfInBounds_toArray, List.set_cons_zero, List.set_cons_succ]
      refine Reg.takeIf (i := 20) (u := ?b1_v20) rfl rfl rfl rfl rfl (by kernel_rfl) (by kernel_rfl) (by kernel_rfl) hH ?b1_y20 ?b1_r20
      case b1_y20 => (intro w hSw; (try dsimp only at hSw); go_simp; try (with_reducible rfl))
      case' b1_r20 => simp only [List.setIfInBounds_toArray, List.set_cons_zero, List.set_cons_succ]
      refine Reg.takeIf (i := 21) (u := ?b1_v21) rfl rfl rfl rfl rfl (by kernel_rfl) (by kernel_rfl) (by kernel_rfl) hH ?b1_y21 ?b1_r21
      case b1_y21 => (intro w hSw; (try dsimp only at hSw); go_simp; try (with_reducible rfl))
      case' b1_r21 => simp only [List.setIfInBounds_toArray, List.set_cons_zero, List.set_cons_succ]
      refine Reg.takeIf (i := 22) (u := ?b1_v22) rfl rfl rfl rfl rfl (by kernel_rfl) (by kernel_rfl) (by kernel_rfl) hH ?b1_y22 ?b1_r22
      case b1_y22 => (intro w hSw; (try dsimp only at hSw); go_simp; try (with_reducible rfl))
      case' b1_r22 => simp only [List.setIfInBounds_toArray, List.set_cons_zero, List.set_cons_succ]
      refine Reg.takeIf (i := 23) (u := ?b1_v23) rfl rfl rfl rfl rfl (by kernel_rfl) (by kernel_rfl) (by kernel_rfl) hH ?b1_y23 ?b1_r23
      case b1_y23 => (intro w hSw; (try dsimp only at hSw); go_simp; try (with_reducible rfl))
      case' b1_r23 => simp only [List.setIfInBounds_toArray, List.set_cons_zero, List.set_cons_succ]
      refine Reg.take (i := 24) (u := ?b1_v24) rfl rfl rfl (by kernel_rfl) (by kernel_rfl) (by kernel_rfl) hH ?b1_y24 ?b1_r24
      case b1_y24 => (intro w hSw; (try dsimp only at hSw); go_simp; try (with_reducible rfl))
      case' b1_r24 => simp only [List.setIfInBounds_toArray, List.set_cons_zero, List.set_cons_succ]
      refine wpAnyH_done (by kernel_rfl) ?_ _
      refine NoPanic.normal ?_
      go_wp2
      go_roundw
      case rel => exact ⟨k + 1, by go_num, by omega, n + 1, by simp [World.drewN, World.drew, Nat.add_assoc]⟩
      case measure => simp [intOf]; omega
    · obtain rfl : k = S.length := by omega
      go_wp2
      go_ret
      exact ⟨rfl, below_drewN g2 _⟩

end Go.Proofs.Ytajnkapnndhbaaa
