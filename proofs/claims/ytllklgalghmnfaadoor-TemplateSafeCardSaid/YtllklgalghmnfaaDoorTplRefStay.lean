/- The reference's bytes of queries that stay: the program's set. -/
import Derived.Test.YtllklgalghmnfaaDoorTplRefOf
import Derived.Test.YtllklgalghmnfaaDoorTplStays
import Derived.Test.YtllklgalghmnfaaDoorTplEncoded
import Derived.Test.YtllklgalghmnfaaDoorBuilderByte
namespace Go.Proofs.YtllklgalghmnfaaDoor
open Go.RowKit Str Mem Tp
set_option linter.unusedVariables false
set_option linter.unusedSimpArgs false
def stayL (k : Nat) : List Nat := (List.range k).filter staysN
theorem stayL_le (k : Nat) : (stayL k).length ≤ k := by
  have := List.length_filter_le staysN (List.range k)
  simpa [stayL] using this
theorem stayL_lt (k : Nat) (b : Nat) (h : b ∈ stayL k) : b < k := by
  have := (List.mem_filter.1 h).1
  simpa using this
theorem stayL_next (k : Nat) : stayL (k + 1) = stayL k ++ (if staysN k then [k] else []) := by
  unfold stayL
  rw [List.range_succ, List.filter_append]
  simp [List.filter_cons]
theorem bv_one (L : List Nat) : ∀ u ∈ L.map bv, u.oneCell' = true := by
  intro u hu
  obtain ⟨b, _, rfl⟩ := List.mem_map.1 hu
  rfl
theorem refStay_eq : ofS (stayL 256) = stayE := by kernel_rfl
set_option maxRecDepth 100000 in
set_option maxHeartbeats 8000000 in
theorem refStay_any (w : World) : Calls Tryd.prog 45 #[] w fun e w' => e = .returned (.agg #[.int .u64 stayE.a0, .int .u64 stayE.a1, .int .u64 stayE.a2, .int .u64 stayE.a3]) ∧ Below w.heap.size w w' := by
  obtain ⟨i0, hi, hz0, hz1, hz2⟩ := info_parts infoByte
  have hof := fun a c W h => refOf_any a c (stayL 256) W h (by have := stayL_le 256; omega) (fun b hb => stayL_lt 256 b hb)
  rw [refStay_eq] at hof
  obtain ⟨V, hV⟩ : ∃ V, stayE = V := ⟨_, rfl⟩
  rw [hV] at hof ⊢
  clear hV
  have HOF := Lib.hid hof
  clear hof
  have hr0 := World.alloc_heap_new w (.cells #[.int .u64 0, .int .u64 0, .int .u64 0, .int .u64 0] 69)
  have hb0 := (Below.refl _ w).alloc (Nat.le_refl _) (.cells #[.int .u64 0, .int .u64 0, .int .u64 0, .int .u64 0] 69)
  have HR0 := Lib.hid hr0
  have HB0 := Lib.hid hb0
  clear hr0 hb0
  go_enter Tryd.func45, Tryd.ntmps45
  go_wp2_with fail
  go_loopg [1, 2] 256 (fun g v i W => ∃ k : Nat, i = .int .i64 k ∧ k + g = 256 ∧ Owns W (w.heap.size + 1) 5 1 v (stayL k).length ((stayL k).map bv) ∧ Below w.heap.size w W ∧ W.heap[w.heap.size]? = some (.cells [.int .u64 0, .int .u64 0, .int .u64 0, .int .u64 0].toArray 69 (0, 0)))
  case atStart => exact ⟨0, rfl, rfl, Owns.nil _ _ _ _, HB0.out, HR0.out⟩
  case round =>
    clear HB0 HR0
    obtain ⟨k, rfl, hk, hO, hb, hr⟩ := hrel
    have HO := Lib.hid hO
    have HB := Lib.hid hb
    have HR := Lib.hid hr
    clear hO hb hr
    by_cases hlt : k < 256
    · obtain ⟨g', rfl⟩ : ∃ g', gk = g' + 1 := ⟨gk - 1, by omega⟩
      have hst := fun W => stays_any k hlt W
      have hwr : IntKind.u8.wrap (k : Int) = (k : Int) := IntWalk.u8_in _ (by omega)
      have hnx := stayL_next k
      have hle := stayL_le k
      obtain ⟨sk, hsk⟩ : ∃ s, staysN k = s := ⟨_, rfl⟩
      rw [hsk] at hst hnx
      clear hsk
      cases sk with
      | true =>
        have HN := Lib.hid hnx
        clear hnx
        have hO1 := HO.out.alloc (.cells #[.int .u8 (k : Int)] 5)
        have hsz := HB.out.size
        have hltr := lt_of_cells HR.out
        have HO1 := Lib.hid hO1
        clear hO1
        go_wp2_with (first
          | (go_at_call 71; refine (hst _).mono ?_; rintro e w1 ⟨rfl, rfl⟩)
          | (at_builtin; go_must (refine wpList_append_owns _ rfl _ _ 97 rfl (w.heap.size + 1) 5 i0 (.int .u8 0) 1 1 Tryd.underlying97 hi hz0 hz1 hz2 rfl (by decide) _ (stayL k).length ((stayL k).map bv) rfl HO1.out (some ⟨w1.heap.size, 0, none⟩) 1 1 [bv k] rfl (Rd.one _ _ _) (bv_one [k]) (by unfold maxLen; omega) (by omega) (by simp; omega) ?_); intro v' w4 hown' hgrow))
        go_roundg g'
        case measure => omega
        case rel =>
          refine ⟨k + 1, by go_num, by omega, ?_, ?_, ?_⟩
          · rw [HN.out]
            simpa [bv] using hown'
          · exact (HB.out.alloc hsz _).grown hgrow (by simp; omega) (fun j hj => by have := (HO1.out.lt j hj).1; omega)
          · exact (hgrow.block _ (by simp; omega) (fun e => by have := (HO1.out.lt _ e.symm).1; omega)).trans ((Below.heap_alloc _ _ _ hltr).trans HR.out)
      | false =>
        go_wp2_with (go_at_call 71; refine (hst _).mono ?_; rintro e w1 ⟨rfl, rfl⟩)
        go_roundg g'
        case measure => omega
        case rel =>
          refine ⟨k + 1, by go_num, by omega, ?_, HB.out, HR.out⟩
          rw [hnx]
          simpa using HO.out
    · obtain rfl : k = 256 := by omega
      obtain ⟨a, c, rfl, hLc, hcm, hrd⟩ := HO.out.form
      have hrd2 : BytesAt wr a (stayL 256).length (stayL 256) := hrd
      have HRD := Lib.hid hrd2
      clear hrd hrd2 HO
      go_wp2_with fail
      refine (HOF.out a c _ HRD.out).mono ?_
      rintro e w1 ⟨rfl, h1⟩
      have hr1 := (h1.block _ (lt_of_cells HR.out)).trans HR.out
      have hb1 := HB.out.trans (h1.mono HB.out.size)
      have e0 := cell_list hr1 0
      have e1 := cell_list hr1 1
      have e2 := cell_list hr1 2
      have e3 := cell_list hr1 3
      have ef := frozen_list hr1
      simp only [List.getElem?_cons_zero, List.getElem?_cons_succ] at e0 e1 e2 e3
      have hr2 := set_list (set_list (set_list (set_list hr1 0 (.int .u64 V.a0)) 1 (.int .u64 V.a1)) 2 (.int .u64 V.a2)) 3 (.int .u64 V.a3)
      have hb2 := (((hb1.setCell (p := ⟨w.heap.size, 0, none⟩) (Nat.le_refl _) (.int .u64 V.a0)).setCell (p := ⟨w.heap.size, 1, none⟩) (Nat.le_refl _) (.int .u64 V.a1)).setCell (p := ⟨w.heap.size, 2, none⟩) (Nat.le_refl _) (.int .u64 V.a2)).setCell (p := ⟨w.heap.size, 3, none⟩) (Nat.le_refl _) (.int .u64 V.a3)
      have HR2 := Lib.hid hr2
      have HB2 := Lib.hid hb2
      clear hr2 hb2 hr1 hb1 h1 HB HR HRD
      go_wp2_with fail
      obtain ⟨W9, hW9⟩ : ∃ W, W = (((w1.setCell ⟨w.heap.size, 0, none⟩ (.int .u64 V.a0)).setCell ⟨w.heap.size, 1, none⟩ (.int .u64 V.a1)).setCell ⟨w.heap.size, 2, none⟩ (.int .u64 V.a2)).setCell ⟨w.heap.size, 3, none⟩ (.int .u64 V.a3) := ⟨_, rfl⟩
      have hr3 : W9.heap[w.heap.size]? = some (.cells [.int .u64 V.a0, .int .u64 V.a1, .int .u64 V.a2, .int .u64 V.a3].toArray 69 (0, 0)) := by rw [hW9]; exact HR2.out
      have hb3 := HB2.out
      rw [← hW9] at hb3 ⊢
      clear hW9
      have z0 := cell_list hr3 0
      have z1 := cell_list hr3 1
      have z2 := cell_list hr3 2
      have z3 := cell_list hr3 3
      simp only [List.getElem?_cons_zero, List.getElem?_cons_succ] at z0 z1 z2 z3
      exact bodyPost_ret (v := .agg #[.int .u64 V.a0, .int .u64 V.a1, .int .u64 V.a2, .int .u64 V.a3]) (by simp [results, Tryd.results45, go_sem, z0, z1, z2, z3]) rfl ⟨rfl, hb3⟩
end Go.Proofs.YtllklgalghmnfaaDoor
