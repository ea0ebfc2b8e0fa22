/- The law's light and own: parts that are light, parts in new memory. -/
import Derived.Test.YtllklgalghmnfaaDoorTplSame
import Derived.Deep.LoopGhost
namespace Go.Proofs.YtllklgalghmnfaaDoor
open Go.RowKit Str Mem Tp
set_option linter.unusedVariables false
set_option linter.unusedSimpArgs false

def lightR (L : List Part) : Bool := decide (L.length ≤ 110) && L.all fun p => decide (p.t.length ≤ 110)
theorem lightR_of {L : List Part} (h : lightR L = true) : L.length ≤ 110 ∧ ∀ p ∈ L, p.t.length ≤ 110 := by
  unfold lightR at h
  simpa using h
set_option maxRecDepth 100000 in
set_option maxHeartbeats 1000000 in
theorem light_any (a : Option Addr) (c : Nat) (L : List Part) (w : World) (hP : Parts w a L.length L) :
    Calls Tryd.prog 18 #[.slice a L.length c] w fun e w' => e = .returned (.bool (lightR L)) ∧ w' = w := by
  obtain ⟨V, hV⟩ : ∃ V, lightR L = V := ⟨_, rfl⟩
  rw [hV]
  have HV := Lib.hid hV
  clear hV
  by_cases hn : 110 < L.length
  · have q1 : (110 : Int) < (L.length : Int) := by omega
    go_enter Tryd.func18, Tryd.ntmps18
    go_wp2_with fail
    go_ret
    refine ⟨?_, rfl⟩
    rw [← HV.out]
    unfold lightR
    rw [decide_eq_false (by omega), Bool.false_and]
    rfl
  have q1 : ¬ (110 : Int) < (L.length : Int) := by omega
  go_enter Tryd.func18, Tryd.ntmps18
  go_wp2_with fail
  go_loopg [3] L.length (fun g i wr => ∃ k : Nat, i = .int .i64 k ∧ k + g = L.length ∧ (∀ j x, j < k → L[j]? = some x → x.t.length ≤ 110) ∧ wr = w)
  case atStart => exact ⟨0, rfl, by omega, fun j x h => by omega, rfl⟩
  case round =>
    obtain ⟨k, rfl, hk, hall, rfl⟩ := hrel
    have HALL := Lib.hid hall
    clear hall
    by_cases hlt : k < L.length
    · obtain ⟨g', rfl⟩ : ∃ g', gk = g' + 1 := ⟨gk - 1, by omega⟩
      obtain ⟨x, hx⟩ : ∃ x, L[k]? = some x := ⟨_, List.getElem?_eq_getElem hlt⟩
      obtain ⟨ad, rfl, had, g0, g1, g2⟩ := Parts.get (L := L) hP k x hx
      obtain ⟨T, hT⟩ : ∃ T, T = bs x.t := ⟨_, rfl⟩
      have hTz : T.size = x.t.length := by rw [hT, size_bs]
      rw [← hT] at g1
      have i0 : (0 : Int) ≤ (k : Int) := by omega
      have i1 : (k : Int) < (L.length : Int) := by omega
      have HX := Lib.hid hx
      have HTz := Lib.hid hTz
      by_cases hl : 110 < x.t.length
      · have q2 : (110 : Int) < (T.size : Int) := by omega
        clear hx hT hTz hl
        go_wp2_with fail
        go_ret
        refine ⟨?_, rfl⟩
        rw [← HV.out]
        have : lightR L = false := by
          unfold lightR
          rw [Bool.and_eq_false_iff]
          right
          rw [List.all_eq_false]
          exact ⟨x, List.mem_of_getElem? HX.out, by have := HTz.out; simp; omega⟩
        rw [this]
        rfl
      · have q2 : ¬ (110 : Int) < (T.size : Int) := by omega
        have hall2 : ∀ j y, j < k + 1 → L[j]? = some y → y.t.length ≤ 110 := fun j y hj hy => by
          by_cases hjk : j = k
          · rw [hjk, HX.out] at hy; injection hy with hy; rw [← hy]; omega
          · exact HALL.out j y (by omega) hy
        have HA2 := Lib.hid hall2
        clear hx hT hTz hl hall2
        go_wp2_with fail
        go_roundg g'
        case measure => omega
        case rel => exact ⟨k + 1, by go_num, by omega, HA2.out, rfl⟩
    · obtain rfl : k = L.length := by omega
      go_wp2_with fail
      go_ret
      refine ⟨?_, rfl⟩
      rw [← HV.out]
      have : lightR L = true := by
        unfold lightR
        rw [decide_eq_true (by omega), Bool.true_and, List.all_eq_true]
        intro p hp
        obtain ⟨j, hj, e⟩ := List.getElem_of_mem hp
        simpa using HALL.out j p hj (by rw [List.getElem?_eq_getElem hj, e])
      rw [this]
      rfl

theorem Owns.empty25 (w : World) (e : TypeId) (sz N : Nat) (hN : N = w.heap.size) : Owns (w.alloc (.cells #[] e)) N e sz (.slice (some ⟨N, 0, none⟩) 0 0) 0 [] := by
  subst hN
  exact ⟨by simp, .inr ⟨w.heap.size, 0, #[], rfl, Nat.le_refl _, heap_alloc_new w _, Nat.le_refl _, by simp [maxLen], by simp, by simp⟩⟩
set_option maxRecDepth 100000 in
set_option maxHeartbeats 1000000 in
theorem own25_any (a : Option Addr) (c : Nat) (L : List Part) (w : World) (hP : Parts w a L.length L) (hn : L.length ≤ 1000) (hc : L.length ≤ c) (hcm : c ≤ maxLen) :
    Calls Tryd.prog 19 #[.slice a L.length c] w fun e w' => ∃ v, e = .returned v ∧ OwnParts w' w.heap.size v L ∧ Below w.heap.size w w' := by
  obtain ⟨i0, hi, hz0, hz1, hz2⟩ := info_parts infoP
  have hP' := Rd.alloc hP (.cells #[] 59)
  have hb := (Below.refl _ w).alloc (Nat.le_refl _) (.cells #[] 59)
  have hO := Owns.empty25 w 59 3 w.heap.size rfl
  unfold maxLen at hcm
  obtain ⟨P, hPe⟩ : ∃ P : Ending → World → Prop, P = fun e w' => ∃ v, e = .returned v ∧ OwnParts w' w.heap.size v L ∧ Below w.heap.size w w' := ⟨_, rfl⟩
  have HPe := Lib.hid hPe
  rw [← hPe]
  clear hPe
  go_enter Tryd.func19, Tryd.ntmps19
  go_wp2_with (at_builtin; go_must (refine wpList_append_owns _ rfl _ _ 23 rfl w.heap.size 59 i0 (.agg #[.int .i64 0, .string ⟨#[]⟩, .int .i64 0]) 3 32 Tryd.underlying23 hi hz0 hz1 hz2 rfl (by decide) _ 0 [] rfl hO a L.length c (partCells L) rfl hP' (partCells_one L) (by simp only [maxLen]; omega) (by omega) (by simp) ?_); intro v' w4 hown' hgrow)
  rw [HPe.out]
  refine ⟨v', rfl, ?_, ?_⟩
  · unfold OwnParts
    simpa using hown'
  · exact hb.grown hgrow (by simp) (fun k hk => by cases hk; exact Nat.le_refl _)
end Go.Proofs.YtllklgalghmnfaaDoor
