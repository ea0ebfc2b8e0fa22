/- The reference's stays: which bytes of queries stay. -/
import Derived.Test.YtllklgalghmnfaaDoorTplMem
import Derived.Deep.LoopGhost
namespace Go.Proofs.YtllklgalghmnfaaDoor
open Go.RowKit Str Mem Tp
set_option linter.unusedVariables false
set_option linter.unusedSimpArgs false
def othersS : List Nat := [45, 46, 95, 126, 47, 58, 64, 33, 42, 40, 41, 44, 36]
def alnum (c : Nat) : Bool := (decide (97 ≤ c) && decide (c ≤ 122)) || (decide (65 ≤ c) && decide (c ≤ 90)) || (decide (48 ≤ c) && decide (c ≤ 57))
def staysN (c : Nat) : Bool := alnum c || othersS.contains c
set_option maxRecDepth 100000 in
set_option maxHeartbeats 4000000 in
theorem stays_yes (c : Nat) (hc : c < 256) (h : alnum c = true) (w : World) : Calls Tryd.prog 71 #[.int .u8 c] w fun e w' => e = .returned (.bool true) ∧ w' = w := by
  simp only [alnum, Bool.or_eq_true, Bool.and_eq_true, decide_eq_true_eq] at h
  go_enter Tryd.func71, Tryd.ntmps71
  go_wp2_with fail
  all_goals first | (go_ret; exact ⟨rfl, rfl⟩) | (exfalso; omega) | skip

set_option maxRecDepth 100000 in
set_option maxHeartbeats 4000000 in
theorem stays_no (c : Nat) (hc : c < 256) (h : alnum c = false) (w : World) : Calls Tryd.prog 71 #[.int .u8 c] w fun e w' => e = .returned (.bool (othersS.contains c)) ∧ w' = w := by
  have h1 : ¬ (97 ≤ c ∧ c ≤ 122) ∧ ¬ (65 ≤ c ∧ c ≤ 90) ∧ ¬ (48 ≤ c ∧ c ≤ 57) := by
    simp only [alnum, Bool.or_eq_false_iff, Bool.and_eq_false_iff, decide_eq_false_iff_not] at h
    omega
  obtain ⟨V, hV⟩ : ∃ V, othersS.contains c = V := ⟨_, rfl⟩
  rw [hV]
  have HV := Lib.hid hV
  clear hV h
  go_enter Tryd.func71, Tryd.ntmps71
  go_wp2_with fail
  all_goals try (exfalso; omega)
  all_goals
    go_loopg [3] 13 (fun g i W => W = w ∧ ∃ k : Nat, i = .int .i64 k ∧ k + g = 13 ∧ ∀ j x, j < k → othersS[j]? = some x → x ≠ c)
    case atStart => exact ⟨rfl, 0, rfl, by omega, fun j x hj _ => by omega⟩
    case round =>
      obtain ⟨rfl, k, rfl, hk, hall⟩ := hrel
      have HALL := Lib.hid hall
      clear hall
      by_cases hlt : k < 13
      · obtain ⟨g', rfl⟩ : ∃ g', gk = g' + 1 := ⟨gk - 1, by omega⟩
        obtain ⟨x, hx⟩ : ∃ x, othersS[k]? = some x := ⟨_, List.getElem?_eq_getElem hlt⟩
        have hxx : ∀ hin, (((⟨#[45, 46, 95, 126, 47, 58, 64, 33, 42, 40, 41, 44, 36]⟩ : ByteArray)[k]'hin).toNat : Int) = (x : Int) := fun hin => by
          have : ∀ (k : Fin 13) (hin : k.val < (⟨#[45, 46, 95, 126, 47, 58, 64, 33, 42, 40, 41, 44, 36]⟩ : ByteArray).size), some (((⟨#[45, 46, 95, 126, 47, 58, 64, 33, 42, 40, 41, 44, 36]⟩ : ByteArray)[k.val]'hin).toNat) = othersS[k.val]? := by decide
          have := this ⟨k, hlt⟩ hin
          rw [hx] at this
          injection this with this
          rw [this]
        have HX := Lib.hid hx
        clear hx
        by_cases hxc : x = c
        · have e0 : ((x : Int) == (c : Int)) = true := by rw [hxc]; simp
          go_wp2_with fail
          go_ret
          refine ⟨?_, rfl⟩
          have : V = true := by rw [← HV.out, ← hxc]; exact List.contains_iff_mem.2 (List.mem_of_getElem? HX.out)
          rw [this]; rfl
        · have e0 : ((x : Int) == (c : Int)) = false := by simp; omega
          go_wp2_with fail
          go_roundg g'
          case measure => omega
          case rel => exact ⟨rfl, k + 1, by go_num, by omega, fun j y hj hy => by
            by_cases hjk : j = k
            · rw [hjk, HX.out] at hy; injection hy with hy; omega
            · exact HALL.out j y (by omega) hy⟩
      · obtain rfl : k = 13 := by omega
        go_wp2_with fail
        go_ret
        refine ⟨?_, rfl⟩
        have : V = false := by
          rw [← HV.out]
          cases hcn : othersS.contains c with
          | false => rfl
          | true =>
            obtain ⟨j, hj, e⟩ := List.getElem_of_mem (List.contains_iff_mem.1 hcn)
            exact absurd e (HALL.out j _ hj (List.getElem?_eq_getElem hj))
        rw [this]; rfl
theorem stays_any (c : Nat) (hc : c < 256) (w : World) : Calls Tryd.prog 71 #[.int .u8 c] w fun e w' => e = .returned (.bool (staysN c)) ∧ w' = w := by
  unfold staysN
  cases h : alnum c with
  | true => exact stays_yes c hc h w
  | false => exact stays_no c hc h w
end Go.Proofs.YtllklgalghmnfaaDoor
