/- waypostkit: Mod, At. -/
import Derived.Test.YteppipkokeaijaaInts
import Derived.Test.YteppipkokeaijaaLineAwake
namespace Go.Proofs.Yteppipkokeaijaa
open Go.RowKit Mem
set_option linter.unusedVariables false
set_option linter.unusedSimpArgs false

theorem tmod_cases (n m : Int) (hm : 0 < m) : (n.tmod m = n % m ∨ n.tmod m = n % m - m ∧ n % m ≠ 0) ∧ 0 ≤ n % m ∧ n % m < m := by
  have h1 := Int.emod_nonneg n (show m ≠ 0 by omega)
  have h2 := Int.emod_lt_of_pos n hm
  refine ⟨?_, h1, h2⟩
  have h := Int.tmod_eq_emod (a := n) (b := m)
  rw [h]
  by_cases hz : 0 ≤ n ∨ m ∣ n
  · rw [if_pos hz]; left; simp
  · rw [if_neg hz]; right
    refine ⟨by rw [Int.natAbs_of_nonneg (by omega)], fun e => hz (.inr (Int.dvd_of_emod_eq_zero e))⟩

theorem ret_int2 {a b : Int} (h : a = b) : Ending.returned (Value.int .i64 a) = .returned (.int .i64 b) := by rw [h]

set_option maxHeartbeats 1000000 in
theorem kitMod_any (n m : Int) (w : World) (hm : 1 ≤ m) (hm2 : m ≤ 4294967296) : Calls Try.prog 11 #[.int .i64 n, .int .i64 m] w fun e w' => e = .returned (.int .i64 (n % m)) ∧ w = w' := by
  obtain ⟨hc, h1, h2⟩ := tmod_cases n m (by omega)
  obtain ⟨t, ht⟩ : ∃ t, t = n.tmod m := ⟨_, rfl⟩
  obtain ⟨r, hr⟩ : ∃ r, r = n % m := ⟨_, rfl⟩
  rw [← ht, ← hr] at hc
  rw [← hr] at h1 h2 ⊢
  have HT := Lib.hid ht
  clear ht hr
  have hm0 : ¬ m = 0 := by omega
  have hm1 : ¬ m < 1 := by omega
  go_enter Try.func11, Try.ntmps11
  go_wp2
  all_goals rw [← HT.out] at *
  · have e : wrap64 (t + m) = r := by
      unfold wrap64
      omega
    go_ret
    exact ⟨ret_int2 e, rfl⟩
  · have e : t = r := by omega
    go_ret
    exact ⟨ret_int2 e, rfl⟩

theorem kitAt_any (a : Option Addr) (c : Nat) (l : List Int) (i : Nat) (w : World) (h : Ints w a l.length l) : Calls Try.prog 13 #[.slice a l.length c, .int .i64 i] w fun e w' => e = .returned (.int .i64 (l.getD i 0)) ∧ w = w' := by
  by_cases hi : i < l.length
  · obtain ⟨ad, n, rfl, hb, hls, hcell⟩ := h.get hi
    have e : l.getD i 0 = n := by rw [List.getD_eq_getElem?_getD, hls]; rfl
    rw [e]
    clear hls e
    have i1 : ¬ (l.length : Int) ≤ (i : Int) := by omega
    go_enter Try.func13, Try.ntmps13
    go_wp2
    go_ret
    exact ⟨rfl, rfl⟩
  · have e : l.getD i 0 = 0 := by rw [List.getD_eq_getElem?_getD, List.getElem?_eq_none (by omega)]; rfl
    rw [e]
    have i1 : (l.length : Int) ≤ (i : Int) := by omega
    go_enter Try.func13, Try.ntmps13
    go_wp2
    go_ret
    exact ⟨rfl, rfl⟩

end Go.Proofs.Yteppipkokeaijaa
