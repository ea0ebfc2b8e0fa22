/- Segments made of numbers. -/
import Derived.Test.YtldjljblcjplaaaInts
import Derived.Test.YtldjljblcjplaaaCommon
namespace Go.Proofs.Ytldjljblcjplaaa
open Go.RowKit Str Mem
set_option linter.unusedVariables false
set_option linter.unusedSimpArgs false

theorem tmod8 (n : Int) : (0 ≤ n → n.tmod 8 = n % 8) ∧ (n < 0 → n.tmod 8 = -((-n) % 8)) := by
  constructor
  · intro h
    exact Int.tmod_eq_emod_of_nonneg h
  · intro h
    have e : n = -(-n) := by omega
    conv => lhs; rw [e]
    rw [Int.neg_tmod, Int.tmod_eq_emod_of_nonneg (by omega)]

theorem mod8 (n : Int) (w : World) (h1 : -9223372036854775808 ≤ n) (h2 : n ≤ 9223372036854775807) : Calls Try.prog 51 #[.int .i64 n, .int .i64 8] w fun e w' => e = .returned (.int .i64 (n % 8)) ∧ w = w' := by
  obtain ⟨ta, tb⟩ := tmod8 n
  have Ta := Lib.hid ta
  have Tb := Lib.hid tb
  clear ta tb
  go_enter Try.func51, Try.ntmps51
  go_wp2
  · have h : n.tmod 8 < 0 := by assumption
    have e : wrap64 (n.tmod 8 + 8) = n % 8 := by
      unfold wrap64
      rcases Int.lt_or_le n 0 with hn | hn
      · rw [Tb.out hn] at *; omega
      · rw [Ta.out hn] at *; omega
    go_ret
    exact ⟨ret_int e, rfl⟩
  · have h : 0 ≤ n.tmod 8 := by assumption
    have e : n.tmod 8 = n % 8 := by
      rcases Int.lt_or_le n 0 with hn | hn
      · rw [Tb.out hn] at *; omega
      · rw [Ta.out hn] at *
    go_ret
    exact ⟨ret_int e, rfl⟩

/-- The table's names. -/
def tableL : List (List UInt8) := [[97], [98], [97, 98], [46, 46, 46], [46, 97], [97, 46], [99, 32, 100], [101, 63]]
def tableAt (n : Int) : List UInt8 := tableL.getD (n % 8).toNat []
def madeOf (l : List Int) : List (List UInt8) := (l.take 8).map tableAt

theorem table_lt (n : Int) : (n % 8).toNat < 8 := by omega
theorem tableAt_mem (n : Int) : tableAt n ∈ tableL := by
  unfold tableAt
  rw [List.getD_eq_getElem?_getD, List.getElem?_eq_getElem (show (n % 8).toNat < tableL.length from table_lt n)]
  exact List.getElem_mem _
theorem table_names : ∀ s ∈ tableL, Dots.name s = true := by decide
theorem table_short : ∀ s ∈ tableL, s.length ≤ 3 := by decide
theorem madeOf_names (l : List Int) : Dots.Names (madeOf l) := by
  intro s hs
  obtain ⟨n, _, rfl⟩ := List.mem_map.1 hs
  exact table_names _ (tableAt_mem n)
theorem madeOf_short (l : List Int) : ∀ s ∈ madeOf l, s.length ≤ 3 := by
  intro s hs
  obtain ⟨n, _, rfl⟩ := List.mem_map.1 hs
  exact table_short _ (tableAt_mem n)
theorem madeOf_length (l : List Int) : (madeOf l).length ≤ 8 := by unfold madeOf; simp; omega

end Go.Proofs.Ytldjljblcjplaaa
