/- strings.CutPrefix, strings.CutSuffix at a text of one byte. -/
import Derived.Test.YtefilalapkdegaaStrWalks
import Derived.Test.YtefilalapkdegaaMem
namespace Go.Proofs.Ytefilalapkdegaa
open Go.RowKit Str
set_option linter.unusedVariables false
set_option linter.unusedSimpArgs false

theorem prefIn_any (s p : ByteArray) (hs : s.size ≤ maxLen) (hp : p.size ≤ maxLen) (w : World) :
    Calls Try.prog 119 #[.string s, .string p] w fun e w' => e = .returned (.bool (p.data.toList.isPrefixOf s.data.toList)) ∧ w = w' := by
  unfold maxLen at hs hp
  have H := Lib.hid (Lib.hasPrefix_raw s p)
  unfold Lib.hasPrefix at H
  go_enter Try.func119, Try.ntmps119
  go_wp2
  all_goals go_ret
  all_goals refine ⟨ret_bool ?_, rfl⟩
  all_goals rw [← H.out]
  all_goals first | (simp_all; done) | (simp; intro hx; omega)

theorem sufIn_any (s p : ByteArray) (hs : s.size ≤ maxLen) (hp : p.size ≤ maxLen) (w : World) :
    Calls Try.prog 87 #[.string s, .string p] w fun e w' => e = .returned (.bool (p.data.toList.isSuffixOf s.data.toList)) ∧ w = w' := by
  unfold maxLen at hs hp
  have H := Lib.hid (Lib.hasSuffix_raw s p)
  unfold Lib.hasSuffix at H
  go_enter Try.func87, Try.ntmps87
  go_wp2
  all_goals go_ret
  all_goals refine ⟨ret_bool ?_, rfl⟩
  all_goals rw [← H.out]
  all_goals first | (simp_all; done) | (simp; intro hx; omega)

theorem pref1 (c : UInt8) (l : List UInt8) : [c].isPrefixOf l = (l.head? == some c) := by
  cases l with
  | nil => rfl
  | cons a t => simp [List.isPrefixOf, BEq.comm]
theorem suf1 (c : UInt8) (l : List UInt8) : [c].isSuffixOf l = (l.getLast? == some c) := by
  unfold List.isSuffixOf
  rw [List.reverse_singleton, pref1, List.head?_reverse]

/-- What CutPrefix and CutSuffix leave. -/
def cutP (c : UInt8) (l : List UInt8) : List UInt8 := if l.head? == some c then l.drop 1 else l
def cutS (c : UInt8) (l : List UInt8) : List UInt8 := if l.getLast? == some c then l.dropLast else l

theorem cutPrefix_any (s : ByteArray) (c : UInt8) (hs : s.size ≤ maxLen) (w : World) :
    Calls Try.prog 98 #[.string s, .string ⟨#[c]⟩] w fun e w' => e = .returned (.tuple #[.string (bs (cutP c s.data.toList)), .bool (s.data.toList.head? == some c)]) ∧ w = w' := by
  have hq := fun w => prefIn_any s ⟨#[c]⟩ hs (by show 1 ≤ maxLen; simp [maxLen]) w
  simp only [pref1] at hq
  unfold cutP
  rcases hb : (s.data.toList.head? == some c) with _ | _
  · rw [hb] at hq
    rw [if_neg (by simp), bs_data]
    clear hb
    unfold maxLen at hs
    go_enter Try.func98, Try.ntmps98
    go_wp2_with (first | (go_at_call 119; refine (hq _).mono ?_; rintro e w1 ⟨rfl, rfl⟩) | go_in)
    go_ret2
    exact ⟨rfl, rfl⟩
  · rw [hb] at hq
    rw [if_pos rfl]
    have h1 : 1 ≤ s.size := by
      rw [size_data]
      cases hl : s.data.toList with
      | nil => rw [hl] at hb; simp at hb
      | cons a t => simp
    have e1 : s.extract 1 s.size = bs (s.data.toList.drop 1) := eq_of_data (by rw [extract_from])
    have H1 := Lib.hid e1
    clear hb e1
    unfold maxLen at hs
    go_enter Try.func98, Try.ntmps98
    go_wp2_with (first | (go_at_call 119; refine (hq _).mono ?_; rintro e w1 ⟨rfl, rfl⟩) | go_in)
    go_ret2
    exact ⟨by rw [← H1.out]; rfl, rfl⟩

theorem cutSuffix_any (s : ByteArray) (c : UInt8) (hs : s.size ≤ maxLen) (w : World) :
    Calls Try.prog 99 #[.string s, .string ⟨#[c]⟩] w fun e w' => e = .returned (.tuple #[.string (bs (cutS c s.data.toList)), .bool (s.data.toList.getLast? == some c)]) ∧ w = w' := by
  have hq := fun w => sufIn_any s ⟨#[c]⟩ hs (by show 1 ≤ maxLen; simp [maxLen]) w
  simp only [suf1] at hq
  unfold cutS
  rcases hb : (s.data.toList.getLast? == some c) with _ | _
  · rw [hb] at hq
    rw [if_neg (by simp), bs_data]
    clear hb
    unfold maxLen at hs
    go_enter Try.func99, Try.ntmps99
    go_wp2_with (first | (go_at_call 87; refine (hq _).mono ?_; rintro e w1 ⟨rfl, rfl⟩) | go_in)
    go_ret2
    exact ⟨rfl, rfl⟩
  · rw [hb] at hq
    rw [if_pos rfl]
    have h1 : 1 ≤ s.size := by
      rw [size_data]
      cases hl : s.data.toList with
      | nil => rw [hl] at hb; simp at hb
      | cons a t => simp
    have e1 : s.extract 0 (s.size - 1) = bs (s.data.toList.dropLast) := eq_of_data (by rw [extract_to, List.dropLast_eq_take, size_data])
    have H1 := Lib.hid e1
    clear hb e1
    unfold maxLen at hs
    go_enter Try.func99, Try.ntmps99
    go_wp2_with (first | (go_at_call 87; refine (hq _).mono ?_; rintro e w1 ⟨rfl, rfl⟩) | go_in)
    go_ret2
    exact ⟨by rw [← H1.out]; rfl, rfl⟩

end Go.Proofs.Ytefilalapkdegaa
