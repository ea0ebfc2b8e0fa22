/- Small facts on strings as lists of bytes: no program in sight. -/
import Derived.Lib.Strings
import Derived.Lib.Bytealg
import Derived.Calls
namespace Go.Proofs.Ytefilalapkdegaa.Str

theorem ret_bool {a b : Bool} (h : a = b) : Ending.returned (.bool a) = .returned (.bool b) := by rw [h]
theorem ret_int {k : IntKind} {a b : Int} (h : a = b) : Ending.returned (.int k a) = .returned (.int k b) := by rw [h]
theorem ret_str {a b : ByteArray} (h : a = b) : Ending.returned (.string a) = .returned (.string b) := by rw [h]

/-- a list of bytes as Go's string -/
abbrev bs (l : List UInt8) : ByteArray := ⟨l.toArray⟩

theorem bs_data (s : ByteArray) : bs s.data.toList = s := Lib.mk_data s
theorem data_bs (l : List UInt8) : (bs l).data.toList = l := rfl
theorem size_bs (l : List UInt8) : (bs l).size = l.length := rfl
theorem size_data (s : ByteArray) : s.size = s.data.toList.length := Lib.size_eq s
theorem toList_data (s : ByteArray) : s.toList = s.data.toList := Lib.toList_data s

theorem eq_of_data {s t : ByteArray} (h : s.data.toList = t.data.toList) : s = t := by
  rw [← bs_data s, ← bs_data t, h]

theorem size_pos {s : ByteArray} (h : s.toList ≠ []) : 0 < s.size := by
  rw [toList_data] at h
  rw [size_data]
  exact List.length_pos_iff.2 h

theorem get_data (s : ByteArray) (i : Nat) (h : i < s.size) : s[i] = s.data.toList[i]'(by rw [← size_data]; exact h) := rfl

theorem head_data (s : ByteArray) (h : 0 < s.size) : s.data.toList.head? = some s[0] := by
  rw [get_data s 0 h, List.head?_eq_getElem?, List.getElem?_eq_getElem]

theorem get_opt (s : ByteArray) (i : Nat) (h : i < s.size) : s.data.toList[i]? = some s[i] := by
  rw [get_data s i h, List.getElem?_eq_getElem]

theorem extract_data (s : ByteArray) (a b : Nat) : (s.extract a b).data.toList = (s.data.toList.drop a).take (b - a) := Lib.extract_data s a b
theorem extract_to (s : ByteArray) (b : Nat) : (s.extract 0 b).data.toList = s.data.toList.take b := by rw [extract_data]; simp
theorem extract_from (s : ByteArray) (a : Nat) : (s.extract a s.size).data.toList = s.data.toList.drop a := by
  rw [extract_data, size_data]
  exact List.take_of_length_le (by rw [List.length_drop]; omega)

theorem append_data (s t : ByteArray) : (s ++ t).data.toList = s.data.toList ++ t.data.toList := by
  rw [ByteArray.data_append]; simp

theorem ret_bool2 {a b : Bool} {x : Value} (h : a = b) : Ending.returned (.tuple #[.bool a, x]) = .returned (.tuple #[.bool b, x]) := by rw [h]

/-- a byte is there, or it is not -/
theorem index_cases (c : UInt8) : ∀ (l : List UInt8), (∃ a t, l = a ++ c :: t ∧ c ∉ a ∧ Lib.indexByte l c = (a.length : Int)) ∨ (c ∉ l ∧ Lib.indexByte l c = -1)
  | [] => .inr ⟨by simp, rfl⟩
  | b :: l => by
    by_cases hb : b = c
    · subst hb
      exact .inl ⟨[], l, rfl, by simp, by simp [Lib.indexByte]⟩
    · have hb' : (b == c) = false := by simpa using hb
      rcases index_cases c l with ⟨a, t, rfl, ha, hi⟩ | ⟨hn, hi⟩
      · refine .inl ⟨b :: a, t, rfl, by simp [ha, Ne.symm hb], ?_⟩
        unfold Lib.indexByte
        rw [hb', hi]
        have : ((a.length : Int) == -1) = false := by rw [beq_eq_false_iff_ne]; omega
        simp [this]
      · refine .inr ⟨by simp [hn, Ne.symm hb], ?_⟩
        unfold Lib.indexByte
        rw [hb', hi]
        simp

theorem index_le (c : UInt8) (l : List UInt8) : Lib.indexByte l c ≤ l.length := by
  rcases index_cases c l with ⟨a, t, rfl, _, hi⟩ | ⟨_, hi⟩ <;> rw [hi]
  · simp; omega
  · omega

end Go.Proofs.Ytefilalapkdegaa.Str
