/- The functions of package strings that are asked for here, at the arguments at which they are asked: what each returns. -/
import Derived.Test.YtldjljblcjplaaaChecked
import Derived.WalkKit
import Derived.WalkLawsBesides
import Derived.WalkSpells
import Derived.Lib.Hide
import Derived.Deep.QuietTactic
import Derived.BigQuiet
import Derived.Test.YtldjljblcjplaaaStrPlain
namespace Go.Proofs.Ytldjljblcjplaaa
open Go.RowKit Str
set_option linter.unusedVariables false
set_option linter.unusedSimpArgs false

theorem callIndexByteString (s : ByteArray) (c : Int) (w : World) : (callFunc 75 #[.string s, .int .u8 c]).run Try.prog w = .ok (.value (.int .i64 (Lib.indexByte s.data.toList c.toNat.toUInt8))) w := by
  rw [run_callFunc_extern (e := Extern.BytealgIndexByte.indexByte) Try.func75 (by kernel_rfl) (by kernel_rfl) (by kernel_rfl) (by kernel_rfl), Lib.run_indexByteString]; rfl

theorem indexByte_any (s : ByteArray) (c : Int) (w : World) : Calls Try.prog 70 #[.string s, .int .u8 c] w fun e w' => e = .returned (.int .i64 (Lib.indexByte s.data.toList c.toNat.toUInt8)) ∧ w = w' := by
  have h := callIndexByteString s c
  go_enter Try.func70, Try.ntmps70
  go_wp2
  go_ret
  exact ⟨rfl, rfl⟩

/-- strings.Index at a text of one byte. -/
theorem index1_any (s : ByteArray) (c : UInt8) (w : World) : Calls Try.prog 68 #[.string s, .string ⟨#[c]⟩] w fun e w' => e = .returned (.int .i64 (Lib.indexByte s.data.toList c)) ∧ w = w' := by
  go_enter Try.func68, Try.ntmps68
  go_wp2_with (go_at_call 70; refine (indexByte_any s _ w).mono ?_; rintro e w' ⟨rfl, rfl⟩)
  all_goals go_ret
  · have h : [c] = s.toList := by simpa using ‹([c] == s.toList) = true›
    refine ⟨ret_int ?_, rfl⟩
    rw [toList_data] at h
    rw [← h]; simp [Lib.indexByte]
  · exact ⟨rfl, rfl⟩

/-- strings.Cut at a byte that is there. -/
theorem cutIn_hit (s : ByteArray) (k : Nat) (hs : s.size ≤ maxLen) (hk : k < s.size) (hi : Hid (Lib.indexByte s.data.toList 47 = (k : Int))) (w : World) :
    Calls Try.prog 60 #[.string s, .string ⟨#[47]⟩] w fun e w' => e = .returned (.tuple #[.string (s.extract 0 k), .string (s.extract (k + 1) s.size), .bool true]) ∧ ∃ n, w' = w.drewN n := by
  unfold maxLen at hs
  have e1 : IntKind.i64.wrap ((k : Int) + 1) = (k : Int) + 1 := IntWalk.i64_in _ (by omega)
  have e2 : ((k : Int) + 1).toNat = k + 1 := by omega
  go_enter Try.func60, Try.ntmps60
  go_wp2_with (go_at_call 68; refine (index1_any s 47 w).mono ?_; rintro e w' ⟨rfl, rfl⟩; rw [hi.out])
  go_quiet (fail)
  go_wp2
  go_ret3
  exact ⟨rfl, _, rfl⟩

theorem cut_hit (s : ByteArray) (k : Nat) (hs : s.size ≤ maxLen) (hk : k < s.size) (hi : Hid (Lib.indexByte s.data.toList 47 = (k : Int))) (w : World) :
    Calls Try.prog 53 #[.string s, .string ⟨#[47]⟩] w fun e w' => e = .returned (.tuple #[.string (s.extract 0 k), .string (s.extract (k + 1) s.size), .bool true]) ∧ ∃ n, w' = w.drewN n := by
  go_enter Try.func53, Try.ntmps53
  go_wp2_with (go_at_call 60; refine (cutIn_hit s k hs hk hi w).mono ?_; rintro e w' ⟨rfl, n, rfl⟩)
  go_ret3
  exact ⟨rfl, _, rfl⟩

/-- .. and at one that is not. -/
theorem cutIn_miss (s : ByteArray) (hi : Hid (Lib.indexByte s.data.toList 47 = -1)) (w : World) :
    Calls Try.prog 60 #[.string s, .string ⟨#[47]⟩] w fun e w' => e = .returned (.tuple #[.string s, .string ⟨#[]⟩, .bool false]) ∧ w = w' := by
  go_enter Try.func60, Try.ntmps60
  go_wp2_with (go_at_call 68; refine (index1_any s 47 w).mono ?_; rintro e w' ⟨rfl, rfl⟩; rw [hi.out])
  go_ret3
  exact ⟨rfl, rfl⟩

theorem cut_miss (s : ByteArray) (hi : Hid (Lib.indexByte s.data.toList 47 = -1)) (w : World) :
    Calls Try.prog 53 #[.string s, .string ⟨#[47]⟩] w fun e w' => e = .returned (.tuple #[.string s, .string ⟨#[]⟩, .bool false]) ∧ ∃ n, w' = w.drewN n := by
  go_enter Try.func53, Try.ntmps53
  go_wp2_with (go_at_call 60; refine (cutIn_miss s hi w).mono ?_; rintro e w' ⟨rfl, rfl⟩)
  go_ret3
  exact ⟨rfl, 0, rfl⟩

theorem hasPrefix_any (s p : ByteArray) (hs : s.size ≤ maxLen) (hp : p.size ≤ maxLen) (w : World) :
    Calls Try.prog 47 #[.string s, .string p] w fun e w' => e = .returned (.bool (p.data.toList.isPrefixOf s.data.toList)) ∧ w = w' := by
  unfold maxLen at hs hp
  have H := Lib.hid (Lib.hasPrefix_raw s p)
  unfold Lib.hasPrefix at H
  go_enter Try.func47, Try.ntmps47
  go_wp2_with go_in
  all_goals go_ret
  all_goals refine ⟨ret_bool ?_, rfl⟩
  all_goals rw [← H.out]
  all_goals first | (simp_all; done) | (simp; intro hx; omega)

theorem hasSuffix_any (s p : ByteArray) (hs : s.size ≤ maxLen) (hp : p.size ≤ maxLen) (w : World) :
    Calls Try.prog 66 #[.string s, .string p] w fun e w' => e = .returned (.bool (p.data.toList.isSuffixOf s.data.toList)) ∧ w = w' := by
  unfold maxLen at hs hp
  have H := Lib.hid (Lib.hasSuffix_raw s p)
  unfold Lib.hasSuffix at H
  go_enter Try.func66, Try.ntmps66
  go_wp2_with go_in
  all_goals go_ret
  all_goals refine ⟨ret_bool ?_, rfl⟩
  all_goals rw [← H.out]
  all_goals first | (simp_all; done) | (simp; intro hx; omega)

theorem trimSuffix_any (s p : ByteArray) (hs : s.size ≤ maxLen) (hp : p.size ≤ maxLen) (w : World) :
    Calls Try.prog 50 #[.string s, .string p] w fun e w' => e = .returned (.string (bs (Lib.trimSuffix s.data.toList p.data.toList))) ∧ w = w' := by
  unfold maxLen at hs hp
  go_enter Try.func50, Try.ntmps50
  go_wp2_with go_in
  all_goals go_ret
  all_goals refine ⟨?_, rfl⟩
  all_goals first
    | exact ret_str (Lib.trimSuffix_hit s p ‹_› ‹_›).symm
    | exact ret_str (Lib.trimSuffix_miss s p (by first | (simp_all; done) | (simp; intro hx; omega))).symm

/-- strings.Contains at a text of one byte. -/
theorem contains1_any (s : ByteArray) (c : UInt8) (w : World) :
    Calls Try.prog 56 #[.string s, .string ⟨#[c]⟩] w fun e w' => e = .returned (.bool (s.data.toList.contains c)) ∧ w = w' := by
  go_enter Try.func56, Try.ntmps56
  go_wp2_with (first | (go_at_call 68; refine (index1_any s c w).mono ?_; rintro e w' ⟨rfl, rfl⟩) | go_in)
  all_goals go_ret
  all_goals refine ⟨ret_bool ?_, rfl⟩
  all_goals rcases index_cases c s.data.toList with ⟨a, t, he, ha, hi⟩ | ⟨hn, hi⟩
  · have : s.data.toList.contains c = true := by rw [he]; simp
    rw [this]; simp [hi]
  · have : s.data.toList.contains c = false := by simpa using hn
    rw [this]; simp [hi]

end Go.Proofs.Ytldjljblcjplaaa
