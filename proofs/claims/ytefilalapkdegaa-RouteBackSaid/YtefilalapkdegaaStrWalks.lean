/- The functions of package strings that are asked for here, at the arguments at which they are asked: what each returns. -/
import Derived.Test.YtefilalapkdegaaChecked
import Derived.WalkKit
import Derived.WalkLawsBesides
import Derived.WalkSpells
import Derived.Lib.Hide
import Derived.Deep.QuietTactic
import Derived.BigQuiet
import Derived.Test.YtefilalapkdegaaStrPlain
namespace Go.Proofs.Ytefilalapkdegaa
open Go.RowKit Str
set_option linter.unusedVariables false
set_option linter.unusedSimpArgs false

theorem infoStr : (Try.prog.info? 9).map (fun i => (i.zero, i.size, i.bytes)) = some (some (.string ⟨#[]⟩), 1, 16) := by kernel_rfl

theorem callIndexByteString (s : ByteArray) (c : Int) (w : World) : (callFunc 122 #[.string s, .int .u8 c]).run Try.prog w = .ok (.value (.int .i64 (Lib.indexByte s.data.toList c.toNat.toUInt8))) w := by
  rw [run_callFunc_extern (e := Extern.BytealgIndexByte.indexByte) Try.func122 (by kernel_rfl) (by kernel_rfl) (by kernel_rfl) (by kernel_rfl), Lib.run_indexByteString]; rfl

theorem indexByte_any (s : ByteArray) (c : Int) (w : World) : Calls Try.prog 120 #[.string s, .int .u8 c] w fun e w' => e = .returned (.int .i64 (Lib.indexByte s.data.toList c.toNat.toUInt8)) ∧ w = w' := by
  have h := callIndexByteString s c
  go_enter Try.func120, Try.ntmps120
  go_wp2
  go_ret
  exact ⟨rfl, rfl⟩

/-- strings.Index at a text of one byte. -/
theorem index1_any (s : ByteArray) (c : UInt8) (w : World) : Calls Try.prog 113 #[.string s, .string ⟨#[c]⟩] w fun e w' => e = .returned (.int .i64 (Lib.indexByte s.data.toList c)) ∧ w = w' := by
  go_enter Try.func113, Try.ntmps113
  go_wp2_with (go_at_call 120; refine (indexByte_any s _ w).mono ?_; rintro e w' ⟨rfl, rfl⟩)
  all_goals go_ret
  · have h : [c] = s.toList := by simpa using ‹([c] == s.toList) = true›
    refine ⟨ret_int ?_, rfl⟩
    rw [toList_data] at h
    rw [← h]; simp [Lib.indexByte]
  · exact ⟨rfl, rfl⟩

/-- strings.Cut at a byte that is there. -/
theorem cutIn_hit (s : ByteArray) (k : Nat) (hs : s.size ≤ maxLen) (hk : k < s.size) (hi : Hid (Lib.indexByte s.data.toList 47 = (k : Int))) (w : World) :
    Calls Try.prog 103 #[.string s, .string ⟨#[47]⟩] w fun e w' => e = .returned (.tuple #[.string (s.extract 0 k), .string (s.extract (k + 1) s.size), .bool true]) ∧ ∃ n, w' = w.drewN n := by
  unfold maxLen at hs
  have e1 : IntKind.i64.wrap ((k : Int) + 1) = (k : Int) + 1 := IntWalk.i64_in _ (by omega)
  have e2 : ((k : Int) + 1).toNat = k + 1 := by omega
  go_enter Try.func103, Try.ntmps103
  go_wp2_with (go_at_call 113; refine (index1_any s 47 w).mono ?_; rintro e w' ⟨rfl, rfl⟩; rw [hi.out])
  go_quiet (fail)
  go_wp2
  go_ret3
  exact ⟨rfl, _, rfl⟩

theorem cut_hit (s : ByteArray) (k : Nat) (hs : s.size ≤ maxLen) (hk : k < s.size) (hi : Hid (Lib.indexByte s.data.toList 47 = (k : Int))) (w : World) :
    Calls Try.prog 85 #[.string s, .string ⟨#[47]⟩] w fun e w' => e = .returned (.tuple #[.string (s.extract 0 k), .string (s.extract (k + 1) s.size), .bool true]) ∧ ∃ n, w' = w.drewN n := by
  go_enter Try.func85, Try.ntmps85
  go_wp2_with (go_at_call 103; refine (cutIn_hit s k hs hk hi w).mono ?_; rintro e w' ⟨rfl, n, rfl⟩)
  go_ret3
  exact ⟨rfl, _, rfl⟩

/-- .. and at one that is not. -/
theorem cutIn_miss (s : ByteArray) (hi : Hid (Lib.indexByte s.data.toList 47 = -1)) (w : World) :
    Calls Try.prog 103 #[.string s, .string ⟨#[47]⟩] w fun e w' => e = .returned (.tuple #[.string s, .string ⟨#[]⟩, .bool false]) ∧ w = w' := by
  go_enter Try.func103, Try.ntmps103
  go_wp2_with (go_at_call 113; refine (index1_any s 47 w).mono ?_; rintro e w' ⟨rfl, rfl⟩; rw [hi.out])
  go_ret3
  exact ⟨rfl, rfl⟩

theorem cut_miss (s : ByteArray) (hi : Hid (Lib.indexByte s.data.toList 47 = -1)) (w : World) :
    Calls Try.prog 85 #[.string s, .string ⟨#[47]⟩] w fun e w' => e = .returned (.tuple #[.string s, .string ⟨#[]⟩, .bool false]) ∧ ∃ n, w' = w.drewN n := by
  go_enter Try.func85, Try.ntmps85
  go_wp2_with (go_at_call 103; refine (cutIn_miss s hi w).mono ?_; rintro e w' ⟨rfl, rfl⟩)
  go_ret3
  exact ⟨rfl, 0, rfl⟩

theorem hasSuffix_any (s p : ByteArray) (hs : s.size ≤ maxLen) (hp : p.size ≤ maxLen) (w : World) :
    Calls Try.prog 59 #[.string s, .string p] w fun e w' => e = .returned (.bool (p.data.toList.isSuffixOf s.data.toList)) ∧ w = w' := by
  unfold maxLen at hs hp
  have H := Lib.hid (Lib.hasSuffix_raw s p)
  unfold Lib.hasSuffix at H
  go_enter Try.func59, Try.ntmps59
  go_wp2_with go_in
  all_goals go_ret
  all_goals refine ⟨ret_bool ?_, rfl⟩
  all_goals rw [← H.out]
  all_goals first | (simp_all; done) | (simp; intro hx; omega)

theorem trimSuffix_any (s p : ByteArray) (hs : s.size ≤ maxLen) (hp : p.size ≤ maxLen) (w : World) :
    Calls Try.prog 65 #[.string s, .string p] w fun e w' => e = .returned (.string (bs (Lib.trimSuffix s.data.toList p.data.toList))) ∧ w = w' := by
  unfold maxLen at hs hp
  go_enter Try.func65, Try.ntmps65
  go_wp2_with go_in
  all_goals go_ret
  all_goals refine ⟨?_, rfl⟩
  all_goals first
    | exact ret_str (Lib.trimSuffix_hit s p ‹_› ‹_›).symm
    | exact ret_str (Lib.trimSuffix_miss s p (by first | (simp_all; done) | (simp; intro hx; omega))).symm

/-- strings.Contains at a text of one byte. -/
theorem contains1_any (s : ByteArray) (c : UInt8) (w : World) :
    Calls Try.prog 91 #[.string s, .string ⟨#[c]⟩] w fun e w' => e = .returned (.bool (s.data.toList.contains c)) ∧ w = w' := by
  go_enter Try.func91, Try.ntmps91
  go_wp2_with (first | (go_at_call 113; refine (index1_any s c w).mono ?_; rintro e w' ⟨rfl, rfl⟩) | go_in)
  all_goals go_ret
  all_goals refine ⟨ret_bool ?_, rfl⟩
  all_goals rcases index_cases c s.data.toList with ⟨a, t, he, ha, hi⟩ | ⟨hn, hi⟩
  · have : s.data.toList.contains c = true := by rw [he]; simp
    rw [this]; simp [hi]
  · have : s.data.toList.contains c = false := by simpa using hn
    rw [this]; simp [hi]

end Go.Proofs.Ytefilalapkdegaa
