/- The functions of package strings that are asked for here, at the arguments at which they are asked: what each returns. -/
import Derived.Test.YteppipkokeaijaaChecked
import Derived.WalkKit
import Derived.WalkLawsBesides
import Derived.WalkSpells
import Derived.Lib.Hide
import Derived.Deep.QuietTactic
import Derived.BigQuiet
import Derived.Test.YteppipkokeaijaaStrPlain
namespace Go.Proofs.Yteppipkokeaijaa
open Go.RowKit Str
set_option linter.unusedVariables false
set_option linter.unusedSimpArgs false

theorem infoStr : (Try.prog.info? 9).map (fun i => (i.zero, i.size, i.bytes)) = some (some (.string ⟨#[]⟩), 1, 16) := by kernel_rfl

theorem callIndexByteString (s : ByteArray) (c : Int) (w : World) : (callFunc 65 #[.string s, .int .u8 c]).run Try.prog w = .ok (.value (.int .i64 (Lib.indexByte s.data.toList c.toNat.toUInt8))) w := by
  rw [run_callFunc_extern (e := Extern.BytealgIndexByte.indexByte) Try.func65 (by kernel_rfl) (by kernel_rfl) (by kernel_rfl) (by kernel_rfl), Lib.run_indexByteString]; rfl

theorem indexByte_any (s : ByteArray) (c : Int) (w : World) : Calls Try.prog 58 #[.string s, .int .u8 c] w fun e w' => e = .returned (.int .i64 (Lib.indexByte s.data.toList c.toNat.toUInt8)) ∧ w = w' := by
  have h := callIndexByteString s c
  go_enter Try.func58, Try.ntmps58
  go_wp2
  go_ret
  exact ⟨rfl, rfl⟩

/-- strings.Index at a text of one byte. -/
theorem index1_any (s : ByteArray) (c : UInt8) (w : World) : Calls Try.prog 51 #[.string s, .string ⟨#[c]⟩] w fun e w' => e = .returned (.int .i64 (Lib.indexByte s.data.toList c)) ∧ w = w' := by
  go_enter Try.func51, Try.ntmps51
  go_wp2_with (go_at_call 58; refine (indexByte_any s _ w).mono ?_; rintro e w' ⟨rfl, rfl⟩)
  all_goals go_ret
  · have h : [c] = s.toList := by simpa using ‹([c] == s.toList) = true›
    refine ⟨ret_int ?_, rfl⟩
    rw [toList_data] at h
    rw [← h]; simp [Lib.indexByte]
  · exact ⟨rfl, rfl⟩

/-- strings.Contains at a text of one byte. -/
theorem contains1_any (s : ByteArray) (c : UInt8) (w : World) :
    Calls Try.prog 35 #[.string s, .string ⟨#[c]⟩] w fun e w' => e = .returned (.bool (s.data.toList.contains c)) ∧ w = w' := by
  go_enter Try.func35, Try.ntmps35
  go_wp2_with (first | (go_at_call 51; refine (index1_any s c w).mono ?_; rintro e w' ⟨rfl, rfl⟩) | go_in)
  all_goals go_ret
  all_goals refine ⟨ret_bool ?_, rfl⟩
  all_goals rcases index_cases c s.data.toList with ⟨a, t, he, ha, hi⟩ | ⟨hn, hi⟩
  · have : s.data.toList.contains c = true := by rw [he]; simp
    rw [this]; simp [hi]
  · have : s.data.toList.contains c = false := by simpa using hn
    rw [this]; simp [hi]

end Go.Proofs.Yteppipkokeaijaa
