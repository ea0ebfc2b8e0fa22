/- slices.Clone of texts. -/
import Derived.Test.YtefilalapkdegaaRefNormal
import Derived.Test.YtefilalapkdegaaMake
namespace Go.Proofs.Ytefilalapkdegaa
open Go.RowKit Str Mem
set_option linter.unusedVariables false
set_option linter.unusedSimpArgs false
theorem nil_slice (n c : Nat) (w : World) : (binOp BinOp.eql 33 (.slice none n c) (.slice none 0 0)).run Try.prog w = .ok (.bool true) w := by kernel_rfl
theorem not_nil_slice (ad : Addr) (n c : Nat) (w : World) : (binOp BinOp.eql 33 (.slice (some ad) n c) (.slice none 0 0)).run Try.prog w = .ok (.bool false) w := by kernel_rfl
set_option maxRecDepth 20000 in
theorem clone_own (a : Option Addr) (c : Nat) (l : List (List UInt8)) (w : World) (hS : Strs w a l.length l) (hn : l.length ≤ 100000) :
    Calls Try.prog 58 #[.slice a l.length c] w fun e w' => ∃ v, e = .returned v ∧ Owns w' w.heap.size 9 1 v l.length (l.map sv) ∧ Below w.heap.size w w' := by
  obtain ⟨i0, hi, hz0, hz1, hz2⟩ := info_parts infoStr
  rcases a with _ | ad
  · have h0 : l = [] := by
      rcases Nat.eq_zero_or_pos l.length with h | h
      · exact List.eq_nil_of_length_eq_zero h
      · obtain ⟨ad, s, e, _⟩ := hS.get h; cases e
    subst h0
    have hnil := fun w => nil_slice 0 c w
    go_enter Try.func58, Try.ntmps58
    go_wp2
    go_ret
    exact ⟨_, rfl, Owns.nil _ _ _ _, Below.refl _ _⟩
  · have hnil := fun w => not_nil_slice ad l.length c w
    go_enter Try.func58, Try.ntmps58
    go_wp2_with (at_builtin; go_must (refine wpList_append_owns _ rfl _ _ 33 rfl w.heap.size 9 i0 (.string ⟨#[]⟩) 1 16 Try.underlying33 hi hz0 hz1 hz2 rfl (by decide) _ 0 [] rfl (Owns.fresh w _ 1) (some ad) l.length c (l.map sv) rfl (Rd.alloc hS _) (by simp [sv, Value.oneCell']) (by simp only [maxLen]; omega) (by omega) (by simp) ?_); intro v' w3 hown hgrow)
    go_ret
    exact ⟨_, rfl, by simpa using hown, ((Below.refl _ w).alloc (Nat.le_refl _) _).grown hgrow (by simp) (by rintro k hk; change some w.heap.size = some k at hk; cases hk; exact Nat.le_refl _)⟩
end Go.Proofs.Ytefilalapkdegaa
