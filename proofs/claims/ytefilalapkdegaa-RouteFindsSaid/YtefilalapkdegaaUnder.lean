/- Whether a path is open, a directory, under a directory. -/
import Derived.Test.YtefilalapkdegaaNormal
namespace Go.Proofs.Ytefilalapkdegaa
open Go.RowKit Str
set_option linter.unusedVariables false
set_option linter.unusedSimpArgs false

theorem suffix_slash (l : List UInt8) : ([47] : List UInt8).isSuffixOf l = Dots.isOpen l := by
  rw [Bool.eq_iff_iff, List.isSuffixOf_iff_suffix]
  unfold Dots.isOpen
  simp only [beq_iff_eq]
  constructor
  · rintro ⟨t, rfl⟩; simp
  · intro h
    have hne : l ≠ [] := by intro e; subst e; simp at h
    rw [List.getLast?_eq_some_getLast hne, Option.some.injEq] at h
    exact ⟨l.dropLast, by rw [← h]; exact List.dropLast_concat_getLast hne⟩

theorem open_any (s : ByteArray) (w : World) (hs : s.size ≤ maxLen) : Calls Try.prog 90 #[.string s] w fun e w' => e = .returned (.bool (Dots.isOpen s.data.toList)) ∧ w = w' := by
  rw [← suffix_slash]
  go_enter Try.func90, Try.ntmps90
  go_wp2_with (go_at_call 59; refine (hasSuffix_any s ⟨#[47]⟩ hs (by decide) _).mono ?_; rintro e w' ⟨rfl, rfl⟩)
  go_ret
  exact ⟨rfl, rfl⟩

theorem directory_any (s : ByteArray) (w : World) (hs : s.size ≤ maxLen) : Calls Try.prog 63 #[.string s] w fun e w' => e = .returned (.bool (Dots.directory s.data.toList)) ∧ Below w.heap.size w w' := by
  rcases hn : Dots.normal s.data.toList with _ | _
  · have e : Dots.directory s.data.toList = false := by unfold Dots.directory; rw [hn]; rfl
    rw [e]
    go_enter Try.func63, Try.ntmps63
    go_wp2_with (go_at_call 35; refine (normal_any s _).mono ?_; rintro e w1 ⟨rfl, hbl⟩)
    go_ret
    exact ⟨rfl, hbl⟩
  · rcases hr : (s.data.toList == [47]) with _ | _
    · have e : Dots.directory s.data.toList = !Dots.isOpen s.data.toList := by unfold Dots.directory; rw [hn, hr]; rfl
      rw [e]
      rw [← toList_data] at hr
      go_enter Try.func63, Try.ntmps63
      go_wp2_with (first | (go_at_call 35; refine (normal_any s _).mono ?_; rintro e w1 ⟨rfl, hbl⟩) | (go_at_call 90; refine (open_any s _ hs).mono ?_; rintro e w2 ⟨rfl, rfl⟩))
      go_ret
      exact ⟨rfl, hbl⟩
    · have e : Dots.directory s.data.toList = true := by unfold Dots.directory; rw [hn, hr]; rfl
      rw [e]
      rw [← toList_data] at hr
      go_enter Try.func63, Try.ntmps63
      go_wp2_with (first | (go_at_call 35; refine (normal_any s _).mono ?_; rintro e w1 ⟨rfl, hbl⟩) | (go_at_call 90; refine (open_any s _ hs).mono ?_; rintro e w2 ⟨rfl, rfl⟩))
      go_ret
      exact ⟨rfl, hbl⟩

end Go.Proofs.Ytefilalapkdegaa
