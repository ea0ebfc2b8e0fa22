/- Whether a path is open, a directory, under a directory. -/
import Derived.Test.YtajnkapnndhbaaaNormal
namespace Go.Proofs.Ytajnkapnndhbaaa
open Go.RowKit Str
set_option linter.unusedVariables false
set_option linter.unusedSimpArgs false

theorem suffix_slash (l : List UInt8) : ([47] : List UInt8).isSuffixOf l = Dots.isOpen l := by
  rw [Bool.eq_iff_iff, List.isSuffixOf_iff_suffix]
  unfold Dots.isOpen
  simp only [beq_iff_eq]
  constructor
  · rintro ⟨t, rfl⟩; simp
  · intro h
    have hne : l ≠ [] := by intro e; subst e; simp at h
    rw [List.getLast?_eq_some_getLast hne, Option.some.injEq] at h
    exact ⟨l.dropLast, by rw [← h]; exact List.dropLast_concat_getLast hne⟩

theorem open_any (s : ByteArray) (w : World) (hs : s.size ≤ maxLen) : Calls Try.prog 79 #[.string s] w fun e w' => e = .returned (.bool (Dots.isOpen s.data.toList)) ∧ w = w' := by
  rw [← suffix_slash]
  go_enter Try.func79, Try.ntmps79
  go_wp2_with (go_at_call 84; refine (hasSuffix_any s ⟨#[47]⟩ hs (by decide) _).mono ?_; rintro e w' ⟨rfl, rfl⟩)
  go_ret
  exact ⟨rfl, rfl⟩

theorem directory_any (s : ByteArray) (w : World) (hs : s.size ≤ maxLen) : Calls Try.prog 75 #[.string s] w fun e w' => e = .returned (.bool (Dots.directory s.data.toList)) ∧ Below w.heap.size w w' := by
  rcases hn : Dots.normal s.data.toList with _ | _
  · have e : Dots.directory s.data.toList = false := by unfold Dots.directory; rw [hn]; rfl
    rw [e]
    go_enter Try.func75, Try.ntmps75
    go_wp2_with (go_at_call 51; refine (normal_any s _).mono ?_; rintro e w1 ⟨rfl, hbl⟩)
    go_ret
    exact ⟨rfl, hbl⟩
  · rcases hr : (s.data.toList == [47]) with _ | _
    · have e : Dots.directory s.data.toList = !Dots.isOpen s.data.toList := by unfold Dots.directory; rw [hn, hr]; rfl
      rw [e]
      rw [← toList_data] at hr
      go_enter Try.func75, Try.ntmps75
      go_wp2_with (first | (go_at_call 51; refine (normal_any s _).mono ?_; rintro e w1 ⟨rfl, hbl⟩) | (go_at_call 79; refine (open_any s _ hs).mono ?_; rintro e w2 ⟨rfl, rfl⟩))
      go_ret
      exact ⟨rfl, hbl⟩
    · have e : Dots.directory s.data.toList = true := by unfold Dots.directory; rw [hn, hr]; rfl
      rw [e]
      rw [← toList_data] at hr
      go_enter Try.func75, Try.ntmps75
      go_wp2_with (first | (go_at_call 51; refine (normal_any s _).mono ?_; rintro e w1 ⟨rfl, hbl⟩) | (go_at_call 79; refine (open_any s _ hs).mono ?_; rintro e w2 ⟨rfl, rfl⟩))
      go_ret
      exact ⟨rfl, hbl⟩

theorem under_err (p d : ByteArray) (w : World) (hd : d.size ≤ maxLen) (h : (Dots.normal p.data.toList && Dots.directory d.data.toList) = false) : Calls Try.prog 66 #[.string p, .string d] w fun e w' => e = .returned (.tuple #[.bool false, .int .i64 3]) ∧ Below w.heap.size w w' := by
  rcases hn : Dots.normal p.data.toList with _ | _
  · clear h
    go_enter Try.func66, Try.ntmps66
    go_wp2_with (first | (go_at_call 51; refine (normal_any p _).mono ?_; rintro e w1 ⟨rfl, hbl⟩))
    go_ret2
    exact ⟨rfl, hbl⟩
  · rw [hn, Bool.true_and] at h
    go_enter Try.func66, Try.ntmps66
    go_wp2_with (first | (go_at_call 51; refine (normal_any p _).mono ?_; rintro e w1 ⟨rfl, hbl⟩) | (go_at_call 75; refine (directory_any d _ hd).mono ?_; rintro e w2 ⟨rfl, hbl2⟩))
    go_ret2
    exact ⟨rfl, hbl.trans (hbl2.mono hbl.size)⟩

theorem under_ok (p d : ByteArray) (w : World) (hp : p.size ≤ 100000) (hd : d.size ≤ 100000) (hn : Dots.normal p.data.toList = true) (hdir : Dots.directory d.data.toList = true) : Calls Try.prog 66 #[.string p, .string d] w fun e w' => e = .returned (.tuple #[.bool (Dots.underB p.data.toList d.data.toList), .int .i64 0]) ∧ Below w.heap.size w w' := by
  have hp' : p.size ≤ maxLen := by unfold maxLen; omega
  have hd' : (d ++ ⟨#[47]⟩ : ByteArray).size ≤ maxLen := by
    unfold maxLen
    rw [ByteArray.size_append]
    show _ + 1 ≤ _
    omega
  have hpre := fun w => hasPrefix_any p (d ++ ⟨#[47]⟩) hp' hd' w
  clear hp' hd'
  go_enter Try.func66, Try.ntmps66
  go_wp2_with (first
    | (go_at_call 51; refine (normal_any p _).mono ?_; rintro e w1 ⟨rfl, hbl⟩)
    | (go_at_call 75; refine (directory_any d _ (by unfold maxLen; omega)).mono ?_; rintro e w2 ⟨rfl, hbl2⟩)
    | (go_at_call 76; refine (hpre _).mono ?_; rintro e w3 ⟨rfl, rfl⟩))
  all_goals go_ret2
  all_goals refine ⟨ret_bool2 ?_, hbl.trans (hbl2.mono hbl.size)⟩
  all_goals unfold Dots.underB
  · have h : d.toList = [47] := by assumption
    rw [← toList_data d, h]; rfl
  · have h : p.toList = d.toList := by assumption
    rw [← toList_data d, ← toList_data p, h]; simp
  · have h1 : ¬ d.toList = [47] := by assumption
    have h2 : ¬ p.toList = d.toList := by assumption
    have e1 : (d.data.toList == [47]) = false := by rw [← toList_data]; simpa using h1
    have e2 : (p.data.toList == d.data.toList) = false := by rw [← toList_data, ← toList_data]; simpa using h2
    simp only [toList_data, e1, e2, Bool.false_or]

theorem under_any (p d : ByteArray) (w : World) (hp : p.size ≤ 100000) (hd : d.size ≤ 100000) : Calls Try.prog 66 #[.string p, .string d] w fun e w' => e = .returned (.tuple #[.bool (Dots.under p.data.toList d.data.toList).1, .int .i64 (Dots.under p.data.toList d.data.toList).2]) ∧ Below w.heap.size w w' := by
  unfold Dots.under
  rcases h : (Dots.normal p.data.toList && Dots.directory d.data.toList) with _ | _
  · exact under_err p d w (by unfold maxLen; omega) h
  · rw [Bool.and_eq_true] at h
    exact under_ok p d w hp hd h.1 h.2

end Go.Proofs.Ytajnkapnndhbaaa
