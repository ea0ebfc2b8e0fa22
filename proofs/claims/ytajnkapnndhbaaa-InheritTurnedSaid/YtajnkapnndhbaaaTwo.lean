/- Join and Under of the reference, Join of the program. -/
import Derived.Test.YtajnkapnndhbaaaRefNormal
namespace Go.Proofs.Ytajnkapnndhbaaa
open Go.RowKit Str Mem
set_option linter.unusedVariables false
set_option linter.unusedSimpArgs false

theorem prefix_slash (p d : List UInt8) : (d ++ [47]).isPrefixOf p = (decide (d.length < p.length) && (p.take d.length == d) && (p[d.length]? == some 47)) := by
  rw [Bool.eq_iff_iff, List.isPrefixOf_iff_prefix]
  simp only [Bool.and_eq_true, decide_eq_true_eq, beq_iff_eq]
  constructor
  · rintro ⟨t, rfl⟩
    simp
  · rintro ⟨⟨h1, h2⟩, h3⟩
    refine ⟨p.drop (d.length + 1), ?_⟩
    have h4 : p[d.length] = 47 := by rw [List.getElem?_eq_getElem h1] at h3; exact Option.some.inj h3
    conv => rhs; rw [← List.take_append_drop d.length p, h2, List.drop_eq_getElem_cons h1, h4]
    simp

theorem refUnderB_any (p d : ByteArray) (w : World) (hp : p.size ≤ 100000) (hd : d.size ≤ 100000) : Calls Try.prog 82 #[.string p, .string d] w fun e w' => e = .returned (.bool (Dots.underB p.data.toList d.data.toList)) ∧ w = w' := by
  rcases h1 : (d.data.toList == [47]) with _ | _
  case true =>
    have e : Dots.underB p.data.toList d.data.toList = true := by unfold Dots.underB; rw [h1]; rfl
    rw [e]
    rw [← toList_data] at h1
    clear e
    go_enter Try.func82, Try.ntmps82
    go_wp2
    go_ret
    exact ⟨rfl, rfl⟩
  rcases h2 : (p.data.toList == d.data.toList) with _ | _
  case true =>
    have e : Dots.underB p.data.toList d.data.toList = true := by unfold Dots.underB; rw [h1, h2]; rfl
    rw [e]
    rw [← toList_data] at h1
    rw [← toList_data, ← toList_data] at h2
    clear e
    go_enter Try.func82, Try.ntmps82
    go_wp2
    go_ret
    exact ⟨rfl, rfl⟩
  have e : Dots.underB p.data.toList d.data.toList = (d.data.toList ++ [47]).isPrefixOf p.data.toList := by unfold Dots.underB; rw [h1, h2]; rfl
  rw [prefix_slash, ← size_data, ← size_data] at e
  rw [← toList_data] at h1
  rw [← toList_data, ← toList_data] at h2
  by_cases h3 : d.size < p.size
  case neg =>
    rw [decide_eq_false h3] at e
    rw [e]
    have h3' : ¬ (d.size : Int) < (p.size : Int) := by omega
    clear e
    go_enter Try.func82, Try.ntmps82
    go_wp2
    go_ret
    exact ⟨rfl, rfl⟩
  case pos =>
    have h3' : (d.size : Int) < (p.size : Int) := by omega
    rw [decide_eq_true h3, Bool.true_and] at e
    have hx : p.extract 0 d.size = bs (p.data.toList.take d.size) := eq_of_data (by rw [extract_to])
    rcases h4 : (p.data.toList.take d.size == d.data.toList) with _ | _
    case false =>
      rw [h4] at e
      rw [e]
      have h4' : ((p.extract 0 d.size).toList == d.toList) = false := by rw [toList_data, toList_data, extract_to]; exact h4
      clear e hx h4
      go_enter Try.func82, Try.ntmps82
      go_wp2
      go_ret
      exact ⟨rfl, rfl⟩
    case true =>
      have h4' : ((p.extract 0 d.size).toList == d.toList) = true := by rw [toList_data, toList_data, extract_to]; exact h4
      rw [h4, Bool.true_and, get_opt p d.size h3] at e
      have e' : Dots.underB p.data.toList d.data.toList = ((p[d.size].toNat : Int) == 47) := by
        rw [e, Bool.eq_iff_iff]
        simp only [beq_iff_eq, Option.some.injEq]
        constructor
        · intro e; rw [e]; rfl
        · intro e; exact UInt8.toNat_inj.1 (by simp; omega)
      rw [e']
      clear e e' hx h4
      go_enter Try.func82, Try.ntmps82
      go_wp2
      all_goals go_ret
      all_goals exact ⟨ret_bool (by simp_all), rfl⟩

theorem refUnder_any (p d : ByteArray) (w : World) (hp : p.size ≤ 100000) (hd : d.size ≤ 100000) : Calls Try.prog 77 #[.string p, .string d] w fun e w' => e = .returned (.tuple #[.bool (Dots.under p.data.toList d.data.toList).1, .int .i64 (Dots.under p.data.toList d.data.toList).2]) ∧ Below w.heap.size w w' := by
  have q1 := fun w => refNormal_any p w
  have q2 := fun w => refDirectory_any d w
  have q3 := fun w => refUnderB_any p d w hp hd
  unfold Dots.under
  rcases h : Dots.normal p.data.toList with _ | _
  · rw [h] at q1
    clear h
    go_enter Try.func77, Try.ntmps77
    go_wp2_with (first | (go_at_call 53; refine (q1 _).mono ?_; rintro e w1 ⟨rfl, hbl⟩))
    go_ret2
    exact ⟨rfl, hbl⟩
  · rw [h] at q1
    rcases h2 : Dots.directory d.data.toList with _ | _
    · rw [h2] at q2
      clear h h2
      go_enter Try.func77, Try.ntmps77
      go_wp2_with (first
        | (go_at_call 53; refine (q1 _).mono ?_; rintro e w1 ⟨rfl, hbl⟩)
        | (go_at_call 81; refine (q2 _).mono ?_; rintro e w2 ⟨rfl, hbl2⟩))
      go_ret2
      exact ⟨rfl, hbl.trans (hbl2.mono hbl.size)⟩
    · rw [h2] at q2
      clear h h2
      go_enter Try.func77, Try.ntmps77
      go_wp2_with (first
        | (go_at_call 53; refine (q1 _).mono ?_; rintro e w1 ⟨rfl, hbl⟩)
        | (go_at_call 81; refine (q2 _).mono ?_; rintro e w2 ⟨rfl, hbl2⟩)
        | (go_at_call 82; refine (q3 _).mono ?_; rintro e w3 ⟨rfl, rfl⟩))
      go_ret2
      exact ⟨rfl, hbl.trans (hbl2.mono hbl.size)⟩

theorem directory_normal {d : List UInt8} (h : Dots.directory d = true) : Dots.normal d = true := by unfold Dots.directory at h; simp at h; exact h.1

theorem trim_directory {d : List UInt8} (h : Dots.directory d = true) : Lib.trimSuffix d [47] = if d = [47] then [] else d := by
  unfold Dots.directory at h
  simp only [Bool.and_eq_true, Bool.or_eq_true, beq_iff_eq, Bool.not_eq_true'] at h
  by_cases e : d = [47]
  · subst e; rfl
  · rw [if_neg e]
    have ho : Dots.isOpen d = false := by rcases h.2 with h | h; exact absurd h e; exact h
    rw [← suffix_slash] at ho
    unfold Lib.trimSuffix Lib.hasSuffix
    rw [ho]
    rfl

theorem body_directory {d : List UInt8} (h : Dots.directory d = true) : Dots.body (Dots.segments d) = if d = [47] then [] else d := by
  obtain ⟨op, hk, he⟩ := Dots.normal_segments (directory_normal h)
  rw [he, Dots.directory_built hk] at h
  by_cases hn : Dots.segments d = []
  · rw [hn, Dots.built_nil] at he
    rw [hn, if_pos he]
    rfl
  · have hop : op = false := by
      simp only [Bool.and_eq_true, Bool.or_eq_true, beq_iff_eq, hn, false_or, Bool.not_eq_true'] at h
      exact h.2
    subst hop
    have hne : ¬ d = [47] := by
      intro e
      have := (Dots.built_eq_root hk false).1 (by rw [← he]; exact e)
      exact hn this
    rw [if_neg hne]
    conv => rhs; rw [he, Dots.built_false hn]

theorem join_err {d s : List UInt8} (h : (Dots.directory d && Dots.name s) = false) : Dots.join d s = ([], 3) := by unfold Dots.join; rw [h]; rfl
theorem join_ok {d s : List UInt8} (h : (Dots.directory d && Dots.name s) = true) : Dots.join d s = Dots.limited ((if d = [47] then [] else d) ++ 47 :: s) := by unfold Dots.join; rw [h]; rfl

theorem bs_add (a b : List UInt8) : (bs a ++ bs b : ByteArray) = bs (a ++ b) := eq_of_data (by rw [append_data])

theorem put_join {d s : List UInt8} (h : Dots.directory d = true) : Dots.built (Dots.segments d ++ [s]) false = (if d = [47] then [] else d) ++ 47 :: s := by
  rw [Dots.built_false (by simp), Dots.body_append, body_directory h]
  simp [Dots.body]

end Go.Proofs.Ytajnkapnndhbaaa
