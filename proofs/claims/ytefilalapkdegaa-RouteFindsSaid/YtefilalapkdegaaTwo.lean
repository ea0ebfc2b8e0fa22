/- Join and Under of the reference, Join of the program. -/
import Derived.Test.YtefilalapkdegaaRefNormal
import Derived.Test.YtefilalapkdegaaParent
namespace Go.Proofs.Ytefilalapkdegaa
open Go.RowKit Str Mem
set_option linter.unusedVariables false
set_option linter.unusedSimpArgs false

theorem prefix_slash (p d : List UInt8) : (d ++ [47]).isPrefixOf p = (decide (d.length < p.length) && (p.take d.length == d) && (p[d.length]? == some 47)) := by
  rw [Bool.eq_iff_iff, List.isPrefixOf_iff_prefix]
  simp only [Bool.and_eq_true, decide_eq_true_eq, beq_iff_eq]
  constructor
  · rintro ⟨t, rfl⟩
    simp
  · rintro ⟨⟨h1, h2⟩, h3⟩
    refine ⟨p.drop (d.length + 1), ?_⟩
    have h4 : p[d.length] = 47 := by rw [List.getElem?_eq_getElem h1] at h3; exact Option.some.inj h3
    conv => rhs; rw [← List.take_append_drop d.length p, h2, List.drop_eq_getElem_cons h1, h4]
    simp

theorem directory_normal {d : List UInt8} (h : Dots.directory d = true) : Dots.normal d = true := by unfold Dots.directory at h; simp at h; exact h.1

theorem trim_directory {d : List UInt8} (h : Dots.directory d = true) : Lib.trimSuffix d [47] = if d = [47] then [] else d := by
  unfold Dots.directory at h
  simp only [Bool.and_eq_true, Bool.or_eq_true, beq_iff_eq, Bool.not_eq_true'] at h
  by_cases e : d = [47]
  · subst e; rfl
  · rw [if_neg e]
    have ho : Dots.isOpen d = false := by rcases h.2 with h | h; exact absurd h e; exact h
    rw [← suffix_slash] at ho
    unfold Lib.trimSuffix Lib.hasSuffix
    rw [ho]
    rfl

theorem body_directory {d : List UInt8} (h : Dots.directory d = true) : Dots.body (Dots.segments d) = if d = [47] then [] else d := by
  obtain ⟨op, hk, he⟩ := Dots.normal_segments (directory_normal h)
  rw [he, Dots.directory_built hk] at h
  by_cases hn : Dots.segments d = []
  · rw [hn, Dots.built_nil] at he
    rw [hn, if_pos he]
    rfl
  · have hop : op = false := by
      simp only [Bool.and_eq_true, Bool.or_eq_true, beq_iff_eq, hn, false_or, Bool.not_eq_true'] at h
      exact h.2
    subst hop
    have hne : ¬ d = [47] := by
      intro e
      have := (Dots.built_eq_root hk false).1 (by rw [← he]; exact e)
      exact hn this
    rw [if_neg hne]
    conv => rhs; rw [he, Dots.built_false hn]

theorem join_err {d s : List UInt8} (h : (Dots.directory d && Dots.name s) = false) : Dots.join d s = ([], 3) := by unfold Dots.join; rw [h]; rfl
theorem join_ok {d s : List UInt8} (h : (Dots.directory d && Dots.name s) = true) : Dots.join d s = Dots.limited ((if d = [47] then [] else d) ++ 47 :: s) := by unfold Dots.join; rw [h]; rfl

theorem bs_add (a b : List UInt8) : (bs a ++ bs b : ByteArray) = bs (a ++ b) := eq_of_data (by rw [append_data])

set_option maxRecDepth 20000 in
set_option maxHeartbeats 1000000 in
theorem join_any (d s : ByteArray) (w : World) (hd : d.size ≤ 100000) (hs : s.size ≤ 100000) : Calls Try.prog 40 #[.string d, .string s] w fun e w' => e = .returned (.tuple #[.string (bs (Dots.join d.data.toList s.data.toList).1), .int .i64 (Dots.join d.data.toList s.data.toList).2]) ∧ Below w.heap.size w w' := by
  have q1 := fun w => directory_any d w (by unfold maxLen; omega)
  have q2 := fun w => name_any s w
  have q3 := fun w => trimSuffix_any d ⟨#[47]⟩ (by unfold maxLen; omega) (by decide) w
  rcases h : Dots.directory d.data.toList with _ | _
  · rw [join_err (by rw [h]; rfl)]
    rw [h] at q1
    clear h
    go_enter Try.func40, Try.ntmps40
    go_wp2_with (first | (go_at_call 63; refine (q1 _).mono ?_; rintro e w1 ⟨rfl, hbl⟩))
    go_ret2
    exact ⟨rfl, hbl⟩
  · rcases h2 : Dots.name s.data.toList with _ | _
    · rw [join_err (by rw [h, h2]; rfl)]
      rw [h] at q1
      rw [h2] at q2
      clear h h2
      go_enter Try.func40, Try.ntmps40
      go_wp2_with (first
        | (go_at_call 63; refine (q1 _).mono ?_; rintro e w1 ⟨rfl, hbl⟩)
        | (go_at_call 64; refine (q2 _).mono ?_; rintro e w1 ⟨rfl, rfl⟩))
      go_ret2
      exact ⟨rfl, hbl⟩
    · rw [join_ok (by rw [h, h2]; rfl)]
      rw [show (⟨#[47]⟩ : ByteArray).data.toList = [47] from rfl, trim_directory h] at q3
      rw [h] at q1
      rw [h2] at q2
      have hlen : (if d.data.toList = [47] then [] else d.data.toList).length ≤ 100000 := by
        split
        · simp
        · rw [← size_data]; exact hd
      obtain ⟨t, ht⟩ : ∃ t, t = if d.data.toList = [47] then [] else d.data.toList := ⟨_, rfl⟩
      rw [← ht] at q3 hlen ⊢
      clear h h2 ht
      have hout : (bs t ++ ⟨#[47]⟩ ++ s : ByteArray) = bs (t ++ 47 :: s.data.toList) := eq_of_data (by rw [append_data, append_data]; simp)
      have hsz : (t ++ 47 :: s.data.toList).length = t.length + 1 + s.size := by rw [List.length_append, List.length_cons, ← size_data]; omega
      have Hout := Lib.hid hout
      by_cases h128 : (t ++ 47 :: s.data.toList).length ≤ 128
      · have Hl := Lib.hid (show Dots.limited (t ++ 47 :: s.data.toList) = (t ++ 47 :: s.data.toList, 0) by unfold Dots.limited; rw [if_pos h128])
        have hs1 : (t.length : Int) + 1 + (s.size : Int) ≤ 128 := by omega
        clear h128 hsz hout
        go_enter Try.func40, Try.ntmps40
        go_wp2_with (first
          | (go_at_call 63; refine (q1 _).mono ?_; rintro e w1 ⟨rfl, hbl⟩)
          | (go_at_call 64; refine (q2 _).mono ?_; rintro e w1 ⟨rfl, rfl⟩)
          | (go_at_call 65; refine (q3 _).mono ?_; rintro e w1 ⟨rfl, rfl⟩))
        go_ret2
        exact ⟨by rw [Hl.out, ← Hout.out]; rfl, hbl⟩
      · have Hl := Lib.hid (show Dots.limited (t ++ 47 :: s.data.toList) = ([], 4) by unfold Dots.limited; rw [if_neg h128])
        have hs1 : (t.length : Int) + 1 + (s.size : Int) > 128 := by omega
        clear h128 hsz hout
        go_enter Try.func40, Try.ntmps40
        go_wp2_with (first
          | (go_at_call 63; refine (q1 _).mono ?_; rintro e w1 ⟨rfl, hbl⟩)
          | (go_at_call 64; refine (q2 _).mono ?_; rintro e w1 ⟨rfl, rfl⟩)
          | (go_at_call 65; refine (q3 _).mono ?_; rintro e w1 ⟨rfl, rfl⟩))
        go_ret2
        exact ⟨by rw [Hl.out]; rfl, hbl⟩

theorem put_join {d s : List UInt8} (h : Dots.directory d = true) : Dots.built (Dots.segments d ++ [s]) false = (if d = [47] then [] else d) ++ 47 :: s := by
  rw [Dots.built_false (by simp), Dots.body_append, body_directory h]
  simp [Dots.body]

end Go.Proofs.Ytefilalapkdegaa
