/- Parent, the program's and the reference's. -/
import Derived.Test.YtefilalapkdegaaRefNormal
namespace Go.Proofs.Ytefilalapkdegaa
open Go.RowKit Str Mem
set_option linter.unusedVariables false
set_option linter.unusedSimpArgs false

theorem parent_err {p : List UInt8} (h : Dots.normal p = false) : Dots.parent p = ([], 3) := by unfold Dots.parent; rw [h]; rfl
theorem parent_none {p : List UInt8} (h : Dots.normal p = true) (hs : Dots.segments p = []) : Dots.parent p = ([], 6) := by unfold Dots.parent; rw [h, if_pos rfl, if_pos hs]
theorem parent_some {p : List UInt8} {k : List (List UInt8)} {x : List UInt8} (h : Dots.normal p = true) (hs : Dots.segments p = k ++ [x]) : Dots.parent p = (Dots.built k false, 0) := by
  unfold Dots.parent
  rw [h, if_pos rfl, hs, if_neg (by simp)]
  simp

theorem segments_bound {p : List UInt8} (h : Dots.normal p = true) : (Dots.body (Dots.segments p)).length ≤ 128 ∧ (Dots.segments p).length ≤ 128 := by
  obtain ⟨op, hk, he⟩ := Dots.normal_segments h
  have h2 := (normal_small h).2
  rw [he, Dots.built_open] at h2
  have hb : (Dots.body (Dots.segments p)).length ≤ 128 := by
    split at h2
    · rw [List.length_append] at h2; omega
    · exact h2
  refine ⟨hb, Nat.le_trans ?_ hb⟩
  clear he h2 hb hk
  induction Dots.segments p with
  | nil => simp
  | cons x r ih => rw [Dots.body_cons]; simp; omega

theorem body_pre_le (k l : List (List UInt8)) : (Dots.body k).length ≤ (Dots.body (k ++ l)).length := by rw [Dots.body_append]; simp

theorem snoc_cases (l : List (List UInt8)) : l = [] ∨ ∃ k x, l = k ++ [x] := by
  rcases List.eq_nil_or_concat l with h | ⟨k, x, h⟩
  · exact .inl h
  · exact .inr ⟨k, x, by rw [h, List.concat_eq_append]⟩

theorem SlStr.snoc {w : World} {v : Value} {k : List (List UInt8)} {x : List UInt8} (h : SlStr w v (k ++ [x])) : ∃ ad c, v = .slice (some ad) (k.length + 1) c ∧ k.length + 1 ≤ c ∧ c ≤ maxLen ∧ Strs w (some ad) k.length k := by
  obtain ⟨a, c, rfl, h1, h2, h3⟩ := h
  have hll : (k ++ [x]).length = k.length + 1 := by simp
  rw [hll] at h1 h3 ⊢
  obtain ⟨ad, _, rfl, _⟩ := h3.get (k := 0) (by omega)
  refine ⟨ad, c, rfl, h1, h2, ?_⟩
  have := Rd.take h3 (k := k.length) (by omega)
  unfold Strs
  simpa using this

end Go.Proofs.Ytefilalapkdegaa
