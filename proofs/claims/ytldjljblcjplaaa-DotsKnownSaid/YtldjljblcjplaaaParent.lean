/- Parent, the program's and the reference's. -/
import Derived.Test.YtldjljblcjplaaaRefNormal
namespace Go.Proofs.Ytldjljblcjplaaa
open Go.RowKit Str Mem
set_option linter.unusedVariables false
set_option linter.unusedSimpArgs false

theorem parent_err {p : List UInt8} (h : Dots.normal p = false) : Dots.parent p = ([], 3) := by unfold Dots.parent; rw [h]; rfl
theorem parent_none {p : List UInt8} (h : Dots.normal p = true) (hs : Dots.segments p = []) : Dots.parent p = ([], 6) := by unfold Dots.parent; rw [h, if_pos rfl, if_pos hs]
theorem parent_some {p : List UInt8} {k : List (List UInt8)} {x : List UInt8} (h : Dots.normal p = true) (hs : Dots.segments p = k ++ [x]) : Dots.parent p = (Dots.built k false, 0) := by
  unfold Dots.parent
  rw [h, if_pos rfl, hs, if_neg (by simp)]
  simp

theorem segments_bound {p : List UInt8} (h : Dots.normal p = true) : (Dots.body (Dots.segments p)).length ≤ 128 ∧ (Dots.segments p).length ≤ 128 := by
  obtain ⟨op, hk, he⟩ := Dots.normal_segments h
  have h2 := (normal_small h).2
  rw [he, Dots.built_open] at h2
  have hb : (Dots.body (Dots.segments p)).length ≤ 128 := by
    split at h2
    · rw [List.length_append] at h2; omega
    · exact h2
  refine ⟨hb, Nat.le_trans ?_ hb⟩
  clear he h2 hb hk
  induction Dots.segments p with
  | nil => simp
  | cons x r ih => rw [Dots.body_cons]; simp; omega

theorem body_pre_le (k l : List (List UInt8)) : (Dots.body k).length ≤ (Dots.body (k ++ l)).length := by rw [Dots.body_append]; simp

theorem snoc_cases (l : List (List UInt8)) : l = [] ∨ ∃ k x, l = k ++ [x] := by
  rcases List.eq_nil_or_concat l with h | ⟨k, x, h⟩
  · exact .inl h
  · exact .inr ⟨k, x, by rw [h, List.concat_eq_append]⟩

theorem SlStr.snoc {w : World} {v : Value} {k : List (List UInt8)} {x : List UInt8} (h : SlStr w v (k ++ [x])) : ∃ ad c, v = .slice (some ad) (k.length + 1) c ∧ k.length + 1 ≤ c ∧ c ≤ maxLen ∧ Strs w (some ad) k.length k := by
  obtain ⟨a, c, rfl, h1, h2, h3⟩ := h
  have hll : (k ++ [x]).length = k.length + 1 := by simp
  rw [hll] at h1 h3 ⊢
  obtain ⟨ad, _, rfl, _⟩ := h3.get (k := 0) (by omega)
  refine ⟨ad, c, rfl, h1, h2, ?_⟩
  have := Rd.take h3 (k := k.length) (by omega)
  unfold Strs
  simpa using this

set_option maxHeartbeats 1000000 in
theorem parent_any (s : ByteArray) (w : World) : Calls Try.prog 22 #[.string s] w fun e w' => e = .returned (.tuple #[.string (bs (Dots.parent s.data.toList).1), .int .i64 (Dots.parent s.data.toList).2]) ∧ Below w.heap.size w w' := by
  have hno := fun w => normal_any s w
  rcases hn : Dots.normal s.data.toList with _ | _
  · rw [hn] at hno
    rw [parent_err hn]
    clear hn
    go_enter Try.func22, Try.ntmps22
    go_wp2_with (go_at_call 12; refine (hno _).mono ?_; rintro e w1 ⟨rfl, hbl⟩)
    go_ret2
    exact ⟨rfl, hbl⟩
  · rw [hn] at hno
    have hsm := normal_small hn
    rw [← size_data] at hsm
    have hsg := fun w => segments_any s w (by omega) (by omega)
    have hbd := segments_bound hn
    rcases snoc_cases (Dots.segments s.data.toList) with hs | ⟨k, x, hs⟩
    · rw [parent_none hn hs]
      rw [hs] at hsg
      clear hn hs hsm hbd
      go_enter Try.func22, Try.ntmps22
      go_wp2_with (first | (go_at_call 12; refine (hno _).mono ?_; rintro e w1 ⟨rfl, hbl⟩) | (go_at_call 44; refine (hsg _).mono ?_; rintro e w2 ⟨v, rfl, ⟨a, c, rfl, _⟩, hbl2⟩; simp only [List.length_nil]))
      go_ret2
      exact ⟨rfl, hbl.trans (hbl2.mono hbl.size)⟩
    · rw [parent_some hn hs]
      rw [hs] at hsg hbd
      have hb1 := Nat.le_trans (body_pre_le k [x]) hbd.1
      have hb2 : k.length ≤ 128 := by have := hbd.2; simp at this; omega
      clear hn hs hsm hbd
      go_enter Try.func22, Try.ntmps22
      go_wp2_with (first
        | (go_at_call 12; refine (hno _).mono ?_; rintro e w1 ⟨rfl, hbl⟩)
        | (go_at_call 44; refine (hsg _).mono ?_; rintro e w2 ⟨v, rfl, hS, hbl2⟩; obtain ⟨ad, c, rfl, hlc, hcm, hSk⟩ := SlStr.snoc hS)
        | (go_at_call 38; refine (built_any (some ad) c k false _ hSk (by omega) (by unfold maxLen; omega)).mono ?_; rintro e w3 ⟨rfl, hbl3⟩))
      go_ret2
      have g2 := hbl.trans (hbl2.mono hbl.size)
      exact ⟨rfl, g2.trans (hbl3.mono g2.size)⟩

set_option maxHeartbeats 1000000 in
theorem refParent_any (s : ByteArray) (w : World) : Calls Try.prog 23 #[.string s] w fun e w' => e = .returned (.tuple #[.string (bs (Dots.parent s.data.toList).1), .int .i64 (Dots.parent s.data.toList).2]) ∧ Below w.heap.size w w' := by
  have hsg := fun w => refSegsAny s w
  rcases hn : Dots.normal s.data.toList with _ | _
  · have hsg2 : ∀ w, Calls Try.prog 20 #[.string s] w fun e w' => e = .returned (.tuple #[.slice none 0 0, .int .i64 3]) ∧ Below w.heap.size w w' := by
      intro w
      refine (hsg w).mono ?_
      rintro e w' (⟨_, h⟩ | ⟨h, _⟩)
      · exact h
      · rw [hn] at h; cases h
    rw [parent_err hn]
    clear hn hsg
    go_enter Try.func23, Try.ntmps23
    go_wp2_with (go_at_call 20; refine (hsg2 _).mono ?_; rintro e w1 ⟨rfl, hbl⟩)
    go_ret2
    exact ⟨rfl, hbl⟩
  · have hsg2 : ∀ w, Calls Try.prog 20 #[.string s] w fun e w' => ∃ v, e = .returned (.tuple #[v, .int .i64 0]) ∧ SlStr w' v (Dots.segments s.data.toList) ∧ Below w.heap.size w w' := by
      intro w
      refine (hsg w).mono ?_
      rintro e w' (⟨h, _⟩ | ⟨_, h⟩)
      · rw [hn] at h; cases h
      · exact h
    have hbd := segments_bound hn
    rcases snoc_cases (Dots.segments s.data.toList) with hs | ⟨k, x, hs⟩
    · rw [parent_none hn hs]
      rw [hs] at hsg2
      clear hn hs hsg hbd
      go_enter Try.func23, Try.ntmps23
      go_wp2_with (first | (go_at_call 20; refine (hsg2 _).mono ?_; rintro e w2 ⟨v, rfl, ⟨a, c, rfl, _⟩, hbl2⟩; simp only [List.length_nil]))
      go_ret2
      exact ⟨rfl, hbl2⟩
    · rw [parent_some hn hs]
      rw [hs] at hsg2 hbd
      have hb1 := Nat.le_trans (body_pre_le k [x]) hbd.1
      have hb2 : k.length ≤ 128 := by have := hbd.2; simp at this; omega
      clear hn hs hsg hbd
      go_enter Try.func23, Try.ntmps23
      go_wp2_with (first
        | (go_at_call 20; refine (hsg2 _).mono ?_; rintro e w2 ⟨v, rfl, hS, hbl2⟩; obtain ⟨ad, c, rfl, hlc, hcm, hSk⟩ := SlStr.snoc hS)
        | (go_at_call 41; refine (put_any (some ad) c k false _ hSk (by unfold maxLen; omega) (by unfold maxLen; omega)).mono ?_; rintro e w3 ⟨rfl, hbl3⟩))
      go_ret2
      exact ⟨rfl, hbl2.trans (hbl3.mono hbl2.size)⟩

end Go.Proofs.Ytldjljblcjplaaa
