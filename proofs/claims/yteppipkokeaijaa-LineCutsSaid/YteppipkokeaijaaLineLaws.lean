/- Lines, plainly: what feeding does with bytes that are not too long, and with lines that are joined. No program. -/
import Derived.Test.YteppipkokeaijaaLinePlain
namespace Go.Proofs.Yteppipkokeaijaa.Ln
set_option linter.unusedVariables false
set_option linter.unusedSectionVars false
section
variable {lim : Nat}
/-- How long lines are: where we are in one, and the longest. -/
def scanStep (x : Nat × Nat) (b : UInt8) : Nat × Nat := if b = 10 then (0, x.2) else (x.1 + 1, max x.2 (x.1 + 1))
theorem scan_mono : ∀ (s : Bs) (a g : Nat), g ≤ (s.foldl scanStep (a, g)).2
  | [], a, g => Nat.le_refl _
  | b :: r, a, g => by
    rw [List.foldl_cons]
    unfold scanStep
    split
    · exact scan_mono r 0 g
    · exact Nat.le_trans (Nat.le_max_left _ _) (scan_mono r _ _)
theorem scan_bound : ∀ (s : Bs) (a g n : Nat), a + s.length ≤ n → g ≤ n → (s.foldl scanStep (a, g)).1 ≤ n ∧ (s.foldl scanStep (a, g)).2 ≤ n
  | [], a, g, n, h, h2 => ⟨by simpa using h, h2⟩
  | b :: r, a, g, n, h, h2 => by
    rw [List.foldl_cons]
    simp only [List.length_cons] at h
    unfold scanStep
    split
    · exact scan_bound r 0 g n (by omega) h2
    · exact scan_bound r _ _ n (by simp only []; omega) (by simp only []; omega)
theorem scanStep_lf (x : Nat × Nat) : scanStep x 10 = (0, x.2) := rfl
theorem scanStep_other (x : Nat × Nat) {b : UInt8} (h : b ≠ 10) : scanStep x b = (x.1 + 1, max x.2 (x.1 + 1)) := if_neg h
theorem feed_long : ∀ (s T : Bs) (g : Nat), T.length ≤ lim → g ≤ lim → ((feed lim T s).1.2 = decide (lim < (s.foldl scanStep (T.length, g)).2))
  | [], T, g, h, h2 => by
    symm
    show decide (lim < g) = false
    exact decide_eq_false (by omega)
  | b :: r, T, g, h, h2 => by
    unfold feed
    rw [List.foldl_cons]
    by_cases hb : b = 10
    · rw [if_pos hb, hb, scanStep_lf]
      exact feed_long r [] g (by simp) h2
    · rw [if_neg hb, scanStep_other _ hb]
      by_cases hl : T.length = lim
      · rw [if_pos hl]
        have := scan_mono r (T.length + 1) (max g (T.length + 1))
        have h3 := Nat.le_max_right g (T.length + 1)
        symm
        exact decide_eq_true (by dsimp only; omega)
      · rw [if_neg hl]
        have := feed_long r (T ++ [b]) (max g (T.length + 1)) (by simp; omega) (by simp only [Nat.max_le]; omega)
        rw [this, List.length_append]; rfl
/-- What stands ahead of each LF. -/
def back (ps : List Bs) : Bs := (ps.map (fun p => p ++ [10])).flatten
theorem back_nil : back [] = [] := rfl
theorem back_cons (p : Bs) (ps : List Bs) : back (p :: ps) = p ++ 10 :: back ps := by simp [back]
theorem back_snoc (ps : List Bs) (p : Bs) : back (ps ++ [p]) = back ps ++ (p ++ [10]) := by simp [back]
theorem feed_pieces : ∀ (s T : Bs), T.length ≤ lim → T.contains 10 = false → (feed lim T s).1.2 = false →
    ∃ ps : List Bs, T ++ s = back ps ++ (feed lim T s).1.1 ∧ (feed lim T s).2 = ps.map mk ∧ (∀ p ∈ ps, p.length ≤ lim ∧ p.contains 10 = false)
  | [], T, h, hT, hl => ⟨[], by simp [back, feed], by simp [feed], by simp⟩
  | b :: r, T, h, hT, hl => by
    unfold feed at hl ⊢
    by_cases hb : b = 10
    · rw [if_pos hb] at hl ⊢
      obtain ⟨ps, h1, h2, h3⟩ := feed_pieces r [] (by simp) rfl hl
      refine ⟨T :: ps, ?_, by simp [h2], ?_⟩
      · rw [back_cons, hb]
        simp at h1 ⊢
        exact h1
      · intro p hp
        rcases List.mem_cons.1 hp with rfl | hp
        · exact ⟨h, hT⟩
        · exact h3 p hp
    · rw [if_neg hb] at hl ⊢
      by_cases he : T.length = lim
      · rw [if_pos he] at hl; cases hl
      · rw [if_neg he] at hl ⊢
        obtain ⟨ps, h1, h2, h3⟩ := feed_pieces r (T ++ [b]) (by simp; omega) (by
          rw [List.contains_eq_any_beq] at *
          simp at hT ⊢
          exact ⟨hT, fun e => hb e.symm⟩) hl
        exact ⟨ps, by simpa using h1, h2, h3⟩
theorem feed_line : ∀ (p T r : Bs), T.length + p.length ≤ lim → p.contains 10 = false → feed lim T (p ++ 10 :: r) = ((feed lim [] r).1, mk (T ++ p) :: (feed lim [] r).2)
  | [], T, r, h, hp => by simp [feed]
  | b :: p, T, r, h, hp => by
    have hb : b ≠ 10 := by rintro rfl; simp at hp
    rw [List.cons_append]
    conv => lhs; unfold feed
    simp only [List.length_cons] at h
    rw [if_neg hb, if_neg (by omega), feed_line p (T ++ [b]) r (by simp; omega) (by simpa [Ne.symm hb] using hp)]
    simp
theorem feed_rest : ∀ (p T : Bs), T.length + p.length ≤ lim → p.contains 10 = false → feed lim T p = ((T ++ p, false), [])
  | [], T, h, hp => by simp [feed]
  | b :: p, T, h, hp => by
    have hb : b ≠ 10 := by rintro rfl; simp at hp
    conv => lhs; unfold feed
    simp only [List.length_cons] at h
    rw [if_neg hb, if_neg (by omega), feed_rest p (T ++ [b]) (by simp; omega) (by simpa [Ne.symm hb] using hp)]
    simp
theorem feed_joined (last : Bs) (hl : last.length ≤ lim) (hn : last.contains 10 = false) : ∀ (ls : List Bs), (∀ x ∈ ls, x.length + 1 ≤ lim ∧ x.contains 10 = false ∧ clean x = true) →
    feed lim [] ((ls.map (fun x => x ++ [13, 10])).flatten ++ last) = ((last, false), ls.map (fun x => (x, true)))
  | [], _ => by simp [feed_rest last [] (by simpa using hl) hn]
  | x :: ls, h => by
    obtain ⟨h1, h2, h3⟩ := h x (by simp)
    have ih := feed_joined last hl hn ls (fun y hy => h y (by simp [hy]))
    have e : ((x :: ls).map (fun x => x ++ [13, 10])).flatten ++ last = (x ++ [13]) ++ 10 :: ((ls.map (fun x => x ++ [13, 10])).flatten ++ last) := by simp
    rw [e, feed_line (x ++ [13]) [] _ (by simp; omega) (by
      rw [List.contains_eq_any_beq] at *
      simp at h2 ⊢
      exact h2), ih]
    have hm : mk ([] ++ (x ++ [13])) = (x, true) := by
      rw [List.nil_append]
      unfold mk
      rw [if_pos (by simp)]
      simp [h3]
    rw [hm]; rfl
/-- The number of lines. -/
theorem feed_count : ∀ (s T : Bs), (feed lim T s).2.length ≤ s.length
  | [], T => by simp [feed]
  | b :: r, T => by
    unfold feed
    split
    · have := feed_count r []; simp; omega
    · split
      · simp
      · have := feed_count r (T ++ [b]); simp; omega
theorem feed_lines_len : ∀ (s T : Bs) (x : Bs × Bool), T.length ≤ lim → x ∈ (feed lim T s).2 → x.1.length ≤ lim
  | [], T, x, h, hx => by simp [feed] at hx
  | b :: r, T, x, h, hx => by
    unfold feed at hx
    split at hx
    · rcases List.mem_cons.1 hx with rfl | hx
      · exact Nat.le_trans (mk_len T) h
      · exact feed_lines_len r [] x (by simp) hx
    · split at hx
      · simp at hx
      · exact feed_lines_len r _ x (by simp; omega) hx
/-- One line of what was made good: how long its text is, and what comes behind it. -/
theorem mk_next (p a b : Bs) : let s := a ++ (p ++ [10]) ++ b
    (if s[a.length + (mk p).1.length]? = some 13 then a ++ (mk p).1 ++ [13, 10] else a ++ (mk p).1 ++ [10]) = a ++ (p ++ [10]) ∧ a.length + (mk p).1.length < s.length ∧ ((mk p).2 = true → s[a.length + (mk p).1.length]? = some 13) := by
  intro s
  by_cases h : p.getLast? = some 13
  · have hm : (mk p).1 = p.dropLast := by unfold mk; rw [if_pos h]
    have hp : p.dropLast ++ [13] = p := by
      rw [List.getLast?_eq_some_iff] at h
      obtain ⟨q, rfl⟩ := h
      simp
    have hs : s[a.length + p.dropLast.length]? = some 13 := by
      show (a ++ (p ++ [10]) ++ b)[_]? = _
      rw [List.append_assoc, List.getElem?_append_right (by omega), Nat.add_sub_cancel_left]
      conv => lhs; rw [← hp]
      simp
    refine ⟨?_, ?_, fun _ => by rw [hm]; exact hs⟩
    · rw [hm, if_pos hs]
      conv => rhs; rw [← hp]
      simp
    · rw [hm]
      show _ < (a ++ (p ++ [10]) ++ b).length
      simp; omega
  · have hm : mk p = (p, false) := by unfold mk; rw [if_neg h]
    have hs : s[a.length + p.length]? = some 10 := by
      show (a ++ (p ++ [10]) ++ b)[_]? = _
      rw [List.append_assoc, List.getElem?_append_right (by omega), Nat.add_sub_cancel_left]
      simp
    rw [hm]
    refine ⟨?_, ?_, fun h => by cases h⟩
    · rw [if_neg (by rw [hs]; simp)]; simp
    · show _ < (a ++ (p ++ [10]) ++ b).length
      simp only [List.length_append, List.length_cons, List.length_nil]; omega
end
end Go.Proofs.Yteppipkokeaijaa.Ln
