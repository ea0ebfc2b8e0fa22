/- More of the mathematics of paths: segments, parents, what is under what, what two paths have in common. -/
import Derived.Test.YtefilalapkdegaaDotsPlain
namespace Go.Proofs.Ytefilalapkdegaa.Dots

theorem Names.ne {k : List Bs} (h : Names k) : ∀ x ∈ k, x ≠ [] := fun x hx => ((name_iff x).1 (h x hx)).1

theorem Names.append {k l : List Bs} (h : Names k) (h' : Names l) : Names (k ++ l) := fun x hx => by
  rcases List.mem_append.1 hx with hx | hx
  · exact h x hx
  · exact h' x hx
theorem Names.take {k : List Bs} (h : Names k) (n : Nat) : Names (k.take n) := fun x hx => h x (List.mem_of_mem_take hx)
theorem Names.dropLast {k : List Bs} (h : Names k) : Names k.dropLast := fun x hx => h x (List.dropLast_subset _ hx)

theorem segments_built {k : List Bs} (h : Names k) (op : Bool) : segments (built k op) = k := by
  unfold segments
  rw [split_built h, List.filter_append]
  have h1 : k.filter (fun s => !(s == [])) = k := List.filter_eq_self.2 (fun x hx => by simp [h.ne x hx])
  rw [h1]
  split <;> simp

theorem normal_segments {p : Bs} (h : normal p = true) : ∃ op, Names (segments p) ∧ p = built (segments p) op := by
  obtain ⟨k, op, hk, _, rfl, _⟩ := normal_form h
  exact ⟨op, by rw [segments_built hk]; exact hk, by rw [segments_built hk]⟩

theorem getLast_body : ∀ (k : List Bs), Names k → k ≠ [] → (body k).getLast? ≠ some 47
  | [], _, h => absurd rfl h
  | [x], hn, _ => by
    have hx := hn x (by simp)
    obtain ⟨h1, _, _, h4⟩ := (name_iff x).1 hx
    simp only [body, List.flatMap_cons, List.flatMap_nil, List.append_nil]
    intro e
    rw [List.getLast?_cons, Option.some.injEq] at e
    have : x.getLast? = some (x.getLast h1) := List.getLast?_eq_some_getLast h1
    rw [this] at e
    simp at e
    exact h4 (e ▸ List.getLast_mem h1)
  | x :: y :: r, hn, _ => by
    rw [body_cons]
    have ih := getLast_body (y :: r) (fun z hz => hn z (by simp [List.mem_cons.1 hz])) (by simp)
    have hne : body (y :: r) ≠ [] := by simp [body_eq_nil]
    intro e
    apply ih
    rw [← e, ← List.cons_append, List.getLast?_append, List.getLast?_eq_some_getLast hne]
    rfl

theorem isOpen_built {k : List Bs} (h : Names k) (op : Bool) : isOpen (built k op) = (op || k == []) := by
  rw [built_open]
  by_cases e : (op || k == []) = true
  · rw [if_pos e, e]; simp [isOpen]
  · rw [if_neg e]
    have hk : k ≠ [] := by intro e'; subst e'; simp at e
    have := getLast_body k h hk
    rw [Bool.not_eq_true] at e
    rw [e]
    simpa [isOpen] using this

theorem built_nil (op : Bool) : built [] op = [47] := by simp [built, body]

theorem built_eq_root {k : List Bs} (h : Names k) (op : Bool) : built k op = [47] ↔ k = [] := by
  constructor
  · intro e
    have := segments_built h op
    rw [e] at this
    rw [← this]; decide
  · rintro rfl; exact built_nil op

theorem directory_built {k : List Bs} (h : Names k) (op : Bool) : directory (built k op) = (decide ((built k op).length ≤ 128) && (k == [] || !op)) := by
  unfold directory
  rw [normal_built h, isOpen_built h]
  congr 1
  have : (built k op == [47]) = (k == []) := by rw [Bool.eq_iff_iff]; simp [built_eq_root h]
  rw [this]
  cases op <;> cases hk : (k == []) <;> simp

theorem built_false {k : List Bs} (hk : k ≠ []) : built k false = body k := by
  rw [built_open]; simp [hk]

theorem split_glue_slash (t : Bs) : ∀ (l : List Bs), Names l → l ≠ [] → split (glue l ++ 47 :: t) = l ++ split t
  | [], _, h => absurd rfl h
  | [x], h, _ => by rw [glue, split_cut x t (h.free x (by simp))]; rfl
  | x :: y :: r, h, _ => by
    rw [glue, List.append_assoc, List.cons_append, split_cut x _ (h.free x (by simp)), split_glue_slash t (y :: r) (fun z hz => h z (by simp [List.mem_cons.1 hz])) (by simp)]
    rfl

theorem segments_body_slash {l : List Bs} (h : Names l) (hl : l ≠ []) (t : Bs) : segments (body l ++ 47 :: t) = l ++ (split t).filter (fun s => !(s == [])) := by
  unfold segments
  rw [body_glue l hl]
  show (split (glue l ++ 47 :: t)).filter _ = _
  rw [split_glue_slash t l h hl, List.filter_append]
  have h1 : l.filter (fun s => !(s == [])) = l := List.filter_eq_self.2 (fun x hx => by simp [h.ne x hx])
  rw [h1]

theorem under_built {k l : List Bs} (hk : Names k) (hl : Names l) (op : Bool) : underB (built k op) (built l false) = l.isPrefixOf k := by
  rw [Bool.eq_iff_iff, List.isPrefixOf_iff_prefix]
  by_cases e : l = []
  · subst e; simp [underB, built_nil]
  · have hne : ¬ built l false = [47] := fun h => e ((built_eq_root hl false).1 h)
    unfold underB
    simp only [Bool.or_eq_true, beq_iff_eq, hne, false_or, List.isPrefixOf_iff_prefix]
    constructor
    · rintro (h | ⟨t, h⟩)
      · have := congrArg segments h
        rw [segments_built hk, segments_built hl] at this
        rw [this]; exact List.prefix_refl _
      · have h' := congrArg segments h
        rw [segments_built hk, built_false e, List.append_assoc, List.singleton_append, segments_body_slash hl e] at h'
        exact ⟨_, h'⟩
    · rintro ⟨r, rfl⟩
      rw [built_false e]
      by_cases hr : r = []
      · subst hr
        simp only [List.append_nil]
        rw [built_open]
        have : (l == []) = false := by simp [e]
        rw [this]
        cases op
        · exact .inl (by simp)
        · exact .inr ⟨[], by simp⟩
      · refine .inr ?_
        have hlr : (l ++ r == []) = false := by simp [e]
        rw [built_open, hlr, body_append, body_glue r hr]
        cases op
        · exact ⟨glue r, by simp⟩
        · exact ⟨glue r ++ [47], by simp⟩

theorem under_made {k l : List Bs} (hk : Names k) (hl : Names l) (op : Bool) (h1 : (built k op).length ≤ 128) (h2 : (built l false).length ≤ 128) :
    under (built k op) (built l false) = (l.isPrefixOf k, 0) := by
  unfold under
  rw [normal_built hk, directory_built hl, under_built hk hl]
  simp [h1, h2]

end Go.Proofs.Ytefilalapkdegaa.Dots
