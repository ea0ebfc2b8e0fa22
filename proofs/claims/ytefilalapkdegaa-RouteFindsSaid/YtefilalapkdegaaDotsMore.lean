/- The mathematics of paths and their segments, over lists of bytes: no program in sight. -/
import Derived.Below
namespace Go.Proofs.Ytefilalapkdegaa.Dots

abbrev Bs := List UInt8

/-- The strings between the slashes. -/
def split : Bs → List Bs
  | [] => [[]]
  | c :: t => if c = 47 then [] :: split t else
      match split t with
      | [] => [[c]]
      | x :: xs => (c :: x) :: xs

theorem split_ne : ∀ l, split l ≠ []
  | [] => by simp [split]
  | c :: t => by
    unfold split
    split
    · simp
    · split <;> simp

theorem split_slash (t : Bs) : split (47 :: t) = [] :: split t := by simp [split]

theorem split_other {c : UInt8} {t x : Bs} {xs : List Bs} (h : c ≠ 47) (e : split t = x :: xs) : split (c :: t) = (c :: x) :: xs := by
  simp [split, h, e]

/-- a piece without a slash, then a slash -/
theorem split_cut : ∀ (a t : Bs), 47 ∉ a → split (a ++ 47 :: t) = a :: split t
  | [], t, _ => by simp [split]
  | c :: a, t, h => by
    have hc : c ≠ 47 := fun e => h (by simp [e])
    have ih := split_cut a t (fun e => h (by simp [e]))
    rw [List.cons_append]
    exact split_other hc ih

theorem split_whole : ∀ (a : Bs), 47 ∉ a → split a = [a]
  | [], _ => by simp [split]
  | c :: a, h => by
    have hc : c ≠ 47 := fun e => h (by simp [e])
    have ih := split_whole a (fun e => h (by simp [e]))
    exact split_other hc ih

theorem split_free : ∀ (l : Bs) (x : Bs), x ∈ split l → 47 ∉ x
  | [], x, h => by simp [split] at h; subst h; simp
  | c :: t, x, h => by
    have ih := split_free t
    by_cases hc : c = 47
    · subst hc
      rw [split_slash] at h
      rcases List.mem_cons.1 h with rfl | h
      · simp
      · exact ih x h
    · rcases hs : split t with _ | ⟨y, ys⟩
      · exact absurd hs (split_ne t)
      · rw [split_other hc hs] at h
        rcases List.mem_cons.1 h with rfl | h
        · have := ih y (by rw [hs]; simp)
          intro hm
          rcases List.mem_cons.1 hm with e | e
          · exact hc e.symm
          · exact this e
        · exact ih x (by rw [hs]; simp [h])

/-- the pieces, put together again -/
def glue : List Bs → Bs
  | [] => []
  | [x] => x
  | x :: y :: r => x ++ 47 :: glue (y :: r)

theorem glue_split : ∀ (l : Bs), glue (split l) = l
  | [] => by simp [split, glue]
  | c :: t => by
    have ih := glue_split t
    rcases hs : split t with _ | ⟨y, ys⟩
    · exact absurd hs (split_ne t)
    · by_cases hc : c = 47
      · subst hc
        rw [split_slash, hs]
        rw [hs] at ih
        simp [glue, ih]
      · rw [split_other hc hs]
        rw [hs] at ih
        cases ys with
        | nil => simp [glue] at ih ⊢; exact ih
        | cons z zs => simp [glue] at ih ⊢; exact ih

theorem split_glue : ∀ (k : List Bs), k ≠ [] → (∀ x ∈ k, 47 ∉ x) → split (glue k) = k
  | [], h, _ => absurd rfl h
  | [x], _, h => by simp [glue]; exact split_whole x (h x (by simp))
  | x :: y :: r, _, h => by
    rw [glue, split_cut x _ (h x (by simp)), split_glue (y :: r) (by simp) (fun z hz => h z (by simp [List.mem_cons.1 hz]))]

/-- each piece, and whether it is the last one -/
def tag : List Bs → List (Bs × Bool)
  | [] => []
  | [x] => [(x, true)]
  | x :: y :: r => (x, false) :: tag (y :: r)

theorem tag_cons_ne (x : Bs) {l : List Bs} (h : l ≠ []) : tag (x :: l) = (x, false) :: tag l := by
  cases l with
  | nil => exact absurd rfl h
  | cons y r => rfl

theorem tag_ne {l : List Bs} (h : l ≠ []) : tag l ≠ [] := by
  match l, h with
  | [x], _ => simp [tag]
  | x :: y :: r, _ => simp [tag]

theorem tag_fst : ∀ l, (tag l).map (·.1) = l
  | [] => rfl
  | [x] => rfl
  | x :: y :: r => by simp [tag, tag_fst (y :: r)]

theorem tag_length (l : List Bs) : (tag l).length = l.length := by
  have := congrArg List.length (tag_fst l); simpa using this

theorem tag_append : ∀ (k : List Bs) (l : List Bs), l ≠ [] → tag (k ++ l) = k.map (fun x => (x, false)) ++ tag l
  | [], l, _ => rfl
  | x :: k, l, h => by
    rw [List.cons_append, tag_cons_ne x (by simp [h]), tag_append k l h]; rfl

def dotted (s : Bs) : Bool := s == [46] || s == [46, 46]

def okPiece (x : Bs × Bool) : Bool := !(dotted x.1 || (x.1 == [] && !x.2))

def rest (p : Bs) : List (Bs × Bool) := tag (split (p.drop 1))

def isPath (p : Bs) : Bool := p.head? == some 47

def normal (p : Bs) : Bool := isPath p && decide (p.length ≤ 128) && (rest p).all okPiece

/-- a name of a segment -/
def name (s : Bs) : Bool := !(s == []) && !dotted s && !(s.contains 47)

/-- One piece more: the segments that are kept, and whether the path is open; none: more .. than segments. -/
def step (st : List Bs × Bool) (x : Bs × Bool) : Option (List Bs × Bool) :=
  if x.1 = [] ∨ x.1 = [46] then some (st.1, x.2 && (x.1 == [] || dotted x.1))
  else if x.1 = [46, 46] then (if st.1 = [] then none else some (st.1.dropLast, x.2 && (x.1 == [] || dotted x.1)))
  else some (st.1 ++ [x.1], x.2 && (x.1 == [] || dotted x.1))

def steps : List (Bs × Bool) → List Bs × Bool → Option (List Bs × Bool)
  | [], st => some st
  | x :: r, st => match step st x with
    | none => none
    | some st' => steps r st'

/-- the path of segments, without its end -/
def body (l : List Bs) : Bs := l.flatMap (fun s => 47 :: s)

def built (l : List Bs) (op : Bool) : Bs := if op || body l == [] then body l ++ [47] else body l

def clean (p : Bs) : Bs × Int :=
  if isPath p then
    match steps (rest p) ([], false) with
    | none => ([], 18)
    | some (k, op) => (built k (op && !(k == [])), 0)
  else ([], 3)

def segments (p : Bs) : List Bs := (split (p.drop 1)).filter (fun s => !(s == []))

def isOpen (p : Bs) : Bool := p.getLast? == some 47
def directory (p : Bs) : Bool := normal p && (p == [47] || !isOpen p)

def underB (p d : Bs) : Bool := d == [47] || p == d || (d ++ [47]).isPrefixOf p

def under (p d : Bs) : Bool × Int := if normal p && directory d then (underB p d, 0) else (false, 3)

def parent (p : Bs) : Bs × Int :=
  if normal p then (if segments p = [] then ([], 6) else (built (segments p).dropLast false, 0)) else ([], 3)

def limited (out : Bs) : Bs × Int := if out.length ≤ 128 then (out, 0) else ([], 4)

def join (d s : Bs) : Bs × Int :=
  if directory d && name s then limited ((if d = [47] then [] else d) ++ 47 :: s) else ([], 3)

def make (l : List Bs) (op : Bool) : Bs × Int :=
  if l.all name then limited (built l (op && !(l == []))) else ([], 3)

/-- how many elements two lists begin with together -/
def same : List Bs → List Bs → Nat
  | x :: xs, y :: ys => if x = y then same xs ys + 1 else 0
  | _, _ => 0

def common (a b : Bs) : Bs × Int :=
  if normal a && normal b then (built ((segments a).take (same (segments a) (segments b))) false, 0) else ([], 3)

/-! ### Paths made of names -/
theorem name_iff (s : Bs) : name s = true ↔ s ≠ [] ∧ s ≠ [46] ∧ s ≠ [46, 46] ∧ 47 ∉ s := by
  simp [name, dotted, and_assoc]

def Names (k : List Bs) : Prop := ∀ x ∈ k, name x = true

theorem body_cons (x : Bs) (k : List Bs) : body (x :: k) = 47 :: (x ++ body k) := by simp [body]
theorem body_append (k l : List Bs) : body (k ++ l) = body k ++ body l := by simp [body]
theorem body_nil : body [] = [] := rfl
theorem body_eq_nil (k : List Bs) : body k = [] ↔ k = [] := by
  cases k with
  | nil => simp [body]
  | cons x k => simp [body]

theorem body_glue : ∀ (k : List Bs), k ≠ [] → body k = 47 :: glue k
  | [], h => absurd rfl h
  | [x], _ => by simp [body, glue]
  | x :: y :: r, _ => by
    rw [body_cons, body_glue (y :: r) (by simp), glue]

theorem built_open (k : List Bs) (op : Bool) : built k op = if op || k == [] then body k ++ [47] else body k := by
  unfold built
  have : (body k == []) = (k == []) := by rw [Bool.eq_iff_iff]; simp [body_eq_nil]
  rw [this]

theorem built_glue (k : List Bs) (op : Bool) : built k op = 47 :: glue (k ++ if op || k == [] then [[]] else []) := by
  rw [built_open]
  by_cases h : (op || k == []) = true
  · rw [if_pos h, if_pos h, ← body_glue _ (by simp), body_append]; rfl
  · rw [if_neg h, if_neg h, List.append_nil]
    refine body_glue k ?_
    intro e; subst e; simp at h

theorem Names.free {k : List Bs} (h : Names k) : ∀ x ∈ k, 47 ∉ x := fun x hx => ((name_iff x).1 (h x hx)).2.2.2

theorem split_built {k : List Bs} (h : Names k) (op : Bool) : split ((built k op).drop 1) = k ++ if op || k == [] then [[]] else [] := by
  rw [built_glue]
  show split (glue _) = _
  refine split_glue _ ?_ ?_
  · by_cases e : k = []
    · subst e; simp
    · simp [e]
  · intro x hx
    rcases List.mem_append.1 hx with hx | hx
    · exact h.free x hx
    · split at hx
      · simp at hx; subst hx; simp
      · simp at hx

theorem isPath_built (k : List Bs) (op : Bool) : isPath (built k op) = true := by
  rw [built_glue]; simp [isPath]

theorem step_name {x : Bs} (hx : name x = true) (k : List Bs) (op last : Bool) : step (k, op) (x, last) = some (k ++ [x], false) := by
  obtain ⟨h1, h2, h3, _⟩ := (name_iff x).1 hx
  simp [step, h1, h2, h3, dotted]

theorem steps_names : ∀ (l : List Bs) (_ : Names l) (k : List Bs) (op : Bool) (r : List (Bs × Bool)) (f : Bs → Bool),
    l ≠ [] → steps (l.map (fun x => (x, f x)) ++ r) (k, op) = steps r (k ++ l, false)
  | [], _, _, _, _, _, h => absurd rfl h
  | x :: l, hl, k, op, r, f, _ => by
    have hx := hl x (by simp)
    rw [List.map_cons, List.cons_append, steps, step_name hx]
    show steps (l.map _ ++ r) (k ++ [x], false) = _
    by_cases e : l = []
    · subst e; simp
    · rw [steps_names l (fun y hy => hl y (by simp [hy])) _ _ _ _ e]; simp

theorem steps_tag_names (k : List Bs) (h : Names k) (hk : k ≠ []) : steps (tag k) ([], false) = some (k, false) := by
  obtain ⟨l, x, rfl⟩ : ∃ l x, k = l ++ [x] := ⟨k.dropLast, k.getLast hk, (List.dropLast_concat_getLast hk).symm⟩
  rw [tag_append l [x] (by simp)]
  have hx := h x (by simp)
  by_cases e : l = []
  · subst e
    simp [tag, steps, step_name hx]
  · rw [steps_names l (fun y hy => h y (by simp [hy])) _ _ _ _ e]
    simp [tag, steps, step_name hx]

theorem steps_tag_open (k : List Bs) (h : Names k) : steps (tag (k ++ [[]])) ([], false) = some (k, true) := by
  rw [tag_append k [[]] (by simp)]
  by_cases e : k = []
  · subst e; simp [tag, steps, step]
  · rw [steps_names k h _ _ _ _ e]; simp [tag, steps, step]

/-- what is built of names is clean -/
theorem clean_built {k : List Bs} (h : Names k) (op : Bool) : clean (built k op) = (built k op, 0) := by
  unfold clean rest
  rw [isPath_built, split_built h]
  simp only [if_true]
  by_cases hop : (op || k == []) = true
  · rw [if_pos hop, steps_tag_open k h]
    simp only [Bool.true_and]
    congr 1
    rw [built_open, built_open, hop]
    simp
  · rw [if_neg hop, List.append_nil]
    have hk : k ≠ [] := by intro e; subst e; simp at hop
    rw [steps_tag_names k h hk]
    have : op = false := by cases op <;> simp_all
    simp [this]

theorem ok_name {x : Bs} (hx : name x = true) (b : Bool) : okPiece (x, b) = true := by
  obtain ⟨h1, h2, h3, _⟩ := (name_iff x).1 hx
  simp [okPiece, dotted, h1, h2, h3]

theorem all_tag_names : ∀ (k : List Bs), Names k → (tag k).all okPiece = true
  | [], _ => rfl
  | [x], h => by simp [tag, ok_name (h x (by simp))]
  | x :: y :: r, h => by
    have ih := all_tag_names (y :: r) (fun z hz => h z (by simp [List.mem_cons.1 hz]))
    simp only [tag, List.all_cons, ok_name (h x (by simp)), Bool.true_and]
    exact ih

theorem normal_built {k : List Bs} (h : Names k) (op : Bool) : normal (built k op) = decide ((built k op).length ≤ 128) := by
  have hall : (rest (built k op)).all okPiece = true := by
    unfold rest
    rw [split_built h]
    by_cases hop : (op || k == []) = true
    · rw [if_pos hop, tag_append k [[]] (by simp), List.all_append]
      have h1 : (tag [[]]).all okPiece = true := by decide
      rw [h1, Bool.and_true, List.all_map, List.all_eq_true]
      exact fun x hx => ok_name (h x hx) false
    · rw [if_neg hop, List.append_nil]
      exact all_tag_names k h
  unfold normal
  rw [isPath_built, hall]
  simp

/-- what a normal path is made of -/
theorem normal_form {p : Bs} (h : normal p = true) : ∃ k op, Names k ∧ (k = [] → op = true) ∧ p = built k op ∧ split (p.drop 1) = k ++ if op then [[]] else [] := by
  unfold normal at h
  simp only [Bool.and_eq_true, decide_eq_true_eq] at h
  obtain ⟨⟨hp, _⟩, hall⟩ := h
  have hp' : p = 47 :: p.drop 1 := by
    cases p with
    | nil => simp [isPath] at hp
    | cons c t => simp [isPath] at hp; subst hp; rfl
  obtain ⟨l, x, hl⟩ : ∃ l x, split (p.drop 1) = l ++ [x] := ⟨_, _, (List.dropLast_concat_getLast (split_ne _)).symm⟩
  have hfree := split_free (p.drop 1)
  unfold rest at hall
  rw [hl, tag_append l [x] (by simp), List.all_append, Bool.and_eq_true, List.all_map, List.all_eq_true] at hall
  obtain ⟨h1, h2⟩ := hall
  have hn : ∀ y ∈ l, name y = true := by
    intro y hy
    have a := h1 y hy
    simp [okPiece, dotted] at a
    refine (name_iff y).2 ⟨a.2, a.1.1, a.1.2, ?_⟩
    exact hfree y (by rw [hl]; simp [hy])
  have hx : x ≠ [46] ∧ x ≠ [46, 46] := by
    simp [tag, okPiece, dotted] at h2
    exact h2
  have hg : glue (l ++ [x]) = p.drop 1 := by rw [← hl]; exact glue_split _
  by_cases e : x = []
  · subst e
    refine ⟨l, true, hn, fun _ => rfl, ?_, by rw [hl]; simp⟩
    rw [built_glue, hp']
    simp only [Bool.true_or, if_true, hg]
  · have hnx : name x = true := (name_iff x).2 ⟨e, hx.1, hx.2, hfree x (by rw [hl]; simp)⟩
    refine ⟨l ++ [x], false, ?_, by simp, ?_, by rw [hl]; simp⟩
    · intro y hy
      rcases List.mem_append.1 hy with hy | hy
      · exact hn y hy
      · simp at hy; subst hy; exact hnx
    · rw [built_glue, hp']
      simp [hg]

theorem normal_clean {p : Bs} (h : normal p = true) : clean p = (p, 0) := by
  obtain ⟨k, op, hk, _, rfl, _⟩ := normal_form h
  exact clean_built hk op

theorem steps_kept : ∀ (r : List (Bs × Bool)) (k : List Bs) (op : Bool) (k' : List Bs) (op' : Bool), (∀ x ∈ r, 47 ∉ x.1) → Names k →
    steps r (k, op) = some (k', op') → Names k'
  | [], k, op, k', op', _, hk, h => by simp [steps] at h; rw [← h.1]; exact hk
  | x :: r, k, op, k', op', hf, hk, h => by
    rw [steps] at h
    have hf' : ∀ y ∈ r, 47 ∉ y.1 := fun y hy => hf y (by simp [hy])
    unfold step at h
    by_cases h1 : x.1 = [] ∨ x.1 = [46]
    · rw [if_pos h1] at h
      exact steps_kept r _ _ k' op' hf' hk h
    · rw [if_neg h1] at h
      by_cases h2 : x.1 = [46, 46]
      · rw [if_pos h2] at h
        by_cases h3 : k = []
        · simp [h3] at h
        · rw [if_neg h3] at h
          exact steps_kept r _ _ k' op' hf' (fun y hy => hk y (List.dropLast_subset _ hy)) h
      · rw [if_neg h2] at h
        refine steps_kept r _ _ k' op' hf' ?_ h
        intro y hy
        rcases List.mem_append.1 hy with hy | hy
        · exact hk y hy
        · simp at hy; subst hy
          exact (name_iff _).2 ⟨fun e => h1 (.inl e), fun e => h1 (.inr e), h2, hf x (by simp)⟩

theorem rest_free (p : Bs) : ∀ x ∈ rest p, 47 ∉ x.1 := by
  intro x hx
  refine split_free (p.drop 1) x.1 ?_
  rw [← tag_fst (split (p.drop 1))]
  exact List.mem_map_of_mem hx

/-- what Clean answers: an error and nothing, or a path made of names -/
theorem clean_cases (p : Bs) : (clean p = ([], 3) ∨ clean p = ([], 18)) ∨ ∃ k op, Names k ∧ clean p = (built k op, 0) := by
  unfold clean
  by_cases hp : isPath p = true
  · rw [if_pos hp]
    rcases hs : steps (rest p) ([], false) with _ | ⟨k, op⟩
    · exact .inl (.inr rfl)
    · exact .inr ⟨k, _, steps_kept _ _ _ _ _ (rest_free p) (fun _ h => by simp at h) hs, rfl⟩
  · rw [if_neg hp]; exact .inl (.inl rfl)

theorem clean_err {p : Bs} (h : (clean p).2 ≠ 0) : (clean p).1 = [] := by
  rcases clean_cases p with (e | e) | ⟨k, op, _, e⟩ <;> rw [e] at h ⊢
  exact absurd rfl h

theorem clean_ok {p : Bs} (h : (clean p).2 = 0) : clean (clean p).1 = ((clean p).1, 0) ∧ normal (clean p).1 = decide ((clean p).1.length ≤ 128) := by
  rcases clean_cases p with (e | e) | ⟨k, op, hk, e⟩ <;> rw [e] at h ⊢
  · simp at h
  · simp at h
  · exact ⟨clean_built hk op, normal_built hk op⟩

/-! ### Piece by piece, by number -/
def pieceAt (L : List Bs) (k : Nat) : Bs := L.getD k []
def lastAt (L : List Bs) (k : Nat) : Bool := decide (k + 1 = L.length)
def okAt (L : List Bs) (k : Nat) : Bool := okPiece (pieceAt L k, lastAt L k)

theorem tag_get : ∀ (L : List Bs) (k : Nat), k < L.length → (tag L)[k]? = some (pieceAt L k, lastAt L k)
  | [], k, h => by simp at h
  | [x], k, h => by
    have : k = 0 := by simp at h; omega
    subst this; simp [tag, pieceAt, lastAt]
  | x :: y :: r, 0, _ => by simp [tag, pieceAt, lastAt]
  | x :: y :: r, k + 1, h => by
    have ih := tag_get (y :: r) k (by simpa using h)
    rw [tag, List.getElem?_cons_succ, ih]
    simp [pieceAt, lastAt]

theorem all_ok {L : List Bs} (h : ∀ k, k < L.length → okAt L k = true) : (tag L).all okPiece = true := by
  rw [List.all_eq_true]
  intro x hx
  obtain ⟨k, hk, e⟩ := List.getElem_of_mem hx
  rw [tag_length] at hk
  have := tag_get L k hk
  rw [List.getElem?_eq_getElem (by rw [tag_length]; exact hk), e, Option.some.injEq] at this
  rw [this]; exact h k hk

theorem not_all_ok {L : List Bs} {k : Nat} (hk : k < L.length) (h : okAt L k = false) : (tag L).all okPiece = false := by
  rw [List.all_eq_false]
  have e := tag_get L k hk
  exact ⟨_, List.mem_of_getElem? e, by rw [show okPiece (pieceAt L k, lastAt L k) = false from h]; simp⟩

theorem normal_eq (p : Bs) (h : isPath p = true) (hl : p.length ≤ 128) : normal p = (tag (split (p.drop 1))).all okPiece := by
  unfold normal rest
  rw [h]; simp [hl]

/-- the pieces among the first k that are not empty -/
def keptOf (L : List Bs) (k : Nat) : List Bs := (L.take k).filter (fun s => !(s == []))
theorem keptOf_succ {L : List Bs} {k : Nat} (hk : k < L.length) : keptOf L (k + 1) = keptOf L k ++ [pieceAt L k].filter (fun s => !(s == [])) := by
  unfold keptOf
  rw [List.take_succ_eq_append_getElem hk, List.filter_append]
  congr 2
  simp [pieceAt, hk]
theorem keptOf_hit {L : List Bs} {k : Nat} (hk : k < L.length) (h : pieceAt L k ≠ []) : keptOf L (k + 1) = keptOf L k ++ [pieceAt L k] := by
  rw [keptOf_succ hk]; simp [h]
theorem keptOf_miss {L : List Bs} {k : Nat} (hk : k < L.length) (h : pieceAt L k = []) : keptOf L (k + 1) = keptOf L k := by
  rw [keptOf_succ hk]; simp [h]
theorem keptOf_length (L : List Bs) (k : Nat) : (keptOf L k).length ≤ k :=
  Nat.le_trans (List.length_filter_le _ _) (by rw [List.length_take]; exact Nat.min_le_left _ _)
theorem keptOf_all (L : List Bs) : keptOf L L.length = L.filter (fun s => !(s == [])) := by unfold keptOf; rw [List.take_length]
theorem split_length : ∀ (l : Bs), (split l).length ≤ l.length + 1
  | [] => by simp [split]
  | c :: t => by
    have ih := split_length t
    by_cases hc : c = 47
    · subst hc; rw [split_slash]; simp; omega
    · rcases hs : split t with _ | ⟨y, ys⟩
      · exact absurd hs (split_ne t)
      · rw [split_other hc hs]; rw [hs] at ih; simp at ih ⊢; omega

theorem steps_append : ∀ (l : List (Bs × Bool)) (x : Bs × Bool) (st : List Bs × Bool), steps (l ++ [x]) st = (steps l st).bind (fun st' => step st' x)
  | [], x, st => by
    simp only [List.nil_append, steps, Option.bind_some]
    cases step st x <;> rfl
  | y :: l, x, st => by
    rw [List.cons_append, steps, steps]
    cases step st y with
    | none => rfl
    | some st' => exact steps_append l x st'

/-- where Clean is when k pieces have come -/
def stepsTo (L : List Bs) (k : Nat) : Option (List Bs × Bool) := steps ((tag L).take k) ([], false)
theorem stepsTo_zero (L : List Bs) : stepsTo L 0 = some ([], false) := rfl
theorem stepsTo_succ {L : List Bs} {k : Nat} (hk : k < L.length) : stepsTo L (k + 1) = (stepsTo L k).bind (fun st => step st (pieceAt L k, lastAt L k)) := by
  unfold stepsTo
  have h := tag_get L k hk
  have hk' : k < (tag L).length := by rw [tag_length]; exact hk
  rw [List.take_succ_eq_append_getElem hk', steps_append]
  rw [List.getElem?_eq_getElem hk', Option.some.injEq] at h
  rw [h]
theorem stepsTo_all (L : List Bs) : stepsTo L L.length = steps (tag L) ([], false) := by
  unfold stepsTo
  rw [List.take_of_length_le (by rw [tag_length]; exact Nat.le_refl _)]
theorem steps_none : ∀ (l r : List (Bs × Bool)) (st : List Bs × Bool), steps l st = none → steps (l ++ r) st = none
  | [], r, st, h => by simp [steps] at h
  | y :: l, r, st, h => by
    rw [List.cons_append, steps]
    rw [steps] at h
    cases hy : step st y with
    | none => rfl
    | some st' => rw [hy] at h; exact steps_none l r st' h
theorem stepsTo_none {L : List Bs} {k : Nat} (h : stepsTo L k = none) : steps (tag L) ([], false) = none := by
  unfold stepsTo at h
  have := steps_none _ ((tag L).drop k) _ h
  rwa [List.take_append_drop] at this
theorem step_length {k : List Bs} {op : Bool} {x : Bs × Bool} {k' : List Bs} {op' : Bool} (h : step (k, op) x = some (k', op')) : k'.length ≤ k.length + 1 := by
  unfold step at h
  split at h
  · simp at h; rw [← h.1]; omega
  · split at h
    · split at h
      · cases h
      · simp at h; rw [← h.1]; simp; omega
    · simp at h; rw [← h.1]; simp
theorem stepsTo_length {L : List Bs} : ∀ {k : Nat} {kept : List Bs} {op : Bool}, k ≤ L.length → stepsTo L k = some (kept, op) → kept.length ≤ k
  | 0, kept, op, _, h => by rw [stepsTo_zero] at h; cases h; simp
  | k + 1, kept, op, hk, h => by
    rw [stepsTo_succ (by omega)] at h
    cases hs : stepsTo L k with
    | none => rw [hs] at h; cases h
    | some st =>
      obtain ⟨k0, op0⟩ := st
      rw [hs] at h
      have h1 := stepsTo_length (by omega) hs
      have h2 := step_length h
      omega

theorem clean_of_some {p : Bs} {kept : List Bs} {op : Bool} (h : isPath p = true) (hs : stepsTo (split (p.drop 1)) (split (p.drop 1)).length = some (kept, op)) : clean p = (built kept (op && !(kept == [])), 0) := by
  rw [stepsTo_all] at hs
  unfold clean rest
  rw [if_pos h, hs]
theorem clean_of_none {p : Bs} {k : Nat} (h : isPath p = true) (hs : stepsTo (split (p.drop 1)) k = none) : clean p = ([], 18) := by
  have := stepsTo_none hs
  unfold clean rest
  rw [if_pos h, this]

theorem step_body {k : List Bs} {op : Bool} {x : Bs × Bool} {k' : List Bs} {op' : Bool} (h : step (k, op) x = some (k', op')) : (body k').length ≤ (body k).length + x.1.length + 1 := by
  unfold step at h
  split at h
  · simp at h; rw [← h.1]; omega
  · split at h
    · split at h
      · cases h
      · simp at h
        rw [← h.1]
        have : body k = body k.dropLast ++ body (k.drop k.dropLast.length) := by
          rw [← body_append, List.length_dropLast, List.dropLast_eq_take, List.take_append_drop]
        rw [this]; simp; omega
    · simp at h; rw [← h.1, body_append]; simp [body]; omega

/-- how many bytes the first k pieces have -/
theorem stepsTo_body {L : List Bs} : ∀ {k : Nat} {kept : List Bs} {op : Bool}, k ≤ L.length → stepsTo L k = some (kept, op) → (body kept).length ≤ (body (L.take k)).length
  | 0, kept, op, _, h => by rw [stepsTo_zero] at h; cases h; simp
  | k + 1, kept, op, hk, h => by
    rw [stepsTo_succ (by omega)] at h
    cases hs : stepsTo L k with
    | none => rw [hs] at h; cases h
    | some st =>
      obtain ⟨k0, op0⟩ := st
      rw [hs] at h
      have h1 := stepsTo_body (by omega) hs
      have h2 := step_body h
      have hk' : k < L.length := hk
      rw [List.take_succ_eq_append_getElem hk', body_append]
      have : pieceAt L k = L[k] := by simp [pieceAt, hk']
      rw [this] at h2
      simp only at h2
      have hb : body [L[k]] = 47 :: L[k] := by simp [body]
      rw [List.length_append, hb, List.length_cons]
      omega

theorem body_split (l : Bs) : (body (split l)).length = l.length + 1 := by
  rw [body_glue _ (split_ne l), glue_split]; rfl

/-- What is cleaned is no longer than it was, by more than a slash. -/
theorem clean_length (p : Bs) : (clean p).1.length ≤ p.length + 1 := by
  unfold clean rest
  by_cases hp : isPath p = true
  · rw [if_pos hp]
    rcases hs : steps (tag (split (p.drop 1))) ([], false) with _ | ⟨k, op⟩
    · simp
    · rw [← stepsTo_all] at hs
      have h1 := stepsTo_body (Nat.le_refl _) hs
      rw [List.take_length, body_split] at h1
      have h2 : (built k (op && !(k == []))).length ≤ (body k).length + 1 := by
        unfold built
        split <;> simp
      have h3 : 1 ≤ p.length := by
        cases p with
        | nil => simp [isPath] at hp
        | cons c t => simp
      simp only [List.length_drop] at h1
      simp only
      omega
  · rw [if_neg hp]; simp

end Go.Proofs.Ytefilalapkdegaa.Dots
namespace Go.Proofs.Ytefilalapkdegaa.Dots

theorem Names.ne {k : List Bs} (h : Names k) : ∀ x ∈ k, x ≠ [] := fun x hx => ((name_iff x).1 (h x hx)).1

theorem Names.append {k l : List Bs} (h : Names k) (h' : Names l) : Names (k ++ l) := fun x hx => by
  rcases List.mem_append.1 hx with hx | hx
  · exact h x hx
  · exact h' x hx
theorem Names.take {k : List Bs} (h : Names k) (n : Nat) : Names (k.take n) := fun x hx => h x (List.mem_of_mem_take hx)
theorem Names.dropLast {k : List Bs} (h : Names k) : Names k.dropLast := fun x hx => h x (List.dropLast_subset _ hx)

theorem segments_built {k : List Bs} (h : Names k) (op : Bool) : segments (built k op) = k := by
  unfold segments
  rw [split_built h, List.filter_append]
  have h1 : k.filter (fun s => !(s == [])) = k := List.filter_eq_self.2 (fun x hx => by simp [h.ne x hx])
  rw [h1]
  split <;> simp

theorem normal_segments {p : Bs} (h : normal p = true) : ∃ op, Names (segments p) ∧ p = built (segments p) op := by
  obtain ⟨k, op, hk, _, rfl, _⟩ := normal_form h
  exact ⟨op, by rw [segments_built hk]; exact hk, by rw [segments_built hk]⟩

theorem getLast_body : ∀ (k : List Bs), Names k → k ≠ [] → (body k).getLast? ≠ some 47
  | [], _, h => absurd rfl h
  | [x], hn, _ => by
    have hx := hn x (by simp)
    obtain ⟨h1, _, _, h4⟩ := (name_iff x).1 hx
    simp only [body, List.flatMap_cons, List.flatMap_nil, List.append_nil]
    intro e
    rw [List.getLast?_cons, Option.some.injEq] at e
    have : x.getLast? = some (x.getLast h1) := List.getLast?_eq_some_getLast h1
    rw [this] at e
    simp at e
    exact h4 (e ▸ List.getLast_mem h1)
  | x :: y :: r, hn, _ => by
    rw [body_cons]
    have ih := getLast_body (y :: r) (fun z hz => hn z (by simp [List.mem_cons.1 hz])) (by simp)
    have hne : body (y :: r) ≠ [] := by simp [body_eq_nil]
    intro e
    apply ih
    rw [← e, ← List.cons_append, List.getLast?_append, List.getLast?_eq_some_getLast hne]
    rfl

theorem isOpen_built {k : List Bs} (h : Names k) (op : Bool) : isOpen (built k op) = (op || k == []) := by
  rw [built_open]
  by_cases e : (op || k == []) = true
  · rw [if_pos e, e]; simp [isOpen]
  · rw [if_neg e]
    have hk : k ≠ [] := by intro e'; subst e'; simp at e
    have := getLast_body k h hk
    rw [Bool.not_eq_true] at e
    rw [e]
    simpa [isOpen] using this

theorem built_nil (op : Bool) : built [] op = [47] := by simp [built, body]

theorem built_eq_root {k : List Bs} (h : Names k) (op : Bool) : built k op = [47] ↔ k = [] := by
  constructor
  · intro e
    have := segments_built h op
    rw [e] at this
    rw [← this]; decide
  · rintro rfl; exact built_nil op

theorem directory_built {k : List Bs} (h : Names k) (op : Bool) : directory (built k op) = (decide ((built k op).length ≤ 128) && (k == [] || !op)) := by
  unfold directory
  rw [normal_built h, isOpen_built h]
  congr 1
  have : (built k op == [47]) = (k == []) := by rw [Bool.eq_iff_iff]; simp [built_eq_root h]
  rw [this]
  cases op <;> cases hk : (k == []) <;> simp

theorem built_false {k : List Bs} (hk : k ≠ []) : built k false = body k := by
  rw [built_open]; simp [hk]

theorem split_glue_slash (t : Bs) : ∀ (l : List Bs), Names l → l ≠ [] → split (glue l ++ 47 :: t) = l ++ split t
  | [], _, h => absurd rfl h
  | [x], h, _ => by rw [glue, split_cut x t (h.free x (by simp))]; rfl
  | x :: y :: r, h, _ => by
    rw [glue, List.append_assoc, List.cons_append, split_cut x _ (h.free x (by simp)), split_glue_slash t (y :: r) (fun z hz => h z (by simp [List.mem_cons.1 hz])) (by simp)]
    rfl

theorem segments_body_slash {l : List Bs} (h : Names l) (hl : l ≠ []) (t : Bs) : segments (body l ++ 47 :: t) = l ++ (split t).filter (fun s => !(s == [])) := by
  unfold segments
  rw [body_glue l hl]
  show (split (glue l ++ 47 :: t)).filter _ = _
  rw [split_glue_slash t l h hl, List.filter_append]
  have h1 : l.filter (fun s => !(s == [])) = l := List.filter_eq_self.2 (fun x hx => by simp [h.ne x hx])
  rw [h1]

theorem under_built {k l : List Bs} (hk : Names k) (hl : Names l) (op : Bool) : underB (built k op) (built l false) = l.isPrefixOf k := by
  rw [Bool.eq_iff_iff, List.isPrefixOf_iff_prefix]
  by_cases e : l = []
  · subst e; simp [underB, built_nil]
  · have hne : ¬ built l false = [47] := fun h => e ((built_eq_root hl false).1 h)
    unfold underB
    simp only [Bool.or_eq_true, beq_iff_eq, hne, false_or, List.isPrefixOf_iff_prefix]
    constructor
    · rintro (h | ⟨t, h⟩)
      · have := congrArg segments h
        rw [segments_built hk, segments_built hl] at this
        rw [this]; exact List.prefix_refl _
      · have h' := congrArg segments h
        rw [segments_built hk, built_false e, List.append_assoc, List.singleton_append, segments_body_slash hl e] at h'
        exact ⟨_, h'⟩
    · rintro ⟨r, rfl⟩
      rw [built_false e]
      by_cases hr : r = []
      · subst hr
        simp only [List.append_nil]
        rw [built_open]
        have : (l == []) = false := by simp [e]
        rw [this]
        cases op
        · exact .inl (by simp)
        · exact .inr ⟨[], by simp⟩
      · refine .inr ?_
        have hlr : (l ++ r == []) = false := by simp [e]
        rw [built_open, hlr, body_append, body_glue r hr]
        cases op
        · exact ⟨glue r, by simp⟩
        · exact ⟨glue r ++ [47], by simp⟩

theorem under_made {k l : List Bs} (hk : Names k) (hl : Names l) (op : Bool) (h1 : (built k op).length ≤ 128) (h2 : (built l false).length ≤ 128) :
    under (built k op) (built l false) = (l.isPrefixOf k, 0) := by
  unfold under
  rw [normal_built hk, directory_built hl, under_built hk hl]
  simp [h1, h2]

end Go.Proofs.Ytefilalapkdegaa.Dots
