/- Routes, plainly: which are valid, what they fit, which is better, the path of values. No program. -/
import Derived.Test.YtefilalapkdegaaDotsMore
namespace Go.Proofs.Ytefilalapkdegaa.Route
set_option linter.unusedVariables false
set_option linter.unusedSectionVars false
abbrev Bs := List UInt8

/-! ### Segments and validity -/
def mid (s : Bs) : Bs := (s.drop 1).dropLast
def param (s : Bs) : Bool := decide (2 ≤ s.length) && s.head? == some 123 && s.getLast? == some 125
def alnum1 (b : UInt8) : Bool := (97 ≤ b && b ≤ 122) || (65 ≤ b && b ≤ 90) || (48 ≤ b && b ≤ 57)
def nameByte (b : UInt8) : Bool := 33 ≤ b && b ≤ 126 && !(b == 47) && !(b == 123) && !(b == 125) && !(b == 42)
def nameOk (s : Bs) : Bool := !(s == []) && !Dots.dotted s && s.all nameByte
def segOk (s : Bs) (last : Bool) : Bool := if param s then decide (1 ≤ (mid s).length) && decide ((mid s).length ≤ 16) && (mid s).all alnum1 else if s == [42] then last else nameOk s
def textByte (b : UInt8) : Bool := 32 ≤ b && b ≤ 126
def kind (s : Bs) : Nat := if s.head? = some 42 then 3 else if s.head? = some 123 then 2 else 1

def nth (l : List Bs) (i : Nat) : Bs := l.getD i []
theorem nth_get {l : List Bs} {i : Nat} {s : Bs} (h : l[i]? = some s) : nth l i = s := by unfold nth; rw [List.getD_eq_getElem?_getD, h]; rfl
theorem nth_some {l : List Bs} {i : Nat} (h : i < l.length) : l[i]? = some (nth l i) := by unfold nth; rw [List.getD_eq_getElem?_getD, List.getElem?_eq_getElem h]; rfl
def okAt (l : List Bs) (i : Nat) : Bool := segOk (nth l i) (decide (i + 1 = l.length))
def dupAt (l : List Bs) (i : Nat) : Bool := param (nth l i) && (l.take i).contains (nth l i)
def segsOk (l : List Bs) : Bool := (List.range l.length).all (okAt l)
def dups (l : List Bs) : Bool := (List.range l.length).any (dupAt l)
def tailErr (kd : Int) (t : Bs) : Int := if kd < 1 ∨ 4 < kd then 10 else if 64 < t.length then 4 else if t.all textByte = false then 3 else if kd = 3 ∧ Dots.directory t = false then 3 else 0
def err (l : List Bs) (kd : Int) (t : Bs) : Int := if 16 < l.length then 5 else if segsOk l = false then 3 else if dups l = true then 7 else tailErr kd t

section
variable {l : List Bs} {kd : Int} {t : Bs} {i : Nat}
theorem err_full (h : 16 < l.length) : err l kd t = 5 := by unfold err; rw [if_pos h]
theorem segsOk_bad (hi : i < l.length) (h : okAt l i = false) : segsOk l = false := by
  unfold segsOk; rw [List.all_eq_false]; exact ⟨i, by simpa using hi, by rw [h]; simp⟩
theorem segsOk_good (h : ∀ j, j < l.length → okAt l j = true) : segsOk l = true := by
  unfold segsOk; rw [List.all_eq_true]; exact fun j hj => h j (by simpa using hj)
theorem segsOk_at (h : segsOk l = true) (hi : i < l.length) : okAt l i = true := by
  unfold segsOk at h; rw [List.all_eq_true] at h; exact h i (by simpa using hi)
theorem dups_bad (hi : i < l.length) (h : dupAt l i = true) : dups l = true := by
  unfold dups; rw [List.any_eq_true]; exact ⟨i, by simpa using hi, h⟩
theorem dups_good (h : ∀ j, j < l.length → dupAt l j = false) : dups l = false := by
  unfold dups; rw [List.any_eq_false]; exact fun j hj => by rw [h j (by simpa using hj)]; simp
theorem err_seg (hl : l.length ≤ 16) (h : segsOk l = false) : err l kd t = 3 := by unfold err; rw [if_neg (by omega), if_pos h]
theorem err_dup (hl : l.length ≤ 16) (h : segsOk l = true) (h2 : dups l = true) : err l kd t = 7 := by unfold err; rw [if_neg (by omega), if_neg (by simp [h]), if_pos h2]
theorem err_tail (hl : l.length ≤ 16) (h : segsOk l = true) (h2 : dups l = false) : err l kd t = tailErr kd t := by unfold err; rw [if_neg (by omega), if_neg (by simp [h]), if_neg (by simp [h2])]
theorem err_ok (h : err l kd t = 0) : l.length ≤ 16 ∧ segsOk l = true ∧ dups l = false ∧ tailErr kd t = 0 := by
  unfold err at h
  split at h
  · cases h
  split at h
  · cases h
  split at h
  · cases h
  · rename_i h1 h2 h3
    exact ⟨by omega, by simpa using h2, by simpa using h3, h⟩
end

/-! ### What a valid segment is -/
theorem segOk_ne {s : Bs} {b : Bool} (h : segOk s b = true) : s ≠ [] := by
  rintro rfl
  simp [segOk, param, nameOk] at h
theorem nameOk_head {c : UInt8} {t : Bs} (h : nameOk (c :: t) = true) : nameByte c = true := by
  unfold nameOk at h
  simp at h
  exact h.2.1
theorem kind_3 {s : Bs} {b : Bool} (h : segOk s b = true) : kind s = 3 ↔ s = [42] := by
  constructor
  · intro hk
    unfold kind at hk
    have h42 : s.head? = some 42 := by
      by_cases e : s.head? = some 42
      · exact e
      · rw [if_neg e] at hk; split at hk <;> omega
    rcases s with _ | ⟨c, t⟩
    · simp at h42
    · simp at h42
      subst h42
      have hp : param (42 :: t) = false := by simp [param]
      unfold segOk at h
      rw [hp] at h
      simp only [Bool.false_eq_true, if_false] at h
      split at h
      · rename_i e; simpa using e
      · have := nameOk_head h; simp [nameByte] at this
  · rintro rfl; rfl
theorem kind_2 {s : Bs} {b : Bool} (h : segOk s b = true) : kind s = 2 ↔ param s = true := by
  constructor
  · intro hk
    unfold kind at hk
    have h123 : s.head? = some 123 := by
      by_cases e : s.head? = some 42
      · rw [if_pos e] at hk; omega
      · rw [if_neg e] at hk
        by_cases e2 : s.head? = some 123
        · exact e2
        · rw [if_neg e2] at hk; omega
    rcases hp : param s with _ | _
    · rcases s with _ | ⟨c, t⟩
      · simp at h123
      · simp at h123
        subst h123
        unfold segOk at h
        rw [hp] at h
        simp at h
        have := nameOk_head h
        simp [nameByte] at this
    · rfl
  · intro hp
    unfold param at hp
    simp at hp
    unfold kind
    rw [hp.1.2]
    simp
theorem kind_cases (s : Bs) : kind s = 1 ∨ kind s = 2 ∨ kind s = 3 := by unfold kind; split <;> (try split) <;> simp
theorem param_len {s : Bs} (h : param s = true) : 2 ≤ s.length := by unfold param at h; simp at h; exact h.1.1
theorem valid_at {l : List Bs} {kd : Int} {t : Bs} (h : err l kd t = 0) {i : Nat} (hi : i < l.length) : segOk (nth l i) (decide (i + 1 = l.length)) = true := segsOk_at (err_ok h).2.1 hi
/-- A rest is the last one. -/
theorem rest_last {l : List Bs} {kd : Int} {t : Bs} (h : err l kd t = 0) {i : Nat} (hi : i < l.length) (hk : kind (nth l i) = 3) : i + 1 = l.length := by
  have hv := valid_at h hi
  rw [(kind_3 hv).1 hk] at hv
  simpa [segOk, param] using hv

/-! ### Fits -/
/-- What stands for the rest. -/
def restOf (op : Bool) (left : List Bs) : Bs := Dots.glue left ++ if op && !(left == []) then [47] else []
def fit (op : Bool) : List Bs → List Bs → Option (List Bs × List Bs × Bs)
  | [], [] => some ([], [], [])
  | [], _ :: _ => none
  | s :: r, [] => if kind s = 3 then some ([], [], restOf op []) else none
  | s :: r, x :: t => if kind s = 3 then some ([], [], restOf op (x :: t)) else if kind s = 2 then (fit op r t).map (fun f => (mid s :: f.1, x :: f.2.1, f.2.2)) else if s = x then fit op r t else none
def comb (N V : List Bs) (o : Option (List Bs × List Bs × Bs)) : Option (List Bs × List Bs × Bs) := o.map fun f => (N ++ f.1, V ++ f.2.1, f.2.2)
theorem comb_nil (o : Option (List Bs × List Bs × Bs)) : comb [] [] o = o := by cases o <;> simp [comb]
section
variable {op : Bool} {r p N V : List Bs} {i : Nat}
theorem fit_end (hr : r.length ≤ i) (hp : p.length ≤ i) : fit op (r.drop i) (p.drop i) = some ([], [], []) := by
  rw [List.drop_eq_nil_of_le hr, List.drop_eq_nil_of_le hp]; rfl
theorem fit_long (hr : r.length ≤ i) (hp : i < p.length) : fit op (r.drop i) (p.drop i) = none := by
  rw [List.drop_eq_nil_of_le hr, List.drop_eq_getElem_cons hp]; rfl
theorem drop_nth {l : List Bs} (h : i < l.length) : l.drop i = nth l i :: l.drop (i + 1) := by
  rw [List.drop_eq_getElem_cons h]
  congr 1
  exact (nth_get (List.getElem?_eq_getElem h)).symm
theorem fit_rest (hr : i < r.length) (hk : kind (nth r i) = 3) : fit op (r.drop i) (p.drop i) = some ([], [], restOf op (p.drop i)) := by
  rw [drop_nth hr]
  rcases hd : p.drop i with _ | ⟨x, t⟩ <;> (unfold fit; rw [if_pos hk])
theorem fit_short (hr : i < r.length) (hk : kind (nth r i) ≠ 3) (hp : p.length ≤ i) : fit op (r.drop i) (p.drop i) = none := by
  rw [drop_nth hr, List.drop_eq_nil_of_le hp]
  unfold fit; rw [if_neg hk]
theorem fit_param (hr : i < r.length) (hk : kind (nth r i) = 2) (hp : i < p.length) : fit op (r.drop i) (p.drop i) = comb [mid (nth r i)] [nth p i] (fit op (r.drop (i + 1)) (p.drop (i + 1))) := by
  rw [drop_nth hr, drop_nth hp]
  conv => lhs; unfold fit
  rw [if_neg (by omega), if_pos hk]; rfl
theorem fit_name (hr : i < r.length) (hk : kind (nth r i) = 1) (hp : i < p.length) : fit op (r.drop i) (p.drop i) = if nth r i = nth p i then fit op (r.drop (i + 1)) (p.drop (i + 1)) else none := by
  rw [drop_nth hr, drop_nth hp]
  conv => lhs; unfold fit
  rw [if_neg (by omega), if_neg (by omega)]
theorem comb_comb (n v : Bs) (o : Option (List Bs × List Bs × Bs)) : comb N V (comb [n] [v] o) = comb (N ++ [n]) (V ++ [v]) o := by
  cases o <;> simp [comb]
end

/-! ### Which is better -/
def place : Option Bs → Nat
  | some s => if kind s = 3 then 4 else kind s
  | none => 3
def sign (x y : Nat) : Int := if x < y then -1 else if y < x then 1 else 0
def diffTo (a b : List Bs) : Nat → Int
  | 0 => 0
  | k + 1 => if diffTo a b k = 0 then sign (place a[k]?) (place b[k]?) else diffTo a b k
def better (a b : List Bs) : Int := diffTo a b (max a.length b.length)
theorem diffTo_succ {a b : List Bs} {k : Nat} (h : diffTo a b k = 0) : diffTo a b (k + 1) = sign (place a[k]?) (place b[k]?) := by rw [diffTo, if_pos h]
theorem diffTo_stays {a b : List Bs} {k : Nat} (h : diffTo a b k ≠ 0) : ∀ m, k ≤ m → diffTo a b m = diffTo a b k := by
  intro m hm
  induction m with
  | zero => rw [show k = 0 by omega]
  | succ m ih =>
    rcases Nat.lt_or_ge k (m + 1) with h1 | h1
    · rw [diffTo, ih (by omega), if_neg h]
    · rw [show k = m + 1 by omega]
theorem sign_lt {x y : Nat} (h : x < y) : sign x y = -1 := by unfold sign; rw [if_pos h]
theorem sign_gt {x y : Nat} (h : y < x) : sign x y = 1 := by unfold sign; rw [if_neg (by omega), if_pos h]
theorem sign_eq (x : Nat) : sign x x = 0 := by unfold sign; simp
theorem better_at {a b : List Bs} {k : Nat} {v : Int} (hk : k < max a.length b.length) (h0 : diffTo a b k = 0) (h : sign (place a[k]?) (place b[k]?) = v) (hv : v ≠ 0) : better a b = v := by
  have h1 : diffTo a b (k + 1) = v := by rw [diffTo_succ h0, h]
  unfold better
  rw [diffTo_stays (k := k + 1) (by rw [h1]; exact hv) _ (by omega), h1]
theorem place_none {a : List Bs} {k : Nat} (h : a.length ≤ k) : place a[k]? = 3 := by rw [List.getElem?_eq_none h]; rfl
theorem place_some {a : List Bs} {k : Nat} (h : k < a.length) : place a[k]? = if kind (nth a k) = 3 then 4 else kind (nth a k) := by rw [nth_some h]; rfl

/-! ### Whether a path fits both -/
def bothAt (a b : List Bs) (i : Nat) : Option Bool :=
  if place a[i]? = 4 ∨ place b[i]? = 4 then some true
  else if place a[i]? = 3 ∨ place b[i]? = 3 then some (decide (place a[i]? = place b[i]?))
  else if place a[i]? = 1 ∧ place b[i]? = 1 ∧ nth a i ≠ nth b i then some false else none
def bothTo (a b : List Bs) : Nat → Option Bool
  | 0 => none
  | k + 1 => match bothTo a b k with | some v => some v | none => bothAt a b k
def both (a b : List Bs) : Bool := (bothTo a b (a.length + 1)).getD false
theorem bothTo_succ {a b : List Bs} {k : Nat} (h : bothTo a b k = none) : bothTo a b (k + 1) = bothAt a b k := by rw [bothTo, h]
theorem bothTo_stays {a b : List Bs} {k : Nat} {v : Bool} (h : bothTo a b k = some v) : ∀ m, k ≤ m → bothTo a b m = some v := by
  intro m hm
  induction m with
  | zero => rw [← h, show k = 0 by omega]
  | succ m ih =>
    rcases Nat.lt_or_ge k (m + 1) with h1 | h1
    · rw [bothTo, ih (by omega)]
    · rw [← h, show k = m + 1 by omega]
theorem both_at {a b : List Bs} {k : Nat} {v : Bool} (h : bothTo a b k = none) (hk : k ≤ a.length) (hv : bothAt a b k = some v) : both a b = v := by
  unfold both
  rw [bothTo_stays (k := k + 1) (by rw [bothTo_succ h, hv]) _ (by omega)]; rfl
theorem bothAt_end {a b : List Bs} {k : Nat} (h : a.length ≤ k) : ∃ v, bothAt a b k = some v := by
  unfold bothAt
  rw [place_none h]
  split
  · exact ⟨_, rfl⟩
  · rw [if_pos (.inl rfl)]; exact ⟨_, rfl⟩
def betterR (ea eb : Int) (a b : List Bs) : Int × Int := if ea ≠ 0 then (0, ea) else if eb ≠ 0 then (0, eb) else if both a b = false then (0, 3) else (better a b, 0)

/-! ### The path of values -/
def pstep (vals : List Bs) (st : List Bs × Nat × Bool) (s : Bs) : List Bs × Nat × Bool :=
  if kind s = 1 then (st.1 ++ [s], st.2.1, st.2.2) else if kind s = 2 then (if st.2.1 < vals.length then st.1 ++ [nth vals st.2.1] else st.1, st.2.1 + 1, st.2.2) else (st.1, st.2.1, true)
def psteps (vals l : List Bs) (k : Nat) : List Bs × Nat × Bool := (l.take k).foldl (pstep vals) ([], 0, false)
theorem psteps_succ {vals l : List Bs} {k : Nat} (h : k < l.length) : psteps vals l (k + 1) = pstep vals (psteps vals l k) (nth l k) := by
  unfold psteps
  rw [← List.take_append_getElem h, List.foldl_append]
  rw [show l[k] = nth l k from (nth_get (List.getElem?_eq_getElem h)).symm]
  rfl
def allNames (vals : List Bs) : Bool := vals.all Dots.name
def pathEnd (p : Bs) : Bs × Int := if 128 < p.length then ([], 4) else if Dots.normal p = false then ([], 18) else (p, 0)
def pathR (e : Int) (l vals : List Bs) (tl : Bs) : Bs × Int :=
  if e ≠ 0 then ([], e) else
  if (psteps vals l l.length).2.1 ≠ vals.length then ([], 6) else
  if allNames vals = false then ([], 3) else
  if tl ≠ [] ∧ (psteps vals l l.length).2.2 = false then ([], 3) else
  pathEnd (Dots.built ((psteps vals l l.length).1 ++ if tl = [] then [] else [tl]) false)
theorem psteps_len (vals l : List Bs) : ∀ k, k ≤ l.length → (psteps vals l k).1.length ≤ k ∧ (psteps vals l k).2.1 ≤ k
  | 0, _ => by simp [psteps]
  | k + 1, h => by
    have := psteps_len vals l k (by omega)
    rw [psteps_succ (by omega)]
    unfold pstep
    split
    · simp; omega
    · split
      · split <;> simp <;> omega
      · simp; omega

end Go.Proofs.Ytefilalapkdegaa.Route
namespace Go.Proofs.Ytefilalapkdegaa.Route
set_option linter.unusedVariables false
set_option linter.unusedSectionVars false

section
variable {α : Type} (lt : α → α → Bool)
def insRev (e : α) : List α → List α
  | [] => [e]
  | x :: t => if lt e x then x :: insRev e t else e :: x :: t
def insR (out : List α) (e : α) : List α := (insRev lt e out.reverse).reverse
def sorted (F : List α) : List α := F.foldl (insR lt) []
theorem insRev_length (e : α) : ∀ l : List α, (insRev lt e l).length = l.length + 1
  | [] => rfl
  | x :: t => by unfold insRev; split <;> simp [insRev_length e t]
theorem insR_length (out : List α) (e : α) : (insR lt out e).length = out.length + 1 := by unfold insR; rw [List.length_reverse, insRev_length, List.length_reverse]
theorem insRev_append (e : α) : ∀ (a b : List α), (∀ x ∈ a, lt e x = true) → insRev lt e (a ++ b) = a ++ insRev lt e b
  | [], b, _ => rfl
  | x :: t, b, h => by
    rw [List.cons_append, insRev, if_pos (h x (by simp)), insRev_append e t b fun y hy => h y (by simp [hy])]; rfl
/-- Where it is put. -/
theorem insR_at {out : List α} {e : α} {k : Nat} (hk : k ≤ out.length) (h1 : ∀ x ∈ out.drop k, lt e x = true) (h2 : k = 0 ∨ ∃ x, out[k - 1]? = some x ∧ lt e x = false) : insR lt out e = out.take k ++ e :: out.drop k := by
  have e0 : out.reverse = (out.drop k).reverse ++ (out.take k).reverse := by rw [← List.reverse_append, List.take_append_drop]
  unfold insR
  rw [e0, insRev_append lt e _ _ fun x hx => h1 x (by simpa using hx), List.reverse_append, List.reverse_reverse]
  have e1 : insRev lt e (out.take k).reverse = e :: (out.take k).reverse := by
    rcases Nat.eq_zero_or_pos k with rfl | hp
    · simp [insRev]
    · rcases h2 with rfl | ⟨x, hx, hl⟩
      · omega
      · have : out.take k = out.take (k - 1) ++ [x] := by
          obtain ⟨hx1, hx2⟩ := List.getElem?_eq_some_iff.1 hx
          conv => lhs; rw [show k = k - 1 + 1 by omega]
          rw [← List.take_append_getElem hx1, hx2]
        rw [this, List.reverse_append]
        simp [insRev, hl]
  rw [e1, List.reverse_cons, List.reverse_reverse]
  simp
theorem sorted_length (F : List α) : (sorted lt F).length = F.length := by
  unfold sorted
  suffices h : ∀ (F : List α) (o : List α), (F.foldl (insR lt) o).length = o.length + F.length by have := h F []; simpa using this
  intro F
  induction F with
  | nil => intro o; simp
  | cons a t ih => intro o; rw [List.foldl_cons, ih, insR_length]; simp; omega
theorem sorted_snoc (F : List α) (e : α) : sorted lt (F ++ [e]) = insR lt (sorted lt F) e := by unfold sorted; rw [List.foldl_append]; rfl
theorem insRev_mem (e : α) : ∀ (l : List α) (x : α), x ∈ insRev lt e l ↔ x = e ∨ x ∈ l
  | [], x => by simp [insRev]
  | y :: t, x => by
    unfold insRev
    split
    · rw [List.mem_cons, insRev_mem e t x, List.mem_cons]
      constructor
      · rintro (h | h | h) <;> simp [h]
      · rintro (h | h | h) <;> simp [h]
    · simp
theorem insR_mem (out : List α) (e x : α) : x ∈ insR lt out e ↔ x = e ∨ x ∈ out := by unfold insR; rw [List.mem_reverse, insRev_mem, List.mem_reverse]
theorem sorted_mem (F : List α) (x : α) : x ∈ sorted lt F ↔ x ∈ F := by
  unfold sorted
  suffices h : ∀ (F : List α) (o : List α), x ∈ F.foldl (insR lt) o ↔ x ∈ o ∨ x ∈ F by have := h F []; simpa using this
  intro F
  induction F with
  | nil => intro o; simp
  | cons a t ih =>
    intro o
    rw [List.foldl_cons, ih, insR_mem, List.mem_cons]
    constructor
    · rintro ((h | h) | h) <;> simp [h]
    · rintro (h | h | h) <;> simp [h]
end
end Go.Proofs.Ytefilalapkdegaa.Route
