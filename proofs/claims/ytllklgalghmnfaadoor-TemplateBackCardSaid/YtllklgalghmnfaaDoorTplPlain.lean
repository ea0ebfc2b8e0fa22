/- Templates, plainly: one part read, the pieces of a text, parts. No program. -/
import Derived.Test.YtllklgalghmnfaaDoorDotsPlain
namespace Go.Proofs.YtllklgalghmnfaaDoor.Tp
set_option linter.unusedVariables false
set_option linter.unusedSectionVars false
abbrev Bs := List UInt8

/-! ### Parts, and one part read -/
structure Part where
  k : Int
  t : Bs
  n : Int
inductive RR where
  | ok (p : Part) (n : Nat)
  | bad (e : Int)
def dig (b : UInt8) : Bool := decide (48 ≤ b.toNat) && decide (b.toNat ≤ 57)
/-- The bytes ahead of the first closing brace. -/
def nameTo : Bs → Option Bs
  | [] => none
  | b :: r => if b = 125 then some [] else (nameTo r).map (b :: ·)
def names : List Bs := [[80, 65, 84, 72], [81, 85, 69, 82, 89], [72, 79, 83, 84], [77, 69, 84, 72, 79, 68]]
def varNo (s : Bs) : Option Nat := if s = [80, 65, 84, 72] then some 1 else if s = [81, 85, 69, 82, 89] then some 2 else if s = [72, 79, 83, 84] then some 3 else if s = [77, 69, 84, 72, 79, 68] then some 4 else none
def rdVar (r : Bs) : RR := match nameTo r with
  | none => .bad 3
  | some nm => match varNo nm with
    | some i => .ok ⟨4, [], i⟩ (nm.length + 3)
    | none => .bad 11
def rd : Bs → RR
  | [] => .bad 3
  | b :: r =>
    if b = 92 then match r with
      | x :: _ => .ok ⟨1, [x], 0⟩ 2
      | [] => .bad 3
    else if b = 36 then match r with
      | x :: _ => if dig x = true then .ok ⟨2, [], (x.toNat : Int) - 48⟩ 2 else .bad 3
      | [] => .bad 3
    else if b = 37 then match r with
      | x :: r2 => if dig x = true then .ok ⟨3, [], (x.toNat : Int) - 48⟩ 2 else if x = 123 then rdVar r2 else .bad 3
      | [] => .bad 3
    else .ok ⟨1, [b], 0⟩ 1
theorem nameTo_len : ∀ (r nm : Bs), nameTo r = some nm → nm.length + 1 ≤ r.length
  | [], nm, h => by simp [nameTo] at h
  | b :: r, nm, h => by
    unfold nameTo at h
    split at h
    · cases h; simp
    · obtain ⟨x, hx, rfl⟩ := Option.map_eq_some_iff.1 h
      have := nameTo_len r x hx
      simp; omega
theorem rd_len {r : Bs} {p : Part} {n : Nat} (h : rd r = .ok p n) : 1 ≤ n ∧ n ≤ r.length := by
  rcases r with _ | ⟨b, r⟩
  · cases h
  unfold rd at h
  dsimp only at h
  by_cases h1 : b = 92
  · rw [if_pos h1] at h
    rcases r with _ | ⟨x, r⟩
    · cases h
    · cases h; simp
  rw [if_neg h1] at h
  by_cases h2 : b = 36
  · rw [if_pos h2] at h
    rcases r with _ | ⟨x, r⟩
    · cases h
    · dsimp only at h
      by_cases hd : dig x = true
      · rw [if_pos hd] at h; cases h; simp
      · rw [if_neg hd] at h; cases h
  rw [if_neg h2] at h
  by_cases h3 : b = 37
  · rw [if_pos h3] at h
    rcases r with _ | ⟨x, r⟩
    · cases h
    · dsimp only at h
      by_cases hd : dig x = true
      · rw [if_pos hd] at h; cases h; simp
      · rw [if_neg hd] at h
        by_cases hx : x = 123
        · rw [if_pos hx] at h
          unfold rdVar at h
          rcases hn : nameTo r with _ | nm
          · rw [hn] at h; cases h
          · rw [hn] at h
            dsimp only at h
            have := nameTo_len _ _ hn
            rcases hv : varNo nm with _ | i
            · rw [hv] at h; cases h
            · rw [hv] at h; cases h; simp; omega
        · rw [if_neg hx] at h; cases h
  · rw [if_neg h3] at h; cases h; simp

/-! ### Pieces, parts -/
structure Piece where
  p : Part
  at' : Nat
  plain : Bool
def pcs : Nat → Bs → Nat → List Piece × Option (Int × Nat)
  | 0, _, _ => ([], none)
  | f + 1, [], _ => ([], none)
  | f + 1, b :: r, i => match rd (b :: r) with
    | .bad e => ([], some (e, i))
    | .ok p n => (⟨p, i, n == 1⟩ :: (pcs f ((b :: r).drop n) (i + n)).1, (pcs f ((b :: r).drop n) (i + n)).2)
theorem pcs_succ (f : Nat) (b : UInt8) (r : Bs) (i : Nat) : pcs (f + 1) (b :: r) i = match rd (b :: r) with
    | .bad e => ([], some (e, i))
    | .ok p n => (⟨p, i, n == 1⟩ :: (pcs f ((b :: r).drop n) (i + n)).1, (pcs f ((b :: r).drop n) (i + n)).2) := rfl
theorem pcs_fuel : ∀ (f g : Nat) (r : Bs) (i : Nat), r.length ≤ f → r.length ≤ g → pcs f r i = pcs g r i
  | 0, g, r, i, hf, hg => by
    have : r = [] := List.eq_nil_of_length_eq_zero (by omega)
    subst this
    cases g <;> rfl
  | f + 1, 0, r, i, hf, hg => by
    have : r = [] := List.eq_nil_of_length_eq_zero (by omega)
    subst this
    rfl
  | f + 1, g + 1, [], i, hf, hg => rfl
  | f + 1, g + 1, b :: r, i, hf, hg => by
    rw [pcs_succ, pcs_succ]
    rcases h : rd (b :: r) with ⟨p, n⟩ | e
    · have hn := rd_len h
      simp only [List.length_cons] at hf hg hn
      dsimp only
      rw [pcs_fuel f g ((b :: r).drop n) (i + n) (by simp; omega) (by simp; omega)]
    · rfl
/-- The pieces of what is left, from an offset on. -/
def pieces (r : Bs) (i : Nat) : List Piece × Option (Int × Nat) := pcs r.length r i
theorem pieces_nil (i : Nat) : pieces [] i = ([], none) := rfl
theorem pieces_bad {r : Bs} {i : Nat} {e : Int} (h0 : r ≠ []) (h : rd r = .bad e) : pieces r i = ([], some (e, i)) := by
  rcases r with _ | ⟨b, r⟩
  · exact absurd rfl h0
  show pcs (r.length + 1) (b :: r) i = _
  rw [pcs_succ, h]
theorem pieces_ok {r : Bs} {i n : Nat} {p : Part} (h : rd r = .ok p n) : pieces r i = (⟨p, i, n == 1⟩ :: (pieces (r.drop n) (i + n)).1, (pieces (r.drop n) (i + n)).2) := by
  rcases r with _ | ⟨b, r⟩
  · simp [rd] at h
  have hn := rd_len h
  show pcs (r.length + 1) (b :: r) i = (⟨p, i, n == 1⟩ :: (pcs ((b :: r).drop n).length ((b :: r).drop n) (i + n)).1, (pcs ((b :: r).drop n).length ((b :: r).drop n) (i + n)).2)
  rw [pcs_succ, h]
  simp only [List.length_cons] at hn
  dsimp only
  rw [pcs_fuel r.length ((b :: r).drop n).length ((b :: r).drop n) (i + n) (by simp; omega) (Nat.le_refl _)]
theorem pieces_count : ∀ (f : Nat) (r : Bs) (i : Nat), (pcs f r i).1.length ≤ r.length
  | 0, r, i => by simp [pcs]
  | f + 1, [], i => by simp [pcs]
  | f + 1, b :: r, i => by
    rw [pcs_succ]
    rcases h : rd (b :: r) with ⟨p, n⟩ | e
    · have hn := rd_len h
      have := pieces_count f ((b :: r).drop n) (i + n)
      simp only [List.length_cons, List.length_drop] at this hn ⊢
      omega
    · simp
def addP (L : List Part) (p : Part) : List Part := if p.k = 1 then match L.getLast? with
    | some q => if q.k = 1 then L.dropLast ++ [⟨q.k, q.t ++ p.t, q.n⟩] else L ++ [p]
    | none => L ++ [p]
  else L ++ [p]
def joinP (l : List Part) : List Part := l.foldl addP []
theorem joinP_snoc (l : List Part) (p : Part) : joinP (l ++ [p]) = addP (joinP l) p := by unfold joinP; rw [List.foldl_append]; rfl
theorem addP_len (L : List Part) (p : Part) : (addP L p).length ≤ L.length + 1 := by
  unfold addP
  split
  · split
    · split
      · simp
      · simp
    · simp
  · simp
theorem foldl_len : ∀ (l M : List Part), (l.foldl addP M).length ≤ M.length + l.length
  | [], M => by simp
  | p :: l, M => by
    have := foldl_len l (addP M p)
    have := addP_len M p
    rw [List.foldl_cons]
    simp only [List.length_cons]; omega
theorem joinP_len (l : List Part) : (joinP l).length ≤ l.length := by
  have := foldl_len l []
  simpa [joinP] using this
/-- How many bytes parts have. -/
def bytesP (L : List Part) : Nat := (L.map (fun p => p.t.length)).sum
/-- What Parse returns. -/
structure PR where
  L : List Part
  e : Int
  at' : Int
def parseR (s : Bs) : PR := if 96 < s.length then ⟨[], 4, 96⟩ else match (pieces s 0).2 with
  | some (e, i) => ⟨[], e, i⟩
  | none => ⟨joinP ((pieces s 0).1.map (·.p)), 0, 0⟩
end Go.Proofs.YtllklgalghmnfaaDoor.Tp
