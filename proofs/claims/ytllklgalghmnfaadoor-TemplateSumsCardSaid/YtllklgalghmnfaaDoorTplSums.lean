/- What parts made of numbers sum up to. -/
import Derived.Test.YtllklgalghmnfaaDoorTplMade
import Derived.Test.YtllklgalghmnfaaDoorTplRefExpand
namespace Go.Proofs.YtllklgalghmnfaaDoor
open Go.RowKit Str Mem Tp
set_option linter.unusedVariables false
set_option linter.unusedSimpArgs false
theorem oneE_text {p : Part} (h : oneE p = 0) (h1 : p.k ≠ 1) : p.t = [] := by
  unfold oneE at h
  split at h
  · cases h
  · split at h
    · cases h
    · split at h
      · cases h
      · rename_i h3
        simpa [h1] using h3

def xAt4 (x1 x2 x3 x4 : Tp.Bs) (m : Nat) : Tp.Bs := if m = 0 then x1 else if m = 1 then x2 else if m = 2 then x3 else x4
/-- What the law adds for a place: the values of that number, so often as they are used. -/
def addA (R C : List Tp.Bs) (x1 x2 x3 x4 : Tp.Bs) (L : List Part) (i : Nat) : Nat :=
  cntP 2 L (i : Int) * (R.getD i []).length + cntP 3 L (i : Int) * (C.getD i []).length + (if i < 4 then cntP 4 L (1 + (i : Int)) * (xAt4 x1 x2 x3 x4 i).length else 0)
def addTo (R C : List Tp.Bs) (x1 x2 x3 x4 : Tp.Bs) (L : List Part) : Nat → Nat
  | 0 => bytesP L
  | k + 1 => addTo R C x1 x2 x3 x4 L k + addA R C x1 x2 x3 x4 L k
theorem cnt_cons (K : Int) (p : Part) (L : List Part) (j : Int) : cntP K (p :: L) j = (if p.k = K ∧ p.n = j then 1 else 0) + cntP K L j := by
  unfold cntP
  rw [List.filter_cons]
  split
  · rename_i h; rw [if_pos (by simpa using h), List.length_cons]; omega
  · rename_i h; rw [if_neg (by simpa using h)]; omega
theorem add_cons (R C : List Tp.Bs) (x1 x2 x3 x4 : Tp.Bs) (p : Part) (L : List Part) (i : Nat) : addA R C x1 x2 x3 x4 (p :: L) i = addA R C x1 x2 x3 x4 [p] i + addA R C x1 x2 x3 x4 L i := by
  unfold addA
  rw [cnt_cons 2 p L, cnt_cons 3 p L, cnt_cons 4 p L, cnt_cons 2 p [], cnt_cons 3 p [], cnt_cons 4 p []]
  have e : ∀ K j, cntP K [] j = 0 := fun K j => rfl
  simp only [e, Nat.add_zero]
  generalize (if p.k = 2 ∧ p.n = (i : Int) then 1 else 0) = u2
  generalize (if p.k = 3 ∧ p.n = (i : Int) then 1 else 0) = u3
  generalize (if p.k = 4 ∧ p.n = 1 + (i : Int) then 1 else 0) = u4
  by_cases hi : i < 4
  · simp only [if_pos hi, Nat.add_mul]; omega
  · simp only [if_neg hi, Nat.add_mul]; omega
theorem addTo_cons (R C : List Tp.Bs) (x1 x2 x3 x4 : Tp.Bs) (p : Part) (L : List Part) : ∀ k, addTo R C x1 x2 x3 x4 (p :: L) k = addTo R C x1 x2 x3 x4 [p] k + addTo R C x1 x2 x3 x4 L k
  | 0 => by simp [addTo, bytesP]
  | k + 1 => by
    rw [addTo, addTo, addTo, addTo_cons R C x1 x2 x3 x4 p L k, add_cons R C x1 x2 x3 x4 p L k]
    omega
theorem addTo_one (R C : List Tp.Bs) (x1 x2 x3 x4 : Tp.Bs) (p : Part) (hp : oneE p = 0) : addTo R C x1 x2 x3 x4 [p] 10 = (pieceR id R C x1 x2 x3 x4 p).length := by
  have e : ∀ K j, cntP K [p] j = if p.k = K ∧ p.n = j then 1 else 0 := fun K j => by rw [cnt_cons]; rfl
  simp only [addTo, addA, e]
  by_cases h1 : p.k = 1
  · simp [h1, pieceR, bytesP]
  · have ht := oneE_text hp h1
    have hb : bytesP [p] = 0 := by simp [bytesP, ht]
    rw [hb]
    unfold oneE at hp
    split at hp
    · cases hp
    · rename_i hk
      split at hp
      · cases hp
      · rename_i hn
        rcases (by omega : p.k = 2 ∨ p.k = 3 ∨ p.k = 4) with h | h | h
        · simp only [lowR, highR, h] at hn
          simp at hn
          rcases (by omega : p.n = 0 ∨ p.n = 1 ∨ p.n = 2 ∨ p.n = 3 ∨ p.n = 4 ∨ p.n = 5 ∨ p.n = 6 ∨ p.n = 7 ∨ p.n = 8 ∨ p.n = 9) with h2 | h2 | h2 | h2 | h2 | h2 | h2 | h2 | h2 | h2 <;> simp [pieceR, valueR, h, h2]
        · simp only [lowR, highR, h] at hn
          simp at hn
          rcases (by omega : p.n = 0 ∨ p.n = 1 ∨ p.n = 2 ∨ p.n = 3 ∨ p.n = 4 ∨ p.n = 5 ∨ p.n = 6 ∨ p.n = 7 ∨ p.n = 8 ∨ p.n = 9) with h2 | h2 | h2 | h2 | h2 | h2 | h2 | h2 | h2 | h2 <;> simp [pieceR, valueR, h, h2]
        · simp only [lowR, highR, h] at hn
          simp at hn
          rcases (by omega : p.n = 1 ∨ p.n = 2 ∨ p.n = 3 ∨ p.n = 4) with h2 | h2 | h2 | h2 <;> simp [pieceR, valueR, xAt4, h, h2]
theorem addTo_sum (R C : List Tp.Bs) (x1 x2 x3 x4 : Tp.Bs) : ∀ (L : List Part), (∀ p ∈ L, oneE p = 0) → addTo R C x1 x2 x3 x4 L 10 = (sumP id R C x1 x2 x3 x4 L).length
  | [], _ => by simp [addTo, addA, sumP, cntP, bytesP]
  | p :: L, h => by
    rw [addTo_cons, addTo_one R C x1 x2 x3 x4 p (h p (by simp)), addTo_sum R C x1 x2 x3 x4 L (fun q hq => h q (by simp [hq]))]
    simp [sumP]
theorem sum_head (R C : List Tp.Bs) (x1 x2 x3 x4 : Tp.Bs) (L : List Part) (h : ∀ p ∈ L, oneE p = 0) : ∃ r, sumP id R C x1 x2 x3 x4 L = headT L ++ r := by
  rcases L with _ | ⟨p, L⟩
  · exact ⟨[], rfl⟩
  · have e : sumP id R C x1 x2 x3 x4 (p :: L) = pieceR id R C x1 x2 x3 x4 p ++ sumP id R C x1 x2 x3 x4 L := by simp [sumP]
    rw [e, show headT (p :: L) = p.t from rfl]
    by_cases h1 : p.k = 1
    · exact ⟨_, by unfold pieceR; rw [if_pos h1]⟩
    · exact ⟨pieceR id R C x1 x2 x3 x4 p ++ sumP id R C x1 x2 x3 x4 L, by rw [oneE_text (h p (by simp)) h1]; rfl⟩
theorem sum_last (R C : List Tp.Bs) (x1 x2 x3 x4 : Tp.Bs) (L : List Part) (h : ∀ p ∈ L, oneE p = 0) : ∃ r, sumP id R C x1 x2 x3 x4 L = r ++ lastT L := by
  rcases List.eq_nil_or_concat L with rfl | ⟨L, p, rfl⟩
  · exact ⟨[], rfl⟩
  · have e : sumP id R C x1 x2 x3 x4 (L ++ [p]) = sumP id R C x1 x2 x3 x4 L ++ pieceR id R C x1 x2 x3 x4 p := by simp [sumP]
    have e2 : lastT (L ++ [p]) = p.t := by unfold lastT; simp
    rw [List.concat_eq_append, e, e2]
    by_cases h1 : p.k = 1
    · exact ⟨_, by unfold pieceR; rw [if_pos h1]⟩
    · exact ⟨sumP id R C x1 x2 x3 x4 L ++ pieceR id R C x1 x2 x3 x4 p, by rw [oneE_text (h p (by simp)) h1]; simp⟩
theorem piece_short (R C : List Tp.Bs) (x1 x2 x3 x4 : Tp.Bs) (p : Part) (hp : gp p) (hv : (valueR R C x1 x2 x3 x4 p).length ≤ 10) : (pieceR id R C x1 x2 x3 x4 p).length ≤ 10 := by
  unfold pieceR
  split
  · have := hp.2.2; omega
  · exact hv
theorem sum_split (f : Tp.Bs → Tp.Bs) (R C : List Tp.Bs) (x1 x2 x3 x4 : Tp.Bs) (L : List Part) (n : Nat) : sumP f R C x1 x2 x3 x4 (L.take n) ++ sumP f R C x1 x2 x3 x4 (L.drop n) = sumP f R C x1 x2 x3 x4 L := by
  unfold sumP
  rw [← List.flatMap_append, List.take_append_drop]
theorem sum_ok (R C : List Tp.Bs) (x1 x2 x3 x4 : Tp.Bs) (L : List Part) (most : Int) (hc : checkR L = 0) (h1 : R.length ≤ 10) (h2 : C.length ≤ 10) (h3 : ((sumP id R C x1 x2 x3 x4 L).length : Int) ≤ most) (h4 : most ≤ 1024) : expandR id R C x1 x2 x3 x4 most L = (sumP id R C x1 x2 x3 x4 L, 0) := by
  rw [expandR_sum id L R C x1 x2 x3 x4 most hc (by omega) (by omega) (by omega) (by omega), if_neg (by omega)]
theorem sum_less (R C : List Tp.Bs) (x1 x2 x3 x4 : Tp.Bs) (L : List Part) (hc : checkR L = 0) (h1 : R.length ≤ 10) (h2 : C.length ≤ 10) (h3 : (sumP id R C x1 x2 x3 x4 L).length ≤ 1024) : expandR id R C x1 x2 x3 x4 (((sumP id R C x1 x2 x3 x4 L).length : Int) - 1) L = ([], if (sumP id R C x1 x2 x3 x4 L).length = 0 then 2 else 4) := by
  by_cases h0 : (sumP id R C x1 x2 x3 x4 L).length = 0
  · rw [if_pos h0, expand_out id L R C x1 x2 x3 x4 _ hc (by omega)]
  · rw [if_neg h0, expandR_sum id L R C x1 x2 x3 x4 _ hc (by omega) (by omega) (by omega) (by omega), if_pos (by omega)]
end Go.Proofs.YtllklgalghmnfaaDoor
