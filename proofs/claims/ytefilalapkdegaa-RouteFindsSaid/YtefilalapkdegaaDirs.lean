/- Directories in memory, as a list of what their three cells hold. -/
import Derived.Test.YtefilalapkdegaaOwns
import Derived.Test.YtefilalapkdegaaStrCut
namespace Go.Proofs.Ytefilalapkdegaa.Mem
open Go.RowKit

/-- What the three cells of a directory hold. -/
structure DirV where
  path : List UInt8
  mode : Int
  ra : Option Addr
  rn : Nat
  rc : Nat
namespace DirV
def rules (d : DirV) : Value := .slice d.ra d.rn d.rc
def cells (d : DirV) : List Value := [sv d.path, .int .i64 d.mode, d.rules]
end DirV

theorem flat_length (L : List DirV) : (L.flatMap DirV.cells).length = L.length * 3 := by
  induction L with
  | nil => rfl
  | cons a t ih => rw [List.flatMap_cons, List.length_append, ih]; simp [DirV.cells]; omega

theorem flat_get : ∀ (L : List DirV) (k j : Nat) (d : DirV), L[k]? = some d → j < 3 → (L.flatMap DirV.cells)[k * 3 + j]? = d.cells[j]?
  | [], k, j, d, h, _ => by simp at h
  | a :: t, 0, j, d, h, hj => by
    simp at h; subst h
    rw [List.flatMap_cons, List.getElem?_append_left (by simp [DirV.cells]; omega)]
    simp
  | a :: t, k + 1, j, d, h, hj => by
    have := flat_get t k j d (by simpa using h) hj
    rw [List.flatMap_cons, List.getElem?_append_right (by simp [DirV.cells]; omega), ← this]
    congr 1
    simp [DirV.cells]; omega

/-- A []Dir that reads as a list of directories. -/
def Dirs (w : World) (a : Option Addr) (n : Nat) (L : List DirV) : Prop := Rd w 3 a n (L.flatMap DirV.cells)

section
variable {w w' : World} {n : Nat} {a : Option Addr} {L : List DirV}
theorem Dirs.length (h : Dirs w a n L) : L.length = n := by have := h.len; rw [flat_length] at this; omega
theorem Dirs.get (h : Dirs w a n L) {k : Nat} (hk : k < n) : ∃ (ad : Addr) (d : DirV), a = some ad ∧ ad.block < w.heap.size ∧ L[k]? = some d ∧
    w.cell? (ad.add (k * 3)) = some (.string ⟨d.path.toArray⟩) ∧ w.cell? (ad.add (k * 3 + 1)) = some (.int .i64 d.mode) ∧ w.cell? (ad.add (k * 3 + 2)) = some (.slice d.ra d.rn d.rc) := by
  obtain ⟨ad, e, hb, hc⟩ := Rd.get h (by omega)
  have hkl : k < L.length := by rw [h.length]; exact hk
  have hl : L[k]? = some L[k] := List.getElem?_eq_getElem hkl
  exact ⟨ad, L[k], e, hb, hl, hc _ _ (by rw [show k * 3 = k * 3 + 0 by omega, flat_get L k 0 _ hl (by omega)]; rfl), hc _ _ (by rw [flat_get L k 1 _ hl (by omega)]; rfl), hc _ _ (by rw [flat_get L k 2 _ hl (by omega)]; rfl)⟩
theorem field_addr (a : Addr) (k j : Nat) (hj : 0 < j) : (⟨(a.add k).block, (a.add k).off + j, none⟩ : Addr) = a.add (k + j) := by
  unfold Addr.add
  rw [if_neg (show k + j ≠ 0 by omega)]
  by_cases hk : k = 0 <;> simp [hk, Nat.add_assoc]
theorem Dirs.fields (h : Dirs w a n L) {k : Nat} (hk : k < n) : ∃ (ad : Addr) (d : DirV), a = some ad ∧ ad.block < w.heap.size ∧ L[k]? = some d ∧
    w.cell? (ad.add (k * 3)) = some (.string ⟨d.path.toArray⟩) ∧ w.cell? ⟨(ad.add (k * 3)).block, (ad.add (k * 3)).off + 1, none⟩ = some (.int .i64 d.mode) ∧ w.cell? ⟨(ad.add (k * 3)).block, (ad.add (k * 3)).off + 2, none⟩ = some (.slice d.ra d.rn d.rc) := by
  obtain ⟨ad, d, e, hb, hl, c0, c1, c2⟩ := h.get hk
  exact ⟨ad, d, e, hb, hl, c0, by rw [field_addr _ _ _ (by omega)]; exact c1, by rw [field_addr _ _ _ (by omega)]; exact c2⟩
theorem Dirs.below (h : Dirs w a n L) (hb : Below w.heap.size w w') : Dirs w' a n L := Rd.below h hb
theorem Dirs.take (h : Dirs w a n L) {k : Nat} (hk : k ≤ n) : Dirs w a k (L.take k) := by
  have := Rd.take h hk
  unfold Dirs
  refine ⟨by rw [flat_length]; simp; have := h.length; omega, fun h0 => ?_⟩
  obtain ⟨ad, e, hb, hc⟩ := Rd.get h (by omega)
  refine ⟨ad, e, hb, fun j u hu => hc j u ?_⟩
  have hj : j < (L.take k).length * 3 := by have := (List.getElem?_eq_some_iff.1 hu).1; rwa [flat_length] at this
  have he : L.flatMap DirV.cells = (L.take k).flatMap DirV.cells ++ (L.drop k).flatMap DirV.cells := by rw [← List.flatMap_append, List.take_append_drop]
  rw [he, List.getElem?_append_left (by rw [flat_length]; exact hj)]
  exact hu
end

end Go.Proofs.Ytefilalapkdegaa.Mem
