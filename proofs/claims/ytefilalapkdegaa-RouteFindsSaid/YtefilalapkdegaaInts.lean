/- A []int that reads as a list of integers. -/
import Derived.Test.YtefilalapkdegaaMem
import Derived.WalkKit
namespace Go.Proofs.Ytefilalapkdegaa.Mem
open Go.RowKit

/-- An integer as a cell. -/
def iv (n : Int) : Value := .int .i64 n
/-- A []int that reads as a list of integers. -/
def Ints (w : World) (a : Option Addr) (n : Nat) (l : List Int) : Prop := Rd w 1 a n (l.map iv)

section
variable {w w' : World} {n : Nat} {a : Option Addr} {l : List Int}
theorem Ints.length (h : Ints w a n l) : l.length = n := by have := h.len; simpa using this
theorem Ints.get (h : Ints w a n l) {k : Nat} (hk : k < n) : ∃ (ad : Addr) (s : Int), a = some ad ∧ ad.block < w.heap.size ∧ l[k]? = some s ∧ w.cell? (ad.add k) = some (.int .i64 s) := by
  obtain ⟨ad, e, hb, hc⟩ := Rd.get h (by omega)
  have hkl : k < l.length := by rw [h.length]; exact hk
  refine ⟨ad, l[k], e, hb, List.getElem?_eq_getElem hkl, hc k _ ?_⟩
  simp [iv, hkl]
theorem Ints.below (h : Ints w a n l) (hb : Below w.heap.size w w') : Ints w' a n l := Rd.below h hb
end

end Go.Proofs.Ytefilalapkdegaa.Mem
