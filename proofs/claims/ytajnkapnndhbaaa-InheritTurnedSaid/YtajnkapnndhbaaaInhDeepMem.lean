/- Rules and their conditions in memory. -/
import Derived.Test.YtajnkapnndhbaaaInhDirs
namespace Go.Proofs.Ytajnkapnndhbaaa.Mem
open Go.RowKit

section
variable {α : Type} (f : α → List Value) (sz : Nat) (hf : ∀ x, (f x).length = sz)
  include hf
theorem flatM_length (L : List α) : (L.flatMap f).length = L.length * sz := by
  induction L with
  | nil => simp
  | cons a t ih => rw [List.flatMap_cons, List.length_append, ih, hf, List.length_cons, Nat.succ_mul]; omega
theorem flatM_get : ∀ (L : List α) (k j : Nat) (x : α), L[k]? = some x → j < sz → (L.flatMap f)[k * sz + j]? = (f x)[j]?
  | [], k, j, x, h, _ => by simp at h
  | a :: t, 0, j, x, h, hj => by
    simp at h; subst h
    rw [List.flatMap_cons, List.getElem?_append_left (by rw [hf]; omega)]
    simp
  | a :: t, k + 1, j, x, h, hj => by
    have := flatM_get t k j x (by simpa using h) hj
    rw [List.flatMap_cons, List.getElem?_append_right (by rw [hf, Nat.succ_mul]; omega), ← this, hf]
    congr 1
    rw [Nat.succ_mul]; omega
end

/-- A condition's five cells. -/
structure CondV where
  test : List UInt8
  no : Bool
  pat : List UInt8
  nc : Bool
  or : Bool
def CondV.cells (c : CondV) : List Value := [sv c.test, .bool c.no, sv c.pat, .bool c.nc, .bool c.or]
theorem CondV.cells_length (c : CondV) : c.cells.length = 5 := rfl

/-- A rule's fourteen cells, and its conditions. -/
structure RuleV where
  pat : List UInt8
  nc : Bool
  ca : Option Addr
  cc : Nat
  conds : List CondV
  tgt : List UInt8
  f1 : Bool
  f2 : Bool
  f3 : Bool
  f4 : Bool
  f5 : Bool
  f6 : Bool
  f7 : Bool
  f8 : Bool
  sk : Int
  rd : Int
def RuleV.list (r : RuleV) : Value := .slice r.ca r.conds.length r.cc
def RuleV.cells (r : RuleV) : List Value := [sv r.pat, .bool r.nc, r.list, sv r.tgt, .bool r.f1, .bool r.f2, .bool r.f3, .bool r.f4, .bool r.f5, .bool r.f6, .bool r.f7, .bool r.f8, .int .i64 r.sk, .int .i64 r.rd]
theorem RuleV.cells_length (r : RuleV) : r.cells.length = 14 := rfl
def RuleV.value (r : RuleV) : Value := .agg r.cells.toArray

def CondsAt (w : World) (r : RuleV) : Prop := Rd w 5 r.ca r.conds.length (r.conds.flatMap CondV.cells)
def Rules (w : World) (a : Option Addr) (n : Nat) (R : List RuleV) : Prop := Rd w 14 a n (R.flatMap RuleV.cells) ∧ ∀ r ∈ R, CondsAt w r

theorem Rules.below {w w' : World} {a : Option Addr} {n : Nat} {R : List RuleV} (h : Rules w a n R) (hb : Below w.heap.size w w') : Rules w' a n R := ⟨h.1.below hb, fun r hr => (h.2 r hr).below hb⟩
theorem Rules.length {w : World} {a : Option Addr} {n : Nat} {R : List RuleV} (h : Rules w a n R) : R.length = n := by
  have := h.1.len
  rw [flatM_length _ 14 RuleV.cells_length] at this
  omega

/-- Two rules hold the same, wherever their conditions lie. -/
def RuleV.same (r s : RuleV) : Prop := r.pat = s.pat ∧ r.nc = s.nc ∧ r.conds = s.conds ∧ r.tgt = s.tgt ∧ r.f1 = s.f1 ∧ r.f2 = s.f2 ∧ r.f3 = s.f3 ∧ r.f4 = s.f4 ∧ r.f5 = s.f5 ∧ r.f6 = s.f6 ∧ r.f7 = s.f7 ∧ r.f8 = s.f8 ∧ r.sk = s.sk ∧ r.rd = s.rd
def RuleV.at' (r : RuleV) (a : Option Addr) (c : Nat) : RuleV := { r with ca := a, cc := c }
theorem RuleV.same_at (r : RuleV) (a : Option Addr) (c : Nat) : r.same (r.at' a c) := ⟨rfl, rfl, rfl, rfl, rfl, rfl, rfl, rfl, rfl, rfl, rfl, rfl, rfl, rfl⟩
theorem RuleV.same_eq {r s : RuleV} (h : r.same s) : s = r.at' s.ca s.cc := by
  obtain ⟨h1, h2, h3, h4, h5, h6, h7, h8, h9, h10, h11, h12, h13, h14⟩ := h
  cases r; cases s
  simp only [RuleV.at'] at *
  subst h1 h2 h3 h4 h5 h6 h7 h8 h9 h10 h11 h12 h13 h14
  rfl

end Go.Proofs.Ytajnkapnndhbaaa.Mem
