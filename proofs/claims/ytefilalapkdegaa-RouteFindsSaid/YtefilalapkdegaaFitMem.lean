/- Memory for a struct that the call fills field by field, with own rows beside it; one step of a drawn region where two may come up. -/
import Derived.Test.YtefilalapkdegaaOwnsMore
import Derived.Test.YtefilalapkdegaaReg
namespace Go.Proofs.Ytefilalapkdegaa.Mem
open Go.RowKit
set_option linter.unusedVariables false
set_option linter.unusedSectionVars false

/-- Nothing that lay in u has turned but block D. -/
structure Kp (D : Nat) (u w : World) : Prop where
  size : u.heap.size ≤ w.heap.size
  block : ∀ j, j < u.heap.size → j ≠ D → w.heap[j]? = u.heap[j]?

section
variable {D : Nat} {u w w' : World} {sz n : Nat} {a : Option Addr} {cs : List Value}
theorem Kp.refl (D : Nat) (u : World) : Kp D u u := ⟨Nat.le_refl _, fun _ _ _ => rfl⟩
theorem Kp.drewN (h : Kp D u w) (k : Nat) : Kp D u (w.drewN k) := ⟨h.size, h.block⟩
theorem Kp.drew (h : Kp D u w) : Kp D u w.drew := ⟨h.size, h.block⟩
theorem Kp.setD (h : Kp D u w) (i : Nat) (v : Value) : Kp D u (w.setCell ⟨D, i, none⟩ v) := ⟨by simp [World.setCell]; exact h.size, fun j hj hne => (Below.heap_setCell w ⟨D, i, none⟩ v j hne).trans (h.block j hj hne)⟩
theorem Kp.grown {row : Option Nat} (h : Kp D u w) (hg : w.grownBy w' row) (hr : ∀ k, row = some k → u.heap.size ≤ k) : Kp D u w' :=
  ⟨Nat.le_trans h.size hg.size, fun j hj hne => (hg.block j (Nat.lt_of_lt_of_le hj h.size) (fun e => by have := hr j e.symm; omega)).trans (h.block j hj hne)⟩
theorem Kp.alloc (h : Kp D u w) (o : Obj) : Kp D u (w.alloc o) := h.grown (World.grownBy_alloc w o none) (by simp)
theorem Kp.below (h : Kp D u w) {B : Nat} (hb : Below B w w') (hB : w.heap.size ≤ B) : Kp D u w' := ⟨Nat.le_trans h.size hb.size, fun j hj hne => (hb.block j (by have := h.size; omega)).trans (h.block j hj hne)⟩
theorem Rd.kp (h : Rd u sz a n cs) (hk : Kp D u w) (hne : ∀ ad : Addr, a = some ad → ad.block ≠ D) : Rd w sz a n cs := h.keep hk.size fun ad e _ hlt => hk.block _ hlt (hne ad e)
theorem Owns.setOld {base : Nat} {e : TypeId} {v : Value} {xs : List Value} (h : Owns w base e sz v n xs) {p : Addr} (hp : p.block < base) (x : Value) : Owns (w.setCell p x) base e sz v n xs := by
  refine ⟨h.1, ?_⟩
  rcases h.2 with hn | ⟨g, cap, cur, rfl, hb, hg, rest⟩
  · exact .inl hn
  · exact .inr ⟨g, cap, cur, rfl, hb, (Below.heap_setCell w p x g (by omega)).trans hg, rest⟩
theorem set_row {w : World} {g T : Nat} {cs : List Value} (h : w.heap[g]? = some (.cells cs.toArray T (0, 0))) (j : Nat) (x : Value) : (w.setCell ⟨g, j, none⟩ x).heap[g]? = some (.cells (cs.set j x).toArray T (0, 0)) := by
  simp [World.setCell, Array.getElem?_modify, h]
theorem row_cell {w : World} {g T : Nat} {cs : List Value} (h : w.heap[g]? = some (.cells cs.toArray T (0, 0))) (j : Nat) : w.cell? ⟨g, j, none⟩ = cs[j]? := by
  rw [cell_of_row _ g j cs.toArray T (0, 0) h]; simp
theorem row_frozen {w : World} {g T : Nat} {cs : List Value} (h : w.heap[g]? = some (.cells cs.toArray T (0, 0))) (j : Nat) : w.frozen? ⟨g, j, none⟩ = false := Lib.frozen_of_heap h j
/-- A struct of seven cells, each as it is read. -/
theorem row7 {w : World} {g T : Nat} {x0 x1 x2 x3 x4 x5 x6 : Value} (h : w.heap[g]? = some (.cells [x0, x1, x2, x3, x4, x5, x6].toArray T (0, 0))) :
    (w.cell? ⟨g, 0, none⟩ = some x0 ∧ w.cell? ⟨g, 1, none⟩ = some x1 ∧ w.cell? ⟨g, 2, none⟩ = some x2 ∧ w.cell? ⟨g, 3, none⟩ = some x3 ∧ w.cell? ⟨g, 4, none⟩ = some x4 ∧ w.cell? ⟨g, 5, none⟩ = some x5 ∧ w.cell? ⟨g, 6, none⟩ = some x6) ∧
    (w.frozen? ⟨g, 0, none⟩ = false ∧ w.frozen? ⟨g, 1, none⟩ = false ∧ w.frozen? ⟨g, 2, none⟩ = false ∧ w.frozen? ⟨g, 3, none⟩ = false ∧ w.frozen? ⟨g, 4, none⟩ = false ∧ w.frozen? ⟨g, 5, none⟩ = false ∧ w.frozen? ⟨g, 6, none⟩ = false) :=
  ⟨⟨row_cell h 0, row_cell h 1, row_cell h 2, row_cell h 3, row_cell h 4, row_cell h 5, row_cell h 6⟩, ⟨row_frozen h 0, row_frozen h 1, row_frozen h 2, row_frozen h 3, row_frozen h 4, row_frozen h 5, row_frozen h 6⟩⟩
end

/-- Seven cells of a block, one after the other. -/
def set7 (w : World) (R : Nat) (x0 x1 x2 x3 x4 x5 x6 : Value) : World := ((((((w.setCell ⟨R, 0, none⟩ x0).setCell ⟨R, 1, none⟩ x1).setCell ⟨R, 2, none⟩ x2).setCell ⟨R, 3, none⟩ x3).setCell ⟨R, 4, none⟩ x4).setCell ⟨R, 5, none⟩ x5).setCell ⟨R, 6, none⟩ x6
section
variable {w a : World} {R T B : Nat} {x0 x1 x2 x3 x4 x5 x6 o0 o1 o2 o3 o4 o5 o6 : Value}
theorem set7_row (h : w.heap[R]? = some (.cells [o0, o1, o2, o3, o4, o5, o6].toArray T (0, 0))) : (set7 w R x0 x1 x2 x3 x4 x5 x6).heap[R]? = some (.cells [x0, x1, x2, x3, x4, x5, x6].toArray T (0, 0)) := (set_row (set_row (set_row (set_row (set_row (set_row (set_row h 0 x0) 1 x1) 2 x2) 3 x3) 4 x4) 5 x5) 6 x6)
theorem set7_below (h : Below B a w) (hR : B ≤ R) : Below B a (set7 w R x0 x1 x2 x3 x4 x5 x6) := (((((((h.setCell hR x0).setCell hR x1).setCell hR x2).setCell hR x3).setCell hR x4).setCell hR x5).setCell hR x6)
theorem Rd.set7 {sz n : Nat} {ad : Option Addr} {cs : List Value} (h : Rd w sz ad n cs) (hne : ∀ x : Addr, ad = some x → x.block ≠ R) : Rd (set7 w R x0 x1 x2 x3 x4 x5 x6) sz ad n cs := (Rd.setCell (Rd.setCell (Rd.setCell (Rd.setCell (Rd.setCell (Rd.setCell (Rd.setCell h hne x0) hne x1) hne x2) hne x3) hne x4) hne x5) hne x6)
theorem Owns.set7 {base sz n : Nat} {e : TypeId} {v : Value} {cs : List Value} (h : Owns w base e sz v n cs) (hR : R < base) : Owns (set7 w R x0 x1 x2 x3 x4 x5 x6) base e sz v n cs := (Owns.setOld (Owns.setOld (Owns.setOld (Owns.setOld (Owns.setOld (Owns.setOld (Owns.setOld h hR x0) hR x1) hR x2) hR x3) hR x4) hR x5) hR x6)
end

/-- A field that is a row of the call's own, grown by an append. -/
theorem grow_field {D B i : Nat} {U w wr w6 : World} {T T2 : TypeId} {tmp : Obj} {v v' vV : Value} {n m nV : Nat} {xs ys zs cs : List Value}
    (hD : D < U.heap.size) (hB : B ≤ D) (hkp : Kp D U wr) (hbl : Below B w wr)
    (hown' : Owns w6 U.heap.size T 1 v' m ys) (hgrow : (wr.alloc tmp).drew.grownBy w6 v.ownBlock) (hlies : ∀ j, v'.ownBlock = some j → v.ownBlock = some j ∨ (wr.alloc tmp).drew.heap.size ≤ j)
    (ho : Owns wr U.heap.size T 1 v n xs) (hoV : Owns wr U.heap.size T 1 vV nV zs) (hap : ∀ j, v.ownBlock = some j → vV.ownBlock ≠ some j)
    (hrow : wr.heap[D]? = some (.cells cs.toArray T2 (0, 0))) :
    Kp D U (w6.setCell ⟨D, i, none⟩ v') ∧ Below B w (w6.setCell ⟨D, i, none⟩ v') ∧ Owns (w6.setCell ⟨D, i, none⟩ v') U.heap.size T 1 v' m ys ∧ Owns (w6.setCell ⟨D, i, none⟩ v') U.heap.size T 1 vV nV zs ∧
      (∀ j, v'.ownBlock = some j → vV.ownBlock ≠ some j) ∧ w6.heap[D]? = some (.cells cs.toArray T2 (0, 0)) ∧ (w6.setCell ⟨D, i, none⟩ v').heap[D]? = some (.cells (cs.set i v').toArray T2 (0, 0)) := by
  have hsz := hkp.size
  have hol : ∀ k, v.ownBlock = some k → U.heap.size ≤ k := fun k hk => (ho.lt k hk).1
  have hrow6 : w6.heap[D]? = some (.cells cs.toArray T2 (0, 0)) := by
    rw [hgrow.block D (by simp [World.drew]; omega) (fun e => by have := hol D e.symm; omega)]
    exact (Below.heap_alloc wr tmp D (by omega)).trans hrow
  refine ⟨((hkp.alloc tmp).drew.grown hgrow hol).setD i v', (((hbl.alloc (by omega) tmp).drew.grown hgrow (by simp [World.drew]; omega) (fun k hk => by have := hol k hk; omega)).setCell (p := ⟨D, i, none⟩) hB v'), hown'.setOld hD v', ?_, ?_, hrow6, set_row hrow6 i v'⟩
  · refine Owns.setOld (((hoV.alloc tmp).drew).kept hgrow (fun k hk e => hap k e hk)) hD v'
  · intro j hj hj2
    rcases hlies j hj with h1 | h1
    · exact hap j h1 hj2
    · have := (hoV.lt j hj2).2
      simp [World.drew] at h1
      omega

theorem wp_append_lies {P : Program} (w : World) {o : Oper} {a : Act} {K : Act → World → Prop} {Q : Exit → Act → World → Prop} (s x : Operand) (t : TypeId)
    (ho : o.op = .call { callee := .builtin .append, args := #[s, x], argTypes := #[t, t] })
    (base : Nat) (e : TypeId) (i : TypeInfo) (z : Value) (sz bytes : Nat) (ht : P.underlying t = some (.slice e)) (hi : P.info? e = some i) (hz : i.zero = some z)
    (hsize : i.size = sz) (hby : i.bytes = bytes) (hzs : z.cells.size = sz) (hsz : 0 < sz)
    (v : Value) (n : Nat) (xs : List Value) (hs : a.eval s = v) (h : Owns w base e sz v n xs)
    (A : Option Addr) (m c : Nat) (news : List Value) (hx : a.eval x = .slice A m c) (hr : Rd w sz A m news) (h1 : ∀ u ∈ news, u.oneCell' = true)
    (h63 : n + m ≤ maxLen) (hbytes : (n + m) * bytes ≤ 140737488355328) (hbase : base ≤ w.heap.size)
    (hK : ∀ v' w', Owns w' base e sz v' (n + m) (xs ++ news) → w.grownBy w' v.ownBlock → (∀ j, v'.ownBlock = some j → v.ownBlock = some j ∨ w.heap.size ≤ j) → K (a.put o.dst v') w') : o.wp P a w K Q := by
  obtain ⟨v', w', hrun, h2, h3, h4⟩ := run_append_lies (P := P) w base t o.type e i z sz bytes ht hi hz hsize hby hzs hsz v n xs h A m c news hr h1 h63 hbytes hbase
  unfold Oper.wp execOp
  simp only [ho, resolve, invoke, builtin, Sem.run_bind, Sem.run_pure, Result.andThen_ok, List.map_toArray, List.map_cons, List.map_nil, hs, hx, hrun]
  exact hK v' w' h2 h3 h4

end Go.Proofs.Ytefilalapkdegaa.Mem
