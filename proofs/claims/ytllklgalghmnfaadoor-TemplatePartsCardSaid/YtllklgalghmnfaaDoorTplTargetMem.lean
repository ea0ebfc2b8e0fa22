/- template.ReadTarget. -/
import Derived.Test.YtllklgalghmnfaaDoorTplTarget0
import Derived.RegionTactic
namespace Go.Proofs.YtllklgalghmnfaaDoor
open Go.RowKit Str Mem Tp
set_option linter.unusedVariables false
set_option linter.unusedSimpArgs false

def tz : List Value := [.bool false, .bool false, .string (bs []), .slice none 0 0, .bool false, .slice none 0 0]
def tg (ex : Bool) (h : Tp.Bs) (v : Value) (hq : Bool) (u : Value) : List Value := [.bool false, .bool ex, .string (bs h), v, .bool hq, u]
/-- The memory of ReadTarget: the two results, and the target with its path. -/
structure TM (w W : World) (n6 : Nat) (ex : Bool) (h : Tp.Bs) (v : Value) (hq : Bool) (u : Value) (L : List Part) : Prop where
  rt : W.heap[w.heap.size]? = some (.cells [.bool false, .bool false, .string (bs []), .slice none 0 0, .bool false, .slice none 0 0].toArray 30 (0, 0))
  rf : W.heap[w.heap.size + 1]? = some (.cells [.int .i64 0, .int .i64 0].toArray 26 (0, 0))
  tt : W.heap[n6]? = some (.cells [.bool false, .bool ex, .string (bs h), v, .bool hq, u].toArray 30 (0, 0))
  lt : w.heap.size + 1 < n6
  bl : Below w.heap.size w W
  ow : OwnParts W (n6 + 1) v L
theorem TM.below {w W W' : World} {n6 : Nat} {ex hq : Bool} {h : Tp.Bs} {v u : Value} {L : List Part} (m : TM w W n6 ex h v hq u L) (hb : Below W.heap.size W W') : TM w W' n6 ex h v hq u L :=
  ⟨(hb.block _ (lt_of_cells m.rt)).trans m.rt, (hb.block _ (lt_of_cells m.rf)).trans m.rf, (hb.block _ (lt_of_cells m.tt)).trans m.tt, m.lt, m.bl.trans (hb.mono m.bl.size), Owns.below m.ow hb (Nat.le_refl _)⟩
theorem TM.app {w W W' : World} {n6 : Nat} {ex hq : Bool} {h : Tp.Bs} {v v' u : Value} {L L' : List Part} (m : TM w W n6 ex h v hq u L) (ho : OwnParts W' (n6 + 1) v' L') (hg : W.grownBy W' v.ownBlock) : TM w (W'.setCell ⟨n6, 3, none⟩ v') n6 ex h v' hq u L' := by
  have hk : ∀ k, v.ownBlock = some k → n6 + 1 ≤ k ∧ k < W.heap.size := m.ow.lt
  have hl := m.lt
  refine ⟨?_, ?_, ?_, hl, ?_, ?_⟩
  · exact (Below.heap_setCell W' _ _ _ (by show w.heap.size ≠ n6; omega)).trans ((hg.block _ (lt_of_cells m.rt) (fun e => by have := hk _ e.symm; omega)).trans m.rt)
  · exact (Below.heap_setCell W' _ _ _ (by show w.heap.size + 1 ≠ n6; omega)).trans ((hg.block _ (lt_of_cells m.rf) (fun e => by have := hk _ e.symm; omega)).trans m.rf)
  · exact set_list ((hg.block _ (lt_of_cells m.tt) (fun e => by have := hk _ e.symm; omega)).trans m.tt) 3 v'
  · exact (m.bl.grown hg m.bl.size (fun k e => by have := hk k e; omega)).setCell (p := ⟨n6, 3, none⟩) (by show w.heap.size ≤ n6; omega) _
  · exact ownsSetOld ho (by show n6 < n6 + 1; omega) _
theorem TM.setEx {w W : World} {n6 : Nat} {ex hq : Bool} {h : Tp.Bs} {v u : Value} {L : List Part} (m : TM w W n6 ex h v hq u L) (ex' : Bool) (h' : Tp.Bs) : TM w ((W.setCell ⟨n6, 1, none⟩ (.bool ex')).setCell ⟨n6, 2, none⟩ (.string (bs h'))) n6 ex' h' v hq u L := by
  have hl := m.lt
  refine ⟨?_, ?_, ?_, hl, ?_, ?_⟩
  · exact (Below.heap_setCell _ _ _ _ (by show w.heap.size ≠ n6; omega)).trans ((Below.heap_setCell _ _ _ _ (by show w.heap.size ≠ n6; omega)).trans m.rt)
  · exact (Below.heap_setCell _ _ _ _ (by show w.heap.size + 1 ≠ n6; omega)).trans ((Below.heap_setCell _ _ _ _ (by show w.heap.size + 1 ≠ n6; omega)).trans m.rf)
  · exact set_list (set_list m.tt 1 _) 2 _
  · exact (m.bl.setCell (p := ⟨n6, 1, none⟩) (by show w.heap.size ≤ n6; omega) _).setCell (p := ⟨n6, 2, none⟩) (by show w.heap.size ≤ n6; omega) _
  · exact ownsSetOld (ownsSetOld m.ow (by show n6 < n6 + 1; omega) _) (by show n6 < n6 + 1; omega) _
theorem TM.setHq {w W : World} {n6 : Nat} {ex hq : Bool} {h : Tp.Bs} {v u : Value} {L : List Part} (m : TM w W n6 ex h v hq u L) (hq' : Bool) : TM w (W.setCell ⟨n6, 4, none⟩ (.bool hq')) n6 ex h v hq' u L := by
  have hl := m.lt
  refine ⟨?_, ?_, ?_, hl, ?_, ?_⟩
  · exact (Below.heap_setCell _ _ _ _ (by show w.heap.size ≠ n6; omega)).trans m.rt
  · exact (Below.heap_setCell _ _ _ _ (by show w.heap.size + 1 ≠ n6; omega)).trans m.rf
  · exact set_list m.tt 4 _
  · exact m.bl.setCell (p := ⟨n6, 4, none⟩) (by show w.heap.size ≤ n6; omega) _
  · exact ownsSetOld m.ow (by show n6 < n6 + 1; omega) _
theorem TM.setU {w W : World} {n6 : Nat} {ex hq : Bool} {h : Tp.Bs} {v u : Value} {L : List Part} (m : TM w W n6 ex h v hq u L) (u' : Value) : TM w (W.setCell ⟨n6, 5, none⟩ u') n6 ex h v hq u' L := by
  have hl := m.lt
  refine ⟨?_, ?_, ?_, hl, ?_, ?_⟩
  · exact (Below.heap_setCell _ _ _ _ (by show w.heap.size ≠ n6; omega)).trans m.rt
  · exact (Below.heap_setCell _ _ _ _ (by show w.heap.size + 1 ≠ n6; omega)).trans m.rf
  · exact set_list m.tt 5 _
  · exact m.bl.setCell (p := ⟨n6, 5, none⟩) (by show w.heap.size ≤ n6; omega) _
  · exact ownsSetOld m.ow (by show n6 < n6 + 1; omega) _
theorem TM.drew {w W : World} {n6 : Nat} {ex hq : Bool} {h : Tp.Bs} {v u : Value} {L : List Part} (m : TM w W n6 ex h v hq u L) : TM w W.drew n6 ex h v hq u L := ⟨m.rt, m.rf, m.tt, m.lt, m.bl.drew, Owns.drew m.ow⟩
def set6 (W : World) (g : Nat) (x0 x1 x2 x3 x4 x5 : Value) : World := (((((W.setCell ⟨g, 0, none⟩ x0).setCell ⟨g, 1, none⟩ x1).setCell ⟨g, 2, none⟩ x2).setCell ⟨g, 3, none⟩ x3).setCell ⟨g, 4, none⟩ x4).setCell ⟨g, 5, none⟩ x5
theorem set6_row {W : World} {g Ty : Nat} {o0 o1 o2 o3 o4 o5 : Value} (h : W.heap[g]? = some (.cells [o0, o1, o2, o3, o4, o5].toArray Ty (0, 0))) (x0 x1 x2 x3 x4 x5 : Value) : (set6 W g x0 x1 x2 x3 x4 x5).heap[g]? = some (.cells [x0, x1, x2, x3, x4, x5].toArray Ty (0, 0)) :=
  set_list (set_list (set_list (set_list (set_list (set_list h 0 x0) 1 x1) 2 x2) 3 x3) 4 x4) 5 x5
theorem set6_below {W a : World} {B g : Nat} (h : Below B a W) (hg : B ≤ g) (x0 x1 x2 x3 x4 x5 : Value) : Below B a (set6 W g x0 x1 x2 x3 x4 x5) :=
  (((((h.setCell (p := ⟨g, 0, none⟩) hg x0).setCell (p := ⟨g, 1, none⟩) hg x1).setCell (p := ⟨g, 2, none⟩) hg x2).setCell (p := ⟨g, 3, none⟩) hg x3).setCell (p := ⟨g, 4, none⟩) hg x4).setCell (p := ⟨g, 5, none⟩) hg x5
theorem set6_other (W : World) (g k : Nat) (hk : k ≠ g) (x0 x1 x2 x3 x4 x5 : Value) : (set6 W g x0 x1 x2 x3 x4 x5).heap[k]? = W.heap[k]? := by
  unfold set6
  rw [Below.heap_setCell _ _ _ _ (by exact hk), Below.heap_setCell _ _ _ _ (by exact hk), Below.heap_setCell _ _ _ _ (by exact hk), Below.heap_setCell _ _ _ _ (by exact hk), Below.heap_setCell _ _ _ _ (by exact hk), Below.heap_setCell _ _ _ _ (by exact hk)]
theorem tEnd {w W : World} {T F : Nat} {o0 o1 o2 o3 o4 o5 p0 p1 : Value} (hrt : W.heap[w.heap.size]? = some (.cells [o0, o1, o2, o3, o4, o5].toArray T (0, 0))) (hrf : W.heap[w.heap.size + 1]? = some (.cells [p0, p1].toArray F (0, 0))) (hb : Below w.heap.size w W) (x0 x1 x2 x3 x4 x5 y0 y1 : Value) :
    (set2 (set6 W w.heap.size x0 x1 x2 x3 x4 x5) (w.heap.size + 1) y0 y1).heap[w.heap.size]? = some (.cells [x0, x1, x2, x3, x4, x5].toArray T (0, 0)) ∧ (set2 (set6 W w.heap.size x0 x1 x2 x3 x4 x5) (w.heap.size + 1) y0 y1).heap[w.heap.size + 1]? = some (.cells [y0, y1].toArray F (0, 0)) ∧ Below w.heap.size w (set2 (set6 W w.heap.size x0 x1 x2 x3 x4 x5) (w.heap.size + 1) y0 y1) := by
  refine ⟨?_, ?_, ?_⟩
  · unfold set2
    rw [Below.heap_setCell _ _ _ _ (by show w.heap.size ≠ w.heap.size + 1; omega), Below.heap_setCell _ _ _ _ (by show w.heap.size ≠ w.heap.size + 1; omega)]
    exact set6_row hrt _ _ _ _ _ _
  · exact set2_row ((set6_other W _ _ (by omega) _ _ _ _ _ _).trans hrf) _ _
  · exact set2_below (set6_below hb (Nat.le_refl _) _ _ _ _ _ _) (by omega) _ _

theorem ownsEnd {W : World} {base g sz n : Nat} {e : TypeId} {v : Value} {xs : List Value} (h : Owns W base e sz v n xs) (hg : g + 1 < base) (x0 x1 x2 x3 x4 x5 y0 y1 : Value) : Owns (set2 (set6 W g x0 x1 x2 x3 x4 x5) (g + 1) y0 y1) base e sz v n xs := by
  unfold set2 set6
  exact ownsSetOld (ownsSetOld (ownsSetOld (ownsSetOld (ownsSetOld (ownsSetOld (ownsSetOld (ownsSetOld h (by show g < base; omega) _) (by show g < base; omega) _) (by show g < base; omega) _) (by show g < base; omega) _) (by show g < base; omega) _) (by show g < base; omega) _) (by show g + 1 < base; omega) _) (by show g + 1 < base; omega) _
theorem Parts.nil (w : World) (a : Option Addr) : Parts w a 0 [] := ⟨rfl, fun h => absurd h (Nat.lt_irrefl 0)⟩
theorem tw_end : ∀ {D : List Piece}, (∀ q ∈ D, isQ q = false) → D.takeWhile (fun q => !isQ q) = D ∧ D.dropWhile (fun q => !isQ q) = []
  | [], _ => ⟨rfl, rfl⟩
  | x :: D, h => by
    have hx := h x (by simp)
    obtain ⟨h1, h2⟩ := tw_end (D := D) (fun q hq => h q (by simp [hq]))
    rw [List.takeWhile_cons, List.dropWhile_cons, hx, h1, h2]
    exact ⟨rfl, rfl⟩
theorem tw_hit {q : Piece} {tl : List Piece} (hq : isQ q = true) : ∀ {D : List Piece}, (∀ q ∈ D, isQ q = false) → (D ++ q :: tl).takeWhile (fun q => !isQ q) = D ∧ (D ++ q :: tl).dropWhile (fun q => !isQ q) = q :: tl
  | [], _ => by
    rw [List.nil_append, List.takeWhile_cons, List.dropWhile_cons, hq]
    exact ⟨rfl, rfl⟩
  | x :: D, h => by
    have hx := h x (by simp)
    obtain ⟨h1, h2⟩ := tw_hit hq (D := D) (fun q hq => h q (by simp [hq]))
    rw [List.cons_append, List.takeWhile_cons, List.dropWhile_cons, hx]
    exact ⟨congrArg (x :: ·) h1, h2⟩
theorem rest_end {ex : Bool} {h : Tp.Bs} {at' : Nat} {D : List Piece} (hD : ∀ q ∈ D, isQ q = false) : restR ex h at' D = if placeR (joinP (D.map (·.p))) = true then ⟨false, ex, h, joinP (D.map (·.p)), false, [], 0, 0⟩ else .fault 3 at' := by
  obtain ⟨h1, h2⟩ := tw_end hD
  unfold restR pathOf
  rw [h1, h2]
theorem rest_hit {ex : Bool} {h : Tp.Bs} {at' : Nat} {D tl : List Piece} {q : Piece} (hD : ∀ q ∈ D, isQ q = false) (hq : isQ q = true) : restR ex h at' (D ++ q :: tl) = if placeR (joinP (D.map (·.p))) = true then ⟨false, ex, h, joinP (D.map (·.p)), true, joinP (tl.map (·.p)), 0, 0⟩ else .fault 3 at' := by
  obtain ⟨h1, h2⟩ := tw_hit (tl := tl) hq hD
  unfold restR pathOf
  rw [h1, h2]
/-- What holds between two rounds of the path's loop. -/
def TI (w : World) (s : Tp.Bs) (n6 : Nat) (ex : Bool) (h : Tp.Bs) (at0 : Nat) (g : Nat) (s7 : Value) (W : World) : Prop :=
  ∃ (k : Nat) (D : List Piece) (L : List Part) (v : Value), s7 = .int .i64 k ∧ k ≤ s.length ∧ s.length ≤ k + g ∧ (pieces (s.drop at0) at0).1 = D ++ (pieces (s.drop k) k).1 ∧ (pieces (s.drop k) k).2 = none ∧ (∀ q ∈ D, isQ q = false) ∧ L = joinP (D.map (·.p)) ∧ L.length ≤ k ∧ (∀ q ∈ L, q.t.length ≤ k) ∧ TM w W n6 ex h v false (.slice none 0 0) L
/-- What ReadTarget returns. -/
def TargetPost (r : TR) (w : World) (e : Ending) (w' : World) : Prop := ∃ pa pc qa qc, e = .returned (.tuple #[tgtV r.sm r.ex r.h pa r.L.length pc r.hq qa r.M.length qc, .agg #[.int .i64 r.e, .int .i64 r.at']]) ∧ Parts w' pa r.L.length r.L ∧ Parts w' qa r.M.length r.M ∧ Below w.heap.size w w'
end Go.Proofs.YtllklgalghmnfaaDoor
