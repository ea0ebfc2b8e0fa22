/- Clean's loop over the pieces of a path. -/
import Derived.Test.YtldjljblcjplaaaNormal
import Derived.Test.YtldjljblcjplaaaOwns
import Derived.Deep.DeepMust
namespace Go.Proofs.Ytldjljblcjplaaa
open Go.RowKit Str Go.Shelf Mem
attribute [local go_sem] Oper.semAt_some Seq.wide_fn Seq.wide_round_fn Seq.wide_depth Seq.wide_round_depth
set_option linter.unusedVariables false
set_option linter.unusedSimpArgs false

theorem infoText : (Try.prog.info? 9).map (fun i => (i.zero, i.size, i.bytes)) = some (some (.string ⟨#[]⟩), 1, 16) := by kernel_rfl

def HoldsKept (base b : Nat) (l : List (List UInt8)) (W : World) : Prop :=
  ∃ v, Boxed W b 28 v ∧ Owns W base 9 1 v l.length (l.map sv)

/-- When k pieces have come. -/
def CleanI (w : World) (L : List (List UInt8)) (k : Nat) (W : World) : Prop :=
  ∃ kept op, Dots.stepsTo L k = some (kept, op) ∧ HoldsKept (w.heap.size + 5) (w.heap.size + 2) kept W ∧ Boxed W w.heap.size 9 (.string ⟨#[]⟩) ∧ Boxed W (w.heap.size + 1) 23 (.int .i64 0) ∧
    Boxed W (w.heap.size + 3) 4 (.bool op) ∧ Below w.heap.size w W ∧ w.heap.size + 5 ≤ W.heap.size
/-- More .. than segments. -/
def CleanX (w : World) (L : List (List UInt8)) (c : Code) (k : Nat) (W : World) : Prop :=
  c = .ret ∧ Dots.stepsTo L (k + 1) = none ∧ Boxed W w.heap.size 9 (.string ⟨#[]⟩) ∧ Boxed W (w.heap.size + 1) 23 (.int .i64 18) ∧ Below w.heap.size w W

theorem cleanI_stable {w : World} {L : List (List UInt8)} {B k : Nat} (hB : w.heap.size + 4 < B) : Seq.Stable (· = w.heap.size + 4) B (CleanI w L k) := by
  rintro X Y row ⟨kept, op, hs, ⟨v, hv, ho⟩, h1, h2, h3, h4, h5⟩ hg hr
  have hne : ∀ b t (u : Value), Boxed X b t u → b ≠ w.heap.size + 4 → Boxed Y b t u := fun b t u hb hne => hb.kept hg (fun e => by
    rcases hr b e.symm with h | ⟨_, o, ho', hc⟩
    · exact hne h
    · rw [show X.heap[b]? = _ from hb] at ho'; cases ho'; cases hc)
  refine ⟨kept, op, hs, ⟨v, hne _ _ _ hv (by omega), ho.kept hg (fun j hj e => ?_)⟩, hne _ _ _ h1 (by omega), hne _ _ _ h2 (by omega), hne _ _ _ h3 (by omega), ?_, Nat.le_trans h5 hg.size⟩
  · have hj1 := ho.lt j hj
    rcases hr j e with h | ⟨_, o, ho', hc⟩
    · omega
    · rcases ho.2 with ⟨rfl, _⟩ | ⟨g, cap, cur, rfl, _, hgb, _⟩
      · simp [Value.ownBlock] at hj
      · obtain rfl : g = j := by simpa [Value.ownBlock] using hj
        rw [hgb] at ho'; cases ho'; cases hc
  · exact Seq.stable_below (own := (· = w.heap.size + 4)) (B := B) (by intro r e; omega) (by omega) X Y row h4 hg hr

theorem cleanX_stable {w : World} {L : List (List UInt8)} {B k : Nat} {c : Code} (hB : w.heap.size + 4 < B) : Seq.Stable (· = w.heap.size + 4) B (CleanX w L c k) := by
  rintro X Y row ⟨h0, hs, h1, h2, h4⟩ hg hr
  have hne : ∀ b t (u : Value), Boxed X b t u → b ≠ w.heap.size + 4 → Boxed Y b t u := fun b t u hb hne => hb.kept hg (fun e => by
    rcases hr b e.symm with h | ⟨_, o, ho', hc⟩
    · exact hne h
    · rw [show X.heap[b]? = _ from hb] at ho'; cases ho'; cases hc)
  exact ⟨h0, hs, hne _ _ _ h1 (by omega), hne _ _ _ h2 (by omega), Seq.stable_below (own := (· = w.heap.size + 4)) (B := B) (by intro r e; omega) (by omega) X Y row h4 hg hr⟩

/-- A piece that changes nothing but 'open'. -/
theorem clean_skip {w W : World} {L : List (List UInt8)} {B k : Nat} {a : Act} {kept : List (List UInt8)} {op op' : Bool} (hk : k < L.length) (hst : Dots.stepsTo L k = some (kept, op))
    (hstep : Dots.step (kept, op) (Dots.pieceAt L k, Dots.lastAt L k) = some (kept, op')) {v : Value} (hv : Boxed W (w.heap.size + 2) 28 v) (ho : Owns W (w.heap.size + 5) 9 1 v kept.length (kept.map sv))
    (h1 : Boxed W w.heap.size 9 (.string ⟨#[]⟩)) (h2 : Boxed W (w.heap.size + 1) 23 (.int .i64 0)) (h3 : Boxed W (w.heap.size + 3) 4 (.bool op)) (h4 : Below w.heap.size w W) (h5 : w.heap.size + 5 ≤ W.heap.size) :
    Seq.bodyEnd B (KeepBox (w.heap.size + 4)) (CleanI w L) (CleanX w L) k W .normal a (W.setCell ⟨w.heap.size + 3, 0, none⟩ (.bool op')) := by
  have hg := grownBy_setCell' W (w.heap.size + 3) (.bool op')
  refine ⟨(KeepsOthers.setCell _ _ _).from _, hg.block _ (by omega) (by simp), kept, op', by rw [Dots.stepsTo_succ hk, hst]; exact hstep, ⟨v, hv.kept hg (by simp), ho.kept hg (fun j hj e => ?_)⟩,
    h1.kept hg (by simp), h2.kept hg (by simp), h3.set _, h4.setCell (p := ⟨w.heap.size + 3, 0, none⟩) (by simp) _, by simp [World.setCell]; omega⟩
  have := (ho.lt j hj).1
  cases e; omega

/-- 'open' is set, and the list of what is kept is another one. -/
theorem clean_put {w W X : World} {L : List (List UInt8)} {B k : Nat} {a : Act} {kept kept' : List (List UInt8)} {op op' : Bool} (hk : k < L.length) (hst : Dots.stepsTo L k = some (kept, op))
    (hstep : Dots.step (kept, op) (Dots.pieceAt L k, Dots.lastAt L k) = some (kept', op')) {v v' : Value} (hv : Boxed W (w.heap.size + 2) 28 v) (ho : Owns W (w.heap.size + 5) 9 1 v kept.length (kept.map sv))
    (h1 : Boxed W w.heap.size 9 (.string ⟨#[]⟩)) (h2 : Boxed W (w.heap.size + 1) 23 (.int .i64 0)) (h3 : Boxed W (w.heap.size + 3) 4 (.bool op)) (h4 : Below w.heap.size w W) (h5 : w.heap.size + 5 ≤ W.heap.size)
    (hg : (W.setCell ⟨w.heap.size + 3, 0, none⟩ (.bool op')).grownBy X v.ownBlock) (ho' : Owns X (w.heap.size + 5) 9 1 v' kept'.length (kept'.map sv)) :
    Seq.bodyEnd B (KeepBox (w.heap.size + 4)) (CleanI w L) (CleanX w L) k W .normal a (X.setCell ⟨w.heap.size + 2, 0, none⟩ v') := by
  have g1 := grownBy_setCell' W (w.heap.size + 3) (.bool op')
  have g2 := grownBy_setCell' X (w.heap.size + 2) v'
  have hrow : ∀ j, v.ownBlock = some j → w.heap.size + 5 ≤ j := fun j hj => (ho.lt j hj).1
  have hne : ∀ b, b < w.heap.size + 5 → some b ≠ v.ownBlock := fun b hb e => by have := hrow b e.symm; omega
  have hs1 : (W.setCell ⟨w.heap.size + 3, 0, none⟩ (.bool op')).heap.size = W.heap.size := by simp [World.setCell]
  have hs2 : (X.setCell ⟨w.heap.size + 2, 0, none⟩ v').heap.size = X.heap.size := by simp [World.setCell]
  have k1 : KeepsOthers W (X.setCell ⟨w.heap.size + 2, 0, none⟩ v') := by
    refine ((KeepsOthers.setCell W _ _).trans (KeepsOthers.of_grownBy hg fun j o ej hj => ?_)).trans (KeepsOthers.setCell _ _ _)
    have hj5 := hrow j ej
    rcases ho.2 with ⟨rfl, _⟩ | ⟨g, cap, cur, rfl, _, hgb, _⟩
    · simp [Value.ownBlock] at ej
    · obtain rfl : g = j := by simpa [Value.ownBlock] using ej
      rw [Below.heap_setCell _ _ _ _ (by simp; omega)] at hj
      rw [hgb] at hj; cases hj; rfl
  have box : ∀ b t (u : Value), b < w.heap.size + 5 → b ≠ w.heap.size + 2 → Boxed (W.setCell ⟨w.heap.size + 3, 0, none⟩ (.bool op')) b t u → Boxed (X.setCell ⟨w.heap.size + 2, 0, none⟩ v') b t u := fun b t u hb hb2 h =>
    (h.kept hg (hne b hb)).kept g2 (by simp; omega)
  refine ⟨k1.from _, ?_, kept', op', by rw [Dots.stepsTo_succ hk, hst]; exact hstep, ⟨v', ?_, ?_⟩, box _ _ _ (by omega) (by omega) (h1.kept g1 (by simp)), box _ _ _ (by omega) (by omega) (h2.kept g1 (by simp)), box _ _ _ (by omega) (by omega) (h3.set _), ?_, ?_⟩
  · exact (g2.block _ (by have := hg.size; omega) (by simp)).trans ((hg.block _ (by omega) (hne _ (by omega))).trans (g1.block _ (by omega) (by simp)))
  · exact Boxed.set v' ((hv.kept g1 (by simp)).kept hg (hne _ (by omega)))
  · refine ho'.kept g2 (fun j hj e => ?_)
    have := (ho'.lt j hj).1
    cases e; omega
  · exact ((h4.setCell (p := ⟨w.heap.size + 3, 0, none⟩) (by simp) _).grown hg (by have := h4.size; omega) (fun j hj => by have := hrow j hj; omega)).setCell (p := ⟨w.heap.size + 2, 0, none⟩) (by simp) _
  · have := hg.size; omega

theorem clean_stop {w W : World} {L : List (List UInt8)} {B k : Nat} {a : Act} {op' : Bool} (hn : Dots.stepsTo L (k + 1) = none)
    (h1 : Boxed W w.heap.size 9 (.string ⟨#[]⟩)) (h2 : Boxed W (w.heap.size + 1) 23 (.int .i64 0)) (h4 : Below w.heap.size w W) :
    Seq.bodyEnd B (KeepBox (w.heap.size + 4)) (CleanI w L) (CleanX w L) k W .ret a (((W.setCell ⟨w.heap.size + 3, 0, none⟩ (.bool op')).setCell ⟨w.heap.size, 0, none⟩ (.string ⟨#[]⟩)).setCell ⟨w.heap.size + 1, 0, none⟩ (.int .i64 18)) := by
  refine ⟨(((KeepsOthers.setCell _ _ _).trans (KeepsOthers.setCell _ _ _)).trans (KeepsOthers.setCell _ _ _)).from _, rfl, hn, ?_, ?_, ?_⟩
  · exact ((h1.kept (grownBy_setCell' _ _ _) (by simp)).set _).kept (grownBy_setCell' _ _ _) (by simp)
  · exact ((h2.kept (grownBy_setCell' _ _ _) (by simp)).kept (grownBy_setCell' _ _ _) (by simp)).set _
  · exact ((h4.setCell (p := ⟨w.heap.size + 3, 0, none⟩) (by simp) _).setCell (p := ⟨w.heap.size, 0, none⟩) (Nat.le_refl _) _).setCell (p := ⟨w.heap.size + 1, 0, none⟩) (by simp) _

theorem clean_pop {w W : World} {L : List (List UInt8)} {B k : Nat} {a : Act} {y : List UInt8} {ys : List (List UInt8)} {op op' : Bool} {g cap : Nat} (hk : k < L.length) (hst : Dots.stepsTo L k = some (y :: ys, op))
    (hstep : Dots.step (y :: ys, op) (Dots.pieceAt L k, Dots.lastAt L k) = some ((y :: ys).dropLast, op')) (hcap : ys.length + 1 ≤ cap) (hv : Boxed W (w.heap.size + 2) 28 (.slice (some ⟨g, 0, none⟩) (ys.length + 1) cap))
    (ho : Owns W (w.heap.size + 5) 9 1 (.slice (some ⟨g, 0, none⟩) (ys.length + 1) cap) (y :: ys).length ((y :: ys).map sv))
    (h1 : Boxed W w.heap.size 9 (.string ⟨#[]⟩)) (h2 : Boxed W (w.heap.size + 1) 23 (.int .i64 0)) (h3 : Boxed W (w.heap.size + 3) 4 (.bool op)) (h4 : Below w.heap.size w W) (h5 : w.heap.size + 5 ≤ W.heap.size) :
    Seq.bodyEnd B (KeepBox (w.heap.size + 4)) (CleanI w L) (CleanX w L) k W .normal a ((W.setCell ⟨w.heap.size + 3, 0, none⟩ (.bool op')).setCell ⟨w.heap.size + 2, 0, none⟩ (.slice (some ⟨g, 0, none⟩) ys.length ys.length)) := by
  refine clean_put hk hst hstep hv ho h1 h2 h3 h4 h5 (World.grownBy.refl _ _) ?_
  have g1 := grownBy_setCell' W (w.heap.size + 3) (.bool op')
  have ho1 := ho.kept g1 (fun j hj e => by have := (ho.lt j hj).1; cases e; omega)
  have ho2 := ho1.cut (m := ys.length) (cap' := ys.length) (by simp) (Nat.le_refl _) (by omega)
  have e1 : ((y :: ys).map sv).take (ys.length * 1) = (y :: ys).dropLast.map sv := by rw [List.dropLast_eq_take, List.map_take]; simp
  rw [e1] at ho2
  simpa using ho2

theorem clean_push {w W X : World} {L : List (List UInt8)} {B k : Nat} {a : Act} {kept : List (List UInt8)} {op op' : Bool} {tmp : Obj} (hk : k < L.length) (hst : Dots.stepsTo L k = some (kept, op))
    (hstep : Dots.step (kept, op) (Dots.pieceAt L k, Dots.lastAt L k) = some (kept ++ [Dots.pieceAt L k], op')) {v v' : Value} (hv : Boxed W (w.heap.size + 2) 28 v) (ho : Owns W (w.heap.size + 5) 9 1 v kept.length (kept.map sv))
    (h1 : Boxed W w.heap.size 9 (.string ⟨#[]⟩)) (h2 : Boxed W (w.heap.size + 1) 23 (.int .i64 0)) (h3 : Boxed W (w.heap.size + 3) 4 (.bool op)) (h4 : Below w.heap.size w W) (h5 : w.heap.size + 5 ≤ W.heap.size)
    (hg : ((W.setCell ⟨w.heap.size + 3, 0, none⟩ (.bool op')).alloc tmp).grownBy X v.ownBlock) (ho' : Owns X (w.heap.size + 5) 9 1 v' (kept.length + 1) (kept.map sv ++ [.string (bs (Dots.pieceAt L k))])) :
    Seq.bodyEnd B (KeepBox (w.heap.size + 4)) (CleanI w L) (CleanX w L) k W .normal a (X.setCell ⟨w.heap.size + 2, 0, none⟩ v') := by
  have ga := World.grownBy_alloc (W.setCell ⟨w.heap.size + 3, 0, none⟩ (.bool op')) tmp v.ownBlock
  refine clean_put hk hst hstep hv ho h1 h2 h3 h4 h5 ⟨hg.os.trans ga.os, hg.tape.trans ga.tape, hg.output.trans ga.output, Nat.le_trans ga.size hg.size, fun j hj hne => (hg.block j (Nat.lt_of_lt_of_le hj ga.size) hne).trans (ga.block j hj hne)⟩ ?_
  rw [List.map_append, List.length_append]
  exact ho'

theorem own_far {w W : World} {v : Value} {n : Nat} {xs : List Value} (ho : Owns W (w.heap.size + 5) 9 1 v n xs) : ∀ j, v.ownBlock = some j → (some (w.heap.size + 3) : Option Nat) ≠ some j := fun j hj e => by
  have := (ho.lt j hj).1
  cases e; omega

/-- While the call's own row is written, the boxes stay. -/
theorem push_box {w W X : World} {v : Value} {n : Nat} {xs : List Value} {op' : Bool} {tmp : Obj} (ho : Owns W (w.heap.size + 5) 9 1 v n xs) (hv : Boxed W (w.heap.size + 2) 28 v)
    (hg : ((W.setCell ⟨w.heap.size + 3, 0, none⟩ (.bool op')).alloc tmp).grownBy X v.ownBlock) : Boxed X (w.heap.size + 2) 28 v :=
  ((hv.kept (grownBy_setCell' W (w.heap.size + 3) (.bool op')) (by simp)).alloc tmp).kept hg (fun e => by have := (ho.lt _ e.symm).1; omega)

/-- The two results are stored, and the loop's mark is taken. -/
theorem clean_return {w W W3 : World} {D : Nat} {u : ByteArray} {er : Int} {v0 v1 : Value} (h0 : Boxed W w.heap.size 9 v0) (h1 : Boxed W (w.heap.size + 1) 23 v1) (hbl : Below w.heap.size w W)
    (hD : w.heap.size + 2 ≤ D) (hK : W.heap[D]? = some (.deferred (some []))) (hb3 : Below W.heap.size W W3) :
    ((W3.setCell ⟨w.heap.size, 0, none⟩ (.string u)).setCell ⟨w.heap.size + 1, 0, none⟩ (.int .i64 er)).heap[D]? = some (.deferred (some [])) ∧
    (((W3.setCell ⟨w.heap.size, 0, none⟩ (.string u)).setCell ⟨w.heap.size + 1, 0, none⟩ (.int .i64 er)).putObj D (.deferred none)).cell? ⟨w.heap.size, 0, none⟩ = some (.string u) ∧
    (((W3.setCell ⟨w.heap.size, 0, none⟩ (.string u)).setCell ⟨w.heap.size + 1, 0, none⟩ (.int .i64 er)).putObj D (.deferred none)).cell? ⟨w.heap.size + 1, 0, none⟩ = some (.int .i64 er) ∧
    Below w.heap.size w (((W3.setCell ⟨w.heap.size, 0, none⟩ (.string u)).setCell ⟨w.heap.size + 1, 0, none⟩ (.int .i64 er)).putObj D (.deferred none)) := by
  have hDl : D < W.heap.size := (Array.getElem?_eq_some_iff.1 hK).1
  have g1 := grownBy_setCell' W3 w.heap.size (.string u)
  have g2 := grownBy_setCell' (W3.setCell ⟨w.heap.size, 0, none⟩ (.string u)) (w.heap.size + 1) (.int .i64 er)
  have g3 := grownBy_putObj' ((W3.setCell ⟨w.heap.size, 0, none⟩ (.string u)).setCell ⟨w.heap.size + 1, 0, none⟩ (.int .i64 er)) D (.deferred none)
  have b0 : Boxed W3 w.heap.size 9 v0 := (hb3.block _ h0.lt).trans h0
  have b1 : Boxed W3 (w.heap.size + 1) 23 v1 := (hb3.block _ h1.lt).trans h1
  have hK3 : W3.heap[D]? = some (.deferred (some [])) := (hb3.block D hDl).trans hK
  refine ⟨?_, ?_, ?_, ?_⟩
  · exact ((KeepsOthers.setCell W3 _ _).trans (KeepsOthers.setCell _ _ _)).same D _ hK3 rfl
  · exact (((b0.set _).kept g2 (by simp)).kept g3 (by simp; omega)).cell
  · exact (((b1.kept g1 (by simp)).set _).kept g3 (by simp; omega)).cell
  · have hbw : Below w.heap.size w W3 := hbl.trans (hb3.mono hbl.size)
    have hx := (hbw.setCell (p := ⟨w.heap.size, 0, none⟩) (Nat.le_refl _) (.string u)).setCell (p := ⟨w.heap.size + 1, 0, none⟩) (by simp) (.int .i64 er)
    exact hx.grown g3 hx.size (fun r e => by cases e; omega)

end Go.Proofs.Ytldjljblcjplaaa
