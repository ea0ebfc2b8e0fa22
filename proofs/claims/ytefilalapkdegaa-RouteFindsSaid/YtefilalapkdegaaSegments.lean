/- The segments of a normal path. -/
import Derived.Test.YtefilalapkdegaaPieces
import Derived.Test.YtefilalapkdegaaMem
import Derived.Test.YtefilalapkdegaaOwns
import Derived.Maps.AppendAt
import Derived.Deep.DeepMust
namespace Go.Proofs.Ytefilalapkdegaa
open Go.RowKit Str Go.Shelf Mem
attribute [local go_sem] Oper.semAt_some Seq.wide_fn Seq.wide_round_fn Seq.wide_depth Seq.wide_round_depth
set_option linter.unusedVariables false
set_option linter.unusedSimpArgs false


/-- The box b holds a slice that owns the texts l. -/
def HoldsStrs (base b : Nat) (l : List (List UInt8)) (W : World) : Prop :=
  ∃ v, Boxed W b 33 v ∧ W.ownsRow base 9 1 v l.length (l.map sv)

theorem holdsStrs_stable {own : Nat → Prop} {B base b : Nat} {l : List (List UInt8)} (ho : ¬ own b) (hb : b < B) (hbase : ∀ r, own r → r < base) : Seq.Stable own B (HoldsStrs base b l) := by
  rintro X Y row ⟨v, hv, hr⟩ hg hrow
  refine ⟨v, Seq.stable_boxed ho hb X Y row hv hg hrow, hr.kept hg ?_⟩
  rcases hr.2 with ⟨rfl, _⟩ | ⟨g, cap, cur, rfl, hbg, hgb, _⟩
  · exact .inl rfl
  · refine .inr fun e' => ?_
    rcases hrow g (by simpa [Value.ownBlock] using e'.symm) with h | ⟨_, o, ho', hc⟩
    · have := hbase g h; omega
    · rw [hgb] at ho'; cases ho'; cases hc

/-- What the append leaves (Boxed.appended, the box below the row's base). -/
theorem seg_append {W w1 : World} {b : Nat} {v v' : Value} {k m : Nat} {xs ys : List Value} {tmp : Obj} (hv : Boxed W b 33 v) (hrow : W.ownsRow (b + 2) 9 1 v k xs) (hsz : b + 2 ≤ W.heap.size)
    (hown' : w1.ownsRow (b + 2) 9 1 v' m ys) (hgrow : (W.alloc tmp).grownBy w1 v.ownBlock) :
    Boxed w1 b 33 v ∧ Boxed (w1.setCell ⟨b, 0, none⟩ v') b 33 v' ∧ (w1.setCell ⟨b, 0, none⟩ v').ownsRow (b + 2) 9 1 v' m ys ∧ KeepsOthers W (w1.setCell ⟨b, 0, none⟩ v') ∧ (W.grownBy w1 v.ownBlock) := by
  have hg : W.grownBy w1 v.ownBlock := by
    have h1 := World.grownBy_alloc W tmp v.ownBlock
    exact ⟨hgrow.os.trans h1.os, hgrow.tape.trans h1.tape, hgrow.output.trans h1.output, Nat.le_trans h1.size hgrow.size, fun j hj hne => (hgrow.block j (Nat.lt_of_lt_of_le hj h1.size) hne).trans (h1.block j hj hne)⟩
  have hne : some b ≠ v.ownBlock := by
    intro e
    have := (hrow.lt b e.symm).1
    omega
  have hv1 := hv.kept hg hne
  have hne' : v'.ownBlock = none ∨ v'.ownBlock ≠ some b := by
    rcases hx : v'.ownBlock with _ | j
    · exact .inl rfl
    · refine .inr fun e => ?_
      cases e
      have := (hown'.lt b hx).1
      omega
  refine ⟨hv1, hv1.set v', hown'.kept (grownBy_setCell' w1 b v') hne', ?_, hg⟩
  refine (KeepsOthers.of_grownBy hg fun j o ej hj => ?_).trans (KeepsOthers.setCell _ _ _)
  rcases hrow.2 with ⟨rfl, _⟩ | ⟨g, cap, cur, rfl, _, hgb, _⟩
  · simp [Value.ownBlock] at ej
  · obtain rfl : g = j := by simpa [Value.ownBlock] using ej
    rw [hgb] at hj; cases hj; rfl

def SegI (w : World) (L : List (List UInt8)) (k : Nat) (W : World) : Prop :=
  HoldsStrs (w.heap.size + 2) w.heap.size (Dots.keptOf L k) W ∧ Below w.heap.size w W ∧ w.heap.size + 2 ≤ W.heap.size

theorem segI_stable {w : World} {L : List (List UInt8)} {B k : Nat} (hB : w.heap.size + 1 < B) : Seq.Stable (· = w.heap.size + 1) B (SegI w L k) := by
  rintro X Y row ⟨h1, h2, h3⟩ hg hr
  exact ⟨holdsStrs_stable (own := (· = w.heap.size + 1)) (B := B) (by omega) (by omega) (by intro r e; omega) X Y row h1 hg hr, Seq.stable_below (own := (· = w.heap.size + 1)) (B := B) (by intro r e; omega) (by omega) X Y row h2 hg hr, Nat.le_trans h3 hg.size⟩

theorem seg_hit {w W w1 : World} {L : List (List UInt8)} {B k : Nat} {a : Act} {v v' : Value} {tmp : Obj} (hk : k < L.length) (hne : Dots.pieceAt L k ≠ [])
    (hv : Boxed W w.heap.size 33 v) (hrow : W.ownsRow (w.heap.size + 2) 9 1 v (Dots.keptOf L k).length ((Dots.keptOf L k).map sv)) (hbl : Below w.heap.size w W) (hsz : w.heap.size + 2 ≤ W.heap.size)
    (hown' : w1.ownsRow (w.heap.size + 2) 9 1 v' ((Dots.keptOf L k).length + 1) ((Dots.keptOf L k).map sv ++ [.string (bs (Dots.pieceAt L k))])) (hgrow : (W.alloc tmp).grownBy w1 v.ownBlock) :
    Seq.bodyEnd B (KeepBox (w.heap.size + 1)) (SegI w L) (fun _ _ _ => False) k W .normal a (w1.setCell ⟨w.heap.size, 0, none⟩ v') := by
  obtain ⟨_, h2, h3, h4, h5⟩ := seg_append hv hrow hsz hown' hgrow
  have e : ∀ j, v.ownBlock = some j → w.heap.size + 2 ≤ j := fun j hj => (hrow.lt j hj).1
  refine ⟨h4.from _, ?_, ⟨v', h2, ?_⟩, (hbl.grown h5 hbl.size (fun j hj => by have := e j hj; omega)).setCell (p := ⟨w.heap.size, 0, none⟩) (Nat.le_refl _) _, ?_⟩
  · refine (Below.heap_setCell w1 ⟨w.heap.size, 0, none⟩ v' _ (by simp)).trans (h5.block _ (by omega) ?_)
    intro e'
    have := e _ e'.symm
    omega
  · rw [Dots.keptOf_hit hk hne, List.length_append, List.map_append]
    exact h3
  · have := h5.size
    simp [World.setCell]; omega

set_option maxRecDepth 20000 in
set_option maxHeartbeats 1000000 in
theorem segments_own (s : ByteArray) (w : World) (h0 : 1 ≤ s.size) (h1 : s.size ≤ 100000) :
    Calls Try.prog 86 #[.string s] w fun e w' => ∃ v, e = .returned v ∧ Owns w' w.heap.size 9 1 v (Dots.segments s.data.toList).length ((Dots.segments s.data.toList).map sv) ∧ Below w.heap.size w w' := by
  have hsz : (s.extract 1 s.size).size ≤ maxLen := by unfold maxLen; rw [ByteArray.size_extract]; omega
  obtain ⟨i0, hi, hz0, hz1, hz2⟩ := info_parts infoStr
  refine (callsIn_wide (n := 5)).1 ?_
  refine callsIn_of_wp_marks Try.func86 rfl trivial ?_ rfl
  simp only [Try.ntmps86, List.size_toArray, List.length_cons, List.length_nil, Nat.reduceAdd, Nat.reduceSub, Array.replicate_succ, Array.replicate_zero, List.push_toArray, List.append_toArray, List.nil_append, List.cons_append]
  gi_wp2_with (gi_at_call 55; refine (callsIn_wide.2 (pieces_any _ _)).mono ?_; rintro e w' ⟨rfl, rfl⟩)
  obtain ⟨L, hL⟩ : ∃ L, L = Dots.split (s.extract 1 s.size).data.toList := ⟨_, rfl⟩
  have bR := (Boxed.new w 33 (.slice none 0 0)).alloc (.cells #[.string (s.extract 1 s.size)] 9)
  have bP := Boxed.new (w.alloc (.cells #[.slice none 0 0] 33)) 9 (.string (s.extract 1 s.size))
  rw [World.size_alloc] at bP
  have hB0 : Below w.heap.size w ((w.alloc (.cells #[.slice none 0 0] 33)).alloc (.cells #[.string (s.extract 1 s.size)] 9)) := ((Below.refl _ w).alloc (Nat.le_refl _) _).alloc (by simp) _
  have hseq := pieces_seq 4 _ _ hsz _ bP
  rw [← hL] at hseq
  have hlen : L.length ≤ 100001 := by
    have := Dots.split_length (s.extract 1 s.size).data.toList
    rw [← size_data, ByteArray.size_extract, ← hL] at this
    omega
  have HL : Hid (L.filter (fun s => !(s == [])) = Dots.segments s.data.toList) := by
    unfold Dots.segments
    rw [hL, extract_from]; rfl
  clear hL
  refine Seq.wpIn_seq (gf := 84) (lb := #[.pointer (some ⟨w.heap.size + 1, 0, none⟩)]) rfl (enters_of Try.func84 (by kernel_rfl) rfl)
    hseq (fun a b c => KeepBox.trans a b c) (KeepBox.putObj (by simp)) (fun W W' hW hg => KeepBox.grown W W' (by simp at hW; omega) hg) (fun r e => by subst e; simp) (Below.refl _ _) (fun _ => rfl)
    (SegI w L) (fun _ _ _ => False) ?sI ?sX ⟨⟨_, bR, World.ownsRow_nil _ _ _ _⟩, hB0, by simp⟩ ?round ?done ?stop
  case sI => exact fun k => segI_stable (by simp)
  case sX => exact fun c k => Seq.stable_pure _
  case round =>
    rintro l k W hk _ hl
    unfold pieceArgs
    gi_wp2
    refine ⟨World.grownBy.refl _ _, ?_⟩
    rintro W2 ⟨⟨v2, hv2, hrow2⟩, hbl2, hsz2⟩ hg2
    have hc := hv2.cell
    have hf := hv2.frozen
    have hkl := Dots.keptOf_length L k
    gi_wp2_with (gi_at_builtin; go_must (refine wpListIn_append_own _ rfl _ _ 33 rfl (w.heap.size + 2) 9 i0 (.string ⟨#[]⟩) 1 16 Try.underlying33 hi hz0 hz1 hz2 rfl (by decide) _ _ _ rfl (hrow2.alloc _) ⟨W2.heap.size, 0, none⟩ 1 1 [.string (bs (Dots.pieceAt L k))] rfl rfl (cell_one_new _ _ _) (by simp [Value.oneCell']) (by simp only [maxLen]; omega) (by omega) (by simp; omega) ?_); intro v' w1 hown' hgrow _; obtain ⟨g', cap', rfl⟩ := ownsRow_succ hown'; have hv1 := (seg_append hv2 hrow2 hsz2 hown' hgrow).1; have hc1 := hv1.cell; have hf1 := hv1.frozen)
    · have hne : (!List.isEmpty (Dots.pieceAt L k)) = true := by assumption
      exact seg_hit hk (by intro e; rw [e] at hne; cases hne) hv2 hrow2 hbl2 hsz2 hown' hgrow
    · have hne : Dots.pieceAt L k = [] := by have : (!List.isEmpty (Dots.pieceAt L k)) = false := by assumption
                                             simpa using this
      exact ⟨KeepsFrom.refl _ _, rfl, ⟨v2, hv2, by rw [Dots.keptOf_miss hk hne]; exact hrow2⟩, hbl2, hsz2⟩
  case done =>
    rintro D W hD ⟨⟨v, hv, hrow⟩, hbl, _⟩ hK
    have hc := hv.cell
    have hf := hv.frozen
    gi_wp2
    refine ⟨by simp, .inl ⟨_, _, rfl, run_takeDeferred hK, ?_⟩⟩
    refine ⟨_, results_tmp rfl _ _ _, v, rfl, ?_, hbl.grown (grownBy_putObj' _ _ _) hbl.size (fun r e => by cases e; simp at hD; omega)⟩
    rw [← HL.out, ← Dots.keptOf_all]
    exact (Owns.of_own (ownsRow_putObj hrow _ hK rfl)).mono (by omega)
  case stop =>
    rintro D c k W hD hk h
    exact h.elim

theorem segments_any (s : ByteArray) (w : World) (h0 : 1 ≤ s.size) (h1 : s.size ≤ 100000) :
    Calls Try.prog 86 #[.string s] w fun e w' => ∃ v, e = .returned v ∧ SlStr w' v (Dots.segments s.data.toList) ∧ Below w.heap.size w w' := by
  refine (segments_own s w h0 h1).mono ?_
  rintro e w' ⟨v, rfl, h, hb⟩
  exact ⟨v, rfl, SlStr.of_owns h, hb⟩

end Go.Proofs.Ytefilalapkdegaa
