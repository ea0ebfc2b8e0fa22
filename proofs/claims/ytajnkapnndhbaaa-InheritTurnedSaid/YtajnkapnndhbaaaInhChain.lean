/- slices.AppendSeq and slices.Collect over the iterator upwards; Chain of the program. -/
import Derived.Test.YtajnkapnndhbaaaInhUp
namespace Go.Proofs.Ytajnkapnndhbaaa
open Go.RowKit Str Go.Shelf Mem
attribute [local go_sem] Oper.semAt_some Seq.wide_fn Seq.wide_round_fn Seq.wide_depth Seq.wide_round_depth
set_option linter.unusedVariables false
set_option linter.unusedSimpArgs false

theorem infoInt : (Try.prog.info? 3).map (fun i => (i.zero, i.size, i.bytes)) = some (some (.int .i64 0), 1, 8) := by kernel_rfl

theorem stable_belowB {own : Nat → Prop} {B B0 : Nat} {w : World} (ho : ∀ r, own r → B0 ≤ r) (hB : B0 ≤ B) (hw : B0 ≤ w.heap.size) : Seq.Stable own B (fun W => Below B0 w W) :=
  fun X Y row hx hg hr => hx.grown hg (Nat.le_trans hw hx.size) (fun r e => by
    rcases hr r e with h | ⟨h, _⟩
    · exact ho r h
    · omega)

/-- The box b holds a slice that owns integers. -/
def HoldsInts (base b : Nat) (l : List Int) (W : World) : Prop := ∃ v, Boxed W b 44 v ∧ W.ownsRow base 3 1 v l.length (l.map iv)

theorem holdsInts_stable {own : Nat → Prop} {B base b : Nat} {l : List Int} (ho : ¬ own b) (hb : b < B) (hbase : ∀ r, own r → r < base) : Seq.Stable own B (HoldsInts base b l) := by
  rintro X Y row ⟨v, hv, hr⟩ hg hrow
  refine ⟨v, Seq.stable_boxed ho hb X Y row hv hg hrow, hr.kept hg ?_⟩
  rcases hr.2 with ⟨rfl, _⟩ | ⟨g, cap, cur, rfl, hbg, hgb, _⟩
  · exact .inl rfl
  · refine .inr fun e' => ?_
    rcases hrow g (by simpa [Value.ownBlock] using e'.symm) with h | ⟨_, o, ho', hc⟩
    · have := hbase g h; omega
    · rw [hgb] at ho'; cases ho'; cases hc

/-- What the append leaves. -/
theorem int_append {W w1 : World} {b base : Nat} {v v' : Value} {k m : Nat} {xs ys : List Value} {tmp : Obj} (hbb : b < base) (hv : Boxed W b 44 v) (hrow : W.ownsRow base 3 1 v k xs) (hsz : base ≤ W.heap.size)
    (hown' : w1.ownsRow base 3 1 v' m ys) (hgrow : (W.alloc tmp).grownBy w1 v.ownBlock) :
    Boxed w1 b 44 v ∧ Boxed (w1.setCell ⟨b, 0, none⟩ v') b 44 v' ∧ (w1.setCell ⟨b, 0, none⟩ v').ownsRow base 3 1 v' m ys ∧ KeepsOthers W (w1.setCell ⟨b, 0, none⟩ v') ∧ (W.grownBy w1 v.ownBlock) := by
  have hg : W.grownBy w1 v.ownBlock := by
    have h1 := World.grownBy_alloc W tmp v.ownBlock
    exact ⟨hgrow.os.trans h1.os, hgrow.tape.trans h1.tape, hgrow.output.trans h1.output, Nat.le_trans h1.size hgrow.size, fun j hj hne => (hgrow.block j (Nat.lt_of_lt_of_le hj h1.size) hne).trans (h1.block j hj hne)⟩
  have hne : some b ≠ v.ownBlock := by
    intro e
    have := (hrow.lt b e.symm).1
    omega
  have hv1 := hv.kept hg hne
  have hne' : v'.ownBlock = none ∨ v'.ownBlock ≠ some b := by
    rcases hx : v'.ownBlock with _ | j
    · exact .inl rfl
    · refine .inr fun e => ?_
      cases e
      have := (hown'.lt b hx).1
      omega
  refine ⟨hv1, hv1.set v', hown'.kept (grownBy_setCell' w1 b v') hne', ?_, hg⟩
  refine (KeepsOthers.of_grownBy hg fun j o ej hj => ?_).trans (KeepsOthers.setCell _ _ _)
  rcases hrow.2 with ⟨rfl, _⟩ | ⟨g, cap, cur, rfl, _, hgb, _⟩
  · simp [Value.ownBlock] at ej
  · obtain rfl : g = j := by simpa [Value.ownBlock] using ej
    rw [hgb] at hj; cases hj; rfl

/-- The first k of the chain. -/
def taken (C : List Nat) (k : Nat) : List Int := nums (C.take k)
theorem taken_succ {C : List Nat} {k : Nat} (h : k < C.length) : taken C (k + 1) = taken C k ++ [((nthOf C k : Nat) : Int)] := by
  unfold taken nums
  rw [← List.take_append_getElem h, List.map_append]
  simp [nthOf, List.getD, h]
theorem taken_length {C : List Nat} {k : Nat} (h : k ≤ C.length) : (taken C k).length = k := by unfold taken; rw [nums_length]; simp; omega

def SeqI (B0 : Nat) (w : World) (C : List Nat) (k : Nat) (W : World) : Prop :=
  HoldsInts (w.heap.size + 1) w.heap.size (taken C k) W ∧ Below B0 w W ∧ w.heap.size + 1 ≤ W.heap.size

theorem seqI_stable {B0 Bd : Nat} {w : World} {C : List Nat} {B k : Nat} (hBd : Bd < w.heap.size) (h0 : B0 ≤ Bd) (hB : w.heap.size < B) : Seq.Stable (· = Bd) B (SeqI B0 w C k) := by
  rintro X Y row ⟨h1, h2, h3⟩ hg hr
  exact ⟨holdsInts_stable (own := (· = Bd)) (B := B) (by omega) (by omega) (by intro r e; omega) X Y row h1 hg hr, stable_belowB (own := (· = Bd)) (B := B) (by intro r e; omega) (by omega) (by omega) X Y row h2 hg hr, Nat.le_trans h3 hg.size⟩

set_option maxHeartbeats 1000000 in
theorem appendSeq_any (B0 Bd Bt : Nat) (a : Option Addr) (c : Nat) (L : List DirV) (d : Nat) (hv : Inh.Valid L) (hs : Small L) (hd : d < L.length) (hne : Bd ≠ Bt) (hda : ∀ ad : Addr, a = some ad → ad.block ≠ Bd)
    (w : World) (hbd : Boxed w Bd 3 (.int .i64 d)) (hbt : Boxed w Bt 62 (.slice a L.length c)) (hD : Dirs w a L.length L) (hB0 : B0 ≤ Bd) (hL0 : 0 < L.length) :
    Calls Try.prog 71 #[.slice none 0 0, .func (.func 72) #[] #[.pointer (some ⟨Bd, 0, none⟩), .pointer (some ⟨Bt, 0, none⟩)]] w
      fun e w' => ∃ a' c', e = .returned (.slice a' (Inh.chain L d).length c') ∧ Ints w' a' (Inh.chain L d).length (nums (Inh.chain L d)) ∧ (Inh.chain L d).length ≤ c' ∧ c' ≤ maxLen ∧ Below B0 w w' := by
  obtain ⟨i0, hi, hz0, hz1, hz2⟩ := info_parts infoInt
  have hclen : (Inh.chain L d).length ≤ 129 := Inh.chain_length hv 129 d (by omega) (by unfold Inh.up; rw [if_neg (by omega)]; have := (Inh.valid_dir hv hd).2.1; simp; omega)
  have hseq := fun w' (h : Below w.heap.size w w') => up_seq 4 Bd Bt a c L d hv hs hd hne hda w' ((h.block Bd hbd.lt).trans hbd) ((h.block Bt hbt.lt).trans hbt) (hD.below h)
  obtain ⟨C, hC⟩ : ∃ C, C = Inh.chain L d := ⟨_, rfl⟩
  rw [← hC] at hseq hclen ⊢
  clear hC
  have hkeep : ∀ j, upKeep a Bd Bt j → j < w.heap.size := by
    rintro j (rfl | rfl | ⟨ad, e, rfl⟩)
    · exact hbd.lt
    · exact hbt.lt
    · obtain ⟨ad', e', hlt, _⟩ := Rd.get hD hL0
      rw [e] at e'; cases e'; exact hlt
  refine (callsIn_wide (n := 5)).1 ?_
  refine callsIn_of_wp_marks Try.func71 rfl trivial ?_ rfl
  simp only [Try.ntmps71, List.size_toArray, List.length_cons, List.length_nil, Nat.reduceAdd, Nat.reduceSub, Array.replicate_succ, Array.replicate_zero, List.push_toArray, List.append_toArray, List.nil_append, List.cons_append]
  gi_wp2
  have bR := Boxed.new w 44 (.slice none 0 0)
  have hb1 : Below w.heap.size w (w.alloc (.cells #[.slice none 0 0] 44)) := (Below.refl _ w).alloc (Nat.le_refl _) _
  refine Seq.wpIn_seq (gf := 72) (lb := #[.pointer (some ⟨Bd, 0, none⟩), .pointer (some ⟨Bt, 0, none⟩)]) rfl (enters_of Try.func72 (by kernel_rfl) rfl)
    (hseq _ hb1) (fun a b c => KeepsUp.trans a b c) (KeepsUp.putObj (fun j hj => by have := hkeep j hj; simp; omega)) (fun W W' hW hg => KeepsUp.grown hkeep W W' (by simp at hW; omega) hg) (fun r e => by subst e; have := hbd.lt; simp; omega) (Below.refl _ _) (fun _ => rfl)
    (SeqI B0 w C) (fun _ _ _ => False) ?sI ?sX ⟨⟨_, bR, World.ownsRow_nil _ _ _ _⟩, (hb1.mono (by have := hbd.lt; omega)), by simp⟩ ?round ?done ?stop
  case sI => exact fun k => seqI_stable hbd.lt hB0 (by simp)
  case sX => exact fun c k => Seq.stable_pure _
  case round =>
    rintro l k W hk _ hl
    unfold upArgs
    gi_wp2
    refine ⟨World.grownBy.refl _ _, ?_⟩
    rintro W2 ⟨⟨v2, hv2, hrow2⟩, hbl2, hsz2⟩ hg2
    have hc := hv2.cell
    have hf := hv2.frozen
    have hkl : (taken C k).length ≤ 129 := by rw [taken_length (Nat.le_of_lt hk)]; omega
    gi_wp2_with (gi_at_builtin; go_must (refine wpListIn_append_own _ rfl _ _ 44 rfl (w.heap.size + 1) 3 i0 (.int .i64 0) 1 8 Try.underlying44 hi hz0 hz1 hz2 rfl (by decide) _ _ _ rfl (hrow2.alloc _) ⟨W2.heap.size, 0, none⟩ 1 1 [.int .i64 ((nthOf C k : Nat) : Int)] rfl rfl (cell_one_new _ _ _) (by simp [Value.oneCell']) (by simp only [maxLen]; omega) (by omega) (by simp; omega) ?_); intro v' w1 hown' hgrow _; obtain ⟨g', cap', rfl⟩ := ownsRow_succ hown'; have hv1 := (int_append (by omega) hv2 hrow2 hsz2 hown' hgrow).1; have hc1 := hv1.cell; have hf1 := hv1.frozen)
    obtain ⟨_, i2, i3, i4, i5⟩ := int_append (by omega) hv2 hrow2 hsz2 hown' hgrow
    have e : ∀ j, v2.ownBlock = some j → w.heap.size + 1 ≤ j := fun j hj => (hrow2.lt j hj).1
    refine ⟨i4.from _, ⟨?_, ?_⟩, ⟨_, i2, ?_⟩, ?_, ?_⟩
    · intro j hj
      have hjw := hkeep j hj
      refine (Below.heap_setCell w1 ⟨w.heap.size, 0, none⟩ _ _ (by simp; omega)).trans (i5.block _ (by omega) ?_)
      intro e'
      have := e _ e'.symm
      omega
    · have := i5.size
      simp [World.setCell]; omega
    · rw [taken_succ hk, List.length_append, List.map_append]
      exact i3
    · exact (hbl2.grown i5 (by have := hbd.lt; omega) (fun j hj => by have := e j hj; have := hbd.lt; omega)).setCell (p := ⟨w.heap.size, 0, none⟩) (by have := hbd.lt; show B0 ≤ w.heap.size; omega) _
    · have := i5.size
      simp [World.setCell]; omega
  case done =>
    rintro D W hD ⟨⟨v, hv, hrow⟩, hbl, hsz⟩ hK
    have hc := hv.cell
    have hf := hv.frozen
    gi_wp2
    refine ⟨by simp, .inl ⟨_, _, rfl, run_takeDeferred hK, ?_⟩⟩
    have hown := ownsRow_putObj hrow (.deferred none) hK rfl
    have htk : taken C C.length = nums C := by unfold taken; rw [List.take_length]
    have htl : (nums C).length = C.length := nums_length C
    rw [htk, htl] at hown
    have hb2 := hbl.grown (grownBy_putObj' W D (.deferred none)) (by have := hbd.lt; omega) (fun r e => by cases e; simp at hD; have := hbd.lt; omega)
    have hO := Owns.of_own hown
    obtain ⟨a', c', rfl, h1, h2, h3⟩ := hO.form
    exact ⟨_, results_tmp rfl _ _ _, a', c', rfl, h3, h1, h2, hb2⟩
  case stop =>
    rintro D c k W hD hk h
    exact h.elim

theorem collect_any (B0 Bd Bt : Nat) (a : Option Addr) (c : Nat) (L : List DirV) (d : Nat) (hv : Inh.Valid L) (hs : Small L) (hd : d < L.length) (hne : Bd ≠ Bt) (hda : ∀ ad : Addr, a = some ad → ad.block ≠ Bd)
    (w : World) (hbd : Boxed w Bd 3 (.int .i64 d)) (hbt : Boxed w Bt 62 (.slice a L.length c)) (hD : Dirs w a L.length L) (hB0 : B0 ≤ Bd) (hL0 : 0 < L.length) :
    Calls Try.prog 56 #[.func (.func 72) #[] #[.pointer (some ⟨Bd, 0, none⟩), .pointer (some ⟨Bt, 0, none⟩)]] w
      fun e w' => ∃ a' c', e = .returned (.slice a' (Inh.chain L d).length c') ∧ Ints w' a' (Inh.chain L d).length (nums (Inh.chain L d)) ∧ (Inh.chain L d).length ≤ c' ∧ c' ≤ maxLen ∧ Below B0 w w' := by
  have hq := appendSeq_any B0 Bd Bt a c L d hv hs hd hne hda w hbd hbt hD hB0 hL0
  obtain ⟨C, hC⟩ : ∃ C, C = Inh.chain L d := ⟨_, rfl⟩
  rw [← hC] at hq ⊢
  clear hC
  go_enter Try.func56, Try.ntmps56
  go_wp2_with (go_at_call 71; refine hq.mono ?_; rintro e w1 ⟨a', c', rfl, h1, h2, h3, h4⟩)
  go_ret
  exact ⟨a', c', rfl, h1, h2, h3, h4⟩

/-- What Chain returns: the numbers, an error. -/
def chainR (L : List DirV) (d : Int) : List Nat := if Inh.asked L d = 0 then Inh.chain L d else []
def ChainPost (L : List DirV) (d : Int) (w : World) (e : Ending) (w' : World) : Prop :=
  ∃ a' c', e = .returned (.tuple #[.slice a' (chainR L d).length c', .int .i64 (Inh.asked L d)]) ∧ Ints w' a' (chainR L d).length (nums (chainR L d)) ∧ (chainR L d).length ≤ c' ∧ c' ≤ maxLen ∧ Below w.heap.size w w'

set_option maxRecDepth 20000 in
theorem chain_any (a : Option Addr) (c : Nat) (L : List DirV) (d : Int) (w : World) (hD : Dirs w a L.length L) (hc : L.length ≤ c) (hs : Small L) :
    Calls Try.prog 28 #[.slice a L.length c, .int .i64 d] w fun e w' => ChainPost L d w e w' := by
  have hq := fun w h => at_any a c L d w h hc hs
  unfold ChainPost chainR
  by_cases hv : Inh.asked L d = 0
  · obtain ⟨hval, hd0, hdL⟩ := Inh.asked_ok hv
    obtain ⟨j, rfl⟩ : ∃ j : Nat, d = j := ⟨d.toNat, by omega⟩
    unfold placeOf at hq
    rw [if_pos hv, hv] at hq
    rw [if_pos hv, hv]
    have hup := fun w => up_any a c L.length j w
    have hcl : ∀ (W : World) (N : Nat), N = W.heap.size → Below w.heap.size w W → Calls Try.prog 56 #[.func (.func 72) #[] #[.pointer (some ⟨N + 1, 0, none⟩), .pointer (some ⟨N, 0, none⟩)]] ((W.alloc (.cells #[.slice a L.length c] 62)).alloc (.cells #[.int .i64 j] 3))
        fun e w' => ∃ a' c', e = .returned (.slice a' (Inh.chain L j).length c') ∧ Ints w' a' (Inh.chain L j).length (nums (Inh.chain L j)) ∧ (Inh.chain L j).length ≤ c' ∧ c' ≤ maxLen ∧ Below w.heap.size w w' := by
      intro W N hN h
      subst hN
      have hB := h.trans ((below_two W (.cells #[.slice a L.length c] 62) (.cells #[.int .i64 j] 3)).mono h.size)
      refine (collect_any w.heap.size (W.heap.size + 1) W.heap.size a c L j hval hs (by omega) (by omega) ?_ _ ?_ ((Boxed.new W 62 (.slice a L.length c)).alloc _) (hD.below hB) (by have := h.size; omega) (by omega)).mono ?_
      · intro ad e
        obtain ⟨ad', e', hlt, _⟩ := Rd.get hD (by omega)
        rw [e] at e'; cases e'
        have := h.size
        omega
      · have := Boxed.new (W.alloc (.cells #[.slice a L.length c] 62)) 3 (.int .i64 j)
        rwa [World.size_alloc] at this
      · rintro e w3 ⟨a', c', rfl, h2, h3, h4, h5⟩
        exact ⟨a', c', rfl, h2, h3, h4, hB.trans h5⟩
    obtain ⟨C, hC⟩ : ∃ C, C = Inh.chain L j := ⟨_, rfl⟩
    rw [← hC] at hcl ⊢
    clear hC hv
    go_enter Try.func28, Try.ntmps28
    go_wp2_with (first
      | (go_at_call 39; refine (hq _ hD).mono ?_; rintro e w1 ⟨rfl, h1⟩)
      | (go_at_call 57; refine (hup _).mono ?_; rintro e w2 ⟨rfl, rfl⟩)
      | (go_at_call 56; refine (hcl _ _ (by simp) (h1.alloc h1.size _)).mono ?_; rintro e w3 ⟨a', c', rfl, h2, h3, h4, h5⟩))
    go_ret2
    exact ⟨a', c', rfl, h2, h3, h4, h5⟩
  · unfold placeOf at hq
    rw [if_neg hv] at hq
    rw [if_neg hv]
    obtain ⟨n, hn⟩ : ∃ n, n = Inh.asked L d := ⟨_, rfl⟩
    rw [← hn] at hq hv ⊢
    clear hn
    go_enter Try.func28, Try.ntmps28
    go_wp2_with (go_at_call 39; refine (hq _ hD).mono ?_; rintro e w1 ⟨rfl, h1⟩)
    go_ret2
    exact ⟨none, 0, rfl, Rd.nil _ _ _, Nat.le_refl _, by simp [maxLen], h1.alloc h1.size _⟩

end Go.Proofs.Ytajnkapnndhbaaa
