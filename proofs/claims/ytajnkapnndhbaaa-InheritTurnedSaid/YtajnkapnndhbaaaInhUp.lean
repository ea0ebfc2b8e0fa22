/- The iterator upwards: a directory, and those above it. -/
import Derived.Test.YtajnkapnndhbaaaInhSpots
import Derived.Test.YtajnkapnndhbaaaPieces
namespace Go.Proofs.Ytajnkapnndhbaaa
open Go.RowKit Str Go.Shelf Mem
attribute [local go_sem] Oper.semAt_some Seq.wide_fn Seq.wide_round_fn Seq.wide_depth Seq.wide_round_depth
set_option linter.unusedVariables false
set_option linter.unusedSimpArgs false

/-- The blocks of a set are as they were. -/
def Keeps (p : Nat → Prop) (W W' : World) : Prop := ∀ j, p j → W'.heap[j]? = W.heap[j]?
theorem Keeps.trans {p : Nat → Prop} (a b c : World) (h : Keeps p a b) (k : Keeps p b c) : Keeps p a c := fun j hj => (k j hj).trans (h j hj)
theorem Keeps.putObj {p : Nat → Prop} {B : Nat} (hB : ∀ j, p j → j < B) (W : World) (l : Nat) (o o' : Obj) (hl : B ≤ l) (_ : W.heap[l]? = some o) (_ : o.isCells = false) : Keeps p W (W.putObj l o') :=
  fun j hj => World.putObj_heap_other (by have := hB j hj; omega)
theorem Keeps.grown {p : Nat → Prop} {B : Nat} (hB : ∀ j, p j → j < B) (a b : World) (hs : B ≤ a.heap.size) (h : a.grownBy b none) : Keeps p a b := fun j hj => h.block j (by have := hB j hj; omega) (by simp)
theorem grown_of_below {w w' : World} (h : Below w.heap.size w w') (row : Option Nat) : w.grownBy w' row := ⟨h.os, h.tape, h.output, h.size, fun k hk _ => h.block k hk⟩

/-- What the iterator needs to be left alone: its two boxes, the directories. -/
def upKeep (a : Option Addr) (Bd Bt : Nat) (j : Nat) : Prop := j = Bd ∨ j = Bt ∨ ∃ ad : Addr, a = some ad ∧ j = ad.block

def nthOf (C : List Nat) (k : Nat) : Nat := C.getD k 0
def upArgs (C : List Nat) (k : Nat) : Array Value := #[.int .i64 (nthOf C k : Nat)]

/-- Between two rounds. -/
def UpState (L : List DirV) (C : List Nat) (a : Option Addr) (c Bd Bt : Nat) (J : Nat → World → Prop) (wr : World) : Prop :=
  ∃ (k : Nat) (v : Int), J k wr ∧ k ≤ C.length ∧ -1 ≤ v ∧ v < L.length ∧ Inh.chain L v = C.drop k ∧ Boxed wr Bd 3 (.int .i64 v) ∧ Boxed wr Bt 62 (.slice a L.length c) ∧ Dirs wr a L.length L

def upMeasure (L : List DirV) (Bd : Nat) (wr : World) : Nat := match wr.cell? ⟨Bd, 0, none⟩ with | some (.int _ v) => Inh.up L v | _ => 0

theorem Dirs.keeps {w w' : World} {a : Option Addr} {L : List DirV} {n : Nat} (h : Dirs w a n L) (hs : w.heap.size ≤ w'.heap.size) (hk : ∀ ad : Addr, a = some ad → w'.heap[ad.block]? = w.heap[ad.block]?) : Dirs w' a n L :=
  Rd.keep h hs fun ad e _ _ => hk ad e

set_option maxRecDepth 100000 in
set_option maxHeartbeats 1000000 in
theorem up_run (n l Bd Bt : Nat) (a : Option Addr) (c : Nat) (L : List DirV) (d : Nat) (hv : Inh.Valid L) (hs : Small L) (hd : d < L.length) (hne : Bd ≠ Bt) (hda : ∀ ad : Addr, a = some ad → ad.block ≠ Bd) (J Jx : Nat → World → Prop)
    (hJ : Seq.StepsBy (· = Bd) J)
    (hY : ∀ k W1, k < (Inh.chain L d).length → J k W1 → YieldAt Fence.wide (n - 1) Try.prog l (upArgs (Inh.chain L d) k) W1 fun e W' =>
      (e = .returned (.bool true) ∧ J (k + 1) W' ∧ Keeps (upKeep a Bd Bt) W1 W' ∧ W1.heap.size ≤ W'.heap.size) ∨ (e = .returned (.bool false) ∧ Jx k W'))
    (W : World) (hbd : Boxed W Bd 3 (.int .i64 d)) (hbt : Boxed W Bt 62 (.slice a L.length c)) (hD : Dirs W a L.length L) (h0 : J 0 W) :
    CallsIn Fence.wide n Try.prog 72 #[.func (.yield l) #[] #[], .pointer (some ⟨Bd, 0, none⟩), .pointer (some ⟨Bt, 0, none⟩)] W fun e W' => (∃ v, e = .returned v) ∧ (J (Inh.chain L d).length W' ∨ ∃ k, k < (Inh.chain L d).length ∧ Jx k W') := by
  obtain ⟨C, hC⟩ : ∃ C, C = Inh.chain L d := ⟨_, rfl⟩
  have HC := Lib.hid hC
  rw [← hC] at hY ⊢
  clear hC
  refine callsIn_of_wp Try.func72 rfl trivial ?_ rfl
  simp only [Try.ntmps72, List.size_toArray, List.length_cons, List.length_nil, Nat.reduceAdd, Nat.reduceSub, Array.replicate_succ, Array.replicate_zero, List.push_toArray, List.append_toArray, List.nil_append, List.cons_append]
  gi_wp2
  gi_loopw [4] (fun _ wr => UpState L C a c Bd Bt J wr) (fun _ wr => upMeasure L Bd wr)
  case atStart => exact ⟨0, d, h0, Nat.zero_le _, by omega, by omega, by rw [HC.out]; rfl, hbd, hbt, hD⟩
  case round =>
    obtain ⟨k, v, hJk, hk, hv1, hvL, hch, hb1, hb2, hD1⟩ := hrel
    have c1 := hb1.cell
    have c2 := hb2.cell
    have f1 := hb1.frozen
    by_cases hneg : v < 0
    · rw [Inh.chain_neg L hneg] at hch
      have hkN : k = C.length := by have := congrArg List.length hch; simp at this; omega
      subst hkN
      clear hch
      gi_wp2
      go_end0
      exact ⟨⟨_, rfl⟩, .inl hJk⟩
    · obtain ⟨j, rfl⟩ : ∃ j : Nat, v = j := ⟨v.toNat, by omega⟩
      have hjL : j < L.length := by omega
      rw [Inh.chain_step hv hjL] at hch
      have hkN : k < C.length := by have := congrArg List.length hch; simp at this; omega
      have hgk : nthOf C k = j := by
        unfold nthOf
        have := congrArg (fun l => l.getD 0 0) hch
        simpa [List.getD] using this.symm
      have hnext := congrArg (fun l => l.drop 1) hch
      simp only [List.drop_succ_cons, List.drop_zero, List.drop_drop] at hnext
      obtain ⟨fn, tmps, assign, body, hy, hR⟩ := hY k wr hkN hJk
      unfold upArgs at hy
      rw [hgk] at hy
      have Hn := Lib.hid hnext
      clear hch hgk hnext
      gi_wp2
      refine hR.mono ?_
      rintro e W3 (⟨rfl, hJ3, hk3, hsz3⟩ | ⟨rfl, hJx3⟩)
      · have hb13 : Boxed W3 Bd 3 (.int .i64 j) := (hk3 Bd (.inl rfl)).trans hb1
        have hb23 : Boxed W3 Bt 62 (.slice a L.length c) := (hk3 Bt (.inr (.inl rfl))).trans hb2
        have hD3 : Dirs W3 a L.length L := Dirs.keeps hD1 hsz3 fun ad e => hk3 ad.block (.inr (.inr ⟨ad, e, rfl⟩))
        have c13 := hb13.cell
        have c23 := hb23.cell
        have f13 := hb13.frozen
        have hav := fun w h => above_any a c L j w h hs hjL
        have hr := Inh.above_range L j
        have hu := Inh.up_less hv hjL
        obtain ⟨v2, hv2⟩ : ∃ v2, v2 = Inh.above L j := ⟨_, rfl⟩
        rw [← hv2] at hav hr hu Hn
        clear hv2
        gi_wp2_with (gi_at_call 55; refine (callsIn_wide.2 (hav _ hD3)).mono ?_; rintro e w4 ⟨rfl, h4⟩; have c14 := (World.cell?_of_block (w := W3) (a := ⟨Bd, 0, none⟩) (h4.block _ hb13.lt)).trans c13; have f14 := (h4.frozen (p := ⟨Bd, 0, none⟩) hb13.lt).trans f13)
        have hb14 : Boxed w4 Bd 3 (.int .i64 j) := (h4.block _ hb13.lt).trans hb13
        have hg4 := grown_of_below h4 (some Bd)
        have hg5 : W3.grownBy (w4.setCell ⟨Bd, 0, none⟩ (.int .i64 v2)) (some Bd) := by
          have h2 := grownBy_setCell' w4 Bd (.int .i64 v2)
          exact ⟨h2.os.trans hg4.os, h2.tape.trans hg4.tape, h2.output.trans hg4.output, Nat.le_trans hg4.size h2.size, fun k hk hne => (h2.block k (Nat.lt_of_lt_of_le hk hg4.size) hne).trans (hg4.block k hk hne)⟩
        go_roundw
        case rel =>
          refine ⟨k + 1, v2, hJ _ _ _ _ hJ3 hg5 (fun r e => by cases e; rfl), by omega, hr.1, hr.2, ?_, hb14.set _, ?_, ?_⟩
          · exact Hn.out
          · exact (hg5.block Bt hb23.lt (by intro e; cases e; exact hne rfl)).trans hb23
          · exact Dirs.keeps hD3 hg5.size fun ad e => by
              by_cases hlt : ad.block < W3.heap.size
              · exact hg5.block ad.block hlt (by intro e'; exact hda ad e (Option.some.inj e'))
              · rcases Nat.eq_zero_or_pos L.length with h0 | h0
                · omega
                · obtain ⟨ad', e', hlt', _⟩ := Rd.get hD3 h0
                  rw [e] at e'; cases e'
                  exact absurd hlt' hlt
        case measure =>
          unfold upMeasure
          rw [c1, (hb14.set (.int .i64 v2)).cell]
          exact hu
      · gi_wp2
        go_end0
        exact ⟨⟨_, rfl⟩, .inr ⟨k, hkN, hJx3⟩⟩

/-- What a loop's body must keep. -/
def KeepsUp (a : Option Addr) (Bd Bt : Nat) (W W' : World) : Prop := Keeps (upKeep a Bd Bt) W W' ∧ W.heap.size ≤ W'.heap.size
theorem KeepsUp.trans {a : Option Addr} {Bd Bt : Nat} (A B C : World) (h : KeepsUp a Bd Bt A B) (k : KeepsUp a Bd Bt B C) : KeepsUp a Bd Bt A C := ⟨Keeps.trans _ _ _ h.1 k.1, Nat.le_trans h.2 k.2⟩
theorem KeepsUp.putObj {a : Option Addr} {Bd Bt B : Nat} (hB : ∀ j, upKeep a Bd Bt j → j < B) (W : World) (l : Nat) (o o' : Obj) (hl : B ≤ l) (h1 : W.heap[l]? = some o) (h2 : o.isCells = false) : KeepsUp a Bd Bt W (W.putObj l o') :=
  ⟨Keeps.putObj hB W l o o' hl h1 h2, by simp [World.putObj]⟩
theorem KeepsUp.grown {a : Option Addr} {Bd Bt B : Nat} (hB : ∀ j, upKeep a Bd Bt j → j < B) (W W' : World) (hs : B ≤ W.heap.size) (h : W.grownBy W' none) : KeepsUp a Bd Bt W W' := ⟨Keeps.grown hB W W' hs h, h.size⟩

/-- The iterator keeps its word at every loop over it. -/
theorem up_seq (n Bd Bt : Nat) (a : Option Addr) (c : Nat) (L : List DirV) (d : Nat) (hv : Inh.Valid L) (hs : Small L) (hd : d < L.length) (hne : Bd ≠ Bt) (hda : ∀ ad : Addr, a = some ad → ad.block ≠ Bd)
    (w : World) (hbd : Boxed w Bd 3 (.int .i64 d)) (hbt : Boxed w Bt 62 (.slice a L.length c)) (hD : Dirs w a L.length L) :
    Seq.SeqN Try.prog n 72 #[.pointer (some ⟨Bd, 0, none⟩), .pointer (some ⟨Bt, 0, none⟩)] (upArgs (Inh.chain L d)) (Inh.chain L d).length (· = Bd) (KeepsUp a Bd Bt) w :=
  fun l J Jx W hW hJ _ hY h0 => up_run n l Bd Bt a c L d hv hs hd hne hda J Jx hJ hY W ((hW.block Bd hbd.lt).trans hbd) ((hW.block Bt hbt.lt).trans hbt) (hD.below hW) h0

theorem up_any (a : Option Addr) (c n : Nat) (d : Int) (w : World) : Calls Try.prog 57 #[.slice a n c, .int .i64 d] w fun e w' =>
    e = .returned (.func (.func 72) #[] #[.pointer (some ⟨w.heap.size + 1, 0, none⟩), .pointer (some ⟨w.heap.size, 0, none⟩)]) ∧ (w.alloc (.cells #[.slice a n c] 62)).alloc (.cells #[.int .i64 d] 3) = w' := by
  go_enter Try.func57, Try.ntmps57
  go_wp2
  go_ret
  exact ⟨rfl, rfl⟩

end Go.Proofs.Ytajnkapnndhbaaa
