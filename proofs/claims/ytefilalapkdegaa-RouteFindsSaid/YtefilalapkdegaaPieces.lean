/- The iterator over the pieces of a path: it yields the strings between the slashes, and whether it is the last one. -/
import Derived.Test.YtefilalapkdegaaStrCut
import Derived.Test.YtefilalapkdegaaSeq
import Derived.Shelf.Abstract
import Derived.Shelf.RegionOpen
import Derived.OwnWalkIn
import Derived.TacticsInMore
import Derived.LoopNIn
import Derived.LoopIn
import Derived.Test.YtefilalapkdegaaDotsMore
namespace Go.Proofs.Ytefilalapkdegaa
open Go.RowKit Str Go.Shelf
attribute [local go_sem] Oper.semAt_some Seq.wide_fn Seq.wide_round_fn Seq.wide_depth Seq.wide_round_depth
set_option linter.unusedVariables false
set_option linter.unusedSimpArgs false

theorem pieces_any (s : ByteArray) (w : World) : Calls Try.prog 55 #[.string s] w fun e w' => e = .returned (.func (.func 84) #[] #[.pointer (some ⟨w.heap.size, 0, none⟩)]) ∧ w.alloc (.cells #[.string s] 9) = w' := by
  go_enter Try.func55, Try.ntmps55
  go_wp2
  go_ret
  exact ⟨rfl, rfl⟩

/-- The arguments of round k. -/
def pieceArgs (L : List (List UInt8)) (k : Nat) : Array Value := #[.string (bs (Dots.pieceAt L k)), .bool (Dots.lastAt L k)]

def strLen : Option Value → Nat
  | some (.string r) => r.size
  | _ => 0
def oneIf : Value → Nat
  | .bool true => 1
  | _ => 0

/-- Between two rounds. -/
def PState (L : List (List UInt8)) (Bn : Nat) (J : Nat → World → Prop) (more : Value) (wr : World) : Prop :=
  ∃ k, J k wr ∧ ((more = .bool true ∧ k < L.length ∧ ∃ r : ByteArray, r.size ≤ maxLen ∧ Dots.split r.data.toList = L.drop k ∧ Boxed wr Bn 9 (.string r)) ∨ (more = .bool false ∧ k = L.length))

theorem boxed_step {W : World} {Bn t : Nat} {v : Value} (h : Boxed W Bn t v) (m : Nat) (u : Value) : W.grownBy ((W.drewN m).setCell ⟨Bn, 0, none⟩ u) (some Bn) := by
  have h1 : W.grownBy (W.drewN m) (some Bn) := ⟨rfl, rfl, rfl, Nat.le_refl _, fun _ _ _ => rfl⟩
  have h2 := grownBy_setCell' (W.drewN m) Bn u
  exact ⟨h2.os.trans h1.os, h2.tape.trans h1.tape, h2.output.trans h1.output, Nat.le_trans h1.size h2.size, fun k hk hne => (h2.block k hk hne).trans (h1.block k hk hne)⟩

set_option maxRecDepth 100000 in
set_option maxHeartbeats 1000000 in
theorem pieces_run (n l Bn : Nat) (p : List UInt8) (r0 : ByteArray) (hr0 : r0.data.toList = p) (hs0 : r0.size ≤ maxLen) (J Jx : Nat → World → Prop)
    (hJ : Seq.StepsBy (· = Bn) J)
    (hY : ∀ k W1, k < (Dots.split p).length → J k W1 → YieldAt Fence.wide (n - 1) Try.prog l (pieceArgs (Dots.split p) k) W1 fun e W' =>
      (e = .returned (.bool true) ∧ J (k + 1) W' ∧ W'.heap[Bn]? = W1.heap[Bn]?) ∨ (e = .returned (.bool false) ∧ Jx k W'))
    (W : World) (hb : Boxed W Bn 9 (.string r0)) (h0 : J 0 W) :
    CallsIn Fence.wide n Try.prog 84 #[.func (.yield l) #[] #[], .pointer (some ⟨Bn, 0, none⟩)] W fun e W' => (∃ v, e = .returned v) ∧ (J (Dots.split p).length W' ∨ ∃ k, k < (Dots.split p).length ∧ Jx k W') := by
  obtain ⟨L, hL⟩ : ∃ L, L = Dots.split p := ⟨_, rfl⟩
  have hHL := Lib.hid hL
  rw [← hL] at hY ⊢
  clear hL
  have hHr := Lib.hid hr0
  clear hr0
  have hpos : 0 < L.length := by rw [hHL.out]; exact List.length_pos_iff.2 (Dots.split_ne p)
  refine callsIn_of_wp Try.func84 rfl trivial ?_ rfl
  simp only [Try.ntmps84, List.size_toArray, List.length_cons, List.length_nil, Nat.reduceAdd, Nat.reduceSub, Array.replicate_succ, Array.replicate_zero, List.push_toArray, List.append_toArray, List.nil_append, List.cons_append]
  gi_wp2
  gi_loopw [3, 4] (fun more s wr => PState L Bn J more wr) (fun more s wr => strLen (wr.cell? ⟨Bn, 0, none⟩) + oneIf more)
  case atStart => exact ⟨0, h0, .inl ⟨rfl, hpos, r0, hs0, by rw [hHr.out, hHL.out]; exact List.drop_zero.symm, hb⟩⟩
  case round =>
    obtain ⟨k, hJk, (⟨rfl, hk, r, hsr, hsp, hb⟩ | ⟨rfl, rfl⟩)⟩ := hrel
    · have hc := hb.cell
      have hf := hb.frozen
      have hHs := Lib.hid hsp
      clear hsp
      rcases index_cases 47 r.data.toList with ⟨a, t, he, ha, hi⟩ | ⟨hn, hi⟩
      · have hHi := Lib.hid hi
        have hHe := Lib.hid he
        have hal : a.length < r.size := by rw [size_data, he]; simp
        have hdrop : L.drop k = a :: Dots.split t := by rw [← hHs.out, he]; exact Dots.split_cut a t ha
        have hgk : Dots.pieceAt L k = a := by
          have := congrArg (fun l => l.getD 0 []) hdrop
          simpa [Dots.pieceAt, List.getD] using this
        have hdrop' : Dots.split t = L.drop (k + 1) := by
          have := congrArg (fun l => l.drop 1) hdrop
          simpa [List.drop_drop] using this.symm
        have hk1 : k + 1 < L.length := by
          have h1 := List.length_pos_iff.2 (Dots.split_ne t)
          rw [hdrop', List.length_drop] at h1
          omega
        have hargs : pieceArgs L k = #[.string (r.extract 0 a.length), .bool false] := by
          have e1 : bs (Dots.pieceAt L k) = r.extract 0 a.length := by
            rw [hgk]
            refine eq_of_data ?_
            rw [extract_to, he]
            simp [data_bs]
          unfold pieceArgs
          rw [e1]
          have : Dots.lastAt L k = false := by unfold Dots.lastAt; simp; omega
          rw [this]
        have hnext : (r.extract (a.length + 1) r.size).data.toList = t := by
          rw [extract_from, he]; simp
        have hHn := Lib.hid hnext
        have hHd := Lib.hid hdrop'
        have hyk : ∀ m, YieldAt Fence.wide (n - 1) Try.prog l #[.string (r.extract 0 a.length), .bool false] ((wr.drewN m).setCell ⟨Bn, 0, none⟩ (.string (r.extract (a.length + 1) r.size))) fun e W' =>
            (e = .returned (.bool true) ∧ J (k + 1) W' ∧ Boxed W' Bn 9 (.string (r.extract (a.length + 1) r.size))) ∨ (e = .returned (.bool false) ∧ Jx k W') := fun m => by
          rw [← hargs]
          refine (hY k _ hk (hJ k wr _ _ hJk (boxed_step hb m _) (fun r e => by cases e; rfl))).mono ?_
          rintro e W' (⟨h1, h2, h3⟩ | h)
          · refine .inl ⟨h1, h2, ?_⟩
            unfold Boxed
            rw [h3]
            exact Boxed.set _ (W := wr.drewN m) hb
          · exact .inr h
        clear hi he hdrop hgk hdrop' hargs hnext
        gi_wp2_with (gi_at_call 85; refine (callsIn_wide.2 (cut_hit r a.length hsr hal hHi _)).mono ?_; rintro e w1 ⟨rfl, m, rfl⟩; obtain ⟨fn, tmps, assign, body, hy, hR⟩ := hyk m)
        refine hR.mono ?_
        rintro e W3 (⟨rfl, hJ3, hb3⟩ | ⟨rfl, hJx3⟩)
        · have hc3 := hb3.cell
          gi_wp2
          go_roundw
          case rel => exact ⟨k + 1, hJ3, .inl ⟨rfl, hk1, _, by have := hsr; rw [size_data, hHn.out]; rw [size_data, hHe.out] at this; simp at this; omega, by rw [hHn.out]; exact hHd.out, hb3⟩⟩
          case measure =>
            rw [hc3, hc]
            simp only [strLen, oneIf]
            rw [size_data, hHn.out, size_data, hHe.out]
            simp; omega
        · gi_wp2
          refine bodyPost_ret (results_none rfl _ _ _) rfl ?_
          exact ⟨⟨_, rfl⟩, .inr ⟨k, hk, hJx3⟩⟩
      · have hHi := Lib.hid hi
        have hdrop : L.drop k = [r.data.toList] := by rw [← hHs.out]; exact Dots.split_whole _ hn
        have hk1 : k + 1 = L.length := by
          have := congrArg List.length hdrop
          rw [List.length_drop] at this
          simp at this; omega
        have hHk := Lib.hid hk1
        have hgk : Dots.pieceAt L k = r.data.toList := by
          have := congrArg (fun l => l.getD 0 []) hdrop
          simpa [Dots.pieceAt, List.getD] using this
        have hargs : pieceArgs L k = #[.string r, .bool true] := by
          unfold pieceArgs
          rw [hgk, bs_data, show Dots.lastAt L k = true from decide_eq_true hk1]
        have hyk : ∀ m, YieldAt Fence.wide (n - 1) Try.prog l #[.string r, .bool true] ((wr.drewN m).setCell ⟨Bn, 0, none⟩ (.string ⟨#[]⟩)) fun e W' =>
            (e = .returned (.bool true) ∧ J (k + 1) W' ∧ Boxed W' Bn 9 (.string ⟨#[]⟩)) ∨ (e = .returned (.bool false) ∧ Jx k W') := fun m => by
          rw [← hargs]
          refine (hY k _ hk (hJ k wr _ _ hJk (boxed_step hb m _) (fun r e => by cases e; rfl))).mono ?_
          rintro e W' (⟨h1, h2, h3⟩ | h)
          · refine .inl ⟨h1, h2, ?_⟩
            unfold Boxed
            rw [h3]
            exact Boxed.set _ (W := wr.drewN m) hb
          · exact .inr h
        clear hi hdrop hk1 hgk hargs hn
        gi_wp2_with (gi_at_call 85; refine (callsIn_wide.2 (cut_miss r hHi _)).mono ?_; rintro e w1 ⟨rfl, m, rfl⟩; obtain ⟨fn, tmps, assign, body, hy, hR⟩ := hyk m)
        refine hR.mono ?_
        rintro e W3 (⟨rfl, hJ3, hb3⟩ | ⟨rfl, hJx3⟩)
        · have hc3 := hb3.cell
          gi_wp2
          go_roundw
          case rel => exact ⟨k + 1, hJ3, .inr ⟨rfl, hHk.out⟩⟩
          case measure =>
            rw [hc3, hc]
            simp only [strLen, oneIf]
            show 0 + 0 < _
            omega
        · gi_wp2
          refine bodyPost_ret (results_none rfl _ _ _) rfl ?_
          exact ⟨⟨_, rfl⟩, .inr ⟨k, hk, hJx3⟩⟩
    · gi_wp2
      go_end0
      exact ⟨⟨_, rfl⟩, .inl hJk⟩

/-- What the loop body keeps. -/
def KeepBox (Bn : Nat) (W W' : World) : Prop := W'.heap[Bn]? = W.heap[Bn]?

/-- The iterator keeps its word at every loop over it. -/
theorem pieces_seq (n Bn : Nat) (r : ByteArray) (hs : r.size ≤ maxLen) (w : World) (hb : Boxed w Bn 9 (.string r)) :
    Seq.SeqN Try.prog n 84 #[.pointer (some ⟨Bn, 0, none⟩)] (pieceArgs (Dots.split r.data.toList)) (Dots.split r.data.toList).length (· = Bn) (KeepBox Bn) w :=
  fun l J Jx W hW hJ _ hY h0 => pieces_run n l Bn r.data.toList r rfl hs J Jx hJ hY W ((hW.block Bn hb.lt).trans hb) h0

theorem KeepBox.putObj {Bn : Nat} {w : World} (hB : Bn < w.heap.size) (W : World) (l : Nat) (o o' : Obj) (hl : w.heap.size ≤ l) (_ : W.heap[l]? = some o) (_ : o.isCells = false) : KeepBox Bn W (W.putObj l o') :=
  World.putObj_heap_other (by omega)
theorem KeepBox.trans {Bn : Nat} (a b c : World) (h : KeepBox Bn a b) (k : KeepBox Bn b c) : KeepBox Bn a c := Eq.trans k h
theorem KeepBox.grown {Bn : Nat} (a b : World) (hB : Bn < a.heap.size) (h : a.grownBy b none) : KeepBox Bn a b := h.block Bn hB (by simp)

end Go.Proofs.Ytefilalapkdegaa
