/- line.machine.lines: the iterator over the lines of a chunk. -/
import Derived.Test.YteppipkokeaijaaLineNext
import Derived.Test.YteppipkokeaijaaSeqF
import Derived.Shelf.Abstract
import Derived.Shelf.RegionOpen
import Derived.OwnWalkIn
import Derived.TacticsInMore
import Derived.LoopNIn
import Derived.LoopIn
namespace Go.Proofs.Yteppipkokeaijaa
open Go.RowKit Str Go.Shelf
attribute [local go_sem] Oper.semAt_some Seq.wide_fn Seq.wide_round_fn Seq.wide_depth Seq.wide_round_depth
set_option linter.unusedVariables false
set_option linter.unusedSimpArgs false

theorem lines_any (mb : Nat) (w : World) : Calls Try.prog 33 #[.pointer (some ⟨mb, 0, none⟩)] w fun e w' => e = .returned (.func (.func 42) #[] #[.pointer (some ⟨w.heap.size, 0, none⟩)]) ∧ w.alloc (.cells #[.pointer (some ⟨mb, 0, none⟩)] 54) = w' := by
  go_enter Try.func33, Try.ntmps33
  go_wp2
  go_ret
  exact ⟨rfl, rfl⟩

/-- The arguments of round k. -/
def lineArgs (L : List (List UInt8 × Bool)) (k : Nat) : Array Value := #[.int .i64 (k : Int), lineV (L.getD k ([], false))]

/-- What a loop's body keeps. -/
def KeepOld (B ob : Nat) (W W' : World) : Prop := W.heap.size ≤ W'.heap.size ∧ ∀ k, k < B → k ≠ ob → W'.heap[k]? = W.heap[k]?

def slLen : Option Value → Nat
  | some (.slice _ n _) => n
  | _ => 0

/-- Between two rounds. -/
def LState (mb b lim B : Nat) (L : List (List UInt8 × Bool)) (S : Ln.St) (J : Nat → World → Prop) (i : Value) (wr : World) : Prop :=
  ∃ (k : Nat) (T R : List UInt8) (v : Value), i = .int .i64 (k : Int) ∧ k ≤ L.length ∧ k + R.length ≤ 1000000 ∧ T.length ≤ lim ∧ J k wr ∧ MState wr mb lim T false v ∧ BSl wr mb b v R ∧ B ≤ wr.heap.size ∧ L.drop k = (Ln.feed lim T R).2 ∧ S = (Ln.feed lim T R).1

set_option maxRecDepth 100000 in
set_option maxHeartbeats 1000000 in
theorem lines_run (n l mb b mx lim B ob : Nat) (T R : List UInt8) (v : Value) (J Jx : Nat → World → Prop) (hl : lim ≤ 1536) (hT : T.length ≤ lim) (hR : R.length ≤ 1000000)
    (hmb : mb < B) (hbB : b < B) (hmx : mx < B) (hmo : mb ≠ ob) (hbo : b ≠ ob) (hxo : mx ≠ ob) (hxm : mx ≠ mb)
    (hJ : Seq.StepsBy (· = mb) J)
    (hY : ∀ k W1, k < (Ln.feed lim T R).2.length → J k W1 → YieldAt Fence.wide (n - 1) Try.prog l (lineArgs (Ln.feed lim T R).2 k) W1 fun e W' =>
      (e = .returned (.bool true) ∧ J (k + 1) W' ∧ KeepOld B ob W1 W') ∨ (e = .returned (.bool false) ∧ Jx k W'))
    (W : World) (hbx : Boxed W mx 54 (.pointer (some ⟨mb, 0, none⟩))) (hm : MState W mb lim T false v) (hs : BSl W mb b v R) (hB : B ≤ W.heap.size) (h0 : J 0 W) :
    CallsIn Fence.wide n Try.prog 42 #[.func (.yield l) #[] #[], .pointer (some ⟨mx, 0, none⟩)] W fun e W' => (∃ v, e = .returned v) ∧
      ((J (Ln.feed lim T R).2.length W' ∧ ∃ a c, MState W' mb lim (Ln.feed lim T R).1.1 (Ln.feed lim T R).1.2 (.slice a 0 c)) ∨ ∃ k, k < (Ln.feed lim T R).2.length ∧ Jx k W') := by
  obtain ⟨L, hL⟩ : ∃ L, L = (Ln.feed lim T R).2 := ⟨_, rfl⟩
  obtain ⟨S, hS⟩ : ∃ S, S = (Ln.feed lim T R).1 := ⟨_, rfl⟩
  have HL := Lib.hid hL
  have HS := Lib.hid hS
  rw [← hL] at hY
  rw [← hL, ← hS]
  clear hL hS
  have HM := Lib.hid hm
  have HB := Lib.hid hs
  clear hm hs
  refine callsIn_of_wp Try.func42 rfl trivial ?_ rfl
  simp only [Try.ntmps42, List.size_toArray, List.length_cons, List.length_nil, Nat.reduceAdd, Nat.reduceSub, Array.replicate_succ, Array.replicate_zero, List.push_toArray, List.append_toArray, List.nil_append, List.cons_append]
  gi_wp2
  gi_loopw [3] (fun i wr => LState mb b lim B L S J i wr ∧ Boxed wr mx 54 (.pointer (some ⟨mb, 0, none⟩))) (fun i wr => slLen (wr.cell? ⟨mb, 3, none⟩))
  case atStart => exact ⟨⟨0, T, R, v, rfl, by omega, by omega, hT, h0, HM.out, HB.out, hB, by rw [HL.out]; exact List.drop_zero, HS.out⟩, hbx⟩
  case round =>
    obtain ⟨⟨k, T1, R1, v1, rfl, hle, hk1, hT1, hJk, hm1, hs1, hB1, hdr, hSS⟩, hbx1⟩ := hrel
    have hcx := hbx1.cell
    have hnext := next_b hm1 hs1 (by omega) hT1 hl
    have HM1 := Lib.hid hm1
    have HB1 := Lib.hid hs1
    have HD := Lib.hid hdr
    have HSS := Lib.hid hSS
    clear hm1 hs1 hdr hSS
    gi_wp2_with fail
    refine (callsIn_wide.2 hnext).mono ?_
    rintro e w1 (⟨x, v2, ho, rfl, hm2, hs2, hg2⟩ | ⟨a, c, ho, rfl, hm2, hg2⟩)
    · have hfo := Ln.feed_one (lim := lim) R1 T1
      rw [ho] at hfo
      have hsh := Ln.one_shorter R1 T1 x ho
      obtain ⟨R2, hR2⟩ : ∃ R2, (Ln.one lim T1 R1).rest = R2 := ⟨_, rfl⟩
      rw [hR2] at hfo hsh hs2
      have hdr := HD.out
      have hSS := HSS.out
      rw [hfo] at hdr hSS
      have hkN : k < L.length := by
        have := congrArg List.length hdr
        rw [List.length_drop] at this
        simp at this; omega
      have hgx : L.getD k ([], false) = x := by
        have := congrArg (fun l => l.getD 0 ([], false)) hdr
        simpa [List.getD] using this
      have hdr2 : L.drop (k + 1) = (Ln.feed lim [] R2).2 := by
        have := congrArg (fun l => l.drop 1) hdr
        simpa [List.drop_drop] using this
      have hsh1 := hsh.1
      have hJ1 := hJ k wr w1 (some mb) hJk hg2 (fun r e => by cases e; rfl)
      obtain ⟨W2, hW2⟩ : ∃ W2, W2 = w1.alloc (.cells #[.string (bs x.1), .bool x.2] 36) := ⟨_, rfl⟩
      have hg3 : w1.grownBy W2 none := by rw [hW2]; exact World.grownBy_alloc w1 _ none
      have hJ2 := hJ k w1 W2 none hJ1 hg3 (fun r e => by cases e)
      have hyk := hY k W2 hkN hJ2
      have hargs : lineArgs L k = #[.int .i64 (k : Int), .agg #[.string (bs x.1), .bool x.2]] := by unfold lineArgs; rw [hgx]; rfl
      rw [hargs] at hyk
      have hm3 : MState W2 mb lim [] false v2 := hm2.kept hg3 (by simp)
      have hs3 : BSl W2 mb b v2 R2 := hs2.kept hg3 (.inl rfl)
      have hbx2 : Boxed W2 mx 54 (.pointer (some ⟨mb, 0, none⟩)) := (hbx1.kept hg2 (by simpa using hxm)).kept hg3 (by simp)
      have hB2 : B ≤ W2.heap.size := Nat.le_trans hB1 (Nat.le_trans hg2.size hg3.size)
      have HX := Lib.hid hW2
      have HD2 := Lib.hid hdr2
      have HS2 := Lib.hid hSS
      have HM3 := Lib.hid hm3
      have HB3 := Lib.hid hs3
      clear hfo hdr hSS hgx hdr2 hargs hm2 hs2 hm3 hs3 ho hJ1 hJ2 hW2
      rw [HX.out] at hyk
      obtain ⟨fn, tmps, assign, body, hy, hRd⟩ := hyk
      unfold lineV
      gi_wp2_with fail
      refine hRd.mono ?_
      rintro e W3 (⟨rfl, hJ3, hk3⟩ | ⟨rfl, hJx3⟩)
      · rw [← HX.out] at hk3
        have hb3 : Boxed W3 mx 54 (.pointer (some ⟨mb, 0, none⟩)) := (hk3.2 mx hmx hxo).trans hbx2
        have hcm : W3.cell? ⟨mb, 3, none⟩ = some v2 := (World.cell?_of_block (w := W2) (hk3.2 mb hmb hmo)).trans HM3.out.cell3
        gi_wp2
        go_roundw
        case rel => exact ⟨⟨k + 1, [], R2, v2, by go_num, by omega, by omega, Nat.zero_le _, hJ3, (hk3.2 mb hmb hmo).trans HM3.out, HB3.out.keep hk3.1 (hk3.2 b hbB hbo), Nat.le_trans hB2 hk3.1, HD2.out, HS2.out⟩, hb3⟩
        case measure =>
          rw [HM1.out.cell3, hcm]
          obtain ⟨o1, c1, rfl, _⟩ := HB1.out
          obtain ⟨o2, c2, rfl, _⟩ := HB3.out
          exact hsh1
      · gi_wp2
        refine bodyPost_ret (results_none rfl _ _ _) rfl ?_
        exact ⟨⟨_, rfl⟩, .inr ⟨k, hkN, hJx3⟩⟩
    · have hfo := Ln.feed_one (lim := lim) R1 T1
      rw [ho] at hfo
      have hdr := HD.out
      have hSS := HSS.out
      rw [hfo] at hdr hSS
      have hkN : L.length ≤ k := List.drop_eq_nil_iff.1 hdr
      have hJ1 := hJ k wr w1 (some mb) hJk hg2 (fun r e => by cases e; rfl)
      obtain rfl : k = L.length := by omega
      have HS2 := Lib.hid hSS
      have HM2 := Lib.hid hm2
      clear hfo hdr hSS ho hm2
      unfold lineV
      gi_wp2_with fail
      refine bodyPost_ret (results_none rfl _ _ _) rfl ?_
      refine ⟨⟨_, rfl⟩, .inl ⟨hJ L.length w1 _ none hJ1 (World.grownBy_alloc w1 _ none) (fun r e => by cases e), a, c, ?_⟩⟩
      rw [HS2.out]
      exact HM2.out.kept (World.grownBy_alloc w1 _ none) (by simp)

/-- The iterator keeps its word at every loop over it. -/
theorem lines_seq (n mb b mx lim ob : Nat) (T R : List UInt8) (v : Value) (w : World) (hl : lim ≤ 1536) (hT : T.length ≤ lim) (hR : R.length ≤ 1000000)
    (hmo : mb ≠ ob) (hbo : b ≠ ob) (hxo : mx ≠ ob) (hxm : mx ≠ mb) (hbm : b ≠ mb)
    (hbx : Boxed w mx 54 (.pointer (some ⟨mb, 0, none⟩))) (hm : MState w mb lim T false v) (hs : BSl w mb b v R) :
    Seq.SeqF Try.prog n 42 #[.pointer (some ⟨mx, 0, none⟩)] (lineArgs (Ln.feed lim T R).2) (Ln.feed lim T R).2.length (· = mb) (KeepOld w.heap.size ob)
      (fun W' => ∃ a c, MState W' mb lim (Ln.feed lim T R).1.1 (Ln.feed lim T R).1.2 (.slice a 0 c)) w :=
  fun l J Jx W hW hJ _ hY h0 => by
    have hbl : b < w.heap.size := by obtain ⟨o, c, _, _, _, _, h5, _⟩ := hs; exact h5
    exact lines_run n l mb b mx lim w.heap.size ob T R v J Jx hl hT hR hm.lt hbl hbx.lt hmo hbo hxo hxm hJ hY W ((hW.block mx hbx.lt).trans hbx) ((hW.block mb hm.lt).trans hm) (hs.keep hW.size (hW.block b hbl)) hW.size h0

theorem KeepOld.trans {B ob : Nat} (x y z : World) (h : KeepOld B ob x y) (k : KeepOld B ob y z) : KeepOld B ob x z := ⟨Nat.le_trans h.1 k.1, fun i hi ho => (k.2 i hi ho).trans (h.2 i hi ho)⟩
theorem KeepOld.putObj {B ob : Nat} {w : World} (hB : B ≤ w.heap.size) (W : World) (l : Nat) (o o' : Obj) (hl : w.heap.size ≤ l) (_ : W.heap[l]? = some o) (_ : o.isCells = false) : KeepOld B ob W (W.putObj l o') :=
  ⟨(grownBy_putObj' W l o').size, fun i hi _ => World.putObj_heap_other (by omega)⟩
theorem KeepOld.grown {B ob : Nat} (x y : World) (hB : B ≤ x.heap.size) (h : x.grownBy y none) : KeepOld B ob x y := ⟨h.size, fun i hi _ => h.block i (by omega) (by simp)⟩
end Go.Proofs.Yteppipkokeaijaa
