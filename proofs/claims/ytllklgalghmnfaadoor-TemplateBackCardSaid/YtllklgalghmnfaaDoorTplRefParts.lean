/- The reference's parts. -/
import Derived.Test.YtllklgalghmnfaaDoorTplRefPieces
import Derived.StillTailTactics
namespace Go.Proofs.YtllklgalghmnfaaDoor
open Go.RowKit Str Mem Tp
set_option linter.unusedVariables false
set_option linter.unusedSimpArgs false

def Pieces (w : World) (a : Option Addr) (n : Nat) (L : List Piece) : Prop := Rd w 5 a n (pieceCells L)
theorem pieceCells_len (L : List Piece) : (pieceCells L).length = L.length * 5 := by
  induction L with
  | nil => rfl
  | cons x L ih => simp only [pieceCells, List.flatMap_cons, List.length_append, List.length_cons, List.length_nil] at ih ⊢; omega
theorem pieceCells_get : ∀ (L : List Piece) (k : Nat) (x : Piece), L[k]? = some x → ∀ j u, ([.int .i64 x.p.k, .string (bs x.p.t), .int .i64 x.p.n, .int .i64 x.at', .bool x.plain] : List Value)[j]? = some u → (pieceCells L)[k * 5 + j]? = some u
  | [], k, x, h => by simp at h
  | y :: L, 0, x, h => by
    simp at h; subst h
    intro j u hu
    have hj := (List.getElem?_eq_some_iff.1 hu).1
    have e : pieceCells (y :: L) = [.int .i64 y.p.k, .string (bs y.p.t), .int .i64 y.p.n, .int .i64 y.at', .bool y.plain] ++ pieceCells L := rfl
    rw [e, Nat.zero_mul, Nat.zero_add, List.getElem?_append_left hj]
    exact hu
  | y :: L, k + 1, x, h => by
    intro j u hu
    have := pieceCells_get L k x (by simpa using h) j u hu
    have e : pieceCells (y :: L) = [.int .i64 y.p.k, .string (bs y.p.t), .int .i64 y.p.n, .int .i64 y.at', .bool y.plain] ++ pieceCells L := rfl
    rw [e, List.getElem?_append_right (by simp; omega)]
    have e2 : (k + 1) * 5 + j - [Value.int .i64 y.p.k, .string (bs y.p.t), .int .i64 y.p.n, .int .i64 y.at', .bool y.plain].length = k * 5 + j := by simp; omega
    rw [e2]; exact this
theorem Pieces.get {w : World} {a : Option Addr} {n : Nat} {L : List Piece} (h : Pieces w a n L) (k : Nat) (x : Piece) (hk : L[k]? = some x) :
    ∃ ad : Addr, a = some ad ∧ ad.block < w.heap.size ∧ w.cell? (ad.add (k * 5)) = some (.int .i64 x.p.k) ∧ w.cell? ⟨(ad.add (k * 5)).block, (ad.add (k * 5)).off + 1, none⟩ = some (.string (bs x.p.t)) ∧ w.cell? ⟨(ad.add (k * 5)).block, (ad.add (k * 5)).off + 2, none⟩ = some (.int .i64 x.p.n) ∧
      w.cell? ⟨(ad.add (k * 5)).block, (ad.add (k * 5)).off + 3, none⟩ = some (.int .i64 x.at') ∧ w.cell? ⟨(ad.add (k * 5)).block, (ad.add (k * 5)).off + 4, none⟩ = some (.bool x.plain) := by
  have g := pieceCells_get L k x hk
  have hn : L.length = n := by have := h.len; rw [pieceCells_len] at this; omega
  have hlt : k < L.length := (List.getElem?_eq_some_iff.1 hk).1
  obtain ⟨ad, rfl, hb, hc⟩ := Rd.get h (by omega)
  have e : ∀ j, 0 < j → (ad.add (k * 5 + j) : Addr) = ⟨(ad.add (k * 5)).block, (ad.add (k * 5)).off + j, none⟩ := fun j hj => by
    unfold Addr.add
    by_cases h0 : k * 5 = 0
    · have : k = 0 := by omega
      subst this
      simp; omega
    · simp [h0, Nat.add_assoc]
  exact ⟨ad, rfl, hb, hc _ _ (g 0 _ rfl), by rw [← e 1 (by omega)]; exact hc _ _ (g 1 _ rfl), by rw [← e 2 (by omega)]; exact hc _ _ (g 2 _ rfl), by rw [← e 3 (by omega)]; exact hc _ _ (g 3 _ rfl), by rw [← e 4 (by omega)]; exact hc _ _ (g 4 _ rfl)⟩

def RI (w : World) (L : List Piece) (g : Nat) (s3 s4 : Value) (W : World) : Prop :=
  ∃ (k : Nat) (M : List Part), s4 = .int .i64 k ∧ k + g = L.length ∧ M = joinP ((L.take k).map (·.p)) ∧ M.length ≤ k ∧ (∀ q ∈ M, q.t.length ≤ k) ∧ OwnParts W w.heap.size s3 M ∧ Below w.heap.size w W

set_option maxRecDepth 100000 in
set_option maxHeartbeats 4000000 in
theorem refParts_any (a : Option Addr) (c : Nat) (L : List Piece) (w : World) (hP : Pieces w a L.length L) (hn : L.length ≤ 1000) (ht : ∀ q ∈ L, q.p.t.length ≤ 1) :
    Calls Tryd.prog 51 #[.slice a L.length c] w fun e w' => ∃ v, e = .returned v ∧ OwnParts w' w.heap.size v (joinP (L.map (·.p))) ∧ Below w.heap.size w w' := by
  obtain ⟨i0, hi, hz0, hz1, hz2⟩ := info_parts infoP
  obtain ⟨P, hPe⟩ : ∃ P : Ending → World → Prop, P = fun e w' => ∃ v, e = .returned v ∧ OwnParts w' w.heap.size v (joinP (L.map (·.p))) ∧ Below w.heap.size w w' := ⟨_, rfl⟩
  have HP := Lib.hid hPe
  rw [← hPe]
  clear hPe
  go_enter Tryd.func51, Tryd.ntmps51
  go_wp2_with fail
  go_loopg [3, 4] L.length (fun g s3 s4 W => RI w L g s3 s4 W)
  case atStart => exact ⟨0, [], rfl, by omega, rfl, by simp, by simp, Owns.nil _ _ _ _, Below.refl _ _⟩
  case round =>
    obtain ⟨k, M, rfl, hk, hM, hMk, hMt, hO, hbl⟩ := hrel
    by_cases hlt : k < L.length
    · obtain ⟨g', rfl⟩ : ∃ g', gk = g' + 1 := ⟨gk - 1, by omega⟩
      obtain ⟨q, hq⟩ : ∃ q, L[k]? = some q := ⟨_, List.getElem?_eq_getElem hlt⟩
      obtain ⟨ad, rfl, hadb, g0, g1, g2, _, _⟩ := hP.get k q hq
      have hold : ∀ o, wr.cell? ⟨(ad.add (k * 5)).block, o, none⟩ = w.cell? ⟨(ad.add (k * 5)).block, o, none⟩ := fun o => World.cell?_of_block (w := w) (hbl.block _ (by show (ad.add (k * 5)).block < _; rw [add_block]; exact hadb))
      have c0 : wr.cell? (ad.add (k * 5)) = some (.int .i64 q.p.k) := by rw [← g0]; exact World.cell?_of_block (w := w) (hbl.block _ (by rw [add_block]; exact hadb))
      have c1 := (hold _).trans g1
      have c2 := (hold _).trans g2
      have hqt := ht q (List.mem_of_getElem? hq)
      have hjs : joinP ((L.take (k + 1)).map (·.p)) = addP M q.p := by
        rw [List.take_add_one, hq, hM]
        simp only [Option.toList_some, List.map_append, List.map_cons, List.map_nil]
        exact joinP_snoc _ _
      have htx := addP_text hMt hqt
      have hal := addP_len M q.p
      obtain ⟨A, hA⟩ : ∃ A, addP M q.p = A := ⟨_, rfl⟩
      have HJ := Lib.hid hjs
      have HT := Lib.hid htx
      have HA := Lib.hid hA
      have HMT := Lib.hid hMt
      have i0' : (0 : Int) ≤ (k : Int) := by omega
      have i1' : (k : Int) < (L.length : Int) := by omega
      have hrow := World.alloc_heap_new wr (.cells #[.int .i64 q.p.k, .string (bs q.p.t), .int .i64 q.p.n] 59)
      have hO1 := hO.alloc (.cells #[.int .i64 q.p.k, .string (bs q.p.t), .int .i64 q.p.n] 59)
      have hbw := hbl.alloc hbl.size (.cells #[.int .i64 q.p.k, .string (bs q.p.t), .int .i64 q.p.n] 59)
      have HO1 := Lib.hid hO1
      clear hjs htx hold g0 g1 g2 hq hO1 hA
      obtain ⟨am, cm, rfl, _, _, hPm⟩ := hO.form
      by_cases hlit : q.p.k = 1 ∧ ∃ t x, M = t ++ [x] ∧ x.k = 1
      · obtain ⟨hk1, t, x, hMt2, hx1⟩ := hlit
        have hMn : M.length = t.length + 1 := by rw [hMt2]; simp
        have hkx : M[t.length]? = some x := by rw [hMt2]; simp
        have hAe : A = t ++ [⟨x.k, x.t ++ q.p.t, x.n⟩] := by
          rw [← HA.out]
          unfold addP
          rw [if_pos hk1, hMt2]
          simp [hx1]
        obtain ⟨g, cap, ev, hglt⟩ : ∃ g cap, Value.slice am M.length cm = .slice (some ⟨g, 0, none⟩) M.length cap ∧ g < wr.heap.size := by
          rcases hO.2 with ⟨_, h0⟩ | ⟨g, cap, cur, ev, hbg, hgg, _⟩
          · omega
          · exact ⟨g, cap, ev, (Array.getElem?_eq_some_iff.1 hgg).1⟩
        cases ev
        obtain ⟨_, e, _, d0, d1, d2⟩ := hPm.get t.length x hkx
        cases e
        rw [add_flat, Nat.zero_add] at d0 d1 d2
        have hxt := HMT.out x (by rw [hMt2]; simp)
        have hxz : (bs x.t).size ≤ 1000 := by rw [size_bs]; omega
        have hqz : (bs q.p.t).size ≤ 1000 := by rw [size_bs]; omega
        have hng : ¬ 9223372036854775807 < x.t.length + q.p.t.length := by omega
        have hcat : bs x.t ++ bs q.p.t = bs (x.t ++ q.p.t) := bs_append _ _
        have HC := Lib.hid hcat
        have HAE := Lib.hid hAe
        have HM2 := Lib.hid hMt2
        have HMn := Lib.hid hMn
        have hkb : (q.p.k == 1) = true := by rw [hk1]; rfl
        have hxb : (x.k == 1) = true := by rw [hx1]; rfl
        have hm0 : (0 : Int) < (M.length : Int) := by omega
        have hm1 : (0 : Int) ≤ (M.length : Int) - 1 := by omega
        have hm2 : (M.length : Int) - 1 < (M.length : Int) := by omega
        have hm3 : ((M.length : Int) - 1).toNat = t.length := by omega
        have hm4 : (1 : Int) ≤ (M.length : Int) := by omega
        have hm5 : 0 < M.length := by omega
        have hm6 : IntKind.i64.wrap ((M.length : Int) - 1) = (M.length : Int) - 1 := IntWalk.i64_in _ (by omega)
        have hrn := HO1.out
        clear hM hk1 hx1 hMt2 hkx hAe hcat hMn hO
        go_wp2_with fail
        obtain ⟨W1, hW1⟩ : ∃ W1, W1 = wr.alloc (.cells #[.int .i64 q.p.k, .string (bs q.p.t), .int .i64 q.p.n] 59) := ⟨_, rfl⟩
        have e0 : W1.cell? ⟨g, t.length * 3 + 1, none⟩ = some (.string (bs x.t)) := by rw [hW1, ← d1]; exact World.cell?_of_block (w := wr) (Below.heap_alloc _ _ _ hglt)
        have r5 : W1.cell? ⟨wr.heap.size, 1, none⟩ = some (.string (bs q.p.t)) := by rw [hW1]; exact cell_list (cs := [.int .i64 q.p.k, .string (bs q.p.t), .int .i64 q.p.n]) hrow 1
        rw [← hW1] at hrn hbw ⊢
        have ff : ∀ j, W1.frozen? ⟨g, j, none⟩ = false := fun j => by
          rcases hrn.2 with ⟨h0, _⟩ | ⟨g', cap', cur, hv', hb', hg', _⟩
          · cases h0
          · cases hv'; exact Lib.frozen_of_heap hg' j
        have HRN := Lib.hid hrn
        clear hW1 hrow d0 d1 d2 c0 c1 c2 hrn
        go_still_tail 14, (by kernel_rfl)
        change wpList _ _ _ _ _ W1.drew
        have e0' : W1.drew.cell? ⟨g, t.length * 3 + 1, none⟩ = some (.string (bs x.t)) := e0
        have ff' : ∀ j, W1.drew.frozen? ⟨g, j, none⟩ = false := ff
        have HRN' := Lib.hid (Owns.drew HRN.out)
        have hbw' := hbw.drew
        obtain ⟨W2, hW2⟩ : ∃ W2, W2 = W1.drew := ⟨_, rfl⟩
        rw [← hW2] at e0' ff' HRN' hbw' ⊢
        clear hW2 e0 ff HRN hbw r5
        go_wp2_with fail
        have h1 := Owns.put HRN'.out (j := t.length * 3 + 1) (by have := HMn.out; omega) (.string (bs (x.t ++ q.p.t)))
        have e1 : (partCells M).set (t.length * 3 + 1) (.string (bs (x.t ++ q.p.t))) = partCells A := by rw [HM2.out, partCells_last, HAE.out]
        have e2 : A.length = M.length := by rw [HAE.out, HM2.out]; simp
        rw [e1] at h1
        have h2 : OwnParts (W2.setCell ⟨g, t.length * 3 + 1, none⟩ (.string (bs x.t ++ bs q.p.t))) w.heap.size (.slice (some ⟨g, 0, none⟩) M.length cm) A := by
          unfold OwnParts
          rw [e2, HC.out]
          exact h1
        have hgb : w.heap.size ≤ g := (Owns.lt HRN'.out g rfl).1
        have h3 := hbw'.setCell (p := ⟨g, t.length * 3 + 1, none⟩) hgb (.string (bs x.t ++ bs q.p.t))
        have H2 := Lib.hid h2
        clear h1 e1 e2 h2
        go_roundg g'
        case measure => omega
        case rel => exact ⟨k + 1, A, by go_num, by omega, by rw [HJ.out, HA.out], by rw [← HA.out]; omega, by rw [← HA.out]; exact HT.out, H2.out, h3⟩
      · have hAe : A = M ++ [q.p] := by
          rw [← HA.out]
          unfold addP
          split
          · rename_i hk1
            split
            · rename_i x hx
              split
              · rename_i hx1
                obtain ⟨t, ht⟩ := List.getLast?_eq_some_iff.1 hx
                exact absurd ⟨hk1, t, x, ht, hx1⟩ hlit
              · rfl
            · rfl
          · rfl
        have HAE := Lib.hid hAe
        have key : (q.p.k == 1) = false ∨ ((q.p.k == 1) = true ∧ M = []) ∨ ((q.p.k == 1) = true ∧ ∃ t x, M = t ++ [x] ∧ (x.k == 1) = false) := by
          by_cases hk1 : q.p.k = 1
          · right
            rcases hl : M.getLast? with _ | x
            · left; exact ⟨by rw [hk1]; rfl, by simpa using hl⟩
            · right
              obtain ⟨t, ht⟩ := List.getLast?_eq_some_iff.1 hl
              exact ⟨by rw [hk1]; rfl, t, x, ht, by rw [beq_eq_false_iff_ne]; exact fun h => hlit ⟨hk1, t, x, ht, h⟩⟩
          · left; simpa using hk1
        clear hlit hAe hM
        have HPm := Lib.hid hPm
        rcases key with hkb | ⟨hkb, hM0⟩ | ⟨hkb, t, x, hMt2, hxb⟩
        · go_wp2_with (at_builtin; go_must (refine wpList_append_owns _ rfl _ _ 23 rfl w.heap.size 59 i0 (.agg #[.int .i64 0, .string ⟨#[]⟩, .int .i64 0]) 3 32 Tryd.underlying23 hi hz0 hz1 hz2 rfl (by decide) _ _ _ rfl (HO1.out.alloc _) _ 1 1 [.int .i64 q.p.k, .string (bs q.p.t), .int .i64 q.p.n] rfl (Rd.pair3_at _ _ _ _ _ _ (by simp)) (by simp [Value.oneCell']) (by simp only [maxLen]; omega) (by omega) (by have := hbl.size; simp; omega) ?_); intro v' w4 hown' hgrow)
          have hOw : OwnParts w4 w.heap.size v' A := by unfold OwnParts; rw [HAE.out, partCells_append, List.length_append]; exact hown'
          have hK := (hbw.alloc hbw.size (.cells #[.int .i64 q.p.k, .string (bs q.p.t), .int .i64 q.p.n] 59)).grown hgrow (by have := hbl.size; simp; omega) (fun k hk => (HO1.out.lt k hk).1)
          have HOw := Lib.hid hOw
          clear hOw hown' hgrow
          go_roundg g'
          case measure => omega
          case rel => exact ⟨k + 1, A, by go_num, by omega, by rw [HJ.out, HA.out], by rw [← HA.out]; omega, by rw [← HA.out]; exact HT.out, HOw.out, hK⟩
        · have hm0 : ¬ (0 : Int) < (M.length : Int) := by rw [hM0]; simp
          have hm1 : ¬ 0 < M.length := by omega
          clear hM0
          go_wp2_with (at_builtin; go_must (refine wpList_append_owns _ rfl _ _ 23 rfl w.heap.size 59 i0 (.agg #[.int .i64 0, .string ⟨#[]⟩, .int .i64 0]) 3 32 Tryd.underlying23 hi hz0 hz1 hz2 rfl (by decide) _ _ _ rfl (HO1.out.alloc _) _ 1 1 [.int .i64 q.p.k, .string (bs q.p.t), .int .i64 q.p.n] rfl (Rd.pair3_at _ _ _ _ _ _ (by simp)) (by simp [Value.oneCell']) (by simp only [maxLen]; omega) (by omega) (by have := hbl.size; simp; omega) ?_); intro v' w4 hown' hgrow)
          have hOw : OwnParts w4 w.heap.size v' A := by unfold OwnParts; rw [HAE.out, partCells_append, List.length_append]; exact hown'
          have hK := (hbw.alloc hbw.size (.cells #[.int .i64 q.p.k, .string (bs q.p.t), .int .i64 q.p.n] 59)).grown hgrow (by have := hbl.size; simp; omega) (fun k hk => (HO1.out.lt k hk).1)
          have HOw := Lib.hid hOw
          clear hOw hown' hgrow
          go_roundg g'
          case measure => omega
          case rel => exact ⟨k + 1, A, by go_num, by omega, by rw [HJ.out, HA.out], by rw [← HA.out]; omega, by rw [← HA.out]; exact HT.out, HOw.out, hK⟩
        · have hMn : M.length = t.length + 1 := by rw [hMt2]; simp
          have hkx : M[t.length]? = some x := by rw [hMt2]; simp
          obtain ⟨ad2, rfl, hb2, d0, d1, d2⟩ := HPm.out.get t.length x hkx
          have hm0 : (0 : Int) < (M.length : Int) := by omega
          have hm1 : (0 : Int) ≤ (M.length : Int) - 1 := by omega
          have hm2 : (M.length : Int) - 1 < (M.length : Int) := by omega
          have hm3 : ((M.length : Int) - 1).toNat = t.length := by omega
          have hm4 : (1 : Int) ≤ (M.length : Int) := by omega
          have hm5 : 0 < M.length := by omega
          have hbb : (ad2.add (t.length * 3)).block < wr.heap.size := by rw [add_block]; exact hb2
          clear hMt2 hkx hMn hPm
          go_wp2_with (at_builtin; go_must (refine wpList_append_owns _ rfl _ _ 23 rfl w.heap.size 59 i0 (.agg #[.int .i64 0, .string ⟨#[]⟩, .int .i64 0]) 3 32 Tryd.underlying23 hi hz0 hz1 hz2 rfl (by decide) _ _ _ rfl (HO1.out.alloc _) _ 1 1 [.int .i64 q.p.k, .string (bs q.p.t), .int .i64 q.p.n] rfl (Rd.pair3_at _ _ _ _ _ _ (by simp)) (by simp [Value.oneCell']) (by simp only [maxLen]; omega) (by omega) (by have := hbl.size; simp; omega) ?_); intro v' w4 hown' hgrow)
          have hOw : OwnParts w4 w.heap.size v' A := by unfold OwnParts; rw [HAE.out, partCells_append, List.length_append]; exact hown'
          have hK := (hbw.alloc hbw.size (.cells #[.int .i64 q.p.k, .string (bs q.p.t), .int .i64 q.p.n] 59)).grown hgrow (by have := hbl.size; simp; omega) (fun k hk => (HO1.out.lt k hk).1)
          have HOw := Lib.hid hOw
          clear hOw hown' hgrow
          go_roundg g'
          case measure => omega
          case rel => exact ⟨k + 1, A, by go_num, by omega, by rw [HJ.out, HA.out], by rw [← HA.out]; omega, by rw [← HA.out]; exact HT.out, HOw.out, hK⟩
    · obtain rfl : k = L.length := by omega
      rw [List.take_length] at hM
      have HM := Lib.hid hM
      have HO := Lib.hid hO
      clear hM hO
      go_wp2_with fail
      rw [HP.out]
      refine ⟨_, rfl, ?_, hbl⟩
      rw [← HM.out]
      exact HO.out
end Go.Proofs.YtllklgalghmnfaaDoor
