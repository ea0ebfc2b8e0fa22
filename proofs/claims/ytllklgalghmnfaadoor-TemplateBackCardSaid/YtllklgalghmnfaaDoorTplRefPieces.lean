/- The reference's pieces. -/
import Derived.Test.YtllklgalghmnfaaDoorTplRefOne
namespace Go.Proofs.YtllklgalghmnfaaDoor
open Go.RowKit Str Mem Tp
set_option linter.unusedVariables false
set_option linter.unusedSimpArgs false

def pieceCells (L : List Piece) : List Value := L.flatMap fun q => [.int .i64 q.p.k, .string (bs q.p.t), .int .i64 q.p.n, .int .i64 q.at', .bool q.plain]
theorem pieceCells_append (L M : List Piece) : pieceCells (L ++ M) = pieceCells L ++ pieceCells M := by simp [pieceCells]
def OwnPieces (w : World) (base : Nat) (v : Value) (L : List Piece) : Prop := Owns w base 85 5 v L.length (pieceCells L)
theorem infoPiece : (Tryd.prog.info? 85).map (fun i => (i.zero, i.size, i.bytes)) = some (some (.agg #[.int .i64 0, .string ⟨#[]⟩, .int .i64 0, .int .i64 0, .bool false]), 5, 48) := by kernel_rfl
theorem Rd.five_at (w : World) (t : TypeId) (x y z u v : Value) (N : Nat) (h : N = w.heap.size) : Rd (w.alloc (.cells #[x, y, z, u, v] t)) 5 (some ⟨N, 0, none⟩) 1 [x, y, z, u, v] := by
  subst h
  refine ⟨rfl, fun _ => ⟨_, rfl, by simp, fun j q hu => ?_⟩⟩
  rw [add_flat, cell_of_row _ w.heap.size _ #[x, y, z, u, v] t (0, 0) (heap_alloc_new w _)]
  rcases j with _ | _ | _ | _ | _ | j
  · simpa using hu
  · simpa using hu
  · simpa using hu
  · simpa using hu
  · simpa using hu
  · simp at hu
structure QM (w W : World) (v : Value) (L : List Piece) : Prop where
  fr : W.heap[w.heap.size]? = some (.cells [.int .i64 0, .int .i64 0].toArray 26 (0, 0))
  bl : Below w.heap.size w W
  ow : OwnPieces W (w.heap.size + 1) v L
theorem QM.below {w W W' : World} {v : Value} {L : List Piece} (h : QM w W v L) (hb : Below W.heap.size W W') : QM w W' v L :=
  ⟨(hb.block _ (lt_of_cells h.fr)).trans h.fr, h.bl.trans (hb.mono h.bl.size), Owns.below h.ow hb (Nat.le_refl _)⟩
theorem QM.app {w W W' : World} {v v' : Value} {L L' : List Piece} (h : QM w W v L) (ho : OwnPieces W' (w.heap.size + 1) v' L') (hg : W.grownBy W' v.ownBlock) : QM w W' v' L' := by
  have hk : ∀ k, v.ownBlock = some k → w.heap.size + 1 ≤ k ∧ k < W.heap.size := h.ow.lt
  exact ⟨(hg.block _ (lt_of_cells h.fr) (fun e => by have := hk _ e.symm; omega)).trans h.fr, h.bl.grown hg h.bl.size (fun k e => by have := hk k e; omega), ho⟩
def QI (w : World) (s : Tp.Bs) (g : Nat) (s4 s5 : Value) (W : World) : Prop :=
  ∃ (k : Nat) (D : List Piece), s5 = .int .i64 k ∧ k ≤ s.length ∧ s.length ≤ k + g ∧ (pieces s 0) = (D ++ (pieces (s.drop k) k).1, (pieces (s.drop k) k).2) ∧ D.length ≤ k ∧ QM w W s4 D
structure PQ where
  L : List Piece
  e : Int
  at' : Int
def piecesR (s : Tp.Bs) : PQ := if 96 < s.length then ⟨[], 4, 96⟩ else match (pieces s 0).2 with
  | some (e, i) => ⟨[], e, i⟩
  | none => ⟨(pieces s 0).1, 0, 0⟩
def PiecesPost (r : PQ) (w : World) (e : Ending) (w' : World) : Prop := ∃ v, e = .returned (.tuple #[v, .agg #[.int .i64 r.e, .int .i64 r.at']]) ∧ OwnPieces w' w.heap.size v r.L ∧ Below w.heap.size w w'

set_option maxRecDepth 100000 in
set_option maxHeartbeats 4000000 in
theorem refPieces_any (s : Tp.Bs) (w : World) (hs : s.length ≤ 100000) : Calls Tryd.prog 50 #[.string (bs s)] w fun e w' => PiecesPost (piecesR s) w e w' := by
  obtain ⟨P, hP⟩ : ∃ P : Ending → World → Prop, P = PiecesPost (piecesR s) w := ⟨_, rfl⟩
  have HP := Lib.hid hP
  rw [← hP]
  clear hP
  have hPM : QM w (w.alloc (.cells #[.int .i64 0, .int .i64 0] 26)) (.slice none 0 0) [] := ⟨World.alloc_heap_new w _, (Below.refl _ w).alloc (Nat.le_refl _) _, Owns.nil _ _ _ _⟩
  have HPM := Lib.hid hPM
  obtain ⟨i0, hi, hz0, hz1, hz2⟩ := info_parts infoPiece
  obtain ⟨B, hB⟩ : ∃ B, B = bs s := ⟨_, rfl⟩
  have HB0 := Lib.hid hB
  rw [← hB]
  have hBz : B.size = s.length := by rw [hB, size_bs]
  have hBx : ∀ k, B.extract k B.size = bs (s.drop k) := fun k => eq_of_data (by rw [extract_from, hB, data_bs, data_bs])
  have HBZ := Lib.hid hBz
  have HBX := Lib.hid hBx
  have hB6 : B.size ≤ 100000 := by omega
  clear hPM hB hBx
  by_cases h96 : 96 < s.length
  · have q1 : (96 : Int) < (B.size : Int) := by omega
    have hr : piecesR s = ⟨[], 4, 96⟩ := by unfold piecesR; rw [if_pos h96]
    have HR := Lib.hid hr
    clear hr hBz
    go_enter Tryd.func50, Tryd.ntmps50
    go_wp2_with fail
    have hrow := World.alloc_heap_new w (.cells #[.int .i64 4, .int .i64 96] 26)
    have hbl := (Below.refl _ w).alloc (Nat.le_refl _) (.cells #[.int .i64 4, .int .i64 96] 26)
    obtain ⟨W, hW⟩ : ∃ W, W = w.alloc (.cells #[.int .i64 4, .int .i64 96] 26) := ⟨_, rfl⟩
    rw [← hW] at hrow hbl ⊢
    clear hW
    have z0 := cell_list (cs := [.int .i64 4, .int .i64 96]) hrow 0
    have z1 := cell_list (cs := [.int .i64 4, .int .i64 96]) hrow 1
    simp only [List.getElem?_cons_zero, List.getElem?_cons_succ] at z0 z1
    refine bodyPost_ret (v := .tuple #[.slice none 0 0, .agg #[.int .i64 4, .int .i64 96]]) (by simp [results, Tryd.results50, go_sem, z0, z1]) rfl ?_
    rw [HP.out, HR.out]
    exact ⟨_, rfl, Owns.nil _ _ _ _, hbl⟩
  · have q1 : ¬ (96 : Int) < (B.size : Int) := by omega
    have hr : piecesR s = match (pieces s 0).2 with
      | some (e, i) => ⟨[], e, i⟩
      | none => ⟨(pieces s 0).1, 0, 0⟩ := by unfold piecesR; rw [if_neg h96]
    have HR := Lib.hid hr
    clear hr hBz
    go_enter Tryd.func50, Tryd.ntmps50
    go_wp2_with fail
    go_loopg [4, 5] s.length (fun g s4 s5 W => QI w s g s4 s5 W)
    case atStart => exact ⟨0, [], rfl, Nat.zero_le _, by omega, by simp, by simp, HPM.out⟩
    case round =>
      obtain ⟨k, D, rfl, hk, hkg, hpc, hDk, hm⟩ := hrel
      have HPC := Lib.hid hpc
      have HM := Lib.hid hm
      clear hpc
      by_cases hlt : k < s.length
      · obtain ⟨g', rfl⟩ : ∃ g', gk = g' + 1 := ⟨gk - 1, by omega⟩
        obtain ⟨b, r, hdr⟩ : ∃ b r, s.drop k = b :: r := ⟨_, _, List.drop_eq_getElem_cons hlt⟩
        have hq := fun W => refOne_any s k b r hs hdr W
        rw [← HB0.out] at hq
        have HDR := Lib.hid hdr
        have q4 : (k : Int) < (B.size : Int) := by have := HBZ.out; omega
        have hlR : (b :: r).length = s.length - k := by rw [← hdr]; simp
        clear hdr
        rcases hrd : rd (b :: r) with ⟨p, n⟩ | e
        · have hv : oneV (b :: r) k = .tuple #[.agg #[.int .i64 p.k, .string (bs p.t), .int .i64 p.n, .int .i64 k, .bool (n == 1)], .int .i64 n, .int .i64 0] := by unfold oneV; rw [hrd]
          rw [hv] at hq
          obtain ⟨n1, n2⟩ := rd_len hrd
          have HRD := Lib.hid hrd
          obtain ⟨pl, hpl⟩ : ∃ pl, (n == 1) = pl := ⟨_, rfl⟩
          rw [hpl] at hq
          have HPL := Lib.hid hpl
          clear hv hrd hpl
          go_wp2_with fail
          refine (hq _).mono ?_
          rintro e w2 ⟨rfl, h2⟩
          have M2 := (HM.out.below h2).below ((Below.refl _ w2).alloc (Nat.le_refl _) (.cells #[.int .i64 p.k, .string (bs p.t), .int .i64 p.n, .int .i64 k, .bool pl] 85))
          have HM2 := Lib.hid M2
          have lz := lt_of_cells M2.fr
          clear hq M2 hm
          go_wp2_with (at_builtin; go_must (refine wpList_append_owns _ rfl _ _ 76 rfl (w.heap.size + 1) 85 i0 (.agg #[.int .i64 0, .string ⟨#[]⟩, .int .i64 0, .int .i64 0, .bool false]) 5 48 Tryd.underlying76 hi hz0 hz1 hz2 rfl (by decide) _ _ _ rfl (HM2.out.ow.alloc _) _ 1 1 [.int .i64 p.k, .string (bs p.t), .int .i64 p.n, .int .i64 k, .bool pl] rfl (Rd.five_at _ _ _ _ _ _ _ _ (by simp)) (by simp [Value.oneCell']) (by simp only [maxLen]; omega) (by omega) (by simp at lz; simp; omega) ?_); intro v' w4 hown' hgrow)
          have M3 : QM w w4 v' (D ++ [⟨p, k, n == 1⟩]) := HM2.out.app (by rw [HPL.out]; unfold OwnPieces; rw [pieceCells_append, List.length_append]; exact hown') (grownTrans (World.grownBy_alloc _ _ _) hgrow)
          have HM3 := Lib.hid M3
          clear M3 hown' hgrow h2
          go_roundg g'
          case measure => omega
          case rel =>
            refine ⟨k + n, D ++ [⟨p, k, n == 1⟩], by go_num, by omega, by omega, ?_, by simp only [List.length_append, List.length_cons, List.length_nil]; omega, HM3.out⟩
            rw [HPC.out, HDR.out, pieces_ok HRD.out, ← HDR.out, List.drop_drop]
            simp
        · have hv : oneV (b :: r) k = .tuple #[.agg #[.int .i64 0, .string (bs []), .int .i64 0, .int .i64 0, .bool false], .int .i64 0, .int .i64 e] := by unfold oneV; rw [hrd]
          rw [hv] at hq
          have he0 : (e != 0) = true := by simpa using rd_err hrd
          have hpb : (pieces s 0).2 = some (e, k) := by
            rw [HPC.out, HDR.out, pieces_bad (by simp) hrd]
          have HPB := Lib.hid hpb
          clear hv hrd hpb
          go_wp2_with fail
          refine (hq _).mono ?_
          rintro e' w2 ⟨rfl, h2⟩
          have M2 := HM.out.below h2
          have hfr := M2.fr
          have f0 := cell_list hfr 0
          have f1 := cell_list hfr 1
          have ff := frozen_list hfr
          have l2 := lt_of_cells hfr
          simp only [List.getElem?_cons_zero, List.getElem?_cons_succ] at f0 f1
          have hr2 := set2_row hfr (.int .i64 e) (.int .i64 k)
          have hb2 := (set2_below M2.bl (Nat.le_refl _) (.int .i64 e) (.int .i64 k)).alloc (by simp [set2, World.setCell]; have := M2.bl.size; omega) (.cells #[.int .i64 0, .string (bs []), .int .i64 0, .int .i64 0, .bool false] 85)
          have hr3 := (Below.heap_alloc (set2 w2 w.heap.size (.int .i64 e) (.int .i64 k)) (.cells #[.int .i64 0, .string (bs []), .int .i64 0, .int .i64 0, .bool false] 85) w.heap.size (by simp [set2, World.setCell]; exact l2)).trans hr2
          clear hq M2 hfr hr2 hm
          go_wp2_with fail
          obtain ⟨W, hW⟩ : ∃ W, W = (set2 w2 w.heap.size (.int .i64 e) (.int .i64 k)).alloc (.cells #[.int .i64 0, .string (bs []), .int .i64 0, .int .i64 0, .bool false] 85) := ⟨_, rfl⟩
          rw [← hW] at hr3 hb2
          unfold set2 at hW
          rw [← hW]
          clear hW f0 f1 ff
          have z0 := cell_list (cs := [.int .i64 e, .int .i64 (k : Int)]) hr3 0
          have z1 := cell_list (cs := [.int .i64 e, .int .i64 (k : Int)]) hr3 1
          simp only [List.getElem?_cons_zero, List.getElem?_cons_succ] at z0 z1
          refine bodyPost_ret (v := .tuple #[.slice none 0 0, .agg #[.int .i64 e, .int .i64 (k : Int)]]) (by simp [results, Tryd.results50, go_sem, z0, z1]) rfl ?_
          rw [HP.out, HR.out, HPB.out]
          exact ⟨_, rfl, Owns.nil _ _ _ _, hb2⟩
      · obtain rfl : k = s.length := by omega
        have hnk : ¬ (s.length : Int) < (B.size : Int) := by have := HBZ.out; omega
        have hpb : pieces s 0 = (D, none) := by
          rw [HPC.out, List.drop_length]
          simp [pieces_nil]
        have HPB := Lib.hid hpb
        have hfr := HM.out.fr
        have f0 := cell_list hfr 0
        have f1 := cell_list hfr 1
        have ff := frozen_list hfr
        simp only [List.getElem?_cons_zero, List.getElem?_cons_succ] at f0 f1
        have hr2 := set2_row hfr (.int .i64 0) (.int .i64 0)
        have hb2 := set2_below HM.out.bl (Nat.le_refl _) (.int .i64 0) (.int .i64 0)
        have ho2 : Owns (set2 wr w.heap.size (.int .i64 0) (.int .i64 0)) (w.heap.size + 1) 85 5 u4 D.length (pieceCells D) := ownsSetOld (ownsSetOld HM.out.ow (by simp) _) (by simp) _
        have HO2 := Lib.hid ho2
        clear hpb hm hfr ho2
        go_wp2_with fail
        have ho2 := HO2.out
        clear HO2
        obtain ⟨W, hW⟩ : ∃ W, W = set2 wr w.heap.size (.int .i64 0) (.int .i64 0) := ⟨_, rfl⟩
        rw [← hW] at hr2 hb2 ho2
        unfold set2 at hW
        rw [← hW]
        clear hW f0 f1 ff
        have z0 := cell_list (cs := [.int .i64 0, .int .i64 0]) hr2 0
        have z1 := cell_list (cs := [.int .i64 0, .int .i64 0]) hr2 1
        simp only [List.getElem?_cons_zero, List.getElem?_cons_succ] at z0 z1
        refine bodyPost_ret (v := .tuple #[u4, .agg #[.int .i64 0, .int .i64 0]]) (by simp [results, Tryd.results50, go_sem, z0, z1]) rfl ?_
        rw [HP.out, HR.out, HPB.out]
        refine ⟨_, rfl, ?_, hb2⟩
        exact ho2.mono (by omega)
end Go.Proofs.YtllklgalghmnfaaDoor
