/- template.Parse. -/
import Derived.Test.YtllklgalghmnfaaDoorTplRead
namespace Go.Proofs.YtllklgalghmnfaaDoor
open Go.RowKit Str Mem Tp
set_option linter.unusedVariables false
set_option linter.unusedSimpArgs false

theorem rd_part {r : Tp.Bs} {p : Part} {n : Nat} (h : rd r = .ok p n) : p.t.length ≤ n ∧ (p.k = 1 → p.n = 0) ∧ p.t.length ≤ 1 := by
  rcases r with _ | ⟨b, r⟩
  · cases h
  unfold rd at h
  dsimp only at h
  by_cases h1 : b = 92
  · rw [if_pos h1] at h
    rcases r with _ | ⟨x, r⟩
    · cases h
    · cases h; simp
  rw [if_neg h1] at h
  by_cases h2 : b = 36
  · rw [if_pos h2] at h
    rcases r with _ | ⟨x, r⟩
    · cases h
    · dsimp only at h
      by_cases hd : dig x = true
      · rw [if_pos hd] at h; cases h; simp
      · rw [if_neg hd] at h; cases h
  rw [if_neg h2] at h
  by_cases h3 : b = 37
  · rw [if_pos h3] at h
    rcases r with _ | ⟨x, r⟩
    · cases h
    · dsimp only at h
      by_cases hd : dig x = true
      · rw [if_pos hd] at h; cases h; simp
      · rw [if_neg hd] at h
        by_cases hx : x = 123
        · rw [if_pos hx] at h
          unfold rdVar at h
          rcases hn : nameTo r with _ | nm
          · rw [hn] at h; cases h
          · rw [hn] at h
            dsimp only at h
            rcases hv : varNo nm with _ | i
            · rw [hv] at h; cases h
            · rw [hv] at h; cases h; simp
        · rw [if_neg hx] at h; cases h
  · rw [if_neg h3] at h; cases h; simp
theorem rd_err {r : Tp.Bs} {e : Int} (h : rd r = .bad e) : e ≠ 0 := by
  rcases r with _ | ⟨b, r⟩
  · cases h; simp
  unfold rd at h
  dsimp only at h
  by_cases h1 : b = 92
  · rw [if_pos h1] at h
    rcases r with _ | ⟨x, r⟩
    · cases h; simp
    · cases h
  rw [if_neg h1] at h
  by_cases h2 : b = 36
  · rw [if_pos h2] at h
    rcases r with _ | ⟨x, r⟩
    · cases h; simp
    · dsimp only at h
      by_cases hd : dig x = true
      · rw [if_pos hd] at h; cases h
      · rw [if_neg hd] at h; cases h; simp
  rw [if_neg h2] at h
  by_cases h3 : b = 37
  · rw [if_pos h3] at h
    rcases r with _ | ⟨x, r⟩
    · cases h; simp
    · dsimp only at h
      by_cases hd : dig x = true
      · rw [if_pos hd] at h; cases h
      · rw [if_neg hd] at h
        by_cases hx : x = 123
        · rw [if_pos hx] at h
          unfold rdVar at h
          rcases hn : nameTo r with _ | nm
          · rw [hn] at h; cases h; simp
          · rw [hn] at h
            dsimp only at h
            rcases hv : varNo nm with _ | i
            · rw [hv] at h; cases h; simp
            · rw [hv] at h; cases h
        · rw [if_neg hx] at h; cases h; simp
  · rw [if_neg h3] at h; cases h
theorem addP_text {L : List Part} {p : Part} {k n : Nat} (h : ∀ q ∈ L, q.t.length ≤ k) (hp : p.t.length ≤ n) : ∀ q ∈ addP L p, q.t.length ≤ k + n := by
  intro q hq
  unfold addP at hq
  have hold : ∀ q ∈ L ++ [p], q.t.length ≤ k + n := fun q hq => by
    rcases List.mem_append.1 hq with h1 | h1
    · exact Nat.le_trans (h q h1) (by omega)
    · simp at h1; subst h1; omega
  split at hq
  · split at hq
    · rename_i x hx
      split at hq
      · rcases List.mem_append.1 hq with h1 | h1
        · exact Nat.le_trans (h q (List.dropLast_subset L h1)) (by omega)
        · simp at h1
          subst h1
          have := h x (List.mem_of_getLast? hx)
          simp only [List.length_append]; omega
      · exact hold q hq
    · exact hold q hq
  · exact hold q hq

/-- The memory between two rounds of Parse. -/
structure PM (w W : World) (v : Value) (L : List Part) : Prop where
  fr : W.heap[w.heap.size]? = some (.cells [.int .i64 0, .int .i64 0].toArray 26 (0, 0))
  bl : Below w.heap.size w W
  ow : OwnParts W (w.heap.size + 1) v L
theorem PM.below {w W W' : World} {v : Value} {L : List Part} (h : PM w W v L) (hb : Below W.heap.size W W') : PM w W' v L :=
  ⟨(hb.block _ (lt_of_cells h.fr)).trans h.fr, h.bl.trans (hb.mono h.bl.size), Owns.below h.ow hb (Nat.le_refl _)⟩
theorem PM.app {w W W' : World} {v v' : Value} {L L' : List Part} (h : PM w W v L) (ho : OwnParts W' (w.heap.size + 1) v' L') (hg : W.grownBy W' v.ownBlock) : PM w W' v' L' := by
  have hk : ∀ k, v.ownBlock = some k → w.heap.size + 1 ≤ k ∧ k < W.heap.size := h.ow.lt
  exact ⟨(hg.block _ (lt_of_cells h.fr) (fun e => by have := hk _ e.symm; omega)).trans h.fr, h.bl.grown hg h.bl.size (fun k e => by have := hk k e; omega), ho⟩

def PI (w : World) (s : Tp.Bs) (g : Nat) (s4 s5 : Value) (W : World) : Prop :=
  ∃ (k : Nat) (D : List Piece) (L : List Part), s5 = .int .i64 k ∧ k ≤ s.length ∧ s.length ≤ k + g ∧ (pieces s 0) = (D ++ (pieces (s.drop k) k).1, (pieces (s.drop k) k).2) ∧ L = joinP (D.map (·.p)) ∧ L.length ≤ k ∧ (∀ q ∈ L, q.t.length ≤ k) ∧ PM w W s4 L
def set2 (W : World) (g : Nat) (x0 x1 : Value) : World := (W.setCell ⟨g, 0, none⟩ x0).setCell ⟨g, 1, none⟩ x1
theorem set2_row {W : World} {g Ty : Nat} {o0 o1 : Value} (h : W.heap[g]? = some (.cells [o0, o1].toArray Ty (0, 0))) (x0 x1 : Value) : (set2 W g x0 x1).heap[g]? = some (.cells [x0, x1].toArray Ty (0, 0)) :=
  set_list (set_list h 0 x0) 1 x1
theorem set2_below {W a : World} {B g : Nat} (h : Below B a W) (hg : B ≤ g) (x0 x1 : Value) : Below B a (set2 W g x0 x1) := (h.setCell (p := ⟨g, 0, none⟩) hg x0).setCell (p := ⟨g, 1, none⟩) hg x1
theorem ownsSetOld {w : World} {base sz n : Nat} {e : TypeId} {v : Value} {xs : List Value} (h : Owns w base e sz v n xs) {p : Addr} (hp : p.block < base) (x : Value) : Owns (w.setCell p x) base e sz v n xs := by
  refine ⟨h.1, ?_⟩
  rcases h.2 with hn | ⟨g, cap, cur, rfl, hb, hg, rest⟩
  · exact .inl hn
  · exact .inr ⟨g, cap, cur, rfl, hb, (Below.heap_setCell w p x g (by omega)).trans hg, rest⟩
/-- What Parse returns. -/
def ParsePost (r : PR) (w : World) (e : Ending) (w' : World) : Prop := ∃ v, e = .returned (.tuple #[v, .agg #[.int .i64 r.e, .int .i64 r.at']]) ∧ OwnParts w' w.heap.size v r.L ∧ Below w.heap.size w w'

set_option maxRecDepth 100000 in
set_option maxHeartbeats 4000000 in
theorem parse_any (s : Tp.Bs) (w : World) (hs : s.length ≤ 100000) (hN : Nm w) : Calls Tryd.prog 12 #[.string (bs s)] w fun e w' => ParsePost (parseR s) w e w' := by
  obtain ⟨P, hP⟩ : ∃ P : Ending → World → Prop, P = ParsePost (parseR s) w := ⟨_, rfl⟩
  have HP := Lib.hid hP
  rw [← hP]
  clear hP
  have hPM : PM w (w.alloc (.cells #[.int .i64 0, .int .i64 0] 26)) (.slice none 0 0) [] := ⟨World.alloc_heap_new w _, (Below.refl _ w).alloc (Nat.le_refl _) _, Owns.nil _ _ _ _⟩
  have HPM := Lib.hid hPM
  obtain ⟨B, hB⟩ : ∃ B, B = bs s := ⟨_, rfl⟩
  rw [← hB]
  have hBz : B.size = s.length := by rw [hB, size_bs]
  have hBx : ∀ k, B.extract k B.size = bs (s.drop k) := fun k => eq_of_data (by rw [extract_from, hB, data_bs, data_bs])
  have HBZ := Lib.hid hBz
  have HBX := Lib.hid hBx
  have hB6 : B.size ≤ 100000 := by omega
  clear hPM hB hBx
  by_cases h96 : 96 < s.length
  · have q1 : (96 : Int) < (B.size : Int) := by omega
    have hr : parseR s = ⟨[], 4, 96⟩ := by unfold parseR; rw [if_pos h96]
    have HR := Lib.hid hr
    clear hr hBz
    go_enter Tryd.func12, Tryd.ntmps12
    go_wp2_with fail
    have hrow := World.alloc_heap_new w (.cells #[.int .i64 4, .int .i64 96] 26)
    have hbl := (Below.refl _ w).alloc (Nat.le_refl _) (.cells #[.int .i64 4, .int .i64 96] 26)
    obtain ⟨W, hW⟩ : ∃ W, W = w.alloc (.cells #[.int .i64 4, .int .i64 96] 26) := ⟨_, rfl⟩
    rw [← hW] at hrow hbl ⊢
    clear hW
    have z0 := cell_list (cs := [.int .i64 4, .int .i64 96]) hrow 0
    have z1 := cell_list (cs := [.int .i64 4, .int .i64 96]) hrow 1
    simp only [List.getElem?_cons_zero, List.getElem?_cons_succ] at z0 z1
    refine bodyPost_ret (v := .tuple #[.slice none 0 0, .agg #[.int .i64 4, .int .i64 96]]) (by simp [results, Tryd.results12, go_sem, z0, z1]) rfl ?_
    rw [HP.out, HR.out]
    exact ⟨_, rfl, Owns.nil _ _ _ _, hbl⟩
  · have q1 : ¬ (96 : Int) < (B.size : Int) := by omega
    have hr : parseR s = match (pieces s 0).2 with
      | some (e, i) => ⟨[], e, i⟩
      | none => ⟨joinP ((pieces s 0).1.map (·.p)), 0, 0⟩ := by unfold parseR; rw [if_neg h96]; rfl
    have HR := Lib.hid hr
    clear hr hBz
    go_enter Tryd.func12, Tryd.ntmps12
    go_wp2_with fail
    go_loopg [4, 5] s.length (fun g s4 s5 W => PI w s g s4 s5 W)
    case atStart => exact ⟨0, [], [], rfl, Nat.zero_le _, by omega, by simp, rfl, by simp, by simp, HPM.out⟩
    case round =>
      obtain ⟨k, D, L, rfl, hk, hkg, hpc, hL, hLk, hLt, hm⟩ := hrel
      have HPC := Lib.hid hpc
      have HL := Lib.hid hL
      have HT := Lib.hid hLt
      have HM := Lib.hid hm
      have hNW : Nm wr := hN.below hm.bl hN.lt
      clear hpc hL hLt
      by_cases hlt : k < s.length
      · obtain ⟨g', rfl⟩ : ∃ g', gk = g' + 1 := ⟨gk - 1, by omega⟩
        obtain ⟨b, r, hdr⟩ : ∃ b r, s.drop k = b :: r := ⟨_, _, List.drop_eq_getElem_cons hlt⟩
        have hrl : r.length ≤ 1000 := by have := congrArg List.length hdr; simp at this; omega
        have hq := fun W h => read_any b r hrl W h
        have hex := HBX.out k
        rw [hdr] at hex
        rw [← hex] at hq
        have HDR := Lib.hid hdr
        have q2 : (0 : Int) ≤ (k : Int) := by omega
        have q3 : (k : Int) ≤ (B.size : Int) := by have := HBZ.out; omega
        have q4 : (k : Int) < (B.size : Int) := by have := HBZ.out; omega
        have hlR : (b :: r).length = s.length - k := by rw [← hdr]; simp
        clear hex hdr
        rcases hrd : rd (b :: r) with ⟨p, n⟩ | e
        · have hv : readV (b :: r) = .tuple #[pv p, .int .i64 n, .int .i64 0] := by unfold readV; rw [hrd]
          rw [hv] at hq
          obtain ⟨n1, n2⟩ := rd_len hrd
          obtain ⟨p1, p2, p3⟩ := rd_part hrd
          have hP1 := Lib.hid p2
          have HRD := Lib.hid hrd
          unfold pv at hq
          clear hv hrd p2
          go_wp2_with fail
          refine (hq _ hNW).mono ?_
          rintro e w2 ⟨rfl, h2⟩
          have hrow := World.alloc_heap_new w2 (.cells #[.int .i64 p.k, .string (bs p.t), .int .i64 p.n] 59)
          have y0 := cell_list (cs := [.int .i64 p.k, .string (bs p.t), .int .i64 p.n]) hrow 0
          have y1 := cell_list (cs := [.int .i64 p.k, .string (bs p.t), .int .i64 p.n]) hrow 1
          have y2 := cell_list (cs := [.int .i64 p.k, .string (bs p.t), .int .i64 p.n]) hrow 2
          simp only [List.getElem?_cons_zero, List.getElem?_cons_succ] at y0 y1 y2
          have M2 := (HM.out.below h2).below ((Below.refl _ w2).alloc (Nat.le_refl _) (.cells #[.int .i64 p.k, .string (bs p.t), .int .i64 p.n] 59))
          have HM2 := Lib.hid M2
          have hadd := fun W h1 h2 => add_any (w.heap.size + 1) u4 L p W h1 h2 (by omega) (by omega) (fun q hq => Nat.le_trans (HT.out q hq) (by omega)) hP1.out
          unfold pv at hadd
          clear hq M2 hm
          go_wp2_with fail
          refine (hadd _ HM2.out.ow (by have := lt_of_cells HM2.out.fr; omega)).mono ?_
          rintro e w3 ⟨v', rfl, hO3, hg3⟩
          have M3 := HM2.out.app hO3 hg3
          have HM3 := Lib.hid M3
          clear hadd M3 hO3 hg3 y0 y1 y2 hrow h2
          go_wp2_with fail
          go_roundg g'
          case measure => omega
          case rel =>
            refine ⟨k + n, D ++ [⟨p, k, n == 1⟩], addP L p, by go_num, by omega, by omega, ?_, ?_, ?_, addP_text HT.out p1, HM3.out⟩
            · rw [HPC.out, HDR.out, pieces_ok HRD.out, ← HDR.out, List.drop_drop]
              simp
            · rw [List.map_append, List.map_cons, List.map_nil, joinP_snoc, HL.out]
            · have := addP_len L p; omega
        · have hv : readV (b :: r) = .tuple #[pv ⟨0, [], 0⟩, .int .i64 0, .int .i64 e] := by unfold readV; rw [hrd]
          rw [hv] at hq
          have he0 : (e != 0) = true := by simpa using rd_err hrd
          have hpb : (pieces s 0).2 = some (e, k) := by
            rw [HPC.out, HDR.out, pieces_bad (by simp) hrd]
          have HPB := Lib.hid hpb
          unfold pv at hq
          clear hv hrd hpb
          go_wp2_with fail
          refine (hq _ hNW).mono ?_
          rintro e' w2 ⟨rfl, h2⟩
          have M2 := HM.out.below h2
          have hfr := M2.fr
          have f0 := cell_list hfr 0
          have f1 := cell_list hfr 1
          have ff := frozen_list hfr
          have l2 := lt_of_cells hfr
          simp only [List.getElem?_cons_zero, List.getElem?_cons_succ] at f0 f1
          have hr2 := set2_row hfr (.int .i64 e) (.int .i64 k)
          have hb2 := (set2_below M2.bl (Nat.le_refl _) (.int .i64 e) (.int .i64 k)).alloc (by simp [set2, World.setCell]; have := M2.bl.size; omega) (.cells #[.int .i64 0, .string (bs []), .int .i64 0] 59)
          have hr3 := (Below.heap_alloc (set2 w2 w.heap.size (.int .i64 e) (.int .i64 k)) (.cells #[.int .i64 0, .string (bs []), .int .i64 0] 59) w.heap.size (by simp [set2, World.setCell]; exact l2)).trans hr2
          clear hq M2 hfr hr2 hm
          go_wp2_with fail
          obtain ⟨W, hW⟩ : ∃ W, W = (set2 w2 w.heap.size (.int .i64 e) (.int .i64 k)).alloc (.cells #[.int .i64 0, .string (bs []), .int .i64 0] 59) := ⟨_, rfl⟩
          rw [← hW] at hr3 hb2
          unfold set2 at hW
          rw [← hW]
          clear hW f0 f1 ff
          have z0 := cell_list (cs := [.int .i64 e, .int .i64 (k : Int)]) hr3 0
          have z1 := cell_list (cs := [.int .i64 e, .int .i64 (k : Int)]) hr3 1
          simp only [List.getElem?_cons_zero, List.getElem?_cons_succ] at z0 z1
          refine bodyPost_ret (v := .tuple #[.slice none 0 0, .agg #[.int .i64 e, .int .i64 (k : Int)]]) (by simp [results, Tryd.results12, go_sem, z0, z1]) rfl ?_
          rw [HP.out, HR.out, HPB.out]
          exact ⟨_, rfl, Owns.nil _ _ _ _, hb2⟩
      · obtain rfl : k = s.length := by omega
        have hnk : ¬ (s.length : Int) < (B.size : Int) := by have := HBZ.out; omega
        have hpb : pieces s 0 = (D, none) := by
          rw [HPC.out, List.drop_length]
          simp [pieces_nil]
        have HPB := Lib.hid hpb
        have hfr := HM.out.fr
        have f0 := cell_list hfr 0
        have f1 := cell_list hfr 1
        have ff := frozen_list hfr
        simp only [List.getElem?_cons_zero, List.getElem?_cons_succ] at f0 f1
        have hr2 := set2_row hfr (.int .i64 0) (.int .i64 0)
        have hb2 := set2_below HM.out.bl (Nat.le_refl _) (.int .i64 0) (.int .i64 0)
        have ho2 : Owns (set2 wr w.heap.size (.int .i64 0) (.int .i64 0)) (w.heap.size + 1) 59 3 u4 L.length (partCells L) := ownsSetOld (ownsSetOld HM.out.ow (by simp) _) (by simp) _
        have HO2 := Lib.hid ho2
        clear hpb hm hfr ho2
        go_wp2_with fail
        have ho2 := HO2.out
        clear HO2
        obtain ⟨W, hW⟩ : ∃ W, W = set2 wr w.heap.size (.int .i64 0) (.int .i64 0) := ⟨_, rfl⟩
        rw [← hW] at hr2 hb2 ho2
        unfold set2 at hW
        rw [← hW]
        clear hW f0 f1 ff
        have z0 := cell_list (cs := [.int .i64 0, .int .i64 0]) hr2 0
        have z1 := cell_list (cs := [.int .i64 0, .int .i64 0]) hr2 1
        simp only [List.getElem?_cons_zero, List.getElem?_cons_succ] at z0 z1
        refine bodyPost_ret (v := .tuple #[u4, .agg #[.int .i64 0, .int .i64 0]]) (by simp [results, Tryd.results12, go_sem, z0, z1]) rfl ?_
        rw [HP.out, HR.out, HPB.out]
        refine ⟨_, rfl, ?_, hb2⟩
        show OwnParts W w.heap.size u4 (joinP (D.map (·.p)))
        rw [← HL.out]
        exact ho2.mono (by omega)
end Go.Proofs.YtllklgalghmnfaaDoor
