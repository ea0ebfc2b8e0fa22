/- Sets of bytes: Has, Of, Union. -/
import Derived.Test.YtllklgalghmnfaaDoorTplSame
import Derived.Deep.LoopGhost
import Derived.RegionTactic
import Derived.Test.YtllklgalghmnfaaDoorReg
import Derived.Deep.RegionWith
import Derived.Lib.SlBytesConst
namespace Go.Proofs.YtllklgalghmnfaaDoor
open Go.RowKit Str Mem Tp
set_option linter.unusedVariables false
set_option linter.unusedSimpArgs false
/-- A set of bytes: four words. -/
structure S4 where
  a0 : Int
  a1 : Int
  a2 : Int
  a3 : Int
def S4.l (s : S4) : List Int := [s.a0, s.a1, s.a2, s.a3]
def S4.v (s : S4) : List Value := [.int .u64 s.a0, .int .u64 s.a1, .int .u64 s.a2, .int .u64 s.a3]
def uv (n : Int) : Value := .int .u64 n
theorem S4.v_map (s : S4) : s.v = s.l.map uv := rfl
def S4.at (s : S4) (k : Nat) : Int := match k with
  | 0 => s.a0
  | 1 => s.a1
  | 2 => s.a2
  | _ => s.a3
theorem S4.get (s : S4) (k : Nat) (h : k < 4) : s.v[k]? = some (.int .u64 (s.at k)) := by
  obtain rfl | rfl | rfl | rfl : k = 0 ∨ k = 1 ∨ k = 2 ∨ k = 3 := by omega
  · rfl
  · rfl
  · rfl
  · rfl
def hasS (s : S4) (b : Nat) : Bool := bits .and .u64 (s.at (b / 64) / 2 ^ (b % 64)) 1 == 1
set_option maxRecDepth 100000 in
theorem has_any (s : S4) (b : Nat) (hb : b < 256) (w : World) : Calls Tryd.prog 104 #[.agg #[.int .u64 s.a0, .int .u64 s.a1, .int .u64 s.a2, .int .u64 s.a3], .int .u8 b] w fun e w' => e = .returned (.bool (hasS s b)) ∧ Below w.heap.size w w' := by
  have hq := s.get (b / 64) (by omega)
  unfold S4.v at hq
  obtain ⟨d, hd⟩ : ∃ d, s.at (b / 64) = d := ⟨_, rfl⟩
  have hv : hasS s b = (bits .and .u64 (d / 2 ^ (b % 64)) 1 == 1) := by unfold hasS; rw [hd]
  rw [hd] at hq
  rw [hv]
  clear hv hd
  go_enter Tryd.func104, Tryd.ntmps104
  go_wp2_with fail
  go_ret
  exact ⟨rfl, (Below.refl _ w).alloc (Nat.le_refl _) _⟩

def S4.z : S4 := ⟨0, 0, 0, 0⟩
def orS (s t : S4) : S4 := ⟨bits .or .u64 s.a0 t.a0, bits .or .u64 s.a1 t.a1, bits .or .u64 s.a2 t.a2, bits .or .u64 s.a3 t.a3⟩
def setCells (L : List S4) : List Value := L.flatMap S4.v
theorem setCells_len (L : List S4) : (setCells L).length = L.length * 4 := by
  induction L with
  | nil => rfl
  | cons x L ih => simp only [setCells, List.flatMap_cons, List.length_append, S4.v, List.length_cons, List.length_nil] at ih ⊢; omega
theorem setCells_get : ∀ (L : List S4) (k : Nat) (s : S4), L[k]? = some s → ∀ j u, s.v[j]? = some u → (setCells L)[k * 4 + j]? = some u
  | [], k, s, h => by simp at h
  | y :: L, 0, s, h => by
    simp at h; subst h
    intro j u hu
    have hj := (List.getElem?_eq_some_iff.1 hu).1
    have e : setCells (y :: L) = y.v ++ setCells L := rfl
    rw [e, Nat.zero_mul, Nat.zero_add, List.getElem?_append_left hj]
    exact hu
  | y :: L, k + 1, s, h => by
    intro j u hu
    have := setCells_get L k s (by simpa using h) j u hu
    have e : setCells (y :: L) = y.v ++ setCells L := rfl
    rw [e, List.getElem?_append_right (by simp [S4.v]; omega)]
    have e2 : (k + 1) * 4 + j - y.v.length = k * 4 + j := by simp [S4.v]; omega
    rw [e2]; exact this
def Sets (w : World) (a : Option Addr) (n : Nat) (L : List S4) : Prop := Rd w 4 a n (setCells L)
theorem Sets.get {w : World} {a : Option Addr} {n : Nat} {L : List S4} (h : Sets w a n L) (k : Nat) (s : S4) (hk : L[k]? = some s) :
    ∃ ad : Addr, a = some ad ∧ ad.block < w.heap.size ∧ w.cell? (ad.add (k * 4)) = some (.int .u64 s.a0) ∧ w.cell? ⟨(ad.add (k * 4)).block, (ad.add (k * 4)).off + 1, none⟩ = some (.int .u64 s.a1) ∧ w.cell? ⟨(ad.add (k * 4)).block, (ad.add (k * 4)).off + 2, none⟩ = some (.int .u64 s.a2) ∧ w.cell? ⟨(ad.add (k * 4)).block, (ad.add (k * 4)).off + 3, none⟩ = some (.int .u64 s.a3) := by
  have g := setCells_get L k s hk
  have hn : L.length = n := by have := h.len; rw [setCells_len] at this; omega
  have hlt : k < L.length := (List.getElem?_eq_some_iff.1 hk).1
  obtain ⟨ad, rfl, hb, hc⟩ := Rd.get h (by omega)
  have e : ∀ j, 0 < j → (ad.add (k * 4 + j) : Addr) = ⟨(ad.add (k * 4)).block, (ad.add (k * 4)).off + j, none⟩ := fun j hj => by
    unfold Addr.add
    by_cases h0 : k * 4 = 0
    · have : k = 0 := by omega
      subst this
      simp; omega
    · simp [h0, Nat.add_assoc]
  refine ⟨ad, rfl, hb, hc _ _ (g 0 _ rfl), ?_, ?_, ?_⟩
  · rw [← e 1 (by omega)]; exact hc _ _ (g 1 _ rfl)
  · rw [← e 2 (by omega)]; exact hc _ _ (g 2 _ rfl)
  · rw [← e 3 (by omega)]; exact hc _ _ (g 3 _ rfl)
/-- The words up to a place, as Union has made them. -/
def mixS (s t : S4) (j : Nat) : S4 := ⟨if 0 < j then bits .or .u64 s.a0 t.a0 else s.a0, if 1 < j then bits .or .u64 s.a1 t.a1 else s.a1, if 2 < j then bits .or .u64 s.a2 t.a2 else s.a2, if 3 < j then bits .or .u64 s.a3 t.a3 else s.a3⟩
def unionS (L : List S4) : S4 := L.foldl orS S4.z
structure NM (w W : World) (s : S4) : Prop where
  r : W.heap[w.heap.size]? = some (.cells [.int .u64 0, .int .u64 0, .int .u64 0, .int .u64 0].toArray 69 (0, 0))
  s : W.heap[w.heap.size + 1]? = some (.cells [.int .u64 s.a0, .int .u64 s.a1, .int .u64 s.a2, .int .u64 s.a3].toArray 69 (0, 0))
  bl : Below w.heap.size w W
set_option maxRecDepth 100000 in
set_option maxHeartbeats 8000000 in
theorem union_any (a : Option Addr) (c : Nat) (L : List S4) (w : World) (hP : Sets w a L.length L) (hn : L.length ≤ 1000) :
    Calls Tryd.prog 67 #[.slice a L.length c] w fun e w' => e = .returned (.agg #[.int .u64 (unionS L).a0, .int .u64 (unionS L).a1, .int .u64 (unionS L).a2, .int .u64 (unionS L).a3]) ∧ Below w.heap.size w w' := by
  obtain ⟨V, hV⟩ : ∃ V, unionS L = V := ⟨_, rfl⟩
  rw [hV]
  have HV := Lib.hid hV
  clear hV
  have HP := Lib.hid hP
  have hm0 : NM w ((w.alloc (.cells #[.int .u64 0, .int .u64 0, .int .u64 0, .int .u64 0] 69)).alloc (.cells #[.int .u64 0, .int .u64 0, .int .u64 0, .int .u64 0] 69)) S4.z :=
    ⟨(Below.heap_alloc _ _ _ (by simp)).trans (World.alloc_heap_new w _), by have h := World.alloc_heap_new (w.alloc (.cells #[.int .u64 0, .int .u64 0, .int .u64 0, .int .u64 0] 69)) (.cells #[.int .u64 0, .int .u64 0, .int .u64 0, .int .u64 0] 69); rw [show (w.alloc (.cells #[.int .u64 0, .int .u64 0, .int .u64 0, .int .u64 0] 69)).heap.size = w.heap.size + 1 from by simp] at h; exact h, ((Below.refl _ w).alloc (Nat.le_refl _) _).alloc (by simp) _⟩
  have HM0 := Lib.hid hm0
  clear hP hm0
  go_enter Tryd.func67, Tryd.ntmps67
  go_wp2_with fail
  go_loopg [9] L.length (fun g i W => ∃ k : Nat, i = .int .i64 k ∧ k + g = L.length ∧ NM w W (unionS (L.take k)))
  case atStart => exact ⟨0, rfl, by omega, HM0.out⟩
  case round =>
    clear HM0
    obtain ⟨k, rfl, hk, hm⟩ := hrel
    have HM := Lib.hid hm
    clear hm
    by_cases hlt : k < L.length
    · obtain ⟨g', rfl⟩ : ∃ g', gk = g' + 1 := ⟨gk - 1, by omega⟩
      obtain ⟨t, hx⟩ : ∃ x, L[k]? = some x := ⟨_, List.getElem?_eq_getElem hlt⟩
      obtain ⟨ad, had, hbk, q0, q1, q2, q3⟩ := Sets.get (L := L) (show Sets wr a L.length L from Rd.below HP.out HM.out.bl) k t hx
      subst had
      have i0 : (0 : Int) ≤ (k : Int) := by omega
      have i1 : (k : Int) < (L.length : Int) := by omega
      have HX := Lib.hid hx
      obtain ⟨s, hs⟩ : ∃ s, unionS (L.take k) = s := ⟨_, rfl⟩
      rw [hs] at HM
      have HS := Lib.hid hs
      clear hx hs
      have lm := lt_of_cells HM.out.s
      have hmA : NM w (wr.alloc (.cells #[.int .u64 t.a0, .int .u64 t.a1, .int .u64 t.a2, .int .u64 t.a3] 69)) s := ⟨(Below.heap_alloc _ _ _ (lt_of_cells HM.out.r)).trans HM.out.r, (Below.heap_alloc _ _ _ lm).trans HM.out.s, HM.out.bl.alloc HM.out.bl.size _⟩
      have r5 := World.alloc_heap_new wr (.cells #[.int .u64 t.a0, .int .u64 t.a1, .int .u64 t.a2, .int .u64 t.a3] 69)
      have HMA := Lib.hid hmA
      have HR5 := Lib.hid r5
      clear hmA r5
      go_wp2_with fail
      obtain ⟨W0, hW0⟩ : ∃ W, W = wr.alloc (.cells #[.int .u64 t.a0, .int .u64 t.a1, .int .u64 t.a2, .int .u64 t.a3] 69) := ⟨_, rfl⟩
      obtain ⟨n5, hn5⟩ : ∃ n, n = wr.heap.size := ⟨_, rfl⟩
      rw [← hW0] at HMA HR5 ⊢
      rw [← hn5] at HR5 ⊢
      have hl5 : w.heap.size + 1 < n5 := by omega
      clear hW0 hn5 lm q0 q1 q2 q3 HM hbk
      go_loopg [13] 4 (fun g2 i2 W => ∃ j : Nat, i2 = .int .i64 j ∧ j + g2 = 4 ∧ NM w W (mixS s t j) ∧ W.heap[n5]? = some (.cells [.int .u64 t.a0, .int .u64 t.a1, .int .u64 t.a2, .int .u64 t.a3].toArray 69 (0, 0)))
      case atStart => exact ⟨0, rfl, rfl, HMA.out, HR5.out⟩
      case round =>
      clear HMA HR5
      obtain ⟨j, rfl, hj, hmj, ht5⟩ := hrel
      have HJ := Lib.hid hmj
      have HT5 := Lib.hid ht5
      clear hmj ht5
      obtain rfl | rfl | rfl | rfl | rfl : j = 0 ∨ j = 1 ∨ j = 2 ∨ j = 3 ∨ j = 4 := by omega
      · obtain ⟨g2, rfl⟩ : ∃ g2, gk = g2 + 1 := ⟨gk - 1, by omega⟩
        have d0 := cell_list (cs := [.int .u64 (mixS s t 0).a0, .int .u64 (mixS s t 0).a1, .int .u64 (mixS s t 0).a2, .int .u64 (mixS s t 0).a3]) HJ.out.s 0
        have df := frozen_list HJ.out.s
        have f0 := cell_list (cs := [.int .u64 t.a0, .int .u64 t.a1, .int .u64 t.a2, .int .u64 t.a3]) HT5.out 0
        simp only [List.getElem?_cons_zero, List.getElem?_cons_succ] at d0 f0
        change wr.cell? _ = some (.int .u64 s.a0) at d0
        have hsj := set_list HJ.out.s 0 (.int .u64 (bits .or .u64 s.a0 t.a0))
        have hj2 : NM w (wr.setCell ⟨w.heap.size + 1, 0, none⟩ (.int .u64 (bits .or .u64 s.a0 t.a0))).drew (mixS s t (0 + 1)) :=
          ⟨(Below.heap_setCell _ _ _ _ (by show w.heap.size ≠ w.heap.size + 1; omega)).trans HJ.out.r, hsj, (HJ.out.bl.setCell (p := ⟨w.heap.size + 1, 0, none⟩) (by show w.heap.size ≤ w.heap.size + 1; omega) _).drew⟩
        have HJ2 := Lib.hid hj2
        have HT6 := Lib.hid ((Below.heap_setCell wr ⟨w.heap.size + 1, 0, none⟩ (.int .u64 (bits .or .u64 s.a0 t.a0)) n5 (by show n5 ≠ w.heap.size + 1; omega)).trans HT5.out)
        clear hj2 hsj
        go_wp2_with fail
        go_region
        all_goals
          go_wp2_with fail
          go_roundg g2
          case measure => omega
          case rel => exact ⟨0 + 1, rfl, by omega, HJ2.out, HT6.out⟩
      · obtain ⟨g2, rfl⟩ : ∃ g2, gk = g2 + 1 := ⟨gk - 1, by omega⟩
        have d0 := cell_list (cs := [.int .u64 (mixS s t 1).a0, .int .u64 (mixS s t 1).a1, .int .u64 (mixS s t 1).a2, .int .u64 (mixS s t 1).a3]) HJ.out.s 1
        have df := frozen_list HJ.out.s
        have f0 := cell_list (cs := [.int .u64 t.a0, .int .u64 t.a1, .int .u64 t.a2, .int .u64 t.a3]) HT5.out 1
        simp only [List.getElem?_cons_zero, List.getElem?_cons_succ] at d0 f0
        change wr.cell? _ = some (.int .u64 s.a1) at d0
        have hsj := set_list HJ.out.s 1 (.int .u64 (bits .or .u64 s.a1 t.a1))
        have hj2 : NM w (wr.setCell ⟨w.heap.size + 1, 1, none⟩ (.int .u64 (bits .or .u64 s.a1 t.a1))).drew (mixS s t (1 + 1)) :=
          ⟨(Below.heap_setCell _ _ _ _ (by show w.heap.size ≠ w.heap.size + 1; omega)).trans HJ.out.r, hsj, (HJ.out.bl.setCell (p := ⟨w.heap.size + 1, 1, none⟩) (by show w.heap.size ≤ w.heap.size + 1; omega) _).drew⟩
        have HJ2 := Lib.hid hj2
        have HT6 := Lib.hid ((Below.heap_setCell wr ⟨w.heap.size + 1, 1, none⟩ (.int .u64 (bits .or .u64 s.a1 t.a1)) n5 (by show n5 ≠ w.heap.size + 1; omega)).trans HT5.out)
        clear hj2 hsj
        go_wp2_with fail
        go_region
        all_goals
          go_wp2_with fail
          go_roundg g2
          case measure => omega
          case rel => exact ⟨1 + 1, rfl, by omega, HJ2.out, HT6.out⟩
      · obtain ⟨g2, rfl⟩ : ∃ g2, gk = g2 + 1 := ⟨gk - 1, by omega⟩
        have d0 := cell_list (cs := [.int .u64 (mixS s t 2).a0, .int .u64 (mixS s t 2).a1, .int .u64 (mixS s t 2).a2, .int .u64 (mixS s t 2).a3]) HJ.out.s 2
        have df := frozen_list HJ.out.s
        have f0 := cell_list (cs := [.int .u64 t.a0, .int .u64 t.a1, .int .u64 t.a2, .int .u64 t.a3]) HT5.out 2
        simp only [List.getElem?_cons_zero, List.getElem?_cons_succ] at d0 f0
        change wr.cell? _ = some (.int .u64 s.a2) at d0
        have hsj := set_list HJ.out.s 2 (.int .u64 (bits .or .u64 s.a2 t.a2))
        have hj2 : NM w (wr.setCell ⟨w.heap.size + 1, 2, none⟩ (.int .u64 (bits .or .u64 s.a2 t.a2))).drew (mixS s t (2 + 1)) :=
          ⟨(Below.heap_setCell _ _ _ _ (by show w.heap.size ≠ w.heap.size + 1; omega)).trans HJ.out.r, hsj, (HJ.out.bl.setCell (p := ⟨w.heap.size + 1, 2, none⟩) (by show w.heap.size ≤ w.heap.size + 1; omega) _).drew⟩
        have HJ2 := Lib.hid hj2
        have HT6 := Lib.hid ((Below.heap_setCell wr ⟨w.heap.size + 1, 2, none⟩ (.int .u64 (bits .or .u64 s.a2 t.a2)) n5 (by show n5 ≠ w.heap.size + 1; omega)).trans HT5.out)
        clear hj2 hsj
        go_wp2_with fail
        go_region
        all_goals
          go_wp2_with fail
          go_roundg g2
          case measure => omega
          case rel => exact ⟨2 + 1, rfl, by omega, HJ2.out, HT6.out⟩
      · obtain ⟨g2, rfl⟩ : ∃ g2, gk = g2 + 1 := ⟨gk - 1, by omega⟩
        have d0 := cell_list (cs := [.int .u64 (mixS s t 3).a0, .int .u64 (mixS s t 3).a1, .int .u64 (mixS s t 3).a2, .int .u64 (mixS s t 3).a3]) HJ.out.s 3
        have df := frozen_list HJ.out.s
        have f0 := cell_list (cs := [.int .u64 t.a0, .int .u64 t.a1, .int .u64 t.a2, .int .u64 t.a3]) HT5.out 3
        simp only [List.getElem?_cons_zero, List.getElem?_cons_succ] at d0 f0
        change wr.cell? _ = some (.int .u64 s.a3) at d0
        have hsj := set_list HJ.out.s 3 (.int .u64 (bits .or .u64 s.a3 t.a3))
        have hj2 : NM w (wr.setCell ⟨w.heap.size + 1, 3, none⟩ (.int .u64 (bits .or .u64 s.a3 t.a3))).drew (mixS s t (3 + 1)) :=
          ⟨(Below.heap_setCell _ _ _ _ (by show w.heap.size ≠ w.heap.size + 1; omega)).trans HJ.out.r, hsj, (HJ.out.bl.setCell (p := ⟨w.heap.size + 1, 3, none⟩) (by show w.heap.size ≤ w.heap.size + 1; omega) _).drew⟩
        have HJ2 := Lib.hid hj2
        have HT6 := Lib.hid ((Below.heap_setCell wr ⟨w.heap.size + 1, 3, none⟩ (.int .u64 (bits .or .u64 s.a3 t.a3)) n5 (by show n5 ≠ w.heap.size + 1; omega)).trans HT5.out)
        clear hj2 hsj
        go_wp2_with fail
        go_region
        all_goals
          go_wp2_with fail
          go_roundg g2
          case measure => omega
          case rel => exact ⟨3 + 1, rfl, by omega, HJ2.out, HT6.out⟩
      · go_wp2_with fail
        go_roundg g'
        case measure => omega
        case rel =>
          refine ⟨k + 1, by go_num, by omega, ?_⟩
          have : unionS (L.take (k + 1)) = orS s t := by
            unfold unionS
            rw [List.take_add_one, HX.out]
            simp only [Option.toList_some, List.foldl_append, List.foldl_cons, List.foldl_nil]
            rw [show List.foldl orS S4.z (L.take k) = s from HS.out]
          rw [this]
          exact HJ.out
    · obtain rfl : k = L.length := by omega
      rw [List.take_length, HV.out] at HM
      have hr := HM.out.r
      have d0 := cell_list (cs := [.int .u64 V.a0, .int .u64 V.a1, .int .u64 V.a2, .int .u64 V.a3]) HM.out.s 0
      have d1 := cell_list (cs := [.int .u64 V.a0, .int .u64 V.a1, .int .u64 V.a2, .int .u64 V.a3]) HM.out.s 1
      have d2 := cell_list (cs := [.int .u64 V.a0, .int .u64 V.a1, .int .u64 V.a2, .int .u64 V.a3]) HM.out.s 2
      have d3 := cell_list (cs := [.int .u64 V.a0, .int .u64 V.a1, .int .u64 V.a2, .int .u64 V.a3]) HM.out.s 3
      have e0 := cell_list hr 0
      have e1 := cell_list hr 1
      have e2 := cell_list hr 2
      have e3 := cell_list hr 3
      have ef := frozen_list hr
      simp only [List.getElem?_cons_zero, List.getElem?_cons_succ] at d0 d1 d2 d3 e0 e1 e2 e3
      have hr2 := set_list (set_list (set_list (set_list hr 0 (.int .u64 V.a0)) 1 (.int .u64 V.a1)) 2 (.int .u64 V.a2)) 3 (.int .u64 V.a3)
      have hb2 := (((HM.out.bl.setCell (p := ⟨w.heap.size, 0, none⟩) (Nat.le_refl _) (.int .u64 V.a0)).setCell (p := ⟨w.heap.size, 1, none⟩) (Nat.le_refl _) (.int .u64 V.a1)).setCell (p := ⟨w.heap.size, 2, none⟩) (Nat.le_refl _) (.int .u64 V.a2)).setCell (p := ⟨w.heap.size, 3, none⟩) (Nat.le_refl _) (.int .u64 V.a3)
      have HR2 := Lib.hid hr2
      have HB2 := Lib.hid hb2
      clear hr2 hb2 hr
      go_wp2_with fail
      obtain ⟨W9, hW9⟩ : ∃ W, W = (((wr.setCell ⟨w.heap.size, 0, none⟩ (.int .u64 V.a0)).setCell ⟨w.heap.size, 1, none⟩ (.int .u64 V.a1)).setCell ⟨w.heap.size, 2, none⟩ (.int .u64 V.a2)).setCell ⟨w.heap.size, 3, none⟩ (.int .u64 V.a3) := ⟨_, rfl⟩
      have hr3 : W9.heap[w.heap.size]? = some (.cells [.int .u64 V.a0, .int .u64 V.a1, .int .u64 V.a2, .int .u64 V.a3].toArray 69 (0, 0)) := by rw [hW9]; exact HR2.out
      have hb3 := HB2.out
      rw [← hW9] at hb3 ⊢
      clear hW9
      have z0 := cell_list hr3 0
      have z1 := cell_list hr3 1
      have z2 := cell_list hr3 2
      have z3 := cell_list hr3 3
      simp only [List.getElem?_cons_zero, List.getElem?_cons_succ] at z0 z1 z2 z3
      exact bodyPost_ret (v := .agg #[.int .u64 V.a0, .int .u64 V.a1, .int .u64 V.a2, .int .u64 V.a3]) (by simp [results, Tryd.results67, go_sem, z0, z1, z2, z3]) rfl ⟨rfl, hb3⟩
end Go.Proofs.YtllklgalghmnfaaDoor
namespace Go.Proofs.YtllklgalghmnfaaDoor
open Go.RowKit Str Mem Tp
set_option linter.unusedVariables false
set_option linter.unusedSimpArgs false
def bv (n : Nat) : Value := .int .u8 n
def BytesAt (w : World) (a : Option Addr) (n : Nat) (l : List Nat) : Prop := Rd w 1 a n (l.map bv)
def S4.put (s : S4) (k : Nat) (x : Int) : S4 := match k with
  | 0 => ⟨x, s.a1, s.a2, s.a3⟩
  | 1 => ⟨s.a0, x, s.a2, s.a3⟩
  | 2 => ⟨s.a0, s.a1, x, s.a3⟩
  | _ => ⟨s.a0, s.a1, s.a2, x⟩
theorem S4.put_v (s : S4) (k : Nat) (x : Int) (h : k < 4) : (s.put k x).v = s.v.set k (.int .u64 x) := by
  obtain rfl | rfl | rfl | rfl : k = 0 ∨ k = 1 ∨ k = 2 ∨ k = 3 := by omega
  · rfl
  · rfl
  · rfl
  · rfl
def addB (s : S4) (b : Nat) : S4 := s.put (b / 64) (bits .or .u64 (s.at (b / 64)) (IntKind.u64.wrap (2 ^ (b % 64))))
def ofS (L : List Nat) : S4 := L.foldl addB S4.z
set_option maxRecDepth 100000 in
set_option maxHeartbeats 8000000 in
theorem of_any (a : Option Addr) (c : Nat) (L : List Nat) (w : World) (hP : BytesAt w a L.length L) (hn : L.length ≤ 1000) (hL : ∀ b ∈ L, b < 256) :
    Calls Tryd.prog 103 #[.slice a L.length c] w fun e w' => e = .returned (.agg #[.int .u64 (ofS L).a0, .int .u64 (ofS L).a1, .int .u64 (ofS L).a2, .int .u64 (ofS L).a3]) ∧ Below w.heap.size w w' := by
  obtain ⟨V, hV⟩ : ∃ V, ofS L = V := ⟨_, rfl⟩
  rw [hV]
  have HV := Lib.hid hV
  clear hV
  have HP := Lib.hid hP
  have hm0 : NM w ((w.alloc (.cells #[.int .u64 0, .int .u64 0, .int .u64 0, .int .u64 0] 69)).alloc (.cells #[.int .u64 0, .int .u64 0, .int .u64 0, .int .u64 0] 69)) S4.z :=
    ⟨(Below.heap_alloc _ _ _ (by simp)).trans (World.alloc_heap_new w _), by have h := World.alloc_heap_new (w.alloc (.cells #[.int .u64 0, .int .u64 0, .int .u64 0, .int .u64 0] 69)) (.cells #[.int .u64 0, .int .u64 0, .int .u64 0, .int .u64 0] 69); rw [show (w.alloc (.cells #[.int .u64 0, .int .u64 0, .int .u64 0, .int .u64 0] 69)).heap.size = w.heap.size + 1 from by simp] at h; exact h, ((Below.refl _ w).alloc (Nat.le_refl _) _).alloc (by simp) _⟩
  have HM0 := Lib.hid hm0
  clear hP hm0
  go_enter Tryd.func103, Tryd.ntmps103
  go_wp2_with fail
  go_loopg [8] L.length (fun g i W => ∃ k : Nat, i = .int .i64 k ∧ k + g = L.length ∧ NM w W (ofS (L.take k)))
  case atStart => exact ⟨0, rfl, by omega, HM0.out⟩
  case round =>
    clear HM0
    obtain ⟨k, rfl, hk, hm⟩ := hrel
    have HM := Lib.hid hm
    clear hm
    by_cases hlt : k < L.length
    · obtain ⟨g', rfl⟩ : ∃ g', gk = g' + 1 := ⟨gk - 1, by omega⟩
      obtain ⟨b, hx⟩ : ∃ x, L[k]? = some x := ⟨_, List.getElem?_eq_getElem hlt⟩
      have hb := hL b (List.mem_of_getElem? hx)
      have HX := Lib.hid hx
      obtain ⟨s, hs⟩ : ∃ s, ofS (L.take k) = s := ⟨_, rfl⟩
      rw [hs] at HM
      have HS := Lib.hid hs
      obtain ⟨ad, had, hbk, hc⟩ := Rd.get (show Rd wr 1 a L.length _ from Rd.below HP.out HM.out.bl) (by omega)
      have q0 := hc k (bv b) (by rw [List.getElem?_map, hx]; rfl)
      unfold bv at q0
      subst had
      have i0 : (0 : Int) ≤ (k : Int) := by omega
      have i1 : (k : Int) < (L.length : Int) := by omega
      have hg := s.get (b / 64) (by omega)
      have d0 := cell_list (cs := s.v) HM.out.s (b / 64)
      rw [hg] at d0
      have df := frozen_list HM.out.s
      obtain ⟨d, hd⟩ : ∃ d, s.at (b / 64) = d := ⟨_, rfl⟩
      rw [hd] at d0
      have HD := Lib.hid hd
      have hset := set_list (cs := s.v) HM.out.s (b / 64) (.int .u64 (bits .or .u64 d (IntKind.u64.wrap (2 ^ (b % 64)))))
      rw [← S4.put_v s _ _ (by omega)] at hset
      have hm2 : NM w (wr.setCell ⟨w.heap.size + 1, b / 64, none⟩ (.int .u64 (bits .or .u64 d (IntKind.u64.wrap (2 ^ (b % 64)))))) (addB s b) :=
        ⟨(Below.heap_setCell _ _ _ _ (by show w.heap.size ≠ w.heap.size + 1; omega)).trans HM.out.r, by unfold addB; rw [HD.out]; exact hset, HM.out.bl.setCell (p := ⟨w.heap.size + 1, b / 64, none⟩) (by show w.heap.size ≤ w.heap.size + 1; omega) _⟩
      have HM2 := Lib.hid hm2
      clear hx hc hg hd hset hm2 hs
      go_wp2_with fail
      go_roundg g'
      case measure => omega
      case rel =>
        refine ⟨k + 1, by go_num, by omega, ?_⟩
        have : ofS (L.take (k + 1)) = addB s b := by
          unfold ofS
          rw [List.take_add_one, HX.out]
          simp only [Option.toList_some, List.foldl_append, List.foldl_cons, List.foldl_nil]
          rw [show List.foldl addB S4.z (L.take k) = s from HS.out]
        rw [this]
        exact HM2.out
    · obtain rfl : k = L.length := by omega
      rw [List.take_length, HV.out] at HM
      have hr := HM.out.r
      have d0 := cell_list (cs := [.int .u64 V.a0, .int .u64 V.a1, .int .u64 V.a2, .int .u64 V.a3]) HM.out.s 0
      have d1 := cell_list (cs := [.int .u64 V.a0, .int .u64 V.a1, .int .u64 V.a2, .int .u64 V.a3]) HM.out.s 1
      have d2 := cell_list (cs := [.int .u64 V.a0, .int .u64 V.a1, .int .u64 V.a2, .int .u64 V.a3]) HM.out.s 2
      have d3 := cell_list (cs := [.int .u64 V.a0, .int .u64 V.a1, .int .u64 V.a2, .int .u64 V.a3]) HM.out.s 3
      have e0 := cell_list hr 0
      have e1 := cell_list hr 1
      have e2 := cell_list hr 2
      have e3 := cell_list hr 3
      have ef := frozen_list hr
      simp only [List.getElem?_cons_zero, List.getElem?_cons_succ] at d0 d1 d2 d3 e0 e1 e2 e3
      have hr2 := set_list (set_list (set_list (set_list hr 0 (.int .u64 V.a0)) 1 (.int .u64 V.a1)) 2 (.int .u64 V.a2)) 3 (.int .u64 V.a3)
      have hb2 := (((HM.out.bl.setCell (p := ⟨w.heap.size, 0, none⟩) (Nat.le_refl _) (.int .u64 V.a0)).setCell (p := ⟨w.heap.size, 1, none⟩) (Nat.le_refl _) (.int .u64 V.a1)).setCell (p := ⟨w.heap.size, 2, none⟩) (Nat.le_refl _) (.int .u64 V.a2)).setCell (p := ⟨w.heap.size, 3, none⟩) (Nat.le_refl _) (.int .u64 V.a3)
      have HR2 := Lib.hid hr2
      have HB2 := Lib.hid hb2
      clear hr2 hb2 hr
      go_wp2_with fail
      obtain ⟨W9, hW9⟩ : ∃ W, W = (((wr.setCell ⟨w.heap.size, 0, none⟩ (.int .u64 V.a0)).setCell ⟨w.heap.size, 1, none⟩ (.int .u64 V.a1)).setCell ⟨w.heap.size, 2, none⟩ (.int .u64 V.a2)).setCell ⟨w.heap.size, 3, none⟩ (.int .u64 V.a3) := ⟨_, rfl⟩
      have hr3 : W9.heap[w.heap.size]? = some (.cells [.int .u64 V.a0, .int .u64 V.a1, .int .u64 V.a2, .int .u64 V.a3].toArray 69 (0, 0)) := by rw [hW9]; exact HR2.out
      have hb3 := HB2.out
      rw [← hW9] at hb3 ⊢
      clear hW9
      have z0 := cell_list hr3 0
      have z1 := cell_list hr3 1
      have z2 := cell_list hr3 2
      have z3 := cell_list hr3 3
      simp only [List.getElem?_cons_zero, List.getElem?_cons_succ] at z0 z1 z2 z3
      exact bodyPost_ret (v := .agg #[.int .u64 V.a0, .int .u64 V.a1, .int .u64 V.a2, .int .u64 V.a3]) (by simp [results, Tryd.results103, go_sem, z0, z1, z2, z3]) rfl ⟨rfl, hb3⟩
end Go.Proofs.YtllklgalghmnfaaDoor
namespace Go.Proofs.YtllklgalghmnfaaDoor
open Go.RowKit Str Mem Tp
set_option linter.unusedVariables false
set_option linter.unusedSimpArgs false
/-- The set with a byte more, as Ranges makes it. -/
def incS (s : S4) (b : Nat) : S4 := unionS [s, ofS [b]]
def rangeS (s : S4) (lo hi : Nat) : S4 := (List.range' lo (hi + 1 - lo)).foldl incS s
def rangesS (L : List (Nat × Nat)) : S4 := L.foldl (fun s r => rangeS s r.1 r.2) S4.z
def rcells (L : List (Nat × Nat)) : List Value := L.flatMap fun r => [.int .u8 r.1, .int .u8 r.2]
theorem rcells_len (L : List (Nat × Nat)) : (rcells L).length = L.length * 2 := by
  induction L with
  | nil => rfl
  | cons x L ih => simp only [rcells, List.flatMap_cons, List.length_append, List.length_cons, List.length_nil] at ih ⊢; omega
theorem rcells_get : ∀ (L : List (Nat × Nat)) (k : Nat) (r : Nat × Nat), L[k]? = some r → (rcells L)[k * 2]? = some (.int .u8 r.1) ∧ (rcells L)[k * 2 + 1]? = some (.int .u8 r.2)
  | [], k, r, h => by simp at h
  | y :: L, 0, r, h => by
    simp at h; subst h
    exact ⟨rfl, rfl⟩
  | y :: L, k + 1, r, h => by
    have := rcells_get L k r (by simpa using h)
    have e : rcells (y :: L) = [.int .u8 y.1, .int .u8 y.2] ++ rcells L := rfl
    have e2 : ∀ j, (rcells (y :: L))[(k + 1) * 2 + j]? = (rcells L)[k * 2 + j]? := fun j => by
      rw [e, List.getElem?_append_right (by simp; omega)]
      congr 1
      simp; omega
    exact ⟨by have := e2 0; simp only [Nat.add_zero] at this; rw [this]; exact (rcells_get L k r (by simpa using h)).1, by rw [e2 1]; exact this.2⟩
def Ranges (w : World) (a : Option Addr) (n : Nat) (L : List (Nat × Nat)) : Prop := Rd w 2 a n (rcells L)
theorem Ranges.get {w : World} {a : Option Addr} {n : Nat} {L : List (Nat × Nat)} (h : Ranges w a n L) (k : Nat) (r : Nat × Nat) (hk : L[k]? = some r) :
    ∃ ad : Addr, a = some ad ∧ ad.block < w.heap.size ∧ w.cell? (ad.add (k * 2)) = some (.int .u8 r.1) ∧ w.cell? ⟨(ad.add (k * 2)).block, (ad.add (k * 2)).off + 1, none⟩ = some (.int .u8 r.2) := by
  obtain ⟨g0, g1⟩ := rcells_get L k r hk
  have hn : L.length = n := by have := h.len; rw [rcells_len] at this; omega
  have hlt : k < L.length := (List.getElem?_eq_some_iff.1 hk).1
  obtain ⟨ad, rfl, hb, hc⟩ := Rd.get h (by omega)
  have e : (ad.add (k * 2 + 1) : Addr) = ⟨(ad.add (k * 2)).block, (ad.add (k * 2)).off + 1, none⟩ := by
    unfold Addr.add
    by_cases h0 : k * 2 = 0
    · have : k = 0 := by omega
      subst this
      simp
    · simp [h0, Nat.add_assoc]
  exact ⟨ad, rfl, hb, hc _ _ g0, by rw [← e]; exact hc _ _ g1⟩
theorem NM.below {w W W' : World} {s : S4} (m : NM w W s) (hb : Below W.heap.size W W') : NM w W' s :=
  ⟨(hb.block _ (lt_of_cells m.r)).trans m.r, (hb.block _ (lt_of_cells m.s)).trans m.s, m.bl.trans (hb.mono m.bl.size)⟩
theorem NM.set4 {w W : World} {s : S4} (m : NM w W s) (t : S4) : NM w ((((W.setCell ⟨w.heap.size + 1, 0, none⟩ (.int .u64 t.a0)).setCell ⟨w.heap.size + 1, 1, none⟩ (.int .u64 t.a1)).setCell ⟨w.heap.size + 1, 2, none⟩ (.int .u64 t.a2)).setCell ⟨w.heap.size + 1, 3, none⟩ (.int .u64 t.a3)) t := by
  have hn : w.heap.size ≠ w.heap.size + 1 := by omega
  refine ⟨?_, set_list (set_list (set_list (set_list m.s 0 _) 1 _) 2 _) 3 _, ?_⟩
  · exact (Below.heap_setCell _ _ _ _ hn).trans ((Below.heap_setCell _ _ _ _ hn).trans ((Below.heap_setCell _ _ _ _ hn).trans ((Below.heap_setCell _ _ _ _ hn).trans m.r)))
  · exact (((m.bl.setCell (p := ⟨w.heap.size + 1, 0, none⟩) (Nat.le_succ _) _).setCell (p := ⟨w.heap.size + 1, 1, none⟩) (Nat.le_succ _) _).setCell (p := ⟨w.heap.size + 1, 2, none⟩) (Nat.le_succ _) _).setCell (p := ⟨w.heap.size + 1, 3, none⟩) (Nat.le_succ _) _
theorem keep4 (W : World) (b n : Nat) (hn : n ≠ b) (v0 v1 v2 v3 : Value) : ((((W.setCell ⟨b, 0, none⟩ v0).setCell ⟨b, 1, none⟩ v1).setCell ⟨b, 2, none⟩ v2).setCell ⟨b, 3, none⟩ v3).heap[n]? = W.heap[n]? :=
  (Below.heap_setCell _ _ _ _ hn).trans ((Below.heap_setCell _ _ _ _ hn).trans ((Below.heap_setCell _ _ _ _ hn).trans (Below.heap_setCell _ _ _ _ hn)))
theorem NM.cells {w W : World} {s : S4} (m : NM w W s) : W.cell? ⟨w.heap.size + 1, 0, none⟩ = some (.int .u64 s.a0) ∧ W.cell? ⟨w.heap.size + 1, 1, none⟩ = some (.int .u64 s.a1) ∧ W.cell? ⟨w.heap.size + 1, 2, none⟩ = some (.int .u64 s.a2) ∧ W.cell? ⟨w.heap.size + 1, 3, none⟩ = some (.int .u64 s.a3) := by
  have d0 := cell_list (cs := [.int .u64 s.a0, .int .u64 s.a1, .int .u64 s.a2, .int .u64 s.a3]) m.s 0
  have d1 := cell_list (cs := [.int .u64 s.a0, .int .u64 s.a1, .int .u64 s.a2, .int .u64 s.a3]) m.s 1
  have d2 := cell_list (cs := [.int .u64 s.a0, .int .u64 s.a1, .int .u64 s.a2, .int .u64 s.a3]) m.s 2
  have d3 := cell_list (cs := [.int .u64 s.a0, .int .u64 s.a1, .int .u64 s.a2, .int .u64 s.a3]) m.s 3
  simp only [List.getElem?_cons_zero, List.getElem?_cons_succ] at d0 d1 d2 d3
  exact ⟨d0, d1, d2, d3⟩
set_option maxRecDepth 100000 in
set_option maxHeartbeats 8000000 in
theorem ranges_any (a : Option Addr) (c : Nat) (L : List (Nat × Nat)) (w : World) (hP : Ranges w a L.length L) (hn : L.length ≤ 1000) (hL : ∀ r ∈ L, r.1 ≤ r.2 ∧ r.2 < 255) :
    Calls Tryd.prog 102 #[.slice a L.length c] w fun e w' => e = .returned (.tuple #[.agg #[.int .u64 (rangesS L).a0, .int .u64 (rangesS L).a1, .int .u64 (rangesS L).a2, .int .u64 (rangesS L).a3], .int .i64 0]) ∧ Below w.heap.size w w' := by
  obtain ⟨V, hV⟩ : ∃ V, rangesS L = V := ⟨_, rfl⟩
  rw [hV]
  have HV := Lib.hid hV
  clear hV
  have HP := Lib.hid hP
  have hm0 : NM w ((w.alloc (.cells #[.int .u64 0, .int .u64 0, .int .u64 0, .int .u64 0] 69)).alloc (.cells #[.int .u64 0, .int .u64 0, .int .u64 0, .int .u64 0] 69)) S4.z :=
    ⟨(Below.heap_alloc _ _ _ (by simp)).trans (World.alloc_heap_new w _), by have h := World.alloc_heap_new (w.alloc (.cells #[.int .u64 0, .int .u64 0, .int .u64 0, .int .u64 0] 69)) (.cells #[.int .u64 0, .int .u64 0, .int .u64 0, .int .u64 0] 69); rw [show (w.alloc (.cells #[.int .u64 0, .int .u64 0, .int .u64 0, .int .u64 0] 69)).heap.size = w.heap.size + 1 from by simp] at h; exact h, ((Below.refl _ w).alloc (Nat.le_refl _) _).alloc (by simp) _⟩
  have HM0 := Lib.hid hm0
  clear hP hm0
  go_enter Tryd.func102, Tryd.ntmps102
  go_wp2_with fail
  go_loopg [10] L.length (fun g i W => ∃ k : Nat, i = .int .i64 k ∧ k + g = L.length ∧ NM w W (rangesS (L.take k)))
  case atStart => exact ⟨0, rfl, by omega, HM0.out⟩
  case round =>
    clear HM0
    obtain ⟨k, rfl, hk, hm⟩ := hrel
    have HM := Lib.hid hm
    clear hm
    by_cases hlt : k < L.length
    · obtain ⟨g', rfl⟩ : ∃ g', gk = g' + 1 := ⟨gk - 1, by omega⟩
      obtain ⟨⟨lo, hi⟩, hx⟩ : ∃ x, L[k]? = some x := ⟨_, List.getElem?_eq_getElem hlt⟩
      obtain ⟨hlh, hh⟩ := hL _ (List.mem_of_getElem? hx)
      simp only [] at hlh hh
      obtain ⟨ad, had, hbk, q0, q1⟩ := Ranges.get (L := L) (show Ranges wr a L.length L from Rd.below HP.out HM.out.bl) k _ hx
      subst had
      have i0 : (0 : Int) ≤ (k : Int) := by omega
      have i1 : (k : Int) < (L.length : Int) := by omega
      have hle : ¬ ((hi : Int) < (lo : Int)) := by omega
      have HX := Lib.hid hx
      obtain ⟨s, hs⟩ : ∃ s, rangesS (L.take k) = s := ⟨_, rfl⟩
      rw [hs] at HM
      have HS := Lib.hid hs
      have lm := lt_of_cells HM.out.s
      have hmA : NM w (wr.alloc (.cells #[.int .u8 lo, .int .u8 hi] 140)) s := ⟨(Below.heap_alloc _ _ _ (lt_of_cells HM.out.r)).trans HM.out.r, (Below.heap_alloc _ _ _ lm).trans HM.out.s, HM.out.bl.alloc HM.out.bl.size _⟩
      have r6 := World.alloc_heap_new wr (.cells #[.int .u8 lo, .int .u8 hi] 140)
      have HMA := Lib.hid hmA
      have HR6 := Lib.hid r6
      clear hx hs hmA r6
      go_wp2_with fail
      obtain ⟨W0, hW0⟩ : ∃ W, W = wr.alloc (.cells #[.int .u8 lo, .int .u8 hi] 140) := ⟨_, rfl⟩
      obtain ⟨n6, hn6⟩ : ∃ n, n = wr.heap.size := ⟨_, rfl⟩
      rw [← hW0] at HMA HR6 ⊢
      rw [← hn6] at HR6 ⊢
      have hl6 : w.heap.size + 1 < n6 := by omega
      clear hW0 hn6 lm q0 q1 HM hbk
      go_loopg [7] (hi + 1) (fun g2 i2 W => ∃ j : Nat, i2 = .int .i64 j ∧ lo ≤ j ∧ j ≤ hi + 1 ∧ hi + 1 ≤ j + g2 ∧ NM w W ((List.range' lo (j - lo)).foldl incS s) ∧ W.heap[n6]? = some (.cells [.int .u8 lo, .int .u8 hi].toArray 140 (0, 0)))
      case atStart => exact ⟨lo, rfl, Nat.le_refl _, by omega, by omega, by rw [Nat.sub_self]; exact HMA.out, HR6.out⟩
      case round =>
      clear HMA HR6
      obtain ⟨j, rfl, hj0, hj1, hjg, hmj, hr6⟩ := hrel
      obtain ⟨s2, hs2⟩ : ∃ s2, (List.range' lo (j - lo)).foldl incS s = s2 := ⟨_, rfl⟩
      rw [hs2] at hmj
      have HS2 := Lib.hid hs2
      have HJ := Lib.hid hmj
      have HR6 := Lib.hid hr6
      have e1 := cell_list (cs := [.int .u8 lo, .int .u8 hi]) hr6 1
      simp only [List.getElem?_cons_zero, List.getElem?_cons_succ] at e1
      have j0 : (0 : Int) ≤ (j : Int) := by omega
      clear hmj hr6 hs2
      by_cases hjh : j ≤ hi
      · obtain ⟨g2, rfl⟩ : ∃ g2, gk = g2 + 1 := ⟨gk - 1, by omega⟩
        have hle2 : (j : Int) ≤ (hi : Int) := by omega
        have d0 := cell_list (cs := [.int .u64 s2.a0, .int .u64 s2.a1, .int .u64 s2.a2, .int .u64 s2.a3]) HJ.out.s 0
        have d1 := cell_list (cs := [.int .u64 s2.a0, .int .u64 s2.a1, .int .u64 s2.a2, .int .u64 s2.a3]) HJ.out.s 1
        have d2 := cell_list (cs := [.int .u64 s2.a0, .int .u64 s2.a1, .int .u64 s2.a2, .int .u64 s2.a3]) HJ.out.s 2
        have d3 := cell_list (cs := [.int .u64 s2.a0, .int .u64 s2.a1, .int .u64 s2.a2, .int .u64 s2.a3]) HJ.out.s 3
        have df := frozen_list HJ.out.s
        have lm2 : w.heap.size + 1 < wr.heap.size := lt_of_cells HJ.out.s
        simp only [List.getElem?_cons_zero, List.getElem?_cons_succ] at d0 d1 d2 d3
        have hwrap : IntKind.u8.wrap (j : Int) = (j : Int) := by
          have : j < 256 := by omega
          simp [IntKind.wrap, IntKind.signed, IntKind.bits]
          omega
        have hof : ∀ (W : World) (N : Nat), W.heap[N]? = some (.cells #[.int .u8 j] 5 (0, 0)) → Calls Tryd.prog 103 #[.slice (some ⟨N, 0, none⟩) 1 1] W fun e w' => e = .returned (.agg #[.int .u64 (ofS [j]).a0, .int .u64 (ofS [j]).a1, .int .u64 (ofS [j]).a2, .int .u64 (ofS [j]).a3]) ∧ Below W.heap.size W w' := fun W N h => by
          refine of_any (some ⟨N, 0, none⟩) 1 [j] W ⟨rfl, fun _ => ⟨_, rfl, (Array.getElem?_eq_some_iff.1 h).1, fun q u hu => ?_⟩⟩ (by simp) (fun b hb => by simp at hb; omega)
          rw [add_flat, Nat.zero_add, cell_list (cs := [.int .u8 j]) h q]
          exact hu
        obtain ⟨t, ht⟩ : ∃ t, ofS [j] = t := ⟨_, rfl⟩
        rw [ht] at hof
        have HT := Lib.hid ht
        have hun : ∀ (W : World) (N : Nat), W.heap[N]? = some (.cells #[.int .u64 s2.a0, .int .u64 s2.a1, .int .u64 s2.a2, .int .u64 s2.a3, .int .u64 t.a0, .int .u64 t.a1, .int .u64 t.a2, .int .u64 t.a3] 69 (0, 0)) → Calls Tryd.prog 67 #[.slice (some ⟨N, 0, none⟩) 2 2] W fun e w' => e = .returned (.agg #[.int .u64 (unionS [s2, t]).a0, .int .u64 (unionS [s2, t]).a1, .int .u64 (unionS [s2, t]).a2, .int .u64 (unionS [s2, t]).a3]) ∧ Below W.heap.size W w' := fun W N h => by
          refine union_any (some ⟨N, 0, none⟩) 2 [s2, t] W ⟨rfl, fun _ => ⟨_, rfl, (Array.getElem?_eq_some_iff.1 h).1, fun q u hu => ?_⟩⟩ (by simp)
          rw [add_flat, Nat.zero_add, cell_list (cs := [.int .u64 s2.a0, .int .u64 s2.a1, .int .u64 s2.a2, .int .u64 s2.a3, .int .u64 t.a0, .int .u64 t.a1, .int .u64 t.a2, .int .u64 t.a3]) h q]
          exact hu
        obtain ⟨U, hU⟩ : ∃ U, unionS [s2, t] = U := ⟨_, rfl⟩
        rw [hU] at hun
        have HU := Lib.hid hU
        clear ht hU
        go_wp2_with fail
        go_region_with (first
          | (go_at_call 103; refine (hof _ _ ?_).mono ?_; exact World.alloc_heap_new wr _; rintro e w4 ⟨rfl, h4⟩; have M4 := (HJ.out.below (((Below.refl _ wr).alloc (Nat.le_refl _) (.cells #[.int .u8 j] 5)).drew)).below h4; have lm4 : w.heap.size + 1 < w4.heap.size := lt_of_cells M4.s; have df4 := frozen_list M4.s; obtain ⟨d0, d1, d2, d3⟩ := M4.cells)
          | (go_at_call 67; refine (hun _ _ ?_).mono ?_; exact World.alloc_heap_new w4 _; rintro e w5 ⟨rfl, h5⟩; have M5 := (M4.below ((Below.refl _ w4).alloc (Nat.le_refl _) (.cells #[.int .u64 s2.a0, .int .u64 s2.a1, .int .u64 s2.a2, .int .u64 s2.a3, .int .u64 t.a0, .int .u64 t.a1, .int .u64 t.a2, .int .u64 t.a3] 69))).below h5; obtain ⟨d0, d1, d2, d3⟩ := M5.cells; have df5 := frozen_list M5.s; have lm5 : w.heap.size + 1 < w5.heap.size := lt_of_cells M5.s))
        all_goals
          have M6 := M5.set4 U
          have R6 : w5.heap[n6]? = some (.cells [.int .u8 lo, .int .u8 hi].toArray 140 (0, 0)) := by
            have l6 := lt_of_cells HR6.out
            have q1 := (h4.block n6 (by simp; omega)).trans ((Below.heap_alloc wr _ n6 l6).trans HR6.out)
            have l7 := lt_of_cells q1
            exact (h5.block n6 (by simp; omega)).trans ((Below.heap_alloc w4 _ n6 l7).trans q1)
          have R7 := (keep4 w5 (w.heap.size + 1) n6 (by omega) (.int .u64 U.a0) (.int .u64 U.a1) (.int .u64 U.a2) (.int .u64 U.a3)).trans R6
          have HM6 := Lib.hid M6
          have HR7 := Lib.hid R7
          clear M6 R7 R6 M5 M4 h4 h5 hof hun
          go_wp2_with fail
          go_roundg g2
          case measure => omega
          case rel =>
            refine ⟨j + 1, by go_num, by omega, by omega, by omega, ?_, HR7.out⟩
            have : (List.range' lo (j + 1 - lo)).foldl incS s = U := by
              rw [show j + 1 - lo = (j - lo) + 1 from by omega, List.range'_1_concat, List.foldl_append, HS2.out, show lo + (j - lo) = j from by omega]
              show incS s2 j = U
              unfold incS
              rw [HT.out, HU.out]
            rw [this]
            exact HM6.out
      · obtain rfl : j = hi + 1 := by omega
        have hle2 : ¬ (((hi + 1 : Nat) : Int) ≤ (hi : Int)) := by omega
        go_wp2_with fail
        go_roundg g'
        case measure => omega
        case rel =>
          refine ⟨k + 1, by go_num, by omega, ?_⟩
          have : rangesS (L.take (k + 1)) = s2 := by
            unfold rangesS
            rw [List.take_add_one, HX.out]
            simp only [Option.toList_some, List.foldl_append, List.foldl_cons, List.foldl_nil]
            rw [show List.foldl (fun s r => rangeS s r.1 r.2) S4.z (L.take k) = s from HS.out]
            exact HS2.out
          rw [this]
          exact HJ.out
    · obtain rfl : k = L.length := by omega
      rw [List.take_length, HV.out] at HM
      have hr := HM.out.r
      obtain ⟨d0, d1, d2, d3⟩ := HM.out.cells
      have e0 := cell_list hr 0
      have e1 := cell_list hr 1
      have e2 := cell_list hr 2
      have e3 := cell_list hr 3
      have ef := frozen_list hr
      simp only [List.getElem?_cons_zero, List.getElem?_cons_succ] at e0 e1 e2 e3
      have hr2 := set_list (set_list (set_list (set_list hr 0 (.int .u64 V.a0)) 1 (.int .u64 V.a1)) 2 (.int .u64 V.a2)) 3 (.int .u64 V.a3)
      have hb2 := (((HM.out.bl.setCell (p := ⟨w.heap.size, 0, none⟩) (Nat.le_refl _) (.int .u64 V.a0)).setCell (p := ⟨w.heap.size, 1, none⟩) (Nat.le_refl _) (.int .u64 V.a1)).setCell (p := ⟨w.heap.size, 2, none⟩) (Nat.le_refl _) (.int .u64 V.a2)).setCell (p := ⟨w.heap.size, 3, none⟩) (Nat.le_refl _) (.int .u64 V.a3)
      have HR2 := Lib.hid hr2
      have HB2 := Lib.hid hb2
      clear hr2 hb2 hr
      go_wp2_with fail
      obtain ⟨W9, hW9⟩ : ∃ W, W = (((wr.setCell ⟨w.heap.size, 0, none⟩ (.int .u64 V.a0)).setCell ⟨w.heap.size, 1, none⟩ (.int .u64 V.a1)).setCell ⟨w.heap.size, 2, none⟩ (.int .u64 V.a2)).setCell ⟨w.heap.size, 3, none⟩ (.int .u64 V.a3) := ⟨_, rfl⟩
      have hr3 : W9.heap[w.heap.size]? = some (.cells [.int .u64 V.a0, .int .u64 V.a1, .int .u64 V.a2, .int .u64 V.a3].toArray 69 (0, 0)) := by rw [hW9]; exact HR2.out
      have hb3 := HB2.out
      rw [← hW9] at hb3 ⊢
      clear hW9
      have z0 := cell_list hr3 0
      have z1 := cell_list hr3 1
      have z2 := cell_list hr3 2
      have z3 := cell_list hr3 3
      simp only [List.getElem?_cons_zero, List.getElem?_cons_succ] at z0 z1 z2 z3
      exact bodyPost_ret (v := .tuple #[.agg #[.int .u64 V.a0, .int .u64 V.a1, .int .u64 V.a2, .int .u64 V.a3], .int .i64 0]) (by simp [results, Tryd.results102, go_sem, z0, z1, z2, z3]) rfl ⟨rfl, hb3⟩
end Go.Proofs.YtllklgalghmnfaaDoor
namespace Go.Proofs.YtllklgalghmnfaaDoor
open Go.RowKit Str Mem Tp
set_option linter.unusedVariables false
set_option linter.unusedSimpArgs false
def stayA : S4 := rangesS [(97, 122), (65, 90), (48, 57)]
def stayB : S4 := ofS [45, 46, 95, 126, 47, 58, 64, 33, 42, 40, 41, 44, 36]
def stayP : S4 := unionS [stayA, stayB]
theorem cell_mark {w : World} {g T : Nat} {cs : List Value} {m : Nat × Nat} (h : w.heap[g]? = some (.cells cs.toArray T m)) (j : Nat) : w.cell? ⟨g, j, none⟩ = cs[j]? := by
  simp [World.cell?, h]
theorem alloc_two (w : World) (a b : Obj) : ((w.alloc a).alloc b).heap[w.heap.size + 1]? = some b := by
  have h := World.alloc_heap_new (w.alloc a) b
  rw [show (w.alloc a).heap.size = w.heap.size + 1 from by simp] at h
  exact h
set_option maxRecDepth 100000 in
set_option maxHeartbeats 8000000 in
theorem stay_any (w : World) :
    Calls Tryd.prog 89 #[] w fun e w' => e = .returned (.agg #[.int .u64 stayP.a0, .int .u64 stayP.a1, .int .u64 stayP.a2, .int .u64 stayP.a3]) ∧ Below w.heap.size w w' := by
  have hra : ∀ (W : World) (N : Nat), W.heap[N]? = some (.cells #[.int .u8 97, .int .u8 122, .int .u8 65, .int .u8 90, .int .u8 48, .int .u8 57] 140 (0, 0)) → Calls Tryd.prog 102 #[.slice (some ⟨N, 0, none⟩) 3 3] W fun e w' => e = .returned (.tuple #[.agg #[.int .u64 stayA.a0, .int .u64 stayA.a1, .int .u64 stayA.a2, .int .u64 stayA.a3], .int .i64 0]) ∧ Below W.heap.size W w' := fun W N h => by
    refine ranges_any (some ⟨N, 0, none⟩) 3 [(97, 122), (65, 90), (48, 57)] W ⟨rfl, fun _ => ⟨_, rfl, (Array.getElem?_eq_some_iff.1 h).1, fun q u hu => ?_⟩⟩ (by simp) (by simp)
    rw [add_flat, Nat.zero_add, cell_list (cs := [.int .u8 97, .int .u8 122, .int .u8 65, .int .u8 90, .int .u8 48, .int .u8 57]) h q]
    exact hu
  have hof : ∀ (W : World) (N : Nat), W.heap[N]? = some (.cells #[.int .u8 45, .int .u8 46, .int .u8 95, .int .u8 126, .int .u8 47, .int .u8 58, .int .u8 64, .int .u8 33, .int .u8 42, .int .u8 40, .int .u8 41, .int .u8 44, .int .u8 36] 5 (13, 14)) → Calls Tryd.prog 103 #[.slice (some ⟨N, 0, none⟩) 13 13] W fun e w' => e = .returned (.agg #[.int .u64 stayB.a0, .int .u64 stayB.a1, .int .u64 stayB.a2, .int .u64 stayB.a3]) ∧ Below W.heap.size W w' := fun W N h => by
    refine of_any (some ⟨N, 0, none⟩) 13 [45, 46, 95, 126, 47, 58, 64, 33, 42, 40, 41, 44, 36] W ⟨rfl, fun _ => ⟨_, rfl, (Array.getElem?_eq_some_iff.1 h).1, fun q u hu => ?_⟩⟩ (by simp) (by simp)
    rw [add_flat, Nat.zero_add, cell_mark (cs := [.int .u8 45, .int .u8 46, .int .u8 95, .int .u8 126, .int .u8 47, .int .u8 58, .int .u8 64, .int .u8 33, .int .u8 42, .int .u8 40, .int .u8 41, .int .u8 44, .int .u8 36]) h q]
    exact hu
  have hV : unionS [stayA, stayB] = stayP := rfl
  obtain ⟨s, hs⟩ : ∃ s, stayA = s := ⟨_, rfl⟩
  obtain ⟨t, ht⟩ : ∃ t, stayB = t := ⟨_, rfl⟩
  obtain ⟨U, hU⟩ : ∃ U, stayP = U := ⟨_, rfl⟩
  rw [hs] at hra hV
  rw [ht] at hof hV
  rw [hU] at hV ⊢
  clear hs ht hU
  have hun : ∀ (W : World) (N : Nat), W.heap[N]? = some (.cells #[.int .u64 s.a0, .int .u64 s.a1, .int .u64 s.a2, .int .u64 s.a3, .int .u64 t.a0, .int .u64 t.a1, .int .u64 t.a2, .int .u64 t.a3] 69 (0, 0)) → Calls Tryd.prog 67 #[.slice (some ⟨N, 0, none⟩) 2 2] W fun e w' => e = .returned (.agg #[.int .u64 U.a0, .int .u64 U.a1, .int .u64 U.a2, .int .u64 U.a3]) ∧ Below W.heap.size W w' := fun W N h => by
    rw [← hV]
    refine union_any (some ⟨N, 0, none⟩) 2 [s, t] W ⟨rfl, fun _ => ⟨_, rfl, (Array.getElem?_eq_some_iff.1 h).1, fun q u hu => ?_⟩⟩ (by simp)
    rw [add_flat, Nat.zero_add, cell_list (cs := [.int .u64 s.a0, .int .u64 s.a1, .int .u64 s.a2, .int .u64 s.a3, .int .u64 t.a0, .int .u64 t.a1, .int .u64 t.a2, .int .u64 t.a3]) h q]
    exact hu
  have hun2 := Lib.hid hun
  have hof2 := Lib.hid hof
  clear hun hof hV
  go_enter Tryd.func89, Tryd.ntmps89
  have hrow : (w.alloc (.cells #[.int .u64 0, .int .u64 0, .int .u64 0, .int .u64 0] 121)).heap[w.heap.size]? = _ := World.alloc_heap_new w (.cells #[.int .u64 0, .int .u64 0, .int .u64 0, .int .u64 0] 121)
  have hb0 := ((Below.refl _ w).alloc (Nat.le_refl _) (.cells #[.int .u64 0, .int .u64 0, .int .u64 0, .int .u64 0] 121)).alloc (by simp) (.cells #[.int .u8 97, .int .u8 122, .int .u8 65, .int .u8 90, .int .u8 48, .int .u8 57] 140)
  have hrow1 := (Below.heap_alloc (w.alloc (.cells #[.int .u64 0, .int .u64 0, .int .u64 0, .int .u64 0] 121)) (.cells #[.int .u8 97, .int .u8 122, .int .u8 65, .int .u8 90, .int .u8 48, .int .u8 57] 140) _ (lt_of_cells hrow)).trans hrow
  have HB0 := Lib.hid hb0
  have HR1 := Lib.hid hrow1
  clear hb0 hrow1 hrow
  go_wp2_with (go_at_call 102; refine (hra _ _ ?_).mono ?_; exact alloc_two w _ _; rintro e w1 ⟨rfl, h1⟩)
  have hrowA := (h1.block _ (lt_of_cells HR1.out)).trans HR1.out
  have hbA := HB0.out.trans (h1.mono HB0.out.size)
  have hltA := lt_of_cells hrowA
  have hrow3 := (Below.heap_alloc w1 (.cells #[.int .u64 s.a0, .int .u64 s.a1, .int .u64 s.a2, .int .u64 s.a3] 69) _ hltA).trans hrowA
  have hb3 := hbA.alloc hbA.size (.cells #[.int .u64 s.a0, .int .u64 s.a1, .int .u64 s.a2, .int .u64 s.a3] 69)
  have hset3 := World.alloc_heap_new w1 (.cells #[.int .u64 s.a0, .int .u64 s.a1, .int .u64 s.a2, .int .u64 s.a3] 69)
  obtain ⟨W0, hW0⟩ : ∃ W, W = w1.alloc (.cells #[.int .u64 s.a0, .int .u64 s.a1, .int .u64 s.a2, .int .u64 s.a3] 69) := ⟨_, rfl⟩
  obtain ⟨n1, hn1⟩ : ∃ n, n = w1.heap.size := ⟨_, rfl⟩
  rw [← hW0, ← hn1] at hset3
  rw [← hW0] at hrow3 hb3 ⊢
  rw [← hn1] at hltA ⊢
  have hn1' := lt_of_cells hset3
  have d0 := cell_list (cs := [.int .u64 s.a0, .int .u64 s.a1, .int .u64 s.a2, .int .u64 s.a3]) hset3 0
  have d1 := cell_list (cs := [.int .u64 s.a0, .int .u64 s.a1, .int .u64 s.a2, .int .u64 s.a3]) hset3 1
  have d2 := cell_list (cs := [.int .u64 s.a0, .int .u64 s.a1, .int .u64 s.a2, .int .u64 s.a3]) hset3 2
  have d3 := cell_list (cs := [.int .u64 s.a0, .int .u64 s.a1, .int .u64 s.a2, .int .u64 s.a3]) hset3 3
  simp only [List.getElem?_cons_zero, List.getElem?_cons_succ] at d0 d1 d2 d3
  clear hW0 hn1 hrowA hbA h1 HB0 HR1
  have HR3 := Lib.hid hrow3
  have HB3 := Lib.hid hb3
  have HS3 := Lib.hid hset3
  clear hrow3 hb3 hset3
  have kd : ∀ (w : World) (C : Array Value) (n c : Nat), (convert 97 97 (.slice (some ⟨w.heap.size, 0, none⟩) n c)).run Tryd.prog ((w.alloc (.cells C 5)).drew) = .ok (.slice (some ⟨w.heap.size, 0, none⟩) n c) ((w.alloc (.cells C 5 (C.size, C.size + 1))).drew) := fun w C n c => Lib.run_convert_bytes_const (P := Tryd.prog) w.drew 97 5 C n c (by kernel_rfl) (by kernel_rfl)
  go_region_with (first
    | (go_at_call 103; refine (hof2.out _ _ ?_).mono ?_; exact World.alloc_heap_new W0 _; rintro e w4 ⟨rfl, h4⟩; have q4 := (h4.block _ (by simp; omega)).trans ((Below.heap_alloc W0 (.cells #[.int .u8 45, .int .u8 46, .int .u8 95, .int .u8 126, .int .u8 47, .int .u8 58, .int .u8 64, .int .u8 33, .int .u8 42, .int .u8 40, .int .u8 41, .int .u8 44, .int .u8 36] 5 (13, 14)) _ hn1').trans HS3.out); have r4 := (h4.block _ (by simp; omega)).trans ((Below.heap_alloc W0 (.cells #[.int .u8 45, .int .u8 46, .int .u8 95, .int .u8 126, .int .u8 47, .int .u8 58, .int .u8 64, .int .u8 33, .int .u8 42, .int .u8 40, .int .u8 41, .int .u8 44, .int .u8 36] 5 (13, 14)) _ (lt_of_cells HR3.out)).trans HR3.out); have lm4 := lt_of_cells q4; have d0 := cell_list (cs := [.int .u64 s.a0, .int .u64 s.a1, .int .u64 s.a2, .int .u64 s.a3]) q4 0; have d1 := cell_list (cs := [.int .u64 s.a0, .int .u64 s.a1, .int .u64 s.a2, .int .u64 s.a3]) q4 1; have d2 := cell_list (cs := [.int .u64 s.a0, .int .u64 s.a1, .int .u64 s.a2, .int .u64 s.a3]) q4 2; have d3 := cell_list (cs := [.int .u64 s.a0, .int .u64 s.a1, .int .u64 s.a2, .int .u64 s.a3]) q4 3; simp only [List.getElem?_cons_zero, List.getElem?_cons_succ] at d0 d1 d2 d3)
    | (go_at_call 67; refine (hun2.out _ _ ?_).mono ?_; exact World.alloc_heap_new w4 _; rintro e w5 ⟨rfl, h5⟩; have q5 := (h5.block _ (by simp; omega)).trans ((Below.heap_alloc w4 (.cells #[.int .u64 s.a0, .int .u64 s.a1, .int .u64 s.a2, .int .u64 s.a3, .int .u64 t.a0, .int .u64 t.a1, .int .u64 t.a2, .int .u64 t.a3] 69) _ (lt_of_cells r4)).trans r4); have e0 := cell_list (cs := [.int .u64 0, .int .u64 0, .int .u64 0, .int .u64 0]) q5 0; have e1 := cell_list (cs := [.int .u64 0, .int .u64 0, .int .u64 0, .int .u64 0]) q5 1; have e2 := cell_list (cs := [.int .u64 0, .int .u64 0, .int .u64 0, .int .u64 0]) q5 2; have e3 := cell_list (cs := [.int .u64 0, .int .u64 0, .int .u64 0, .int .u64 0]) q5 3; have ef := frozen_list q5; simp only [List.getElem?_cons_zero, List.getElem?_cons_succ] at e0 e1 e2 e3))
  all_goals
    have A1 := ((Below.refl W0.heap.size W0).alloc (Nat.le_refl _) (.cells #[.int .u8 45, .int .u8 46, .int .u8 95, .int .u8 126, .int .u8 47, .int .u8 58, .int .u8 64, .int .u8 33, .int .u8 42, .int .u8 40, .int .u8 41, .int .u8 44, .int .u8 36] 5 (13, 14))).drew
    have A2 := A1.trans (h4.mono A1.size)
    have A3 := A2.alloc A2.size (.cells #[.int .u64 s.a0, .int .u64 s.a1, .int .u64 s.a2, .int .u64 s.a3, .int .u64 t.a0, .int .u64 t.a1, .int .u64 t.a2, .int .u64 t.a3] 69)
    have A4 := A3.trans (h5.mono A3.size)
    have hb5 := HB3.out.trans (A4.mono HB3.out.size)
    have hb6 := (((hb5.setCell (p := ⟨w.heap.size, 0, none⟩) (Nat.le_refl _) (.int .u64 U.a0)).setCell (p := ⟨w.heap.size, 1, none⟩) (Nat.le_refl _) (.int .u64 U.a1)).setCell (p := ⟨w.heap.size, 2, none⟩) (Nat.le_refl _) (.int .u64 U.a2)).setCell (p := ⟨w.heap.size, 3, none⟩) (Nat.le_refl _) (.int .u64 U.a3)
    have hr6 := set_list (set_list (set_list (set_list (cs := [.int .u64 0, .int .u64 0, .int .u64 0, .int .u64 0]) q5 0 (.int .u64 U.a0)) 1 (.int .u64 U.a1)) 2 (.int .u64 U.a2)) 3 (.int .u64 U.a3)
    obtain ⟨W9, hW9⟩ : ∃ W, W = (((w5.setCell ⟨w.heap.size, 0, none⟩ (.int .u64 U.a0)).setCell ⟨w.heap.size, 1, none⟩ (.int .u64 U.a1)).setCell ⟨w.heap.size, 2, none⟩ (.int .u64 U.a2)).setCell ⟨w.heap.size, 3, none⟩ (.int .u64 U.a3) := ⟨_, rfl⟩
    rw [← hW9] at hb6 hr6 ⊢
    have z0 := cell_list hr6 0
    have z1 := cell_list hr6 1
    have z2 := cell_list hr6 2
    have z3 := cell_list hr6 3
    simp only [List.set_cons_zero, List.set_cons_succ, List.getElem?_cons_zero, List.getElem?_cons_succ] at z0 z1 z2 z3
    clear hW9 A1 A2 A3 A4 hb5 hr6 h4 h5 d0 d1 d2 d3 e0 e1 e2 e3 ef q4 r4 q5 kd
    go_wp2_with fail
    exact bodyPost_ret (v := .agg #[.int .u64 U.a0, .int .u64 U.a1, .int .u64 U.a2, .int .u64 U.a3]) (by simp [results, Tryd.results89, go_sem, z0, z1, z2, z3]) rfl ⟨rfl, hb6⟩
set_option maxRecDepth 100000 in
set_option maxHeartbeats 8000000 in
theorem Stay_any (w : World) :
    Calls Tryd.prog 68 #[] w fun e w' => e = .returned (.agg #[.int .u64 stayP.a0, .int .u64 stayP.a1, .int .u64 stayP.a2, .int .u64 stayP.a3]) ∧ Below w.heap.size w w' := by
  have hst := fun W => stay_any W
  obtain ⟨U, hU⟩ : ∃ U, stayP = U := ⟨_, rfl⟩
  rw [hU] at hst ⊢
  clear hU
  have hrow := World.alloc_heap_new w (.cells #[.int .u64 0, .int .u64 0, .int .u64 0, .int .u64 0] 69)
  have hb0 := (Below.refl _ w).alloc (Nat.le_refl _) (.cells #[.int .u64 0, .int .u64 0, .int .u64 0, .int .u64 0] 69)
  have HR := Lib.hid hrow
  have HB := Lib.hid hb0
  clear hrow hb0
  have kf1 : ∀ (W : World), (Instr.field 121 (.agg #[.int .u64 U.a0, .int .u64 U.a1, .int .u64 U.a2, .int .u64 U.a3]) 0).run Tryd.prog W = .ok (.agg #[.int .u64 U.a0, .int .u64 U.a1, .int .u64 U.a2, .int .u64 U.a3]) W := fun W => by kernel_rfl
  have kf2 : ∀ (W : World), (Instr.field 119 (.agg #[.int .u64 U.a0, .int .u64 U.a1, .int .u64 U.a2, .int .u64 U.a3]) 0).run Tryd.prog W = .ok (.agg #[.int .u64 U.a0, .int .u64 U.a1, .int .u64 U.a2, .int .u64 U.a3]) W := fun W => by kernel_rfl
  go_enter Tryd.func68, Tryd.ntmps68
  go_wp2_with fail
  refine (hst _).mono ?_
  rintro e w1 ⟨rfl, h1⟩
  have hrow1 := (h1.block _ (lt_of_cells HR.out)).trans HR.out
  have hb1 := HB.out.trans (h1.mono HB.out.size)
  have e0 := cell_list (cs := [.int .u64 0, .int .u64 0, .int .u64 0, .int .u64 0]) hrow1 0
  have e1 := cell_list (cs := [.int .u64 0, .int .u64 0, .int .u64 0, .int .u64 0]) hrow1 1
  have e2 := cell_list (cs := [.int .u64 0, .int .u64 0, .int .u64 0, .int .u64 0]) hrow1 2
  have e3 := cell_list (cs := [.int .u64 0, .int .u64 0, .int .u64 0, .int .u64 0]) hrow1 3
  have ef := frozen_list (cs := [.int .u64 0, .int .u64 0, .int .u64 0, .int .u64 0]) hrow1
  simp only [List.getElem?_cons_zero, List.getElem?_cons_succ] at e0 e1 e2 e3
  have hb6 := (((hb1.setCell (p := ⟨w.heap.size, 0, none⟩) (Nat.le_refl _) (.int .u64 U.a0)).setCell (p := ⟨w.heap.size, 1, none⟩) (Nat.le_refl _) (.int .u64 U.a1)).setCell (p := ⟨w.heap.size, 2, none⟩) (Nat.le_refl _) (.int .u64 U.a2)).setCell (p := ⟨w.heap.size, 3, none⟩) (Nat.le_refl _) (.int .u64 U.a3)
  have hr6 := set_list (set_list (set_list (set_list (cs := [.int .u64 0, .int .u64 0, .int .u64 0, .int .u64 0]) hrow1 0 (.int .u64 U.a0)) 1 (.int .u64 U.a1)) 2 (.int .u64 U.a2)) 3 (.int .u64 U.a3)
  have HB6 := Lib.hid hb6
  have HR6 := Lib.hid hr6
  clear hb6 hr6 hrow1 hb1 h1 hst
  go_wp2_with fail
  obtain ⟨W9, hW9⟩ : ∃ W, W = (((w1.setCell ⟨w.heap.size, 0, none⟩ (.int .u64 U.a0)).setCell ⟨w.heap.size, 1, none⟩ (.int .u64 U.a1)).setCell ⟨w.heap.size, 2, none⟩ (.int .u64 U.a2)).setCell ⟨w.heap.size, 3, none⟩ (.int .u64 U.a3) := ⟨_, rfl⟩
  have hb6 := HB6.out
  have hr6 := HR6.out
  rw [← hW9] at hb6 hr6 ⊢
  have z0 := cell_list hr6 0
  have z1 := cell_list hr6 1
  have z2 := cell_list hr6 2
  have z3 := cell_list hr6 3
  simp only [List.set_cons_zero, List.set_cons_succ, List.getElem?_cons_zero, List.getElem?_cons_succ] at z0 z1 z2 z3
  exact bodyPost_ret (v := .agg #[.int .u64 U.a0, .int .u64 U.a1, .int .u64 U.a2, .int .u64 U.a3]) (by simp [results, Tryd.results68, go_sem, z0, z1, z2, z3]) rfl ⟨rfl, hb6⟩
end Go.Proofs.YtllklgalghmnfaaDoor
