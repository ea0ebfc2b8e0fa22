/- The reference's sets of bytes: Has, with, Of. -/
import Derived.Test.YtllklgalghmnfaaDoorTplSets
import Derived.Deep.Cut
import Derived.Deep.RegionWith
namespace Go.Proofs.YtllklgalghmnfaaDoor
open Go.RowKit Str Mem Tp
set_option linter.unusedVariables false
set_option linter.unusedSimpArgs false
set_option maxRecDepth 100000 in
theorem refHas_any (s : S4) (b : Nat) (hb : b < 256) (w : World) : Calls Tryd.prog 46 #[.agg #[.int .u64 s.a0, .int .u64 s.a1, .int .u64 s.a2, .int .u64 s.a3], .int .u8 b] w fun e w' => e = .returned (.bool (hasS s b)) ∧ Below w.heap.size w w' := by
  have hq := s.get (b / 64) (by omega)
  unfold S4.v at hq
  obtain ⟨d, hd⟩ : ∃ d, s.at (b / 64) = d := ⟨_, rfl⟩
  have hv : hasS s b = (bits .and .u64 (d / 2 ^ (b % 64)) 1 == 1) := by unfold hasS; rw [hd]
  rw [hd] at hq
  rw [hv]
  clear hv hd
  go_enter Tryd.func46, Tryd.ntmps46
  go_wp2_with fail
  go_ret
  exact ⟨rfl, (Below.refl _ w).alloc (Nat.le_refl _) _⟩
def aggS (s : S4) : Value := .agg #[.int .u64 s.a0, .int .u64 s.a1, .int .u64 s.a2, .int .u64 s.a3]
set_option maxRecDepth 100000 in
set_option maxHeartbeats 4000000 in
theorem with_any (s : S4) (b : Nat) (hb : b < 256) (w : World) : Calls Tryd.prog 92 #[.agg #[.int .u64 s.a0, .int .u64 s.a1, .int .u64 s.a2, .int .u64 s.a3], .int .u8 b] w fun e w' => e = .returned (.agg #[.int .u64 (addB s b).a0, .int .u64 (addB s b).a1, .int .u64 (addB s b).a2, .int .u64 (addB s b).a3]) ∧ Below w.heap.size w w' := by
  have hg := s.get (b / 64) (by omega)
  obtain ⟨d, hd⟩ : ∃ d, s.at (b / 64) = d := ⟨_, rfl⟩
  rw [hd] at hg
  have hpv : (addB s b).v = s.v.set (b / 64) (.int .u64 (bits .or .u64 d (IntKind.u64.wrap (2 ^ (b % 64))))) := by unfold addB; rw [S4.put_v s _ _ (by omega), hd]
  obtain ⟨V, hV⟩ : ∃ V, addB s b = V := ⟨_, rfl⟩
  rw [hV] at hpv ⊢
  clear hd hV
  have HG := Lib.hid hg
  have HPV := Lib.hid hpv
  clear hg hpv
  go_enter Tryd.func92, Tryd.ntmps92
  go_upto_region 1 with fail
  have hbox : ((w.alloc (.cells #[.int .u64 s.a0, .int .u64 s.a1, .int .u64 s.a2, .int .u64 s.a3] 69)).alloc (.cells #[.int .u64 0, .int .u64 0, .int .u64 0, .int .u64 0] 69)).heap[w.heap.size]? = some (.cells [.int .u64 s.a0, .int .u64 s.a1, .int .u64 s.a2, .int .u64 s.a3].toArray 69 (0, 0)) := (Below.heap_alloc _ _ _ (by simp)).trans (World.alloc_heap_new w _)
  have hres : ((w.alloc (.cells #[.int .u64 s.a0, .int .u64 s.a1, .int .u64 s.a2, .int .u64 s.a3] 69)).alloc (.cells #[.int .u64 0, .int .u64 0, .int .u64 0, .int .u64 0] 69)).heap[w.heap.size + 1]? = some (.cells [.int .u64 0, .int .u64 0, .int .u64 0, .int .u64 0].toArray 69 (0, 0)) := by
    have h := World.alloc_heap_new (w.alloc (.cells #[.int .u64 s.a0, .int .u64 s.a1, .int .u64 s.a2, .int .u64 s.a3] 69)) (.cells #[.int .u64 0, .int .u64 0, .int .u64 0, .int .u64 0] 69)
    rw [World.size_alloc] at h
    exact h
  have hbl := ((Below.refl _ w).alloc (Nat.le_refl _) (.cells #[.int .u64 s.a0, .int .u64 s.a1, .int .u64 s.a2, .int .u64 s.a3] 69)).alloc (by simp) (.cells #[.int .u64 0, .int .u64 0, .int .u64 0, .int .u64 0] 69)
  obtain ⟨W0, hW0⟩ : ∃ W, W = ((w.alloc (.cells #[.int .u64 s.a0, .int .u64 s.a1, .int .u64 s.a2, .int .u64 s.a3] 69)).alloc (.cells #[.int .u64 0, .int .u64 0, .int .u64 0, .int .u64 0] 69)) := ⟨_, rfl⟩
  rw [← hW0] at hbox hres hbl ⊢
  clear hW0
  have d0 := cell_list (cs := s.v) hbox (b / 64)
  rw [HG.out] at d0
  have df := frozen_list hbox
  have hset := set_list (cs := s.v) hbox (b / 64) (.int .u64 (bits .or .u64 d (IntKind.u64.wrap (2 ^ (b % 64)))))
  rw [← HPV.out] at hset
  have HSET := Lib.hid hset
  clear hset hbox
  go_upto_region 2 with fail
  obtain ⟨W1, hW1⟩ : ∃ W, W = W0.setCell ⟨w.heap.size, b / 64, none⟩ (.int .u64 (bits .or .u64 d (IntKind.u64.wrap (2 ^ (b % 64))))) := ⟨_, rfl⟩
  have hb1 := hbl.setCell (p := ⟨w.heap.size, b / 64, none⟩) (Nat.le_refl _) (.int .u64 (bits .or .u64 d (IntKind.u64.wrap (2 ^ (b % 64)))))
  have hr1 := (Below.heap_setCell W0 ⟨w.heap.size, b / 64, none⟩ (.int .u64 (bits .or .u64 d (IntKind.u64.wrap (2 ^ (b % 64))))) (w.heap.size + 1) (by show w.heap.size + 1 ≠ w.heap.size; omega)).trans hres
  have hs1 := HSET.out
  rw [← hW1] at hb1 hr1 hs1 ⊢
  clear hW1 HSET d0 df hbl hres
  have y0 := cell_list (cs := [.int .u64 V.a0, .int .u64 V.a1, .int .u64 V.a2, .int .u64 V.a3]) hs1 0
  have y1 := cell_list (cs := [.int .u64 V.a0, .int .u64 V.a1, .int .u64 V.a2, .int .u64 V.a3]) hs1 1
  have y2 := cell_list (cs := [.int .u64 V.a0, .int .u64 V.a1, .int .u64 V.a2, .int .u64 V.a3]) hs1 2
  have y3 := cell_list (cs := [.int .u64 V.a0, .int .u64 V.a1, .int .u64 V.a2, .int .u64 V.a3]) hs1 3
  have e0 := cell_list hr1 0
  have e1 := cell_list hr1 1
  have e2 := cell_list hr1 2
  have e3 := cell_list hr1 3
  have ef := frozen_list hr1
  simp only [List.getElem?_cons_zero, List.getElem?_cons_succ] at y0 y1 y2 y3 e0 e1 e2 e3
  have hr2 := set_list (set_list (set_list (set_list hr1 0 (.int .u64 V.a0)) 1 (.int .u64 V.a1)) 2 (.int .u64 V.a2)) 3 (.int .u64 V.a3)
  have hb2 := (((hb1.setCell (p := ⟨w.heap.size + 1, 0, none⟩) (by show w.heap.size ≤ w.heap.size + 1; omega) (.int .u64 V.a0)).setCell (p := ⟨w.heap.size + 1, 1, none⟩) (by show w.heap.size ≤ w.heap.size + 1; omega) (.int .u64 V.a1)).setCell (p := ⟨w.heap.size + 1, 2, none⟩) (by show w.heap.size ≤ w.heap.size + 1; omega) (.int .u64 V.a2)).setCell (p := ⟨w.heap.size + 1, 3, none⟩) (by show w.heap.size ≤ w.heap.size + 1; omega) (.int .u64 V.a3)
  have HR2 := Lib.hid hr2
  have HB2 := Lib.hid hb2
  clear hr2 hb2 hr1 hs1 hb1
  go_wp2_with fail
  obtain ⟨W9, hW9⟩ : ∃ W, W = (((W1.setCell ⟨w.heap.size + 1, 0, none⟩ (.int .u64 V.a0)).setCell ⟨w.heap.size + 1, 1, none⟩ (.int .u64 V.a1)).setCell ⟨w.heap.size + 1, 2, none⟩ (.int .u64 V.a2)).setCell ⟨w.heap.size + 1, 3, none⟩ (.int .u64 V.a3) := ⟨_, rfl⟩
  have hr3 : W9.heap[w.heap.size + 1]? = some (.cells [.int .u64 V.a0, .int .u64 V.a1, .int .u64 V.a2, .int .u64 V.a3].toArray 69 (0, 0)) := by rw [hW9]; exact HR2.out
  have hb3 := HB2.out
  rw [← hW9] at hb3 ⊢
  clear hW9
  have z0 := cell_list hr3 0
  have z1 := cell_list hr3 1
  have z2 := cell_list hr3 2
  have z3 := cell_list hr3 3
  simp only [List.getElem?_cons_zero, List.getElem?_cons_succ] at z0 z1 z2 z3
  exact bodyPost_ret (v := .agg #[.int .u64 V.a0, .int .u64 V.a1, .int .u64 V.a2, .int .u64 V.a3]) (by simp [results, Tryd.results92, go_sem, z0, z1, z2, z3]) rfl ⟨rfl, hb3⟩
set_option maxRecDepth 100000 in
set_option maxHeartbeats 8000000 in
theorem refOf_any (a : Option Addr) (c : Nat) (L : List Nat) (w : World) (hP : BytesAt w a L.length L) (hn : L.length ≤ 1000) (hL : ∀ b ∈ L, b < 256) :
    Calls Tryd.prog 72 #[.slice a L.length c] w fun e w' => e = .returned (.agg #[.int .u64 (ofS L).a0, .int .u64 (ofS L).a1, .int .u64 (ofS L).a2, .int .u64 (ofS L).a3]) ∧ Below w.heap.size w w' := by
  obtain ⟨V, hV⟩ : ∃ V, ofS L = V := ⟨_, rfl⟩
  rw [hV]
  have HV := Lib.hid hV
  clear hV
  have HP := Lib.hid hP
  have hm0 : NM w ((w.alloc (.cells #[.int .u64 0, .int .u64 0, .int .u64 0, .int .u64 0] 69)).alloc (.cells #[.int .u64 0, .int .u64 0, .int .u64 0, .int .u64 0] 69)) S4.z :=
    ⟨(Below.heap_alloc _ _ _ (by simp)).trans (World.alloc_heap_new w _), by have h := World.alloc_heap_new (w.alloc (.cells #[.int .u64 0, .int .u64 0, .int .u64 0, .int .u64 0] 69)) (.cells #[.int .u64 0, .int .u64 0, .int .u64 0, .int .u64 0] 69); rw [show (w.alloc (.cells #[.int .u64 0, .int .u64 0, .int .u64 0, .int .u64 0] 69)).heap.size = w.heap.size + 1 from by simp] at h; exact h, ((Below.refl _ w).alloc (Nat.le_refl _) _).alloc (by simp) _⟩
  have HM0 := Lib.hid hm0
  clear hP hm0
  go_enter Tryd.func72, Tryd.ntmps72
  go_wp2_with fail
  go_loopg [4] L.length (fun g i W => ∃ k : Nat, i = .int .i64 k ∧ k + g = L.length ∧ NM w W (ofS (L.take k)))
  case atStart => exact ⟨0, rfl, by omega, HM0.out⟩
  case round =>
    clear HM0
    obtain ⟨k, rfl, hk, hm⟩ := hrel
    have HM := Lib.hid hm
    clear hm
    by_cases hlt : k < L.length
    · obtain ⟨g', rfl⟩ : ∃ g', gk = g' + 1 := ⟨gk - 1, by omega⟩
      obtain ⟨b, hx⟩ : ∃ x, L[k]? = some x := ⟨_, List.getElem?_eq_getElem hlt⟩
      have hb := hL b (List.mem_of_getElem? hx)
      have HX := Lib.hid hx
      obtain ⟨s, hs⟩ : ∃ s, ofS (L.take k) = s := ⟨_, rfl⟩
      rw [hs] at HM
      have HS := Lib.hid hs
      obtain ⟨ad, had, hbk, hc⟩ := Rd.get (show Rd wr 1 a L.length _ from Rd.below HP.out HM.out.bl) (by omega)
      have q0 := hc k (bv b) (by rw [List.getElem?_map, hx]; rfl)
      unfold bv at q0
      subst had
      have i0 : (0 : Int) ≤ (k : Int) := by omega
      have i1 : (k : Int) < (L.length : Int) := by omega
      have hwith := with_any s b hb
      obtain ⟨t, ht⟩ : ∃ t, addB s b = t := ⟨_, rfl⟩
      rw [ht] at hwith
      have HT := Lib.hid ht
      have HW := Lib.hid hwith
      have d0 := cell_list (cs := [.int .u64 s.a0, .int .u64 s.a1, .int .u64 s.a2, .int .u64 s.a3]) HM.out.s 0
      have d1 := cell_list (cs := [.int .u64 s.a0, .int .u64 s.a1, .int .u64 s.a2, .int .u64 s.a3]) HM.out.s 1
      have d2 := cell_list (cs := [.int .u64 s.a0, .int .u64 s.a1, .int .u64 s.a2, .int .u64 s.a3]) HM.out.s 2
      have d3 := cell_list (cs := [.int .u64 s.a0, .int .u64 s.a1, .int .u64 s.a2, .int .u64 s.a3]) HM.out.s 3
      simp only [List.getElem?_cons_zero, List.getElem?_cons_succ] at d0 d1 d2 d3
      clear hx hc hs ht hwith
      go_wp2_with fail
      go_region_with (go_at_call 92; refine (HW.out _).mono ?_; rintro e w4 ⟨rfl, h4⟩; have q4 := (h4.block (w.heap.size + 1) (lt_of_cells HM.out.s)).trans HM.out.s; have r4 := (h4.block w.heap.size (lt_of_cells HM.out.r)).trans HM.out.r; have b4 := HM.out.bl.drew.trans (h4.mono HM.out.bl.size); have e0 := cell_list (cs := [.int .u64 s.a0, .int .u64 s.a1, .int .u64 s.a2, .int .u64 s.a3]) q4 0; have e1 := cell_list (cs := [.int .u64 s.a0, .int .u64 s.a1, .int .u64 s.a2, .int .u64 s.a3]) q4 1; have e2 := cell_list (cs := [.int .u64 s.a0, .int .u64 s.a1, .int .u64 s.a2, .int .u64 s.a3]) q4 2; have e3 := cell_list (cs := [.int .u64 s.a0, .int .u64 s.a1, .int .u64 s.a2, .int .u64 s.a3]) q4 3; have ef := frozen_list q4; simp only [List.getElem?_cons_zero, List.getElem?_cons_succ] at e0 e1 e2 e3)
      all_goals
        have hm2 : NM w ((((w4.setCell ⟨w.heap.size + 1, 0, none⟩ (.int .u64 t.a0)).setCell ⟨w.heap.size + 1, 1, none⟩ (.int .u64 t.a1)).setCell ⟨w.heap.size + 1, 2, none⟩ (.int .u64 t.a2)).setCell ⟨w.heap.size + 1, 3, none⟩ (.int .u64 t.a3)) t := by
          have n1 : w.heap.size ≠ w.heap.size + 1 := by omega
          refine ⟨?_, set_list (set_list (set_list (set_list (cs := [.int .u64 s.a0, .int .u64 s.a1, .int .u64 s.a2, .int .u64 s.a3]) q4 0 (.int .u64 t.a0)) 1 (.int .u64 t.a1)) 2 (.int .u64 t.a2)) 3 (.int .u64 t.a3), ?_⟩
          · exact (Below.heap_setCell _ _ _ _ n1).trans ((Below.heap_setCell _ _ _ _ n1).trans ((Below.heap_setCell _ _ _ _ n1).trans ((Below.heap_setCell _ _ _ _ n1).trans r4)))
          · exact (((b4.setCell (p := ⟨w.heap.size + 1, 0, none⟩) (by show w.heap.size ≤ w.heap.size + 1; omega) _).setCell (p := ⟨w.heap.size + 1, 1, none⟩) (by show w.heap.size ≤ w.heap.size + 1; omega) _).setCell (p := ⟨w.heap.size + 1, 2, none⟩) (by show w.heap.size ≤ w.heap.size + 1; omega) _).setCell (p := ⟨w.heap.size + 1, 3, none⟩) (by show w.heap.size ≤ w.heap.size + 1; omega) _
        have HM2 := Lib.hid hm2
        clear hm2 q4 r4 b4 e0 e1 e2 e3 ef d0 d1 d2 d3 h4
        go_wp2_with fail
        go_roundg g'
        case measure => omega
        case rel =>
          refine ⟨k + 1, by go_num, by omega, ?_⟩
          have : ofS (L.take (k + 1)) = t := by
            unfold ofS
            rw [List.take_add_one, HX.out]
            simp only [Option.toList_some, List.foldl_append, List.foldl_cons, List.foldl_nil]
            rw [show List.foldl addB S4.z (L.take k) = s from HS.out]
            exact HT.out
          rw [this]
          exact HM2.out
    · obtain rfl : k = L.length := by omega
      rw [List.take_length, HV.out] at HM
      have hr := HM.out.r
      have d0 := cell_list (cs := [.int .u64 V.a0, .int .u64 V.a1, .int .u64 V.a2, .int .u64 V.a3]) HM.out.s 0
      have d1 := cell_list (cs := [.int .u64 V.a0, .int .u64 V.a1, .int .u64 V.a2, .int .u64 V.a3]) HM.out.s 1
      have d2 := cell_list (cs := [.int .u64 V.a0, .int .u64 V.a1, .int .u64 V.a2, .int .u64 V.a3]) HM.out.s 2
      have d3 := cell_list (cs := [.int .u64 V.a0, .int .u64 V.a1, .int .u64 V.a2, .int .u64 V.a3]) HM.out.s 3
      have e0 := cell_list hr 0
      have e1 := cell_list hr 1
      have e2 := cell_list hr 2
      have e3 := cell_list hr 3
      have ef := frozen_list hr
      simp only [List.getElem?_cons_zero, List.getElem?_cons_succ] at d0 d1 d2 d3 e0 e1 e2 e3
      have hr2 := set_list (set_list (set_list (set_list hr 0 (.int .u64 V.a0)) 1 (.int .u64 V.a1)) 2 (.int .u64 V.a2)) 3 (.int .u64 V.a3)
      have hb2 := (((HM.out.bl.setCell (p := ⟨w.heap.size, 0, none⟩) (Nat.le_refl _) (.int .u64 V.a0)).setCell (p := ⟨w.heap.size, 1, none⟩) (Nat.le_refl _) (.int .u64 V.a1)).setCell (p := ⟨w.heap.size, 2, none⟩) (Nat.le_refl _) (.int .u64 V.a2)).setCell (p := ⟨w.heap.size, 3, none⟩) (Nat.le_refl _) (.int .u64 V.a3)
      have HR2 := Lib.hid hr2
      have HB2 := Lib.hid hb2
      clear hr2 hb2 hr
      go_wp2_with fail
      obtain ⟨W9, hW9⟩ : ∃ W, W = (((wr.setCell ⟨w.heap.size, 0, none⟩ (.int .u64 V.a0)).setCell ⟨w.heap.size, 1, none⟩ (.int .u64 V.a1)).setCell ⟨w.heap.size, 2, none⟩ (.int .u64 V.a2)).setCell ⟨w.heap.size, 3, none⟩ (.int .u64 V.a3) := ⟨_, rfl⟩
      have hr3 : W9.heap[w.heap.size]? = some (.cells [.int .u64 V.a0, .int .u64 V.a1, .int .u64 V.a2, .int .u64 V.a3].toArray 69 (0, 0)) := by rw [hW9]; exact HR2.out
      have hb3 := HB2.out
      rw [← hW9] at hb3 ⊢
      clear hW9
      have z0 := cell_list hr3 0
      have z1 := cell_list hr3 1
      have z2 := cell_list hr3 2
      have z3 := cell_list hr3 3
      simp only [List.getElem?_cons_zero, List.getElem?_cons_succ] at z0 z1 z2 z3
      exact bodyPost_ret (v := .agg #[.int .u64 V.a0, .int .u64 V.a1, .int .u64 V.a2, .int .u64 V.a3]) (by simp [results, Tryd.results72, go_sem, z0, z1, z2, z3]) rfl ⟨rfl, hb3⟩
end Go.Proofs.YtllklgalghmnfaaDoor
