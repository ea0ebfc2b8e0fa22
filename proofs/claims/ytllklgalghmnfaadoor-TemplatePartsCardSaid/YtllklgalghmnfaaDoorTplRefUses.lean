/- The reference's Uses. -/
import Derived.Test.YtllklgalghmnfaaDoorTplUses
namespace Go.Proofs.YtllklgalghmnfaaDoor
open Go.RowKit Str Mem Tp
set_option linter.unusedVariables false
set_option linter.unusedSimpArgs false

/-- The memory while the reference counts. -/
structure UM2 (w W : World) (n9 gA gB : Nat) (L : List Part) (k : Nat) : Prop where
  v : W.heap[n9]? = some (.cells (rowP 4 (L.take k) 4 1).toArray 44 (0, 0))
  g : W.heap[gA]? = some (.cells (rowP 2 (L.take k) 10 0).toArray 3 (0, 0))
  c : W.heap[gB]? = some (.cells (rowP 3 (L.take k) 10 0).toArray 3 (0, 0))
  z : W.heap[w.heap.size]? = some (.cells [.int .i64 0, .int .i64 0, .int .i64 0, .int .i64 0].toArray 44 (0, 0))
  bl : Below w.heap.size w W
set_option maxRecDepth 100000 in
set_option maxHeartbeats 8000000 in
theorem refUses_any (a : Option Addr) (c : Nat) (L : List Part) (w : World) (hP : Parts w a L.length L) (hn : L.length ≤ 100000) (ht : ∀ p ∈ L, p.t.length ≤ 100000) :
    Calls Tryd.prog 27 #[.slice a L.length c] w fun e w' => UsesPost L w e w' := by
  obtain ⟨P, hPe⟩ : ∃ P : Ending → World → Prop, P = fun e w' => UsesPost L w e w' := ⟨_, rfl⟩
  have HPe := Lib.hid hPe
  rw [← hPe]
  have hq := fun W h1 => refCheck_any a c L W h1 hn ht
  have hb0 := (Below.refl _ w).alloc (Nat.le_refl _) (.cells #[.int .i64 0, .int .i64 0, .int .i64 0, .int .i64 0] 44)
  have r0 := World.alloc_heap_new w (.cells #[.int .i64 0, .int .i64 0, .int .i64 0, .int .i64 0] 44)
  have hP0 : Parts _ a L.length L := Rd.below hP hb0
  obtain ⟨E, hE⟩ : ∃ E, checkR L = E := ⟨_, rfl⟩
  rw [hE] at hq
  have HE := Lib.hid hE
  have HT := Lib.hid ht
  have HP := Lib.hid hP
  have hmk : ∀ w, (Instr.makeSlice 43 (.int .i64 10) (.int .i64 10)).run Tryd.prog w = .ok (.slice (some ⟨w.heap.size, 0, none⟩) 10 10) (w.alloc (.cells #[.int .i64 0, .int .i64 0, .int .i64 0, .int .i64 0, .int .i64 0, .int .i64 0, .int .i64 0, .int .i64 0, .int .i64 0, .int .i64 0] 3)) := fun w => by kernel_rfl
  clear hPe hE ht hP
  go_enter Tryd.func27, Tryd.ntmps27
  go_wp2_with fail
  refine (hq _ hP0).mono ?_
  rintro e w1 ⟨rfl, h1⟩
  have b1 := hb0.trans (h1.mono hb0.size)
  have r1 := (h1.block _ (lt_of_cells r0)).trans r0
  have c0 := cell_list r1 0
  have c1 := cell_list r1 1
  have c2 := cell_list r1 2
  have c3 := cell_list r1 3
  have cf := frozen_list r1
  simp only [List.getElem?_cons_zero, List.getElem?_cons_succ] at c0 c1 c2 c3
  clear hq hb0 r0 hP0 h1
  by_cases hz : ¬ E = 0
  · have hzb : (E != 0) = true := by simpa using hz
    clear hz
    go_wp2_with fail
    have hr2 := set_list (set_list (set_list (set_list r1 0 (.int .i64 0)) 1 (.int .i64 0)) 2 (.int .i64 0)) 3 (.int .i64 0)
    have hb2 := (((b1.setCell (p := ⟨w.heap.size, 0, none⟩) (Nat.le_refl _) (.int .i64 0)).setCell (p := ⟨w.heap.size, 1, none⟩) (Nat.le_refl _) (.int .i64 0)).setCell (p := ⟨w.heap.size, 2, none⟩) (Nat.le_refl _) (.int .i64 0)).setCell (p := ⟨w.heap.size, 3, none⟩) (Nat.le_refl _) (.int .i64 0)
    obtain ⟨W9, hW9⟩ : ∃ W, W = (((w1.setCell ⟨w.heap.size, 0, none⟩ (.int .i64 0)).setCell ⟨w.heap.size, 1, none⟩ (.int .i64 0)).setCell ⟨w.heap.size, 2, none⟩ (.int .i64 0)).setCell ⟨w.heap.size, 3, none⟩ (.int .i64 0) := ⟨_, rfl⟩
    have hr3 : W9.heap[w.heap.size]? = some (.cells [.int .i64 0, .int .i64 0, .int .i64 0, .int .i64 0].toArray 44 (0, 0)) := by rw [hW9]; exact hr2
    rw [← hW9] at hb2 ⊢
    clear hW9 hr2
    have z0 := cell_list hr3 0
    have z1 := cell_list hr3 1
    have z2 := cell_list hr3 2
    have z3 := cell_list hr3 3
    refine bodyPost_ret (v := .tuple #[.slice none 0 0, .slice none 0 0, .agg #[.int .i64 0, .int .i64 0, .int .i64 0, .int .i64 0], .int .i64 E]) (by simp [results, Tryd.results27, go_sem, z0, z1, z2, z3]) rfl ?_
    rw [HPe.out]
    have hu : ∀ K, usesG K L = [] := fun K => by unfold usesG; rw [HE.out, if_pos (by simpa using hzb)]
    have hv : usesV L = [.int .i64 0, .int .i64 0, .int .i64 0, .int .i64 0] := by unfold usesV; rw [HE.out, if_pos (by simpa using hzb), rowP_zero]; rfl
    unfold UsesPost
    rw [hu, hu, hv, HE.out]
    exact ⟨none, 0, none, 0, rfl, Rd.nil _ _ _, Rd.nil _ _ _, hb2⟩
  have hz0 : E = 0 := by omega
  subst hz0
  clear hz
  go_wp2_with fail
  go_region
  · have hz1 : (w1.alloc (.cells #[.int .i64 0, .int .i64 0, .int .i64 0, .int .i64 0, .int .i64 0, .int .i64 0, .int .i64 0, .int .i64 0, .int .i64 0, .int .i64 0] 3)).heap.size = w1.heap.size + 1 := by simp
    have l1 := lt_of_cells r1
    have rA := World.alloc_heap_new w1 (.cells #[.int .i64 0, .int .i64 0, .int .i64 0, .int .i64 0, .int .i64 0, .int .i64 0, .int .i64 0, .int .i64 0, .int .i64 0, .int .i64 0] 3)
    have bA := b1.alloc b1.size (.cells #[.int .i64 0, .int .i64 0, .int .i64 0, .int .i64 0, .int .i64 0, .int .i64 0, .int .i64 0, .int .i64 0, .int .i64 0, .int .i64 0] 3)
    have r2 := (Below.heap_alloc w1 (.cells #[.int .i64 0, .int .i64 0, .int .i64 0, .int .i64 0, .int .i64 0, .int .i64 0, .int .i64 0, .int .i64 0, .int .i64 0, .int .i64 0] 3) _ l1).trans r1
    obtain ⟨V1, hV1⟩ : ∃ V, V = w1.alloc (.cells #[.int .i64 0, .int .i64 0, .int .i64 0, .int .i64 0, .int .i64 0, .int .i64 0, .int .i64 0, .int .i64 0, .int .i64 0, .int .i64 0] 3) := ⟨_, rfl⟩
    rw [← hV1] at hz1 rA bA r2
    have rB := World.alloc_heap_new V1 (.cells #[.int .i64 0, .int .i64 0, .int .i64 0, .int .i64 0, .int .i64 0, .int .i64 0, .int .i64 0, .int .i64 0, .int .i64 0, .int .i64 0] 3)
    have bB := (bA.alloc bA.size (.cells #[.int .i64 0, .int .i64 0, .int .i64 0, .int .i64 0, .int .i64 0, .int .i64 0, .int .i64 0, .int .i64 0, .int .i64 0, .int .i64 0] 3)).drew
    have rA2 := (Below.heap_alloc V1 (.cells #[.int .i64 0, .int .i64 0, .int .i64 0, .int .i64 0, .int .i64 0, .int .i64 0, .int .i64 0, .int .i64 0, .int .i64 0, .int .i64 0] 3) _ (lt_of_cells rA)).trans rA
    have r3 := (Below.heap_alloc V1 (.cells #[.int .i64 0, .int .i64 0, .int .i64 0, .int .i64 0, .int .i64 0, .int .i64 0, .int .i64 0, .int .i64 0, .int .i64 0, .int .i64 0] 3) _ (lt_of_cells r2)).trans r2
    rw [hz1] at rB
    have hz2 : (V1.alloc (.cells #[.int .i64 0, .int .i64 0, .int .i64 0, .int .i64 0, .int .i64 0, .int .i64 0, .int .i64 0, .int .i64 0, .int .i64 0, .int .i64 0] 3)).drew.heap.size = w1.heap.size + 2 := by show (V1.alloc _).heap.size = _; simp; omega
    obtain ⟨V2, hV2⟩ : ∃ V, V = (V1.alloc (.cells #[.int .i64 0, .int .i64 0, .int .i64 0, .int .i64 0, .int .i64 0, .int .i64 0, .int .i64 0, .int .i64 0, .int .i64 0, .int .i64 0] 3)).drew := ⟨_, rfl⟩
    have rA' : V2.heap[w1.heap.size]? = some (.cells #[.int .i64 0, .int .i64 0, .int .i64 0, .int .i64 0, .int .i64 0, .int .i64 0, .int .i64 0, .int .i64 0, .int .i64 0, .int .i64 0].toList.toArray 3 (0, 0)) := by rw [hV2]; exact rA2
    have rB' : V2.heap[w1.heap.size + 1]? = some (.cells #[.int .i64 0, .int .i64 0, .int .i64 0, .int .i64 0, .int .i64 0, .int .i64 0, .int .i64 0, .int .i64 0, .int .i64 0, .int .i64 0].toList.toArray 3 (0, 0)) := by rw [hV2]; exact rB
    have r3' : V2.heap[w.heap.size]? = some (.cells [.int .i64 0, .int .i64 0, .int .i64 0, .int .i64 0].toArray 44 (0, 0)) := by rw [hV2]; exact r3
    rw [← hV2] at hz2 bB
    have rN := World.alloc_heap_new V2 (.cells #[.int .i64 0, .int .i64 0, .int .i64 0, .int .i64 0] 44)
    have bN := bB.alloc bB.size (.cells #[.int .i64 0, .int .i64 0, .int .i64 0, .int .i64 0] 44)
    have rA3 := (Below.heap_alloc V2 (.cells #[.int .i64 0, .int .i64 0, .int .i64 0, .int .i64 0] 44) _ (lt_of_cells rA')).trans rA'
    have rB2 := (Below.heap_alloc V2 (.cells #[.int .i64 0, .int .i64 0, .int .i64 0, .int .i64 0] 44) _ (lt_of_cells rB')).trans rB'
    have r4 := (Below.heap_alloc V2 (.cells #[.int .i64 0, .int .i64 0, .int .i64 0, .int .i64 0] 44) _ (lt_of_cells r3')).trans r3'
    rw [hz2] at rN
    have hU0 : UM2 w (V2.alloc (.cells #[.int .i64 0, .int .i64 0, .int .i64 0, .int .i64 0] 44)) (w1.heap.size + 2) w1.heap.size (w1.heap.size + 1) L 0 := ⟨rN, rA3, rB2, r4, bN⟩
    rw [hV1] at hV2
    rw [← hV2]
    have HU0 := Lib.hid hU0
    have HV2 := Lib.hid hV2
    have HZ2 := Lib.hid hz2
    clear hV1 rA bA r2 rB bB rA2 r3 rA' rB' r3' rN bN rA3 rB2 r4 hU0 hmk hV2 hz2 hz1 V1
    obtain ⟨z1, z2⟩ := checkR_zeroU HE.out
    go_wp2_with fail
    rw [HZ2.out]
    obtain ⟨V3, hV3⟩ : ∃ V, V = V2.alloc (.cells #[.int .i64 0, .int .i64 0, .int .i64 0, .int .i64 0] 44) := ⟨_, rfl⟩
    obtain ⟨gA, hgA⟩ : ∃ g, g = w1.heap.size := ⟨_, rfl⟩
    obtain ⟨gB, hgB⟩ : ∃ g, g = (w1.heap.size + 1) := ⟨_, rfl⟩
    obtain ⟨n9, hn9⟩ : ∃ g, g = w1.heap.size + 2 := ⟨_, rfl⟩
    rw [← hV3, ← hn9, ← hgB, ← hgA] at HU0
    rw [← hV3, ← hn9, ← hgB, ← hgA]
    have hne1 : ¬ w.heap.size = gA := by omega
    have hne2 : ¬ w.heap.size = gB := by omega
    have hne3 : ¬ gA = gB := by omega
    have hne4 : ¬ w.heap.size = n9 := by omega
    have hne5 : ¬ gA = n9 := by omega
    have hne6 : ¬ gB = n9 := by omega
    have hlA : w.heap.size < gA := by omega
    have hlB : w.heap.size < gB := by omega
    have hlN : w.heap.size < n9 := by omega
    clear hV3 hgA hgB hn9 l1 b1 r1 c0 c1 c2 c3 cf HV2 HZ2
    go_loopg [10] L.length (fun g i W => ∃ k : Nat, i = .int .i64 k ∧ k + g = L.length ∧ UM2 w W n9 gA gB L k)
    case atStart => exact ⟨0, rfl, by omega, HU0.out⟩
    case round =>
      clear HU0
      obtain ⟨k, rfl, hk, hm⟩ := hrel
      have HM := Lib.hid hm
      clear hm
      by_cases hlt : k < L.length
      · obtain ⟨g', rfl⟩ : ∃ g', gk = g' + 1 := ⟨gk - 1, by omega⟩
        obtain ⟨x, hx⟩ : ∃ x, L[k]? = some x := ⟨_, List.getElem?_eq_getElem hlt⟩
        have hxm := List.mem_of_getElem? hx
        have hfx := one_fitX x (checkTo_fit L false z1 x hxm) (HT.out x hxm)
        have hkr : x.k = 1 ∨ x.k = 2 ∨ x.k = 3 ∨ x.k = 4 := by
          have h1 := checkTo_fit L false z1 x hxm
          unfold oneE at h1
          split at h1
          · cases h1
          · omega
        have hPr : Parts wr a L.length L := Rd.below HP.out HM.out.bl
        obtain ⟨ad, had, hbk, q0, q1, q2⟩ := Parts.get (L := L) hPr k x hx
        subst had
        have i0 : (0 : Int) ≤ (k : Int) := by omega
        have i1 : (k : Int) < (L.length : Int) := by omega
        have HX := Lib.hid hx
        have HFX := Lib.hid hfx
        clear hx hxm hfx hPr
        rcases hkr with hK | hK | hK | hK
        all_goals rw [hK] at q0
        · have HK := Lib.hid hK
          clear hK
          go_wp2_with fail
          go_roundg g'
          case measure => omega
          case rel => exact ⟨k + 1, by go_num, by omega, (by rw [rowP_other 4 L k x HX.out 4 1 (by rw [HK.out]; decide)]; exact HM.out.v), (by rw [rowP_other 2 L k x HX.out 10 0 (by rw [HK.out]; decide)]; exact HM.out.g), (by rw [rowP_other 3 L k x HX.out 10 0 (by rw [HK.out]; decide)]; exact HM.out.c), HM.out.z, HM.out.bl⟩
        · have hfit := HFX.out
          obtain ⟨n0, n9'⟩ : 0 ≤ x.n ∧ x.n ≤ 9 := hfit.2.1 (by omega)
          obtain ⟨m, hmm⟩ : ∃ m : Nat, x.n = (m : Int) := ⟨x.n.toNat, by omega⟩
          have hm9 : m < 10 := by omega
          have hxo : x.n = 0 + (m : Int) := by omega
          rw [hmm] at q2
          have df2 := frozen_list HM.out.g
          have d1 := cell_list (cs := rowP 2 (L.take k) 10 0) HM.out.g m
          rw [rowP_get _ _ _ _ m hm9] at d1
          have hcl := cntP_le 2 (L.take k) (0 + (m : Int))
          have hcl2 : (L.take k).length ≤ k := List.length_take_le _ _
          have im0 : (0 : Int) ≤ (m : Int) := by omega
          have im1 : (m : Int) < 10 := by omega
          have HK := Lib.hid hK
          have HXO := Lib.hid hxo
          obtain ⟨N, hN⟩ : ∃ N, cntP 2 (L.take k) (0 + (m : Int)) = N := ⟨_, rfl⟩
          rw [hN] at d1 hcl
          have HNN := Lib.hid hN
          have hNb : N ≤ 100000 := by omega
          have hbw := HM.out.bl.setCell (p := ⟨gA, m, none⟩) (by show w.heap.size ≤ gA; omega) (.int .i64 ((N : Int) + 1))
          clear hK n0 n9' hN hxo hmm hfit
          go_wp2_with fail
          go_roundg g'
          case measure => omega
          case rel => exact ⟨k + 1, by go_num, by omega, (by rw [rowP_other 4 L k x HX.out 4 1 (by rw [HK.out]; decide)]; exact (Below.heap_setCell _ _ _ _ (by show n9 ≠ gA; omega)).trans HM.out.v), (by rw [rowP_hit 2 L k x HX.out 10 0 m hm9 HXO.out HK.out]; rw [HNN.out]; exact set_list HM.out.g m _), (by rw [rowP_other 3 L k x HX.out 10 0 (by rw [HK.out]; decide)]; exact (Below.heap_setCell _ _ _ _ (by show gB ≠ gA; omega)).trans HM.out.c), ((Below.heap_setCell _ _ _ _ (by show w.heap.size ≠ gA; omega)).trans HM.out.z), hbw⟩
        · have hfit := HFX.out
          obtain ⟨n0, n9'⟩ : 0 ≤ x.n ∧ x.n ≤ 9 := hfit.2.1 (by omega)
          obtain ⟨m, hmm⟩ : ∃ m : Nat, x.n = (m : Int) := ⟨x.n.toNat, by omega⟩
          have hm9 : m < 10 := by omega
          have hxo : x.n = 0 + (m : Int) := by omega
          rw [hmm] at q2
          have df2 := frozen_list HM.out.c
          have d1 := cell_list (cs := rowP 3 (L.take k) 10 0) HM.out.c m
          rw [rowP_get _ _ _ _ m hm9] at d1
          have hcl := cntP_le 3 (L.take k) (0 + (m : Int))
          have hcl2 : (L.take k).length ≤ k := List.length_take_le _ _
          have im0 : (0 : Int) ≤ (m : Int) := by omega
          have im1 : (m : Int) < 10 := by omega
          have HK := Lib.hid hK
          have HXO := Lib.hid hxo
          obtain ⟨N, hN⟩ : ∃ N, cntP 3 (L.take k) (0 + (m : Int)) = N := ⟨_, rfl⟩
          rw [hN] at d1 hcl
          have HNN := Lib.hid hN
          have hNb : N ≤ 100000 := by omega
          have hbw := HM.out.bl.setCell (p := ⟨gB, m, none⟩) (by show w.heap.size ≤ gB; omega) (.int .i64 ((N : Int) + 1))
          clear hK n0 n9' hN hxo hmm hfit
          go_wp2_with fail
          go_roundg g'
          case measure => omega
          case rel => exact ⟨k + 1, by go_num, by omega, (by rw [rowP_other 4 L k x HX.out 4 1 (by rw [HK.out]; decide)]; exact (Below.heap_setCell _ _ _ _ (by show n9 ≠ gB; omega)).trans HM.out.v), (by rw [rowP_other 2 L k x HX.out 10 0 (by rw [HK.out]; decide)]; exact (Below.heap_setCell _ _ _ _ (by show gA ≠ gB; omega)).trans HM.out.g), (by rw [rowP_hit 3 L k x HX.out 10 0 m hm9 HXO.out HK.out]; rw [HNN.out]; exact set_list HM.out.c m _), ((Below.heap_setCell _ _ _ _ (by show w.heap.size ≠ gB; omega)).trans HM.out.z), hbw⟩
        · have hfit := HFX.out
          obtain ⟨n0, n9'⟩ : 1 ≤ x.n ∧ x.n ≤ 4 := hfit.2.2 hK
          obtain ⟨m, hmm⟩ : ∃ m : Nat, x.n = (m : Int) + 1 := ⟨(x.n - 1).toNat, by omega⟩
          have hm9 : m < 4 := by omega
          have hxo : x.n = 1 + (m : Int) := by omega
          rw [hmm] at q2
          have df2 := frozen_list HM.out.v
          have d1 := cell_list (cs := rowP 4 (L.take k) 4 1) HM.out.v m
          rw [rowP_get _ _ _ _ m hm9] at d1
          have hcl := cntP_le 4 (L.take k) (1 + (m : Int))
          have hcl2 : (L.take k).length ≤ k := List.length_take_le _ _
          have im0 : (0 : Int) ≤ (m : Int) := by omega
          have im1 : (m : Int) < 4 := by omega
          have HK := Lib.hid hK
          have HXO := Lib.hid hxo
          obtain ⟨N, hN⟩ : ∃ N, cntP 4 (L.take k) (1 + (m : Int)) = N := ⟨_, rfl⟩
          rw [hN] at d1 hcl
          have HNN := Lib.hid hN
          have hNb : N ≤ 100000 := by omega
          have hbw := HM.out.bl.setCell (p := ⟨n9, m, none⟩) (by show w.heap.size ≤ n9; omega) (.int .i64 ((N : Int) + 1))
          clear hK n0 n9' hN hxo hmm hfit
          go_wp2_with fail
          go_roundg g'
          case measure => omega
          case rel => exact ⟨k + 1, by go_num, by omega, (by rw [rowP_hit 4 L k x HX.out 4 1 m hm9 HXO.out HK.out]; rw [HNN.out]; exact set_list HM.out.v m _), (by rw [rowP_other 2 L k x HX.out 10 0 (by rw [HK.out]; decide)]; exact (Below.heap_setCell _ _ _ _ (by show gA ≠ n9; omega)).trans HM.out.g), (by rw [rowP_other 3 L k x HX.out 10 0 (by rw [HK.out]; decide)]; exact (Below.heap_setCell _ _ _ _ (by show gB ≠ n9; omega)).trans HM.out.c), ((Below.heap_setCell _ _ _ _ (by show w.heap.size ≠ n9; omega)).trans HM.out.z), hbw⟩
      · obtain rfl : k = L.length := by omega
        have hv := HM.out.v
        have hg := HM.out.g
        have hcc := HM.out.c
        have hbl := HM.out.bl
        rw [List.take_length] at hv hg hcc
        have hE4 : rowP 4 L 4 1 = [.int .i64 (cntP 4 L (1 + 0) : Nat), .int .i64 (cntP 4 L (1 + 1) : Nat), .int .i64 (cntP 4 L (1 + 2) : Nat), .int .i64 (cntP 4 L (1 + 3) : Nat)] := rfl
        have hu2 : usesG 2 L = rowP 2 L 10 0 := by unfold usesG; rw [HE.out, if_neg (by simp)]
        have hu3 : usesG 3 L = rowP 3 L 10 0 := by unfold usesG; rw [HE.out, if_neg (by simp)]
        have huv : usesV L = rowP 4 L 4 1 := by unfold usesV; rw [HE.out, if_neg (by simp)]
        rw [hE4] at hv huv
        generalize (cntP 4 L (1 + 0)) = N0 at hv huv
        generalize (cntP 4 L (1 + 1)) = N1 at hv huv
        generalize (cntP 4 L (1 + 2)) = N2 at hv huv
        generalize (cntP 4 L (1 + 3)) = N3 at hv huv
        have c0 := cell_list hv 0
        have c1 := cell_list hv 1
        have c2 := cell_list hv 2
        have c3 := cell_list hv 3
        have hzz := HM.out.z
        have e0 := cell_list hzz 0
        have e1 := cell_list hzz 1
        have e2 := cell_list hzz 2
        have e3 := cell_list hzz 3
        have cf := frozen_list hzz
        simp only [List.getElem?_cons_zero, List.getElem?_cons_succ] at c0 c1 c2 c3 e0 e1 e2 e3
        have HU2 := Lib.hid hu2
        have HU3 := Lib.hid hu3
        have HUV := Lib.hid huv
        have hr2 := set_list (set_list (set_list (set_list hzz 0 (.int .i64 N0)) 1 (.int .i64 N1)) 2 (.int .i64 N2)) 3 (.int .i64 N3)
        have hb2 := ((((hbl.setCell (p := ⟨w.heap.size, 0, none⟩) (Nat.le_refl _) (.int .i64 N0)).setCell (p := ⟨w.heap.size, 1, none⟩) (Nat.le_refl _) (.int .i64 N1)).setCell (p := ⟨w.heap.size, 2, none⟩) (Nat.le_refl _) (.int .i64 N2)).setCell (p := ⟨w.heap.size, 3, none⟩) (Nat.le_refl _) (.int .i64 N3)).drew
        have hg2 := (Below.heap_setCell (((wr.setCell ⟨w.heap.size, 0, none⟩ (.int .i64 N0)).setCell ⟨w.heap.size, 1, none⟩ (.int .i64 N1)).setCell ⟨w.heap.size, 2, none⟩ (.int .i64 N2)) ⟨w.heap.size, 3, none⟩ (.int .i64 N3) gA (by show gA ≠ w.heap.size; omega)).trans ((Below.heap_setCell ((wr.setCell ⟨w.heap.size, 0, none⟩ (.int .i64 N0)).setCell ⟨w.heap.size, 1, none⟩ (.int .i64 N1)) ⟨w.heap.size, 2, none⟩ (.int .i64 N2) gA (by show gA ≠ w.heap.size; omega)).trans ((Below.heap_setCell (wr.setCell ⟨w.heap.size, 0, none⟩ (.int .i64 N0)) ⟨w.heap.size, 1, none⟩ (.int .i64 N1) gA (by show gA ≠ w.heap.size; omega)).trans ((Below.heap_setCell wr ⟨w.heap.size, 0, none⟩ (.int .i64 N0) gA (by show gA ≠ w.heap.size; omega)).trans hg)))
        have hc2 := (Below.heap_setCell (((wr.setCell ⟨w.heap.size, 0, none⟩ (.int .i64 N0)).setCell ⟨w.heap.size, 1, none⟩ (.int .i64 N1)).setCell ⟨w.heap.size, 2, none⟩ (.int .i64 N2)) ⟨w.heap.size, 3, none⟩ (.int .i64 N3) gB (by show gB ≠ w.heap.size; omega)).trans ((Below.heap_setCell ((wr.setCell ⟨w.heap.size, 0, none⟩ (.int .i64 N0)).setCell ⟨w.heap.size, 1, none⟩ (.int .i64 N1)) ⟨w.heap.size, 2, none⟩ (.int .i64 N2) gB (by show gB ≠ w.heap.size; omega)).trans ((Below.heap_setCell (wr.setCell ⟨w.heap.size, 0, none⟩ (.int .i64 N0)) ⟨w.heap.size, 1, none⟩ (.int .i64 N1) gB (by show gB ≠ w.heap.size; omega)).trans ((Below.heap_setCell wr ⟨w.heap.size, 0, none⟩ (.int .i64 N0) gB (by show gB ≠ w.heap.size; omega)).trans hcc)))
        have HR2 := Lib.hid hr2
        have HB2 := Lib.hid hb2
        have HG2 := Lib.hid hg2
        have HC2 := Lib.hid hc2
        clear hzz hv hg hcc hbl hE4 hu2 hu3 huv hr2 hb2 hg2 hc2 HM
        go_wp2_with fail
        go_region
        all_goals
          go_wp2_with fail
          have hb2 := HB2.out
          obtain ⟨W9, hW9⟩ : ∃ W, W = ((((wr.setCell ⟨w.heap.size, 0, none⟩ (.int .i64 N0)).setCell ⟨w.heap.size, 1, none⟩ (.int .i64 N1)).setCell ⟨w.heap.size, 2, none⟩ (.int .i64 N2)).setCell ⟨w.heap.size, 3, none⟩ (.int .i64 N3)).drew := ⟨_, rfl⟩
          have hr3 : W9.heap[w.heap.size]? = some (.cells [.int .i64 N0, .int .i64 N1, .int .i64 N2, .int .i64 N3].toArray 44 (0, 0)) := by rw [hW9]; exact HR2.out
          have hg3 : W9.heap[gA]? = some (.cells (rowP 2 L 10 0).toArray 3 (0, 0)) := by rw [hW9]; exact HG2.out
          have hc3 : W9.heap[gB]? = some (.cells (rowP 3 L 10 0).toArray 3 (0, 0)) := by rw [hW9]; exact HC2.out
          rw [← hW9] at hb2 ⊢
          clear hW9
          have z0 := cell_list hr3 0
          have z1 := cell_list hr3 1
          have z2 := cell_list hr3 2
          have z3 := cell_list hr3 3
          simp only [List.getElem?_cons_zero, List.getElem?_cons_succ] at z0 z1 z2 z3
          refine bodyPost_ret (v := .tuple #[.slice (some ⟨gA, 0, none⟩) 10 10, .slice (some ⟨gB, 0, none⟩) 10 10, .agg #[.int .i64 N0, .int .i64 N1, .int .i64 N2, .int .i64 N3], .int .i64 0]) (by simp [results, Tryd.results27, go_sem, z0, z1, z2, z3]) rfl ?_
          rw [HPe.out]
          unfold UsesPost
          rw [HU2.out, HU3.out, HUV.out, HE.out, rowP_len, rowP_len]
          exact ⟨_, _, _, _, rfl, rowP_rd hg3, rowP_rd hc3, hb2⟩
  · have hz1 : (w1.alloc (.cells #[.int .i64 0, .int .i64 0, .int .i64 0, .int .i64 0, .int .i64 0, .int .i64 0, .int .i64 0, .int .i64 0, .int .i64 0, .int .i64 0] 3)).heap.size = w1.heap.size + 1 := by simp
    have l1 := lt_of_cells r1
    have rA := World.alloc_heap_new w1 (.cells #[.int .i64 0, .int .i64 0, .int .i64 0, .int .i64 0, .int .i64 0, .int .i64 0, .int .i64 0, .int .i64 0, .int .i64 0, .int .i64 0] 3)
    have bA := b1.alloc b1.size (.cells #[.int .i64 0, .int .i64 0, .int .i64 0, .int .i64 0, .int .i64 0, .int .i64 0, .int .i64 0, .int .i64 0, .int .i64 0, .int .i64 0] 3)
    have r2 := (Below.heap_alloc w1 (.cells #[.int .i64 0, .int .i64 0, .int .i64 0, .int .i64 0, .int .i64 0, .int .i64 0, .int .i64 0, .int .i64 0, .int .i64 0, .int .i64 0] 3) _ l1).trans r1
    obtain ⟨V1, hV1⟩ : ∃ V, V = w1.alloc (.cells #[.int .i64 0, .int .i64 0, .int .i64 0, .int .i64 0, .int .i64 0, .int .i64 0, .int .i64 0, .int .i64 0, .int .i64 0, .int .i64 0] 3) := ⟨_, rfl⟩
    rw [← hV1] at hz1 rA bA r2
    have rB := World.alloc_heap_new V1 (.cells #[.int .i64 0, .int .i64 0, .int .i64 0, .int .i64 0, .int .i64 0, .int .i64 0, .int .i64 0, .int .i64 0, .int .i64 0, .int .i64 0] 3)
    have bB := (bA.alloc bA.size (.cells #[.int .i64 0, .int .i64 0, .int .i64 0, .int .i64 0, .int .i64 0, .int .i64 0, .int .i64 0, .int .i64 0, .int .i64 0, .int .i64 0] 3)).drew
    have rA2 := (Below.heap_alloc V1 (.cells #[.int .i64 0, .int .i64 0, .int .i64 0, .int .i64 0, .int .i64 0, .int .i64 0, .int .i64 0, .int .i64 0, .int .i64 0, .int .i64 0] 3) _ (lt_of_cells rA)).trans rA
    have r3 := (Below.heap_alloc V1 (.cells #[.int .i64 0, .int .i64 0, .int .i64 0, .int .i64 0, .int .i64 0, .int .i64 0, .int .i64 0, .int .i64 0, .int .i64 0, .int .i64 0] 3) _ (lt_of_cells r2)).trans r2
    rw [hz1] at rB
    have hz2 : (V1.alloc (.cells #[.int .i64 0, .int .i64 0, .int .i64 0, .int .i64 0, .int .i64 0, .int .i64 0, .int .i64 0, .int .i64 0, .int .i64 0, .int .i64 0] 3)).drew.heap.size = w1.heap.size + 2 := by show (V1.alloc _).heap.size = _; simp; omega
    obtain ⟨V2, hV2⟩ : ∃ V, V = (V1.alloc (.cells #[.int .i64 0, .int .i64 0, .int .i64 0, .int .i64 0, .int .i64 0, .int .i64 0, .int .i64 0, .int .i64 0, .int .i64 0, .int .i64 0] 3)).drew := ⟨_, rfl⟩
    have rA' : V2.heap[w1.heap.size]? = some (.cells #[.int .i64 0, .int .i64 0, .int .i64 0, .int .i64 0, .int .i64 0, .int .i64 0, .int .i64 0, .int .i64 0, .int .i64 0, .int .i64 0].toList.toArray 3 (0, 0)) := by rw [hV2]; exact rA2
    have rB' : V2.heap[w1.heap.size + 1]? = some (.cells #[.int .i64 0, .int .i64 0, .int .i64 0, .int .i64 0, .int .i64 0, .int .i64 0, .int .i64 0, .int .i64 0, .int .i64 0, .int .i64 0].toList.toArray 3 (0, 0)) := by rw [hV2]; exact rB
    have r3' : V2.heap[w.heap.size]? = some (.cells [.int .i64 0, .int .i64 0, .int .i64 0, .int .i64 0].toArray 44 (0, 0)) := by rw [hV2]; exact r3
    rw [← hV2] at hz2 bB
    have rN := World.alloc_heap_new V2 (.cells #[.int .i64 0, .int .i64 0, .int .i64 0, .int .i64 0] 44)
    have bN := bB.alloc bB.size (.cells #[.int .i64 0, .int .i64 0, .int .i64 0, .int .i64 0] 44)
    have rA3 := (Below.heap_alloc V2 (.cells #[.int .i64 0, .int .i64 0, .int .i64 0, .int .i64 0] 44) _ (lt_of_cells rA')).trans rA'
    have rB2 := (Below.heap_alloc V2 (.cells #[.int .i64 0, .int .i64 0, .int .i64 0, .int .i64 0] 44) _ (lt_of_cells rB')).trans rB'
    have r4 := (Below.heap_alloc V2 (.cells #[.int .i64 0, .int .i64 0, .int .i64 0, .int .i64 0] 44) _ (lt_of_cells r3')).trans r3'
    rw [hz2] at rN
    have hU0 : UM2 w (V2.alloc (.cells #[.int .i64 0, .int .i64 0, .int .i64 0, .int .i64 0] 44)) (w1.heap.size + 2) (w1.heap.size + 1) w1.heap.size L 0 := ⟨rN, rB2, rA3, r4, bN⟩
    rw [hV1] at hV2
    rw [← hV2]
    have HU0 := Lib.hid hU0
    have HV2 := Lib.hid hV2
    have HZ2 := Lib.hid hz2
    clear hV1 rA bA r2 rB bB rA2 r3 rA' rB' r3' rN bN rA3 rB2 r4 hU0 hmk hV2 hz2 hz1 V1
    obtain ⟨z1, z2⟩ := checkR_zeroU HE.out
    go_wp2_with fail
    rw [HZ2.out]
    obtain ⟨V3, hV3⟩ : ∃ V, V = V2.alloc (.cells #[.int .i64 0, .int .i64 0, .int .i64 0, .int .i64 0] 44) := ⟨_, rfl⟩
    obtain ⟨gA, hgA⟩ : ∃ g, g = (w1.heap.size + 1) := ⟨_, rfl⟩
    obtain ⟨gB, hgB⟩ : ∃ g, g = w1.heap.size := ⟨_, rfl⟩
    obtain ⟨n9, hn9⟩ : ∃ g, g = w1.heap.size + 2 := ⟨_, rfl⟩
    rw [← hV3, ← hn9, ← hgA, ← hgB] at HU0
    rw [← hV3, ← hn9, ← hgA, ← hgB]
    have hne1 : ¬ w.heap.size = gA := by omega
    have hne2 : ¬ w.heap.size = gB := by omega
    have hne3 : ¬ gA = gB := by omega
    have hne4 : ¬ w.heap.size = n9 := by omega
    have hne5 : ¬ gA = n9 := by omega
    have hne6 : ¬ gB = n9 := by omega
    have hlA : w.heap.size < gA := by omega
    have hlB : w.heap.size < gB := by omega
    have hlN : w.heap.size < n9 := by omega
    clear hV3 hgA hgB hn9 l1 b1 r1 c0 c1 c2 c3 cf HV2 HZ2
    go_loopg [10] L.length (fun g i W => ∃ k : Nat, i = .int .i64 k ∧ k + g = L.length ∧ UM2 w W n9 gA gB L k)
    case atStart => exact ⟨0, rfl, by omega, HU0.out⟩
    case round =>
      clear HU0
      obtain ⟨k, rfl, hk, hm⟩ := hrel
      have HM := Lib.hid hm
      clear hm
      by_cases hlt : k < L.length
      · obtain ⟨g', rfl⟩ : ∃ g', gk = g' + 1 := ⟨gk - 1, by omega⟩
        obtain ⟨x, hx⟩ : ∃ x, L[k]? = some x := ⟨_, List.getElem?_eq_getElem hlt⟩
        have hxm := List.mem_of_getElem? hx
        have hfx := one_fitX x (checkTo_fit L false z1 x hxm) (HT.out x hxm)
        have hkr : x.k = 1 ∨ x.k = 2 ∨ x.k = 3 ∨ x.k = 4 := by
          have h1 := checkTo_fit L false z1 x hxm
          unfold oneE at h1
          split at h1
          · cases h1
          · omega
        have hPr : Parts wr a L.length L := Rd.below HP.out HM.out.bl
        obtain ⟨ad, had, hbk, q0, q1, q2⟩ := Parts.get (L := L) hPr k x hx
        subst had
        have i0 : (0 : Int) ≤ (k : Int) := by omega
        have i1 : (k : Int) < (L.length : Int) := by omega
        have HX := Lib.hid hx
        have HFX := Lib.hid hfx
        clear hx hxm hfx hPr
        rcases hkr with hK | hK | hK | hK
        all_goals rw [hK] at q0
        · have HK := Lib.hid hK
          clear hK
          go_wp2_with fail
          go_roundg g'
          case measure => omega
          case rel => exact ⟨k + 1, by go_num, by omega, (by rw [rowP_other 4 L k x HX.out 4 1 (by rw [HK.out]; decide)]; exact HM.out.v), (by rw [rowP_other 2 L k x HX.out 10 0 (by rw [HK.out]; decide)]; exact HM.out.g), (by rw [rowP_other 3 L k x HX.out 10 0 (by rw [HK.out]; decide)]; exact HM.out.c), HM.out.z, HM.out.bl⟩
        · have hfit := HFX.out
          obtain ⟨n0, n9'⟩ : 0 ≤ x.n ∧ x.n ≤ 9 := hfit.2.1 (by omega)
          obtain ⟨m, hmm⟩ : ∃ m : Nat, x.n = (m : Int) := ⟨x.n.toNat, by omega⟩
          have hm9 : m < 10 := by omega
          have hxo : x.n = 0 + (m : Int) := by omega
          rw [hmm] at q2
          have df2 := frozen_list HM.out.g
          have d1 := cell_list (cs := rowP 2 (L.take k) 10 0) HM.out.g m
          rw [rowP_get _ _ _ _ m hm9] at d1
          have hcl := cntP_le 2 (L.take k) (0 + (m : Int))
          have hcl2 : (L.take k).length ≤ k := List.length_take_le _ _
          have im0 : (0 : Int) ≤ (m : Int) := by omega
          have im1 : (m : Int) < 10 := by omega
          have HK := Lib.hid hK
          have HXO := Lib.hid hxo
          obtain ⟨N, hN⟩ : ∃ N, cntP 2 (L.take k) (0 + (m : Int)) = N := ⟨_, rfl⟩
          rw [hN] at d1 hcl
          have HNN := Lib.hid hN
          have hNb : N ≤ 100000 := by omega
          have hbw := HM.out.bl.setCell (p := ⟨gA, m, none⟩) (by show w.heap.size ≤ gA; omega) (.int .i64 ((N : Int) + 1))
          clear hK n0 n9' hN hxo hmm hfit
          go_wp2_with fail
          go_roundg g'
          case measure => omega
          case rel => exact ⟨k + 1, by go_num, by omega, (by rw [rowP_other 4 L k x HX.out 4 1 (by rw [HK.out]; decide)]; exact (Below.heap_setCell _ _ _ _ (by show n9 ≠ gA; omega)).trans HM.out.v), (by rw [rowP_hit 2 L k x HX.out 10 0 m hm9 HXO.out HK.out]; rw [HNN.out]; exact set_list HM.out.g m _), (by rw [rowP_other 3 L k x HX.out 10 0 (by rw [HK.out]; decide)]; exact (Below.heap_setCell _ _ _ _ (by show gB ≠ gA; omega)).trans HM.out.c), ((Below.heap_setCell _ _ _ _ (by show w.heap.size ≠ gA; omega)).trans HM.out.z), hbw⟩
        · have hfit := HFX.out
          obtain ⟨n0, n9'⟩ : 0 ≤ x.n ∧ x.n ≤ 9 := hfit.2.1 (by omega)
          obtain ⟨m, hmm⟩ : ∃ m : Nat, x.n = (m : Int) := ⟨x.n.toNat, by omega⟩
          have hm9 : m < 10 := by omega
          have hxo : x.n = 0 + (m : Int) := by omega
          rw [hmm] at q2
          have df2 := frozen_list HM.out.c
          have d1 := cell_list (cs := rowP 3 (L.take k) 10 0) HM.out.c m
          rw [rowP_get _ _ _ _ m hm9] at d1
          have hcl := cntP_le 3 (L.take k) (0 + (m : Int))
          have hcl2 : (L.take k).length ≤ k := List.length_take_le _ _
          have im0 : (0 : Int) ≤ (m : Int) := by omega
          have im1 : (m : Int) < 10 := by omega
          have HK := Lib.hid hK
          have HXO := Lib.hid hxo
          obtain ⟨N, hN⟩ : ∃ N, cntP 3 (L.take k) (0 + (m : Int)) = N := ⟨_, rfl⟩
          rw [hN] at d1 hcl
          have HNN := Lib.hid hN
          have hNb : N ≤ 100000 := by omega
          have hbw := HM.out.bl.setCell (p := ⟨gB, m, none⟩) (by show w.heap.size ≤ gB; omega) (.int .i64 ((N : Int) + 1))
          clear hK n0 n9' hN hxo hmm hfit
          go_wp2_with fail
          go_roundg g'
          case measure => omega
          case rel => exact ⟨k + 1, by go_num, by omega, (by rw [rowP_other 4 L k x HX.out 4 1 (by rw [HK.out]; decide)]; exact (Below.heap_setCell _ _ _ _ (by show n9 ≠ gB; omega)).trans HM.out.v), (by rw [rowP_other 2 L k x HX.out 10 0 (by rw [HK.out]; decide)]; exact (Below.heap_setCell _ _ _ _ (by show gA ≠ gB; omega)).trans HM.out.g), (by rw [rowP_hit 3 L k x HX.out 10 0 m hm9 HXO.out HK.out]; rw [HNN.out]; exact set_list HM.out.c m _), ((Below.heap_setCell _ _ _ _ (by show w.heap.size ≠ gB; omega)).trans HM.out.z), hbw⟩
        · have hfit := HFX.out
          obtain ⟨n0, n9'⟩ : 1 ≤ x.n ∧ x.n ≤ 4 := hfit.2.2 hK
          obtain ⟨m, hmm⟩ : ∃ m : Nat, x.n = (m : Int) + 1 := ⟨(x.n - 1).toNat, by omega⟩
          have hm9 : m < 4 := by omega
          have hxo : x.n = 1 + (m : Int) := by omega
          rw [hmm] at q2
          have df2 := frozen_list HM.out.v
          have d1 := cell_list (cs := rowP 4 (L.take k) 4 1) HM.out.v m
          rw [rowP_get _ _ _ _ m hm9] at d1
          have hcl := cntP_le 4 (L.take k) (1 + (m : Int))
          have hcl2 : (L.take k).length ≤ k := List.length_take_le _ _
          have im0 : (0 : Int) ≤ (m : Int) := by omega
          have im1 : (m : Int) < 4 := by omega
          have HK := Lib.hid hK
          have HXO := Lib.hid hxo
          obtain ⟨N, hN⟩ : ∃ N, cntP 4 (L.take k) (1 + (m : Int)) = N := ⟨_, rfl⟩
          rw [hN] at d1 hcl
          have HNN := Lib.hid hN
          have hNb : N ≤ 100000 := by omega
          have hbw := HM.out.bl.setCell (p := ⟨n9, m, none⟩) (by show w.heap.size ≤ n9; omega) (.int .i64 ((N : Int) + 1))
          clear hK n0 n9' hN hxo hmm hfit
          go_wp2_with fail
          go_roundg g'
          case measure => omega
          case rel => exact ⟨k + 1, by go_num, by omega, (by rw [rowP_hit 4 L k x HX.out 4 1 m hm9 HXO.out HK.out]; rw [HNN.out]; exact set_list HM.out.v m _), (by rw [rowP_other 2 L k x HX.out 10 0 (by rw [HK.out]; decide)]; exact (Below.heap_setCell _ _ _ _ (by show gA ≠ n9; omega)).trans HM.out.g), (by rw [rowP_other 3 L k x HX.out 10 0 (by rw [HK.out]; decide)]; exact (Below.heap_setCell _ _ _ _ (by show gB ≠ n9; omega)).trans HM.out.c), ((Below.heap_setCell _ _ _ _ (by show w.heap.size ≠ n9; omega)).trans HM.out.z), hbw⟩
      · obtain rfl : k = L.length := by omega
        have hv := HM.out.v
        have hg := HM.out.g
        have hcc := HM.out.c
        have hbl := HM.out.bl
        rw [List.take_length] at hv hg hcc
        have hE4 : rowP 4 L 4 1 = [.int .i64 (cntP 4 L (1 + 0) : Nat), .int .i64 (cntP 4 L (1 + 1) : Nat), .int .i64 (cntP 4 L (1 + 2) : Nat), .int .i64 (cntP 4 L (1 + 3) : Nat)] := rfl
        have hu2 : usesG 2 L = rowP 2 L 10 0 := by unfold usesG; rw [HE.out, if_neg (by simp)]
        have hu3 : usesG 3 L = rowP 3 L 10 0 := by unfold usesG; rw [HE.out, if_neg (by simp)]
        have huv : usesV L = rowP 4 L 4 1 := by unfold usesV; rw [HE.out, if_neg (by simp)]
        rw [hE4] at hv huv
        generalize (cntP 4 L (1 + 0)) = N0 at hv huv
        generalize (cntP 4 L (1 + 1)) = N1 at hv huv
        generalize (cntP 4 L (1 + 2)) = N2 at hv huv
        generalize (cntP 4 L (1 + 3)) = N3 at hv huv
        have c0 := cell_list hv 0
        have c1 := cell_list hv 1
        have c2 := cell_list hv 2
        have c3 := cell_list hv 3
        have hzz := HM.out.z
        have e0 := cell_list hzz 0
        have e1 := cell_list hzz 1
        have e2 := cell_list hzz 2
        have e3 := cell_list hzz 3
        have cf := frozen_list hzz
        simp only [List.getElem?_cons_zero, List.getElem?_cons_succ] at c0 c1 c2 c3 e0 e1 e2 e3
        have HU2 := Lib.hid hu2
        have HU3 := Lib.hid hu3
        have HUV := Lib.hid huv
        have hr2 := set_list (set_list (set_list (set_list hzz 0 (.int .i64 N0)) 1 (.int .i64 N1)) 2 (.int .i64 N2)) 3 (.int .i64 N3)
        have hb2 := ((((hbl.setCell (p := ⟨w.heap.size, 0, none⟩) (Nat.le_refl _) (.int .i64 N0)).setCell (p := ⟨w.heap.size, 1, none⟩) (Nat.le_refl _) (.int .i64 N1)).setCell (p := ⟨w.heap.size, 2, none⟩) (Nat.le_refl _) (.int .i64 N2)).setCell (p := ⟨w.heap.size, 3, none⟩) (Nat.le_refl _) (.int .i64 N3)).drew
        have hg2 := (Below.heap_setCell (((wr.setCell ⟨w.heap.size, 0, none⟩ (.int .i64 N0)).setCell ⟨w.heap.size, 1, none⟩ (.int .i64 N1)).setCell ⟨w.heap.size, 2, none⟩ (.int .i64 N2)) ⟨w.heap.size, 3, none⟩ (.int .i64 N3) gA (by show gA ≠ w.heap.size; omega)).trans ((Below.heap_setCell ((wr.setCell ⟨w.heap.size, 0, none⟩ (.int .i64 N0)).setCell ⟨w.heap.size, 1, none⟩ (.int .i64 N1)) ⟨w.heap.size, 2, none⟩ (.int .i64 N2) gA (by show gA ≠ w.heap.size; omega)).trans ((Below.heap_setCell (wr.setCell ⟨w.heap.size, 0, none⟩ (.int .i64 N0)) ⟨w.heap.size, 1, none⟩ (.int .i64 N1) gA (by show gA ≠ w.heap.size; omega)).trans ((Below.heap_setCell wr ⟨w.heap.size, 0, none⟩ (.int .i64 N0) gA (by show gA ≠ w.heap.size; omega)).trans hg)))
        have hc2 := (Below.heap_setCell (((wr.setCell ⟨w.heap.size, 0, none⟩ (.int .i64 N0)).setCell ⟨w.heap.size, 1, none⟩ (.int .i64 N1)).setCell ⟨w.heap.size, 2, none⟩ (.int .i64 N2)) ⟨w.heap.size, 3, none⟩ (.int .i64 N3) gB (by show gB ≠ w.heap.size; omega)).trans ((Below.heap_setCell ((wr.setCell ⟨w.heap.size, 0, none⟩ (.int .i64 N0)).setCell ⟨w.heap.size, 1, none⟩ (.int .i64 N1)) ⟨w.heap.size, 2, none⟩ (.int .i64 N2) gB (by show gB ≠ w.heap.size; omega)).trans ((Below.heap_setCell (wr.setCell ⟨w.heap.size, 0, none⟩ (.int .i64 N0)) ⟨w.heap.size, 1, none⟩ (.int .i64 N1) gB (by show gB ≠ w.heap.size; omega)).trans ((Below.heap_setCell wr ⟨w.heap.size, 0, none⟩ (.int .i64 N0) gB (by show gB ≠ w.heap.size; omega)).trans hcc)))
        have HR2 := Lib.hid hr2
        have HB2 := Lib.hid hb2
        have HG2 := Lib.hid hg2
        have HC2 := Lib.hid hc2
        clear hzz hv hg hcc hbl hE4 hu2 hu3 huv hr2 hb2 hg2 hc2 HM
        go_wp2_with fail
        go_region
        all_goals
          go_wp2_with fail
          have hb2 := HB2.out
          obtain ⟨W9, hW9⟩ : ∃ W, W = ((((wr.setCell ⟨w.heap.size, 0, none⟩ (.int .i64 N0)).setCell ⟨w.heap.size, 1, none⟩ (.int .i64 N1)).setCell ⟨w.heap.size, 2, none⟩ (.int .i64 N2)).setCell ⟨w.heap.size, 3, none⟩ (.int .i64 N3)).drew := ⟨_, rfl⟩
          have hr3 : W9.heap[w.heap.size]? = some (.cells [.int .i64 N0, .int .i64 N1, .int .i64 N2, .int .i64 N3].toArray 44 (0, 0)) := by rw [hW9]; exact HR2.out
          have hg3 : W9.heap[gA]? = some (.cells (rowP 2 L 10 0).toArray 3 (0, 0)) := by rw [hW9]; exact HG2.out
          have hc3 : W9.heap[gB]? = some (.cells (rowP 3 L 10 0).toArray 3 (0, 0)) := by rw [hW9]; exact HC2.out
          rw [← hW9] at hb2 ⊢
          clear hW9
          have z0 := cell_list hr3 0
          have z1 := cell_list hr3 1
          have z2 := cell_list hr3 2
          have z3 := cell_list hr3 3
          simp only [List.getElem?_cons_zero, List.getElem?_cons_succ] at z0 z1 z2 z3
          refine bodyPost_ret (v := .tuple #[.slice (some ⟨gA, 0, none⟩) 10 10, .slice (some ⟨gB, 0, none⟩) 10 10, .agg #[.int .i64 N0, .int .i64 N1, .int .i64 N2, .int .i64 N3], .int .i64 0]) (by simp [results, Tryd.results27, go_sem, z0, z1, z2, z3]) rfl ?_
          rw [HPe.out]
          unfold UsesPost
          rw [HU2.out, HU3.out, HUV.out, HE.out, rowP_len, rowP_len]
          exact ⟨_, _, _, _, rfl, rowP_rd hg3, rowP_rd hc3, hb2⟩
end Go.Proofs.YtllklgalghmnfaaDoor
