/- The walk of TemplateTargets. -/
import Derived.Test.YtllklgalghmnfaaDoorTplTgtText
import Derived.Test.YtllklgalghmnfaaDoorTplRefTgtText
import Derived.Test.YtllklgalghmnfaaDoorTplAwake
import Derived.Test.YtllklgalghmnfaaDoorTplLight
import Derived.Test.YtllklgalghmnfaaDoorReg2
namespace Go.Proofs.YtllklgalghmnfaaDoor
open Go.RowKit Str Mem Tp
set_option linter.unusedVariables false
set_option linter.unusedSimpArgs false

set_option maxRecDepth 100000 in
set_option maxHeartbeats 8000000 in
theorem lawTargets_any (sm ex hq : Bool) (h : Tp.Bs) (pa qa : Option Addr) (pc qc : Nat) (P Q : List Part) (w : World) (hN : Nm w) (hh : h.length ≤ maxLen) (hPc : P.length ≤ pc) (hpc : pc ≤ maxLen) (hP : Parts w pa P.length P) (hQc : Q.length ≤ qc) (hqc : qc ≤ maxLen) (hQ : Parts w qa Q.length Q) :
    Calls Tryd.prog 4 #[tgtV sm ex h pa P.length pc hq qa Q.length qc] w fun e w' => e = .returned (.bool true) ∧ Below w.heap.size w w' := by
  have ha := fun W h => awake25_any W h
  have hl1 := fun W hp => light_any pa pc P W hp
  have hl2 := fun W hp => light_any qa qc Q W hp
  obtain ⟨B, hB⟩ : ∃ B, bs h = B := ⟨_, rfl⟩
  have hBz : B.size = h.length := by rw [← hB, size_bs]
  have HBz := Lib.hid hBz
  have HB := Lib.hid hB
  have hm0 : TB w (w.alloc (.cells #[.bool sm, .bool ex, .string B, .slice pa P.length pc, .bool hq, .slice qa Q.length qc] 30)) w.heap.size sm ex B pa pc P hq qa qc Q :=
    ⟨World.alloc_heap_new _ _, Rd.alloc hP _, Rd.alloc hQ _, (Below.refl _ w).alloc (Nat.le_refl _) _⟩
  have HM0 := Lib.hid hm0
  obtain ⟨x0, x1, x2, x3, x4, x5⟩ := hm0.cells
  unfold tgtV
  rw [hB]
  have HP0 := Lib.hid hP
  have HQ0 := Lib.hid hQ
  clear hB hBz hm0 hP hQ
  obtain ⟨A1, hA1⟩ : ∃ A, lightR P = A := ⟨_, rfl⟩
  obtain ⟨A2, hA2⟩ : ∃ A, lightR Q = A := ⟨_, rfl⟩
  rw [hA1] at hl1
  rw [hA2] at hl2
  have HA1 := Lib.hid hA1
  have HA2 := Lib.hid hA2
  clear hA1 hA2
  go_enter Tryd.func4, Tryd.ntmps4
  go_wp2_with fail
  refine (hl1 _ HM0.out.pl).mono ?_
  rintro e w1 ⟨rfl, rfl⟩
  rcases A1 with _ | _
  · go_wp2_with fail
    refine (ha _ (hN.below HM0.out.bl hN.lt)).mono ?_
    rintro e w2 ⟨rfl, h2⟩
    go_wp2_with fail
    go_ret
    exact ⟨rfl, HM0.out.bl.trans (h2.mono HM0.out.bl.size)⟩
  go_wp2_with fail
  refine (hl2 _ HM0.out.pm).mono ?_
  rintro e w1 ⟨rfl, rfl⟩
  rcases A2 with _ | _
  · go_wp2_with fail
    refine (ha _ (hN.below HM0.out.bl hN.lt)).mono ?_
    rintro e w2 ⟨rfl, h2⟩
    go_wp2_with fail
    go_ret
    exact ⟨rfl, HM0.out.bl.trans (h2.mono HM0.out.bl.size)⟩
  by_cases hb : 110 < B.size
  · have hbi : (110 : Int) < (B.size : Int) := by omega
    go_wp2_with fail
    refine (ha _ (hN.below HM0.out.bl hN.lt)).mono ?_
    rintro e w2 ⟨rfl, h2⟩
    go_wp2_with fail
    go_ret
    exact ⟨rfl, HM0.out.bl.trans (h2.mono HM0.out.bl.size)⟩
  have hbi : ¬ (110 : Int) < (B.size : Int) := by omega
  have hB110 : B.size ≤ 110 := by omega
  obtain ⟨hPn, hPt⟩ := lightR_of HA1.out
  obtain ⟨hQn, hQt⟩ := lightR_of HA2.out
  have HPT := Lib.hid hPt
  have HQT := Lib.hid hQt
  clear hb hPt hQt hl1 hl2
  go_wp2_with fail
  have HM1 := Lib.hid (HM0.out.below ((Below.refl _ _).alloc (Nat.le_refl _) (.cells #[.bool sm, .bool ex, .string B, .slice pa P.length pc, .bool hq, .slice qa Q.length qc] 30)))
  have r3 := World.alloc_heap_new (w.alloc (.cells #[.bool sm, .bool ex, .string B, .slice pa P.length pc, .bool hq, .slice qa Q.length qc] 30)) (.cells #[.bool sm, .bool ex, .string B, .slice pa P.length pc, .bool hq, .slice qa Q.length qc] 30)
  rw [show (w.alloc (.cells #[.bool sm, .bool ex, .string B, .slice pa P.length pc, .bool hq, .slice qa Q.length qc] 30)).heap.size = w.heap.size + 1 from by simp] at r3
  have HR3 := Lib.hid r3
  obtain ⟨W3, hW3⟩ : ∃ W, W = (w.alloc (.cells #[.bool sm, .bool ex, .string B, .slice pa P.length pc, .bool hq, .slice qa Q.length qc] 30)).alloc (.cells #[.bool sm, .bool ex, .string B, .slice pa P.length pc, .bool hq, .slice qa Q.length qc] 30) := ⟨_, rfl⟩
  obtain ⟨n1, hn1⟩ : ∃ n, n = w.heap.size := ⟨_, rfl⟩
  rw [← hW3, ← hn1] at HM1 HR3
  rw [← hW3, ← hn1]
  have hn1' := Lib.hid hn1
  clear HM0 r3 hW3 hn1 x0 x1 x2 x3 x4 x5
  obtain ⟨x0, x1, x2, x3, x4, x5⟩ := HM1.out.cells
  refine wp_region_noPanic ?_
  refine wp_region_held_drew (S := fun W => W.cell? ⟨n1, 3, none⟩ = some (.slice pa P.length pc) ∧ W.cell? ⟨n1, 5, none⟩ = some (.slice qa Q.length qc)) (by kernel_rfl) ?_ (fun hH => ?_)
  · exact ⟨x3, x5⟩
  refine Reg.take (i := 0) (u := ?b1_v0) rfl rfl rfl (by kernel_rfl) (by kernel_rfl) (by kernel_rfl) hH ?b1_y0 ?b1_r0
  case b1_y0 => (intro w hSw; (try dsimp only at hSw); go_simp; try (with_reducible rfl))
  case' b1_r0 => simp only [List.setIfInBounds_toArray, List.set_cons_zero, List.set_cons_succ]
  refine Reg.take (i := 1) (u := ?b1_v1) rfl rfl rfl (by kernel_rfl) (by kernel_rfl) (by kernel_rfl) hH ?b1_y1 ?b1_r1
  case b1_y1 => (intro w hSw; (try dsimp only at hSw); go_simp; try (with_reducible rfl))
  case' b1_r1 => simp only [List.setIfInBounds_toArray, List.set_cons_zero, List.set_cons_succ]
  refine Reg.take (i := 3) (u := ?b1_v3) rfl rfl rfl (by kernel_rfl) (by kernel_rfl) (by kernel_rfl) hH ?b1_y3 ?b1_r3
  case b1_y3 => (intro w hSw; (try dsimp only at hSw); go_simp; try (with_reducible rfl))
  case' b1_r3 => simp only [List.setIfInBounds_toArray, List.set_cons_zero, List.set_cons_succ]
  refine Reg.take (i := 4) (u := ?b1_v4) rfl rfl rfl (by kernel_rfl) (by kernel_rfl) (by kernel_rfl) hH ?b1_y4 ?b1_r4
  case b1_y4 => (intro w hSw; (try dsimp only at hSw); go_simp; try (with_reducible rfl))
  case' b1_r4 => simp only [List.setIfInBounds_toArray, List.set_cons_zero, List.set_cons_succ]
  refine Reg.only (i := 2) rfl (Reg.wanted_free rfl) (by kernel_rfl) (fun K hK => ?_)
  go_simp
  refine (own25_any pa pc P _ (Rd.drew HM1.out.pl) (by omega) hPc hpc).mono ?_
  rintro e w4 ⟨v4, rfl, hO4, h4⟩
  obtain ⟨a4, c4, hv4, hc4, hm4, hR4⟩ := OwnParts.form hO4
  subst hv4
  have M4 := (HM1.out.below (W' := W3.drew) ⟨rfl, rfl, rfl, Nat.le_refl _, fun _ _ => rfl⟩).below h4
  have r4 := (h4.block _ (lt_of_cells HR3.out)).trans HR3.out
  refine hK.out _ _ ?_ (fun hH2 => ?_)
  · exact ⟨M4.cells.2.2.2.1, M4.cells.2.2.2.2.2⟩
  clear hK hH
  have hH := hH2; clear hH2
  try simp only [Act.put, List.setIfInBounds_toArray, List.set_cons_zero, List.set_cons_succ]
  refine Reg.take (i := 6) (u := ?b1_v6) rfl rfl rfl (by kernel_rfl) (by kernel_rfl) (by kernel_rfl) hH ?b1_y6 ?b1_r6
  case b1_y6 => (intro w hSw; (try dsimp only at hSw); go_simp; try (with_reducible rfl))
  case' b1_r6 => simp only [List.setIfInBounds_toArray, List.set_cons_zero, List.set_cons_succ]
  refine Reg.only (i := 5) rfl (Reg.wanted_free rfl) (by kernel_rfl) (fun K hK => ?_)
  go_simp
  refine (own25_any qa qc Q _ M4.pm (by omega) hQc hqc).mono ?_
  rintro e w5 ⟨v5, rfl, hO5, h5⟩
  obtain ⟨a5, c5, hv5, hc5, hm5, hR5⟩ := OwnParts.form hO5
  subst hv5
  have M5 := M4.below h5
  have r5 := (h5.block _ (lt_of_cells r4)).trans r4
  have hR4' := Rd.below hR4 h5
  refine hK.out _ _ ?_ (fun hH2 => ?_)
  · exact ⟨M5.cells.2.2.2.1, M5.cells.2.2.2.2.2⟩
  clear hK hH
  have hH := hH2; clear hH2
  try simp only [Act.put, List.setIfInBounds_toArray, List.set_cons_zero, List.set_cons_succ]
  have y0 := cell_list r5 0
  have y1 := cell_list r5 1
  have y2 := cell_list r5 2
  have y4 := cell_list r5 4
  have y3 := cell_list r5 3
  have y5 := cell_list r5 5
  have yf := frozen_list r5
  simp only [List.getElem?_cons_zero, List.getElem?_cons_succ] at y0 y1 y2 y3 y4 y5
  refine Reg.only (i := 7) rfl (Reg.wanted_free rfl) (by kernel_rfl) (fun K hK => ?_)
  go_simp
  refine hK.out _ _ ?_ (fun hH2 => ?_)
  · exact ⟨(World.cell?_of_block (Below.heap_setCell _ _ _ _ (by show n1 ≠ n1 + 1; omega))).trans hH.1, (World.cell?_of_block (Below.heap_setCell _ _ _ _ (by show n1 ≠ n1 + 1; omega))).trans hH.2⟩
  clear hK hH
  have hH := hH2; clear hH2
  try simp only [Act.put, List.setIfInBounds_toArray, List.set_cons_zero, List.set_cons_succ]
  refine Reg.take (i := 8) (u := ?b1_v8) rfl rfl rfl (by kernel_rfl) (by kernel_rfl) (by kernel_rfl) hH ?b1_y8 ?b1_r8
  case b1_y8 => (intro w hSw; (try dsimp only at hSw); go_simp; try (with_reducible rfl))
  case' b1_r8 => simp only [List.setIfInBounds_toArray, List.set_cons_zero, List.set_cons_succ]
  refine Reg.only (i := 9) rfl (Reg.wanted_free rfl) (by kernel_rfl) (fun K hK => ?_)
  go_simp
  refine hK.out _ _ ?_ (fun hH2 => ?_)
  · exact ⟨(World.cell?_of_block (Below.heap_setCell _ _ _ _ (by show n1 ≠ n1 + 1; omega))).trans hH.1, (World.cell?_of_block (Below.heap_setCell _ _ _ _ (by show n1 ≠ n1 + 1; omega))).trans hH.2⟩
  clear hK hH
  have hH := hH2; clear hH2
  try simp only [Act.put, List.setIfInBounds_toArray, List.set_cons_zero, List.set_cons_succ]
  refine wpAnyH_done (by kernel_rfl) ?_ _
  refine NoPanic.normal ?_
  have W5r : ((w5.setCell ⟨n1 + 1, 3, none⟩ (.slice a4 P.length c4)).setCell ⟨n1 + 1, 5, none⟩ (.slice a5 Q.length c5)).heap[n1 + 1]? = some (.cells [.bool sm, .bool ex, .string B, .slice a4 P.length c4, .bool hq, .slice a5 Q.length c5].toArray 30 (0, 0)) := set_list (set_list r5 3 _) 5 _
  have M6 : TB w ((w5.setCell ⟨n1 + 1, 3, none⟩ (.slice a4 P.length c4)).setCell ⟨n1 + 1, 5, none⟩ (.slice a5 Q.length c5)) n1 sm ex B pa pc P hq qa qc Q := by
    have b6 := (M5.bl.setCell (p := ⟨n1 + 1, 3, none⟩) (by have := hn1'.out; show w.heap.size ≤ n1 + 1; omega) (.slice a4 P.length c4)).setCell (p := ⟨n1 + 1, 5, none⟩) (by have := hn1'.out; show w.heap.size ≤ n1 + 1; omega) (.slice a5 Q.length c5)
    exact ⟨(Below.heap_setCell _ _ _ _ (by show n1 ≠ n1 + 1; omega)).trans ((Below.heap_setCell _ _ _ _ (by show n1 ≠ n1 + 1; omega)).trans M5.row), Rd.below HP0.out b6, Rd.below HQ0.out b6, b6⟩
  have hR6 : Parts ((w5.setCell ⟨n1 + 1, 3, none⟩ (.slice a4 P.length c4)).setCell ⟨n1 + 1, 5, none⟩ (.slice a5 Q.length c5)) a4 P.length P := by
    have hl : ∀ ad : Addr, a4 = some ad → ad.block ≠ n1 + 1 := fun ad e => by
      have q1 : W3.heap.size ≤ ad.block := (hO4.lt ad.block (by rw [e]; rfl)).1
      have q2 := lt_of_cells HR3.out
      omega
    exact Rd.setCell (Rd.setCell hR4' hl _) hl _
  have hR7 : Parts ((w5.setCell ⟨n1 + 1, 3, none⟩ (.slice a4 P.length c4)).setCell ⟨n1 + 1, 5, none⟩ (.slice a5 Q.length c5)) a5 Q.length Q := by
    have hl : ∀ ad : Addr, a5 = some ad → ad.block ≠ n1 + 1 := fun ad e => by have := (hO5.lt ad.block (by rw [e]; rfl)).1; have := lt_of_cells r4; omega
    exact Rd.setCell (Rd.setCell hR5 hl _) hl _
  obtain ⟨W6, hW6⟩ : ∃ W, W = (w5.setCell ⟨n1 + 1, 3, none⟩ (.slice a4 P.length c4)).setCell ⟨n1 + 1, 5, none⟩ (.slice a5 Q.length c5) := ⟨_, rfl⟩
  rw [← hW6] at M6 hR6 hR7 W5r
  have z0 := cell_list W5r 0
  have z1 := cell_list W5r 1
  have z2 := cell_list W5r 2
  have z3 := cell_list W5r 3
  have z4 := cell_list W5r 4
  have z5 := cell_list W5r 5
  simp only [List.getElem?_cons_zero, List.getElem?_cons_succ] at z0 z1 z2 z3 z4 z5
  have hhl : h.length ≤ 1000 := by have := HBz.out; omega
  have tt := targetText_any sm ex hq h a4 a5 c4 c5 P Q W6 (hN.below M6.bl hN.lt) hR6 hR7 hhl (by omega) (by omega) hc4 hc5 hm4 hm5 (fun p hp => by have := HPT.out p hp; omega) (fun p hp => by have := HQT.out p hp; omega)
  have rt := fun W hn hp hq' => refTargetText_any sm ex hq h pa qa pc qc P Q W hn hp hq' hhl (by omega) (by omega) hPc hQc hpc hqc (fun p hp => by have := HPT.out p hp; omega) (fun p hp => by have := HQT.out p hp; omega)
  unfold tgtV at tt rt
  rw [HB.out] at tt rt
  obtain ⟨⟨o1, o2⟩, hO⟩ : ∃ O, tgtText sm ex h P hq Q = O := ⟨_, rfl⟩
  rw [hO] at tt rt
  have st := fun W h1 h2 h3 h4 => sameTarget_any sm ex hq h a4 pa a5 qa c4 pc c5 qc P Q W h1 h2 h3 h4 (by omega) (by omega)
  unfold tgtV at st
  rw [HB.out] at st
  have HW6 := Lib.hid hW6
  have TT := Lib.hid tt
  have HM6 := Lib.hid M6
  have HR6 := Lib.hid hR6
  have HR7 := Lib.hid hR7
  have HZ := Lib.hid W5r
  clear hW6 tt M6 hR6 hR7 W5r hO hH hR4 hO4 h4 M4 r4 hR5 hO5 h5 M5 r5 hR4' HR3 HM1
  simp only [] at TT
  go_wp2_with fail
  rw [← HW6.out]
  refine TT.out.mono ?_
  rintro e w7 ⟨rfl, h7⟩
  have M7 := HM6.out.below h7
  have HM7 := Lib.hid M7
  have r7 := (h7.block _ (lt_of_cells HZ.out)).trans HZ.out
  have R7 := Rd.below HR6.out h7
  have Q7 := Rd.below HR7.out h7
  clear M7 z0 z1 z2 z3 z4 z5 x0 x1 x2 x3 x4 x5 y0 y1 y2 y3 y4 y5 yf TT HM6 HR6 HR7 HZ HW6 h7
  obtain ⟨x0, x1, x2, x3, x4, x5⟩ := HM7.out.cells
  go_wp2_with fail
  refine (rt _ (hN.below HM7.out.bl hN.lt) HM7.out.pl HM7.out.pm).mono ?_
  rintro e w8 ⟨rfl, h8⟩
  have M8 := HM7.out.below h8
  have HM8 := Lib.hid M8
  have r8 := (h8.block _ (lt_of_cells r7)).trans r7
  have R8 := Rd.below R7 h8
  have Q8 := Rd.below Q7 h8
  have z0 := cell_list r8 0
  have z1 := cell_list r8 1
  have z2 := cell_list r8 2
  have z3 := cell_list r8 3
  have z4 := cell_list r8 4
  have z5 := cell_list r8 5
  simp only [List.getElem?_cons_zero, List.getElem?_cons_succ] at z0 z1 z2 z3 z4 z5
  have HR8 := Lib.hid R8
  have HQ8 := Lib.hid Q8
  clear M8 x0 x1 x2 x3 x4 x5 rt r7 R7 Q7 h8 HM7 R8 Q8 r8
  obtain ⟨x0, x1, x2, x3, x4, x5⟩ := HM8.out.cells
  go_wp2_with fail
  refine (st _ HR8.out HM8.out.pl HQ8.out HM8.out.pm).mono ?_
  rintro e w9 ⟨rfl, h9⟩
  have b9 := HM8.out.bl.trans (h9.mono HM8.out.bl.size)
  go_wp2_with fail
  refine (ha _ (hN.below b9 hN.lt)).mono ?_
  rintro e wA ⟨rfl, hA⟩
  go_wp2_with fail
  go_ret
  exact ⟨rfl, b9.trans (hA.mono b9.size)⟩
end Go.Proofs.YtllklgalghmnfaaDoor
