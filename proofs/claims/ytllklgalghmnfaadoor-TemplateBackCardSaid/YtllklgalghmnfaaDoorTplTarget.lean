/- template.ReadTarget. -/
import Derived.Test.YtllklgalghmnfaaDoorTplTargetMem
import Derived.Test.YtllklgalghmnfaaDoorAnyBytes
import Derived.RegionTactic
import Derived.WalkMore
import Derived.Deep.LoopGhost
namespace Go.Proofs.YtllklgalghmnfaaDoor
open Go.RowKit Str Mem Tp
set_option linter.unusedVariables false
set_option linter.unusedSimpArgs false

set_option maxRecDepth 100000 in
set_option maxHeartbeats 8000000 in
theorem target_cap (s : Tp.Bs) (w : World) (hs : s.length ≤ 100000) (hN : Nm w) : Calls Tryd.prog 14 #[.string (bs s)] w fun e w' => TargetCap (targetR s) w e w' := by
  obtain ⟨P, hP⟩ : ∃ P : Ending → World → Prop, P = TargetCap (targetR s) w := ⟨_, rfl⟩
  have HP := Lib.hid hP
  rw [← hP]
  clear hP
  have hq := fun W h => parse_any s W hs h
  have hTR : targetR s = targetR s := rfl
  conv at hTR => rhs; unfold targetR
  have hwell : (parseR s).e = 0 → _ := fun h => parse_well h
  obtain ⟨R, hR⟩ : ∃ R, parseR s = R := ⟨_, rfl⟩
  rw [hR] at hq hTR hwell
  obtain ⟨LR, er, ea⟩ := R
  simp only [] at hTR hwell
  have HTR := Lib.hid hTR
  have HWL := Lib.hid hwell
  clear hTR hwell hR
  have hb0 := ((Below.refl _ w).alloc (Nat.le_refl _) (.cells #[.bool false, .bool false, .string ⟨#[]⟩, .slice none 0 0, .bool false, .slice none 0 0] 30)).alloc (by simp) (.cells #[.int .i64 0, .int .i64 0] 26)
  have hrt0 := (Below.heap_alloc (w.alloc (.cells #[.bool false, .bool false, .string ⟨#[]⟩, .slice none 0 0, .bool false, .slice none 0 0] 30)) (.cells #[.int .i64 0, .int .i64 0] 26) w.heap.size (by simp)).trans (World.alloc_heap_new w (.cells #[.bool false, .bool false, .string ⟨#[]⟩, .slice none 0 0, .bool false, .slice none 0 0] 30))
  have hrf0 := World.alloc_heap_new (w.alloc (.cells #[.bool false, .bool false, .string ⟨#[]⟩, .slice none 0 0, .bool false, .slice none 0 0] 30)) (.cells #[.int .i64 0, .int .i64 0] 26)
  obtain ⟨B, hB⟩ : ∃ B, B = bs s := ⟨_, rfl⟩
  have hcp := fun W => cutScheme_any s hs W
  rw [← hB] at hq hcp ⊢
  have HB := Lib.hid hB
  have hBz : B.size = s.length := by rw [hB, size_bs]
  have HBZ := Lib.hid hBz
  have hBx : ∀ k, B.extract k B.size = bs (s.drop k) := fun k => eq_of_data (by rw [extract_from, hB, data_bs, data_bs])
  have HBX := Lib.hid hBx
  have hBl : B.toList = s := by rw [toList_data, hB, data_bs]
  have HBL := Lib.hid hBl
  have hB6 : B.size ≤ 100000 := by omega
  clear hB hBz hBx hBl
  go_enter Tryd.func14, Tryd.ntmps14
  go_wp2_with fail
  go_step3
  go_wp2_with fail
  refine (hq _ (hN.below hb0 hN.lt)).mono ?_
  rintro e w1 ⟨v, rfl, hO, h1⟩
  have hb1 := hb0.trans (h1.mono hb0.size)
  have hrt1 := (h1.block _ (lt_of_cells hrt0)).trans hrt0
  have hrf1 := (h1.block _ (lt_of_cells hrf0)).trans hrf0
  rw [World.size_alloc] at hrf1
  have l1 := lt_of_cells hrf1
  clear hO h1 hb0 hrt0 hrf0
  by_cases he : ¬ er = 0
  · clear hq
    have heb : (er != 0) = true := by simpa using he
    have hT : targetR s = .fault er ea := by rw [HTR.out, if_pos he]
    have HT := Lib.hid hT
    have hW := (Below.refl _ w1).alloc (Nat.le_refl _) (.cells #[.int .i64 er, .int .i64 ea] 26)
    have hr5 := World.alloc_heap_new w1 (.cells #[.int .i64 er, .int .i64 ea] 26)
    have hrt := (hW.block _ (by omega)).trans hrt1
    have hrf := (hW.block _ l1).trans hrf1
    have hb2 := hb1.alloc hb1.size (.cells #[.int .i64 er, .int .i64 ea] 26)
    clear he hT
    go_wp2_with fail
    obtain ⟨W, hWe⟩ : ∃ W, W = w1.alloc (.cells #[.int .i64 er, .int .i64 ea] 26) := ⟨_, rfl⟩
    obtain ⟨n5, hn5⟩ : ∃ n5, n5 = w1.heap.size := ⟨_, rfl⟩
    rw [← hWe] at hr5 hrt hrf hb2 ⊢
    rw [← hn5] at hr5 ⊢
    have hne : ¬ n5 = w.heap.size := by omega
    have hne2 : ¬ n5 = w.heap.size + 1 := by omega
    clear hW hWe hn5 l1 hb1 hrt1 hrf1
    have t0 := cell_list hrt 0
    have t1 := cell_list hrt 1
    have t2 := cell_list hrt 2
    have t3 := cell_list hrt 3
    have t4 := cell_list hrt 4
    have t5 := cell_list hrt 5
    have tf := frozen_list hrt
    have f0 := cell_list hrf 0
    have f1 := cell_list hrf 1
    have ff := frozen_list hrf
    simp only [List.getElem?_cons_zero, List.getElem?_cons_succ] at t0 t1 t2 t3 t4 t5 f0 f1
    have e0 := cell_list (cs := [.int .i64 er, .int .i64 ea]) hr5 0
    have e1 := cell_list (cs := [.int .i64 er, .int .i64 ea]) hr5 1
    simp only [List.getElem?_cons_zero, List.getElem?_cons_succ] at e0 e1
    go_region
    all_goals
      go_wp2_with fail
      have hE9 := tEnd hrt hrf hb2 (.bool false) (.bool false) (.string ⟨#[]⟩) (.slice none 0 0) (.bool false) (.slice none 0 0) (.int .i64 er) (.int .i64 ea)
      obtain ⟨hr6, hr7, hb9⟩ := hE9
      obtain ⟨W9, hW9⟩ : ∃ W9, W9 = set2 (set6 W w.heap.size (.bool false) (.bool false) (.string ⟨#[]⟩) (.slice none 0 0) (.bool false) (.slice none 0 0)) (w.heap.size + 1) (.int .i64 er) (.int .i64 ea) := ⟨_, rfl⟩
      rw [← hW9] at hr6 hr7 hb9 
      unfold set2 set6 at hW9
      rw [← hW9]
      clear hW9
      have hr6 : W9.drew.heap[w.heap.size]? = _ := hr6
      have hr7 : W9.drew.heap[w.heap.size + 1]? = _ := hr7
      have hb9 := hb9.drew
      obtain ⟨W8, hW8⟩ : ∃ W8, W8 = W9.drew := ⟨_, rfl⟩
      rw [← hW8] at hr6 hr7 hb9 ⊢
      clear hW8
      have z0 := cell_list hr6 0
      have z1 := cell_list hr6 1
      have z2 := cell_list hr6 2
      have z3 := cell_list hr6 3
      have z4 := cell_list hr6 4
      have z5 := cell_list hr6 5
      have y0 := cell_list hr7 0
      have y1 := cell_list hr7 1
      simp only [List.getElem?_cons_zero, List.getElem?_cons_succ] at z0 z1 z2 z3 z4 z5 y0 y1
      try rw [Exit.noGoto_ret]
      refine bodyPost_ret (v := .tuple #[.agg #[.bool false, .bool false, .string ⟨#[]⟩, .slice none 0 0, .bool false, .slice none 0 0], .agg #[.int .i64 er, .int .i64 ea]]) (by simp [results, Tryd.results14, go_sem, z0, z1, z2, z3, z4, z5, y0, y1]) rfl ?_
      rw [HP.out, HT.out]
      exact ⟨none, 0, none, 0, rfl, Parts.nil _ _, Parts.nil _ _, hb9, Nat.le_refl _, Nat.zero_le _, Nat.le_refl _, Nat.zero_le _⟩
  have he0 : er = 0 := by omega
  subst he0
  obtain ⟨hw96, hwp, _⟩ := HWL.out rfl
  have HWP := Lib.hid hwp
  clear he hwp HWL hq
  have hW := (Below.refl _ w1).alloc (Nat.le_refl _) (.cells #[.int .i64 0, .int .i64 ea] 26)
  have hrt := (hW.block _ (by omega)).trans hrt1
  have hrf := (hW.block _ l1).trans hrf1
  have hb2 := hb1.alloc hb1.size (.cells #[.int .i64 0, .int .i64 ea] 26)
  clear hW
  have t0 := cell_list hrt 0
  have t1 := cell_list hrt 1
  have t2 := cell_list hrt 2
  have t3 := cell_list hrt 3
  have t4 := cell_list hrt 4
  have t5 := cell_list hrt 5
  have tf := frozen_list hrt
  have f0 := cell_list hrf 0
  have f1 := cell_list hrf 1
  have ff := frozen_list hrf
  simp only [List.getElem?_cons_zero, List.getElem?_cons_succ] at t0 t1 t2 t3 t4 t5 f0 f1
  by_cases hse : s = []
  · have hBe : B.toList.isEmpty = true := by rw [HBL.out, hse]; rfl
    have hT : targetR s = .fault 2 0 := by rw [HTR.out, if_neg (by simp), if_pos hse]
    have HT := Lib.hid hT
    clear hse hT
    go_wp2_with fail
    obtain ⟨W, hWe⟩ : ∃ W, W = w1.alloc (.cells #[.int .i64 0, .int .i64 ea] 26) := ⟨_, rfl⟩
    rw [← hWe] at hrt hrf hb2 ⊢
    have hE9 := tEnd hrt hrf hb2 (.bool false) (.bool false) (.string ⟨#[]⟩) (.slice none 0 0) (.bool false) (.slice none 0 0) (.int .i64 2) (.int .i64 0)
    obtain ⟨hr6, hr7, hb9⟩ := hE9
    obtain ⟨W9, hW9⟩ : ∃ W9, W9 = set2 (set6 W w.heap.size (.bool false) (.bool false) (.string ⟨#[]⟩) (.slice none 0 0) (.bool false) (.slice none 0 0)) (w.heap.size + 1) (.int .i64 2) (.int .i64 0) := ⟨_, rfl⟩
    rw [← hW9] at hr6 hr7 hb9 
    unfold set2 set6 at hW9
    rw [← hW9]
    clear hW9
    have z0 := cell_list hr6 0
    have z1 := cell_list hr6 1
    have z2 := cell_list hr6 2
    have z3 := cell_list hr6 3
    have z4 := cell_list hr6 4
    have z5 := cell_list hr6 5
    have y0 := cell_list hr7 0
    have y1 := cell_list hr7 1
    simp only [List.getElem?_cons_zero, List.getElem?_cons_succ] at z0 z1 z2 z3 z4 z5 y0 y1
    try rw [Exit.noGoto_ret]
    refine bodyPost_ret (v := .tuple #[.agg #[.bool false, .bool false, .string ⟨#[]⟩, .slice none 0 0, .bool false, .slice none 0 0], .agg #[.int .i64 2, .int .i64 0]]) (by simp [results, Tryd.results14, go_sem, z0, z1, z2, z3, z4, z5, y0, y1]) rfl ?_
    rw [HP.out, HT.out]
    exact ⟨none, 0, none, 0, rfl, Parts.nil _ _, Parts.nil _ _, hb9, Nat.le_refl _, Nat.zero_le _, Nat.le_refl _, Nat.zero_le _⟩
  have hBe : B.toList.isEmpty = false := by rw [HBL.out]; simpa using hse
  by_cases hsm : s = [45]
  · have hBs : (B.toList == [45]) = true := by rw [HBL.out, hsm]; rfl
    have hT : targetR s = ⟨true, false, [], [], false, [], 0, 0⟩ := by rw [HTR.out, if_neg (by simp), if_neg hse, if_pos hsm]
    have HT := Lib.hid hT
    clear hse hsm hT
    go_wp2_with fail
    obtain ⟨W, hWe⟩ : ∃ W, W = w1.alloc (.cells #[.int .i64 0, .int .i64 ea] 26) := ⟨_, rfl⟩
    rw [← hWe] at hrt hrf hb2 ⊢
    have hE9 := tEnd hrt hrf hb2 (.bool true) (.bool false) (.string ⟨#[]⟩) (.slice none 0 0) (.bool false) (.slice none 0 0) (.int .i64 0) (.int .i64 0)
    obtain ⟨hr6, hr7, hb9⟩ := hE9
    obtain ⟨W9, hW9⟩ : ∃ W9, W9 = set2 (set6 W w.heap.size (.bool true) (.bool false) (.string ⟨#[]⟩) (.slice none 0 0) (.bool false) (.slice none 0 0)) (w.heap.size + 1) (.int .i64 0) (.int .i64 0) := ⟨_, rfl⟩
    rw [← hW9] at hr6 hr7 hb9 
    unfold set2 set6 at hW9
    rw [← hW9]
    clear hW9
    have z0 := cell_list hr6 0
    have z1 := cell_list hr6 1
    have z2 := cell_list hr6 2
    have z3 := cell_list hr6 3
    have z4 := cell_list hr6 4
    have z5 := cell_list hr6 5
    have y0 := cell_list hr7 0
    have y1 := cell_list hr7 1
    simp only [List.getElem?_cons_zero, List.getElem?_cons_succ] at z0 z1 z2 z3 z4 z5 y0 y1
    try rw [Exit.noGoto_ret]
    refine bodyPost_ret (v := .tuple #[.agg #[.bool true, .bool false, .string ⟨#[]⟩, .slice none 0 0, .bool false, .slice none 0 0], .agg #[.int .i64 0, .int .i64 0]]) (by simp [results, Tryd.results14, go_sem, z0, z1, z2, z3, z4, z5, y0, y1]) rfl ?_
    rw [HP.out, HT.out]
    exact ⟨none, 0, none, 0, rfl, Parts.nil _ _, Parts.nil _ _, hb9, Nat.le_refl _, Nat.zero_le _, Nat.le_refl _, Nat.zero_le _⟩
  have hBs : (B.toList == [45]) = false := by rw [HBL.out]; simpa using hsm
  have hTR := HTR.out
  rw [if_neg (by simp), if_neg hse, if_neg hsm] at hTR
  have HTR2 := Lib.hid hTR
  clear hTR HTR hse hsm t0 t1 t2 t3 t4 t5 tf f0 f1 ff
  obtain ⟨W1, hW1⟩ : ∃ W, W = w1.alloc (.cells #[.int .i64 0, .int .i64 ea] 26) := ⟨_, rfl⟩
  rw [← hW1] at hrt hrf hb2
  have l2 := lt_of_cells hrf
  have hM0 : TM w (W1.alloc (.cells #[.bool false, .bool false, .string ⟨#[]⟩, .slice none 0 0, .bool false, .slice none 0 0] 30)) W1.heap.size false [] (.slice none 0 0) false (.slice none 0 0) [] :=
    ⟨(Below.heap_alloc _ _ _ (by omega)).trans hrt, (Below.heap_alloc _ _ _ l2).trans hrf, World.alloc_heap_new _ _, l2, hb2.alloc hb2.size _, Owns.nil _ _ _ _⟩
  have HM0 := Lib.hid hM0
  clear hM0 hrt hrf hrt1 hrf1 hb1 hb2
  have hz1 : W1.heap.size = w1.heap.size + 1 := by rw [hW1]; simp
  rw [hz1] at HM0
  have hBk : ∀ (k : Nat) (b : UInt8) (h : k < B.size), s[k]? = some b → B[k] = b := fun k b h hb => by
    rw [get_data B k h]
    have : B.data.toList = s := by rw [HB.out, data_bs]
    have h2 : B.data.toList[k]? = some b := by rw [this]; exact hb
    exact (List.getElem?_eq_some_iff.1 h2).2
  have HBK := Lib.hid hBk
  clear hBk hz1
  rcases hpre : schemeS.isPrefixOf s with _ | _
  · have hT0 : targetR s = restR false [] 0 (pieces (s.drop 0) 0).1 := by
      rw [HTR2.out, if_neg (by rw [hpre]; simp)]; rfl
    have HT0 := Lib.hid hT0
    rw [hpre] at hcp
    have hat : 0 ≤ s.length := Nat.zero_le _
    have HPN : Hid ((pieces (s.drop 0) 0).2 = none) := HWP
    clear hT0 hpre
    go_wp2_with fail
    obtain ⟨n6, hn6⟩ : ∃ n6, n6 = w1.heap.size + 1 := ⟨_, rfl⟩
    obtain ⟨W2, hW2⟩ : ∃ W, W = (w1.alloc (.cells #[.int .i64 0, .int .i64 ea] 26)).alloc (.cells #[.bool false, .bool false, .string ⟨#[]⟩, .slice none 0 0, .bool false, .slice none 0 0] 30) := ⟨_, rfl⟩
    rw [hW1, ← hW2, ← hn6] at HM0
    rw [← hW2, ← hn6]
    clear hW2 hW1 hn6
    refine (hcp _).mono ?_
    rintro e w2 ⟨rfl, rfl⟩
    go_wp2_with fail
    go_step3
    go_wp2_with fail
    go_loopg [7] s.length (fun g s7 W => TI w s n6 false [] 0 g s7 W)
    case atStart => exact ⟨0, [], [], .slice none 0 0, rfl, hat, by omega, rfl, HPN.out, by simp, rfl, by simp, by simp, HM0.out⟩
    case round =>
      obtain ⟨k, D, L, v, rfl, hk, hkg, hpc, hpn, hnq, hL, hLk, hLt, hm⟩ := hrel
      have HPC := Lib.hid hpc
      have HPK := Lib.hid hpn
      have HNQ := Lib.hid hnq
      have HL := Lib.hid hL
      have HT := Lib.hid hLt
      have HM := Lib.hid hm
      have hNW : Nm wr := hN.below hm.bl hN.lt
      clear hpc hpn hnq hL hLt hm
      by_cases hlt : k < s.length
      · obtain ⟨g', rfl⟩ : ∃ g', gk = g' + 1 := ⟨gk - 1, by omega⟩
        obtain ⟨b, r, hdr⟩ : ∃ b r, s.drop k = b :: r := ⟨_, _, List.drop_eq_getElem_cons hlt⟩
        have hrl : r.length ≤ 96 := by have := congrArg List.length hdr; simp at this; omega
        have q2 : (0 : Int) ≤ (k : Int) := by omega
        have q3 : (k : Int) ≤ (B.size : Int) := by have := HBZ.out; omega
        have q4 : (k : Int) < (B.size : Int) := by have := HBZ.out; omega
        have hkB : k < B.size := by omega
        have hBk : B[k] = b := by
          have h1 : (s.drop k)[0]? = some b := by rw [hdr]; rfl
          rw [List.getElem?_drop, Nat.add_zero] at h1
          exact HBK.out k b hkB h1
        have hlR : (b :: r).length = s.length - k := by rw [← hdr]; simp
        have HDR := Lib.hid hdr
        clear hdr
        by_cases hb : b = 63
        · have hb63 : ((B[k].toNat : Int) == 63) = true := by rw [hBk, hb]; rfl
          have hdr1 : s.drop (k + 1) = r := by rw [← List.tail_drop, HDR.out]; rfl
          have hpk : pieces (s.drop k) k = (⟨⟨1, [63], 0⟩, k, true⟩ :: (pieces r (k + 1)).1, (pieces r (k + 1)).2) := by
            rw [HDR.out, hb, pieces_ok (rd_plain (by decide) (by decide) (by decide))]
            rfl
          have hn0 : (pieces r (k + 1)).2 = none := by have := HPK.out; rw [hpk] at this; exact this
          obtain ⟨M, hM⟩ : ∃ M, joinP ((pieces r (k + 1)).1.map (·.p)) = M := ⟨_, rfl⟩
          have HMr := Lib.hid ((parse_shift hrl hn0).trans (by rw [hM]))
          have HTt : Hid (targetR s = if placeR L = true then ⟨false, false, [], L, true, M, 0, 0⟩ else .fault 3 ((0 : Nat) : Int)) := Lib.hid (by
            rw [HT0.out, HPC.out, hpk, rest_hit HNQ.out rfl, ← HL.out, hM])
          have HBr := Lib.hid ((HBX.out (k + 1)).trans (congrArg bs hdr1))
          clear hBk hdr1 hpk hn0 hM hb
          have x0 := cell_list HM.out.tt 4
          have xf := frozen_list HM.out.tt
          have HM1 := Lib.hid (HM.out.setHq true)
          simp only [List.getElem?_cons_zero, List.getElem?_cons_succ] at x0
          obtain ⟨a, c, hv, hLc, hcm, hP⟩ := HM1.out.ow.form
          subst hv
          have hpl := fun W h => place_any a c L W h (by omega) (fun q hq => by have := HT.out q hq; omega)
          have HPt := Lib.hid hP
          have x3 := cell_list HM.out.tt 3
          simp only [List.getElem?_cons_zero, List.getElem?_cons_succ] at x3
          clear hP
          go_wp2_with fail
          refine (hpl _ HPt.out).mono ?_
          rintro e w2 ⟨rfl, h2⟩
          have M2 := HM1.out.below h2
          have HM2 := Lib.hid M2
          clear x3 hpl HPt M2
          rcases hpr : placeR L with _ | _
          · have hT : targetR s = .fault 3 ((0 : Nat) : Int) := by rw [HTt.out, if_neg (by rw [hpr]; simp)]
            have HTf := Lib.hid hT
            have hrt := HM2.out.rt
            have hrf := HM2.out.rf
            have hbl := HM2.out.bl
            clear hT hpr h2
            have t0 := cell_list hrt 0
            have t1 := cell_list hrt 1
            have t2 := cell_list hrt 2
            have t3 := cell_list hrt 3
            have t4 := cell_list hrt 4
            have t5 := cell_list hrt 5
            have tf := frozen_list hrt
            have f0 := cell_list hrf 0
            have f1 := cell_list hrf 1
            have ff := frozen_list hrf
            simp only [List.getElem?_cons_zero, List.getElem?_cons_succ] at t0 t1 t2 t3 t4 t5 f0 f1
            go_wp2_with fail
            have hE9 := tEnd hrt hrf hbl (.bool false) (.bool false) (.string ⟨#[]⟩) (.slice none 0 0) (.bool false) (.slice none 0 0) (.int .i64 3) (.int .i64 0)
            obtain ⟨hr6, hr7, hb9⟩ := hE9
            obtain ⟨W9, hW9⟩ : ∃ W9, W9 = set2 (set6 w2 w.heap.size (.bool false) (.bool false) (.string ⟨#[]⟩) (.slice none 0 0) (.bool false) (.slice none 0 0)) (w.heap.size + 1) (.int .i64 3) (.int .i64 0) := ⟨_, rfl⟩
            rw [← hW9] at hr6 hr7 hb9 
            unfold set2 set6 at hW9
            rw [← hW9]
            clear hW9
            have z0 := cell_list hr6 0
            have z1 := cell_list hr6 1
            have z2 := cell_list hr6 2
            have z3 := cell_list hr6 3
            have z4 := cell_list hr6 4
            have z5 := cell_list hr6 5
            have y0 := cell_list hr7 0
            have y1 := cell_list hr7 1
            simp only [List.getElem?_cons_zero, List.getElem?_cons_succ] at z0 z1 z2 z3 z4 z5 y0 y1
            try rw [Exit.noGoto_ret]
            refine bodyPost_ret (v := .tuple #[.agg #[.bool false, .bool false, .string ⟨#[]⟩, .slice none 0 0, .bool false, .slice none 0 0], .agg #[.int .i64 3, .int .i64 0]]) (by simp [results, Tryd.results14, go_sem, z0, z1, z2, z3, z4, z5, y0, y1]) rfl ?_
            rw [HP.out, HTf.out]
            exact ⟨none, 0, none, 0, rfl, Parts.nil _ _, Parts.nil _ _, hb9, Nat.le_refl _, Nat.zero_le _, Nat.le_refl _, Nat.zero_le _⟩
          · have hT : targetR s = ⟨false, false, [], L, true, M, 0, 0⟩ := by rw [HTt.out, if_pos hpr]
            have HTf := Lib.hid hT
            have x4 := cell_list HM2.out.tt 4
            simp only [List.getElem?_cons_zero, List.getElem?_cons_succ] at x4
            have hpq := fun W h => parse_any r W (by omega) h
            rw [HMr.out, ← HBr.out] at hpq
            have hN2 : Nm w2 := hN.below HM2.out.bl hN.lt
            have l6 := lt_of_cells HM2.out.tt
            clear hT hpr h2
            go_wp2_with fail
            refine (hpq _ hN2).mono ?_
            rintro e w3 ⟨v3, rfl, hO3, h3⟩
            obtain ⟨qa, qc, hv3, _, _, _⟩ := OwnParts.form hO3
            subst hv3
            have hO3' : OwnParts (w3.setCell ⟨n6, 5, none⟩ (.slice qa M.length qc)) (n6 + 1) (.slice qa M.length qc) M := (ownsSetOld hO3 (by show n6 < w2.heap.size; exact l6) _).mono (by omega)
            have M3 := (HM2.out.below h3).setU (.slice qa M.length qc)
            have hrt := M3.rt
            have hrf := M3.rf
            have hbl := M3.bl
            have hO9 := ownsEnd M3.ow (g := w.heap.size) (by have := HM2.out.lt; omega) (.bool false) (.bool false) (.string (bs [])) (.slice a L.length c) (.bool true) (.slice qa M.length qc) (.int .i64 0) (.int .i64 0)
            have hU9 := ownsEnd hO3' (g := w.heap.size) (by have := HM2.out.lt; omega) (.bool false) (.bool false) (.string (bs [])) (.slice a L.length c) (.bool true) (.slice qa M.length qc) (.int .i64 0) (.int .i64 0)
            have htt := (HM2.out.below h3).tt
            have xf := frozen_list (HM2.out.below h3).tt
            clear hpq hO3 hO3' h3 M3 x4
            have t0 := cell_list hrt 0
            have t1 := cell_list hrt 1
            have t2 := cell_list hrt 2
            have t3 := cell_list hrt 3
            have t4 := cell_list hrt 4
            have t5 := cell_list hrt 5
            have tf := frozen_list hrt
            have f0 := cell_list hrf 0
            have f1 := cell_list hrf 1
            have ff := frozen_list hrf
            simp only [List.getElem?_cons_zero, List.getElem?_cons_succ] at t0 t1 t2 t3 t4 t5 f0 f1
            have x0 := cell_list htt 0
            have x1 := cell_list htt 1
            have x2 := cell_list htt 2
            have x3 := cell_list htt 3
            have x4 := cell_list htt 4
            have x5 := cell_list htt 5
            simp only [List.getElem?_cons_zero, List.getElem?_cons_succ] at x0 x1 x2 x3 x4 x5
            have HO9 := Lib.hid hO9
            have HU9 := Lib.hid hU9
            clear hO9 hU9
            go_wp2_with fail
            have hO9 := HO9.out
            have hU9 := HU9.out
            clear HO9 HU9
            obtain ⟨W, hWe⟩ : ∃ W, W = w3.setCell ⟨n6, 5, none⟩ (.slice qa M.length qc) := ⟨_, rfl⟩
            rw [← hWe] at hrt hrf hbl hO9 hU9 ⊢
            have hE9 := tEnd hrt hrf hbl (.bool false) (.bool false) (.string (bs [])) (.slice a L.length c) (.bool true) (.slice qa M.length qc) (.int .i64 0) (.int .i64 0)
            obtain ⟨hr6, hr7, hb9⟩ := hE9
            obtain ⟨W9, hW9⟩ : ∃ W9, W9 = set2 (set6 W w.heap.size (.bool false) (.bool false) (.string (bs [])) (.slice a L.length c) (.bool true) (.slice qa M.length qc)) (w.heap.size + 1) (.int .i64 0) (.int .i64 0) := ⟨_, rfl⟩
            rw [← hW9] at hr6 hr7 hb9 hO9 hU9
            unfold set2 set6 at hW9
            rw [← hW9]
            clear hW9
            have z0 := cell_list hr6 0
            have z1 := cell_list hr6 1
            have z2 := cell_list hr6 2
            have z3 := cell_list hr6 3
            have z4 := cell_list hr6 4
            have z5 := cell_list hr6 5
            have y0 := cell_list hr7 0
            have y1 := cell_list hr7 1
            simp only [List.getElem?_cons_zero, List.getElem?_cons_succ] at z0 z1 z2 z3 z4 z5 y0 y1
            try rw [Exit.noGoto_ret]
            refine bodyPost_ret (v := .tuple #[.agg #[.bool false, .bool false, .string (bs []), .slice a L.length c, .bool true, .slice qa M.length qc], .agg #[.int .i64 0, .int .i64 0]]) (by simp [results, Tryd.results14, go_sem, z0, z1, z2, z3, z4, z5, y0, y1]) rfl ?_
            rw [HP.out, HTf.out]
            obtain ⟨a9, c9, e9, k1, k2, hP9⟩ := OwnParts.form hO9
            cases e9
            obtain ⟨a8, c8, e8, k3, k4, hP8⟩ := OwnParts.form hU9
            cases e8
            exact ⟨a, c, qa, qc, rfl, hP9, hP8, hb9, k1, k2, k3, k4⟩
        · have hb63 : ((B[k].toNat : Int) == 63) = false := by
            rw [hBk, beq_eq_false_iff_ne]
            exact fun h => hb (UInt8.toNat.inj (by simpa using (by omega : b.toNat = 63)))
          have HNB := Lib.hid hb
          have hq := fun W h => read_any b r (by omega) W h
          rw [← HDR.out, ← HBX.out k] at hq
          clear hBk hb
          rcases hrd : rd (b :: r) with ⟨p, n⟩ | e
          · have hv : readV (s.drop k) = .tuple #[pv p, .int .i64 n, .int .i64 0] := by unfold readV; rw [HDR.out, hrd]
            rw [hv] at hq
            obtain ⟨n1, n2⟩ := rd_len hrd
            obtain ⟨p1, p2, p3⟩ := rd_part hrd
            have hP1 := Lib.hid p2
            have HRD := Lib.hid hrd
            unfold pv at hq
            clear hv hrd p2
            go_wp2_with fail
            refine (hq _ hNW).mono ?_
            rintro e w2 ⟨rfl, h2⟩
            have hrow := World.alloc_heap_new w2 (.cells #[.int .i64 p.k, .string (bs p.t), .int .i64 p.n] 59)
            have y0 := cell_list (cs := [.int .i64 p.k, .string (bs p.t), .int .i64 p.n]) hrow 0
            have y1 := cell_list (cs := [.int .i64 p.k, .string (bs p.t), .int .i64 p.n]) hrow 1
            have y2 := cell_list (cs := [.int .i64 p.k, .string (bs p.t), .int .i64 p.n]) hrow 2
            simp only [List.getElem?_cons_zero, List.getElem?_cons_succ] at y0 y1 y2
            have M2 := (HM.out.below h2).below ((Below.refl _ w2).alloc (Nat.le_refl _) (.cells #[.int .i64 p.k, .string (bs p.t), .int .i64 p.n] 59))
            have x3 := cell_list M2.tt 3
            simp only [List.getElem?_cons_zero, List.getElem?_cons_succ] at x3
            have HM2 := Lib.hid M2
            have lz := lt_of_cells M2.tt
            have hadd := fun W h1 h2 => add_any (n6 + 1) v L p W h1 h2 (by omega) (by omega) (fun q hq => Nat.le_trans (HT.out q hq) (by omega)) hP1.out
            unfold pv at hadd
            clear hq M2
            go_wp2_with fail
            refine (hadd _ HM2.out.ow (by omega)).mono ?_
            rintro e w3 ⟨v', rfl, hO3, hg3⟩
            obtain ⟨a', c', hv', _, _, _⟩ := hO3.form
            subst hv'
            have M3 := HM2.out.app hO3 hg3
            have HM3 := Lib.hid M3
            have x3 := cell_list ((hg3.block _ (lt_of_cells HM2.out.tt) (fun e => by have := (HM2.out.ow.lt _ e.symm).1; omega)).trans HM2.out.tt) 3
            have xf := frozen_list ((hg3.block _ (lt_of_cells HM2.out.tt) (fun e => by have := (HM2.out.ow.lt _ e.symm).1; omega)).trans HM2.out.tt)
            simp only [List.getElem?_cons_zero, List.getElem?_cons_succ] at x3
            clear hadd M3 hO3 hg3 y0 y1 y2 hrow h2
            go_wp2_with fail
            go_roundg g'
            case measure => omega
            case rel =>
              refine ⟨k + n, D ++ [⟨p, k, n == 1⟩], addP L p, .slice a' (addP L p).length c', by go_num, by omega, by omega, ?_, ?_, ?_, ?_, ?_, addP_text HT.out p1, HM3.out⟩
              · rw [HPC.out, HDR.out, pieces_ok HRD.out, ← HDR.out, List.drop_drop]
                simp
              · have := HPK.out
                rw [HDR.out, pieces_ok HRD.out, ← HDR.out, List.drop_drop] at this
                exact this
              · intro q hq
                rcases List.mem_append.1 hq with hq | hq
                · exact HNQ.out q hq
                · rw [List.mem_singleton] at hq
                  rw [hq, rd_isQ HRD.out]
                  simpa using HNB.out
              · rw [List.map_append, List.map_cons, List.map_nil, joinP_snoc, HL.out]
              · have := addP_len L p; omega
          · exfalso
            have := HPK.out
            rw [HDR.out, pieces_bad (by simp) hrd] at this
            cases this
      · obtain rfl : k = s.length := by omega
        have hnk : ¬ (s.length : Int) < (B.size : Int) := by have := HBZ.out; omega
        have HTt : Hid (targetR s = if placeR L = true then ⟨false, false, [], L, false, [], 0, 0⟩ else .fault 3 ((0 : Nat) : Int)) := Lib.hid (by
          rw [HT0.out, HPC.out, List.drop_length, pieces_nil, List.append_nil, rest_end HNQ.out, ← HL.out])
        obtain ⟨a, c, hv, hLc, hcm, hP⟩ := HM.out.ow.form
        subst hv
        have hpl := fun W h => place_any a c L W h (by omega) (fun q hq => by have := HT.out q hq; omega)
        have HPt := Lib.hid hP
        have x3 := cell_list HM.out.tt 3
        simp only [List.getElem?_cons_zero, List.getElem?_cons_succ] at x3
        clear hP
        go_wp2_with fail
        refine (hpl _ HPt.out).mono ?_
        rintro e w2 ⟨rfl, h2⟩
        have M2 := HM.out.below h2
        have HM2 := Lib.hid M2
        clear x3 hpl HPt M2
        rcases hpr : placeR L with _ | _
        · have hT : targetR s = .fault 3 ((0 : Nat) : Int) := by rw [HTt.out, if_neg (by rw [hpr]; simp)]
          have HTf := Lib.hid hT
          have hrt := HM2.out.rt
          have hrf := HM2.out.rf
          have hbl := HM2.out.bl
          clear hT hpr h2
          have t0 := cell_list hrt 0
          have t1 := cell_list hrt 1
          have t2 := cell_list hrt 2
          have t3 := cell_list hrt 3
          have t4 := cell_list hrt 4
          have t5 := cell_list hrt 5
          have tf := frozen_list hrt
          have f0 := cell_list hrf 0
          have f1 := cell_list hrf 1
          have ff := frozen_list hrf
          simp only [List.getElem?_cons_zero, List.getElem?_cons_succ] at t0 t1 t2 t3 t4 t5 f0 f1
          go_wp2_with fail
          have hE9 := tEnd hrt hrf hbl (.bool false) (.bool false) (.string ⟨#[]⟩) (.slice none 0 0) (.bool false) (.slice none 0 0) (.int .i64 3) (.int .i64 0)
          obtain ⟨hr6, hr7, hb9⟩ := hE9
          obtain ⟨W9, hW9⟩ : ∃ W9, W9 = set2 (set6 w2 w.heap.size (.bool false) (.bool false) (.string ⟨#[]⟩) (.slice none 0 0) (.bool false) (.slice none 0 0)) (w.heap.size + 1) (.int .i64 3) (.int .i64 0) := ⟨_, rfl⟩
          rw [← hW9] at hr6 hr7 hb9 
          unfold set2 set6 at hW9
          rw [← hW9]
          clear hW9
          have z0 := cell_list hr6 0
          have z1 := cell_list hr6 1
          have z2 := cell_list hr6 2
          have z3 := cell_list hr6 3
          have z4 := cell_list hr6 4
          have z5 := cell_list hr6 5
          have y0 := cell_list hr7 0
          have y1 := cell_list hr7 1
          simp only [List.getElem?_cons_zero, List.getElem?_cons_succ] at z0 z1 z2 z3 z4 z5 y0 y1
          try rw [Exit.noGoto_ret]
          refine bodyPost_ret (v := .tuple #[.agg #[.bool false, .bool false, .string ⟨#[]⟩, .slice none 0 0, .bool false, .slice none 0 0], .agg #[.int .i64 3, .int .i64 0]]) (by simp [results, Tryd.results14, go_sem, z0, z1, z2, z3, z4, z5, y0, y1]) rfl ?_
          rw [HP.out, HTf.out]
          exact ⟨none, 0, none, 0, rfl, Parts.nil _ _, Parts.nil _ _, hb9, Nat.le_refl _, Nat.zero_le _, Nat.le_refl _, Nat.zero_le _⟩
        · have hT : targetR s = ⟨false, false, [], L, false, [], 0, 0⟩ := by rw [HTt.out, if_pos hpr]
          have HTf := Lib.hid hT
          have hrt := HM2.out.rt
          have hrf := HM2.out.rf
          have hbl := HM2.out.bl
          have hO9 := ownsEnd HM2.out.ow (g := w.heap.size) (by have := HM2.out.lt; omega) (.bool false) (.bool false) (.string (bs [])) (.slice a L.length c) (.bool false) (.slice none 0 0) (.int .i64 0) (.int .i64 0)
          have htt := HM2.out.tt
          clear hT hpr h2
          have t0 := cell_list hrt 0
          have t1 := cell_list hrt 1
          have t2 := cell_list hrt 2
          have t3 := cell_list hrt 3
          have t4 := cell_list hrt 4
          have t5 := cell_list hrt 5
          have tf := frozen_list hrt
          have f0 := cell_list hrf 0
          have f1 := cell_list hrf 1
          have ff := frozen_list hrf
          simp only [List.getElem?_cons_zero, List.getElem?_cons_succ] at t0 t1 t2 t3 t4 t5 f0 f1
          have x0 := cell_list htt 0
          have x1 := cell_list htt 1
          have x2 := cell_list htt 2
          have x3 := cell_list htt 3
          have x4 := cell_list htt 4
          have x5 := cell_list htt 5
          simp only [List.getElem?_cons_zero, List.getElem?_cons_succ] at x0 x1 x2 x3 x4 x5
          have HO9 := Lib.hid hO9
          clear hO9
          go_wp2_with fail
          have hO9 := HO9.out
          clear HO9
          have hE9 := tEnd hrt hrf hbl (.bool false) (.bool false) (.string (bs [])) (.slice a L.length c) (.bool false) (.slice none 0 0) (.int .i64 0) (.int .i64 0)
          obtain ⟨hr6, hr7, hb9⟩ := hE9
          obtain ⟨W9, hW9⟩ : ∃ W9, W9 = set2 (set6 w2 w.heap.size (.bool false) (.bool false) (.string (bs [])) (.slice a L.length c) (.bool false) (.slice none 0 0)) (w.heap.size + 1) (.int .i64 0) (.int .i64 0) := ⟨_, rfl⟩
          rw [← hW9] at hr6 hr7 hb9 hO9
          unfold set2 set6 at hW9
          rw [← hW9]
          clear hW9
          have z0 := cell_list hr6 0
          have z1 := cell_list hr6 1
          have z2 := cell_list hr6 2
          have z3 := cell_list hr6 3
          have z4 := cell_list hr6 4
          have z5 := cell_list hr6 5
          have y0 := cell_list hr7 0
          have y1 := cell_list hr7 1
          simp only [List.getElem?_cons_zero, List.getElem?_cons_succ] at z0 z1 z2 z3 z4 z5 y0 y1
          try rw [Exit.noGoto_ret]
          refine bodyPost_ret (v := .tuple #[.agg #[.bool false, .bool false, .string (bs []), .slice a L.length c, .bool false, .slice none 0 0], .agg #[.int .i64 0, .int .i64 0]]) (by simp [results, Tryd.results14, go_sem, z0, z1, z2, z3, z4, z5, y0, y1]) rfl ?_
          rw [HP.out, HTf.out]
          obtain ⟨a9, c9, e9, k1, k2, hP9⟩ := OwnParts.form hO9
          cases e9
          exact ⟨a, c, none, 0, rfl, hP9, Parts.nil _ _, hb9, k1, k2, Nat.le_refl _, Nat.zero_le _⟩
  · rw [hpre] at hcp
    have hcs : cutSc s = s.drop 7 := by unfold cutSc; rw [if_pos hpre]
    rw [hcs] at hcp
    obtain ⟨hsplit, hpc, h7n⟩ := pieces_ext hpre
    have hTR := HTR2.out
    rw [if_pos hpre] at hTR
    have hho : hostOf s = (s.drop 7).takeWhile (fun b => !([47, 63, 36, 37, 92] : List UInt8).contains b) := rfl
    obtain ⟨hh, hhh⟩ : ∃ hh, hostOf s = hh := ⟨_, rfl⟩
    rw [hhh] at hTR hpc hsplit h7n hho
    have hz7 : (s.drop 7).length = s.length - 7 := by simp
    have hhx : (bs (s.drop 7)).extract 0 hh.length = bs hh := eq_of_data (by
      rw [extract_to, data_bs, data_bs, hsplit]
      show ((schemeS ++ (hh ++ _)).drop 7).take hh.length = hh
      rw [← List.append_assoc]
      simp [schemeS])
    have hia : ∀ W, Calls Tryd.prog 53 #[.string (bs (s.drop 7)), .string ⟨#[47, 63, 36, 37, 92]⟩] W fun e w' => e = .returned (.int .i64 (if hh.length < (s.drop 7).length then ((hh.length : Nat) : Int) else -1)) ∧ Below W.heap.size W w' := fun W => by
      have h := indexAny_at (bs (s.drop 7)) ⟨#[47, 63, 36, 37, 92]⟩ (by decide) (by decide) (by rw [size_bs]; omega) (by decide) W
      rw [data_bs] at h
      have e1 : Lib.indexAny (s.drop 7) [47, 63, 36, 37, 92] = _ := indexAny_tw [47, 63, 36, 37, 92] (s.drop 7)
      rw [← hho] at e1
      rw [← e1]
      exact h
    have hpn : (pieces (s.drop (7 + hh.length)) (7 + hh.length)).2 = none := by
      have := HWP.out
      rw [hpc] at this
      exact this
    have HPN := Lib.hid hpn
    have HHX := Lib.hid hhx
    have HTR3 := Lib.hid hTR
    have hB7 : (bs (s.drop 7)).size = (s.drop 7).length := size_bs _
    have hle : hh.length ≤ (s.drop 7).length := by rw [hho]; exact (List.takeWhile_sublist _).length_le
    obtain ⟨B7, hB7e⟩ : ∃ B7, bs (s.drop 7) = B7 := ⟨_, rfl⟩
    rw [hB7e] at hcp hia HHX hB7
    have HB7z := Lib.hid hB7
    have hq7 : B7.size ≤ 100000 := by rw [hB7, hz7]; omega
    have hq8 : hh.length ≤ B7.size := by omega
    clear hpre hcs hsplit hpc hTR hhx hpn hho hB7e HTR2 hhh
    go_wp2_with fail
    obtain ⟨n6, hn6⟩ : ∃ n6, n6 = w1.heap.size + 1 := ⟨_, rfl⟩
    obtain ⟨W2, hW2⟩ : ∃ W, W = (w1.alloc (.cells #[.int .i64 0, .int .i64 ea] 26)).alloc (.cells #[.bool false, .bool false, .string ⟨#[]⟩, .slice none 0 0, .bool false, .slice none 0 0] 30) := ⟨_, rfl⟩
    rw [hW1, ← hW2, ← hn6] at HM0
    rw [← hW2, ← hn6]
    clear hW2 hW1 hn6
    refine (hcp _).mono ?_
    rintro e w2 ⟨rfl, rfl⟩
    go_wp2_with fail
    refine (hia _).mono ?_
    rintro e w3 ⟨rfl, h3⟩
    have M3 := HM0.out.below h3
    have HM3 := Lib.hid M3
    have htt := M3.tt
    have x1 := cell_list htt 1
    have x2 := cell_list htt 2
    have xf := frozen_list htt
    simp only [List.getElem?_cons_zero, List.getElem?_cons_succ] at x1 x2
    clear M3 htt h3 hia hcp HM0
    by_cases h7l : hh.length < (s.drop 7).length
    · rw [if_pos h7l]
      have hnn : ¬ ((hh.length : Int) < 0) := by omega
      clear hB7 hz7 h7l hle
      go_wp2_with fail
      have hi1 : (0 : Int) ≤ (hh.length : Int) := by omega
      have hi2 : (hh.length : Int) ≤ (B7.size : Int) := by omega
      go_region
      all_goals
        rw [HHX.out]
        obtain ⟨W2, hW2⟩ : ∃ W, W = ((w3.setCell ⟨n6, 1, none⟩ (.bool true)).setCell ⟨n6, 2, none⟩ (.string (bs hh))).drew := ⟨_, rfl⟩
        have HM0 := Lib.hid ((HM3.out.setEx true hh).drew)
        rw [← hW2] at HM0
        rw [← hW2]
        clear hW2 HM3 x1 x2 xf
        by_cases hz : hh.length = 0
        · have hzb : ((hh.length : Int) == 0) = true := by rw [hz]; rfl
          have hT : targetR s = .fault 3 7 := by rw [HTR3.out, if_pos (List.eq_nil_of_length_eq_zero hz)]
          have HT := Lib.hid hT
          have hrt := HM0.out.rt
          have hrf := HM0.out.rf
          have hbl := HM0.out.bl
          clear hT hz
          have t0 := cell_list hrt 0
          have t1 := cell_list hrt 1
          have t2 := cell_list hrt 2
          have t3 := cell_list hrt 3
          have t4 := cell_list hrt 4
          have t5 := cell_list hrt 5
          have tf := frozen_list hrt
          have f0 := cell_list hrf 0
          have f1 := cell_list hrf 1
          have ff := frozen_list hrf
          simp only [List.getElem?_cons_zero, List.getElem?_cons_succ] at t0 t1 t2 t3 t4 t5 f0 f1
          go_wp2_with fail
          have hE9 := tEnd hrt hrf hbl (.bool false) (.bool false) (.string ⟨#[]⟩) (.slice none 0 0) (.bool false) (.slice none 0 0) (.int .i64 3) (.int .i64 7)
          obtain ⟨hr6, hr7, hb9⟩ := hE9
          obtain ⟨W9, hW9⟩ : ∃ W9, W9 = set2 (set6 W2 w.heap.size (.bool false) (.bool false) (.string ⟨#[]⟩) (.slice none 0 0) (.bool false) (.slice none 0 0)) (w.heap.size + 1) (.int .i64 3) (.int .i64 7) := ⟨_, rfl⟩
          rw [← hW9] at hr6 hr7 hb9 
          unfold set2 set6 at hW9
          rw [← hW9]
          clear hW9
          have z0 := cell_list hr6 0
          have z1 := cell_list hr6 1
          have z2 := cell_list hr6 2
          have z3 := cell_list hr6 3
          have z4 := cell_list hr6 4
          have z5 := cell_list hr6 5
          have y0 := cell_list hr7 0
          have y1 := cell_list hr7 1
          simp only [List.getElem?_cons_zero, List.getElem?_cons_succ] at z0 z1 z2 z3 z4 z5 y0 y1
          try rw [Exit.noGoto_ret]
          refine bodyPost_ret (v := .tuple #[.agg #[.bool false, .bool false, .string ⟨#[]⟩, .slice none 0 0, .bool false, .slice none 0 0], .agg #[.int .i64 3, .int .i64 7]]) (by simp [results, Tryd.results14, go_sem, z0, z1, z2, z3, z4, z5, y0, y1]) rfl ?_
          rw [HP.out, HT.out]
          exact ⟨none, 0, none, 0, rfl, Parts.nil _ _, Parts.nil _ _, hb9, Nat.le_refl _, Nat.zero_le _, Nat.le_refl _, Nat.zero_le _⟩
        · have hzb : ((hh.length : Int) == 0) = false := by rw [beq_eq_false_iff_ne]; omega
          have hT0 : targetR s = restR true hh (7 + hh.length) (pieces (s.drop (7 + hh.length)) (7 + hh.length)).1 := by rw [HTR3.out, if_neg (fun h => hz (by rw [h]; rfl))]
          have HT0 := Lib.hid hT0
          have hat := h7n
          clear hT0 hz
          go_wp2_with fail
          go_step3
          go_wp2_with fail
          go_loopg [7] s.length (fun g s7 W => TI w s n6 true hh (7 + hh.length) g s7 W)
          case atStart => exact ⟨(7 + hh.length), [], [], .slice none 0 0, rfl, hat, by omega, rfl, HPN.out, by simp, rfl, by simp, by simp, HM0.out⟩
          case round =>
            obtain ⟨k, D, L, v, rfl, hk, hkg, hpc, hpn, hnq, hL, hLk, hLt, hm⟩ := hrel
            have HPC := Lib.hid hpc
            have HPK := Lib.hid hpn
            have HNQ := Lib.hid hnq
            have HL := Lib.hid hL
            have HT := Lib.hid hLt
            have HM := Lib.hid hm
            have hNW : Nm wr := hN.below hm.bl hN.lt
            clear hpc hpn hnq hL hLt hm
            by_cases hlt : k < s.length
            · obtain ⟨g', rfl⟩ : ∃ g', gk = g' + 1 := ⟨gk - 1, by omega⟩
              obtain ⟨b, r, hdr⟩ : ∃ b r, s.drop k = b :: r := ⟨_, _, List.drop_eq_getElem_cons hlt⟩
              have hrl : r.length ≤ 96 := by have := congrArg List.length hdr; simp at this; omega
              have q2 : (0 : Int) ≤ (k : Int) := by omega
              have q3 : (k : Int) ≤ (B.size : Int) := by have := HBZ.out; omega
              have q4 : (k : Int) < (B.size : Int) := by have := HBZ.out; omega
              have hkB : k < B.size := by omega
              have hBk : B[k] = b := by
                have h1 : (s.drop k)[0]? = some b := by rw [hdr]; rfl
                rw [List.getElem?_drop, Nat.add_zero] at h1
                exact HBK.out k b hkB h1
              have hlR : (b :: r).length = s.length - k := by rw [← hdr]; simp
              have HDR := Lib.hid hdr
              clear hdr
              by_cases hb : b = 63
              · have hb63 : ((B[k].toNat : Int) == 63) = true := by rw [hBk, hb]; rfl
                have hdr1 : s.drop (k + 1) = r := by rw [← List.tail_drop, HDR.out]; rfl
                have hpk : pieces (s.drop k) k = (⟨⟨1, [63], 0⟩, k, true⟩ :: (pieces r (k + 1)).1, (pieces r (k + 1)).2) := by
                  rw [HDR.out, hb, pieces_ok (rd_plain (by decide) (by decide) (by decide))]
                  rfl
                have hn0 : (pieces r (k + 1)).2 = none := by have := HPK.out; rw [hpk] at this; exact this
                obtain ⟨M, hM⟩ : ∃ M, joinP ((pieces r (k + 1)).1.map (·.p)) = M := ⟨_, rfl⟩
                have HMr := Lib.hid ((parse_shift hrl hn0).trans (by rw [hM]))
                have HTt : Hid (targetR s = if placeR L = true then ⟨false, true, hh, L, true, M, 0, 0⟩ else .fault 3 (((7 + hh.length) : Nat) : Int)) := Lib.hid (by
                  rw [HT0.out, HPC.out, hpk, rest_hit HNQ.out rfl, ← HL.out, hM])
                have HBr := Lib.hid ((HBX.out (k + 1)).trans (congrArg bs hdr1))
                clear hBk hdr1 hpk hn0 hM hb
                have x0 := cell_list HM.out.tt 4
                have xf := frozen_list HM.out.tt
                have HM1 := Lib.hid (HM.out.setHq true)
                simp only [List.getElem?_cons_zero, List.getElem?_cons_succ] at x0
                obtain ⟨a, c, hv, hLc, hcm, hP⟩ := HM1.out.ow.form
                subst hv
                have hpl := fun W h => place_any a c L W h (by omega) (fun q hq => by have := HT.out q hq; omega)
                have HPt := Lib.hid hP
                have x3 := cell_list HM.out.tt 3
                simp only [List.getElem?_cons_zero, List.getElem?_cons_succ] at x3
                clear hP
                go_wp2_with fail
                refine (hpl _ HPt.out).mono ?_
                rintro e w2 ⟨rfl, h2⟩
                have M2 := HM1.out.below h2
                have HM2 := Lib.hid M2
                clear x3 hpl HPt M2
                rcases hpr : placeR L with _ | _
                · have hT : targetR s = .fault 3 (((7 + hh.length) : Nat) : Int) := by rw [HTt.out, if_neg (by rw [hpr]; simp)]
                  have HTf := Lib.hid hT
                  have hrt := HM2.out.rt
                  have hrf := HM2.out.rf
                  have hbl := HM2.out.bl
                  clear hT hpr h2
                  have t0 := cell_list hrt 0
                  have t1 := cell_list hrt 1
                  have t2 := cell_list hrt 2
                  have t3 := cell_list hrt 3
                  have t4 := cell_list hrt 4
                  have t5 := cell_list hrt 5
                  have tf := frozen_list hrt
                  have f0 := cell_list hrf 0
                  have f1 := cell_list hrf 1
                  have ff := frozen_list hrf
                  simp only [List.getElem?_cons_zero, List.getElem?_cons_succ] at t0 t1 t2 t3 t4 t5 f0 f1
                  go_wp2_with fail
                  have hE9 := tEnd hrt hrf hbl (.bool false) (.bool false) (.string ⟨#[]⟩) (.slice none 0 0) (.bool false) (.slice none 0 0) (.int .i64 3) (.int .i64 (7 + (hh.length : Int)))
                  obtain ⟨hr6, hr7, hb9⟩ := hE9
                  obtain ⟨W9, hW9⟩ : ∃ W9, W9 = set2 (set6 w2 w.heap.size (.bool false) (.bool false) (.string ⟨#[]⟩) (.slice none 0 0) (.bool false) (.slice none 0 0)) (w.heap.size + 1) (.int .i64 3) (.int .i64 (7 + (hh.length : Int))) := ⟨_, rfl⟩
                  rw [← hW9] at hr6 hr7 hb9 
                  unfold set2 set6 at hW9
                  rw [← hW9]
                  clear hW9
                  have z0 := cell_list hr6 0
                  have z1 := cell_list hr6 1
                  have z2 := cell_list hr6 2
                  have z3 := cell_list hr6 3
                  have z4 := cell_list hr6 4
                  have z5 := cell_list hr6 5
                  have y0 := cell_list hr7 0
                  have y1 := cell_list hr7 1
                  simp only [List.getElem?_cons_zero, List.getElem?_cons_succ] at z0 z1 z2 z3 z4 z5 y0 y1
                  try rw [Exit.noGoto_ret]
                  refine bodyPost_ret (v := .tuple #[.agg #[.bool false, .bool false, .string ⟨#[]⟩, .slice none 0 0, .bool false, .slice none 0 0], .agg #[.int .i64 3, .int .i64 (7 + (hh.length : Int))]]) (by simp [results, Tryd.results14, go_sem, z0, z1, z2, z3, z4, z5, y0, y1]) rfl ?_
                  rw [HP.out, HTf.out]
                  exact ⟨none, 0, none, 0, rfl, Parts.nil _ _, Parts.nil _ _, hb9, Nat.le_refl _, Nat.zero_le _, Nat.le_refl _, Nat.zero_le _⟩
                · have hT : targetR s = ⟨false, true, hh, L, true, M, 0, 0⟩ := by rw [HTt.out, if_pos hpr]
                  have HTf := Lib.hid hT
                  have x4 := cell_list HM2.out.tt 4
                  simp only [List.getElem?_cons_zero, List.getElem?_cons_succ] at x4
                  have hpq := fun W h => parse_any r W (by omega) h
                  rw [HMr.out, ← HBr.out] at hpq
                  have hN2 : Nm w2 := hN.below HM2.out.bl hN.lt
                  have l6 := lt_of_cells HM2.out.tt
                  clear hT hpr h2
                  go_wp2_with fail
                  refine (hpq _ hN2).mono ?_
                  rintro e w3 ⟨v3, rfl, hO3, h3⟩
                  obtain ⟨qa, qc, hv3, _, _, _⟩ := OwnParts.form hO3
                  subst hv3
                  have hO3' : OwnParts (w3.setCell ⟨n6, 5, none⟩ (.slice qa M.length qc)) (n6 + 1) (.slice qa M.length qc) M := (ownsSetOld hO3 (by show n6 < w2.heap.size; exact l6) _).mono (by omega)
                  have M3 := (HM2.out.below h3).setU (.slice qa M.length qc)
                  have hrt := M3.rt
                  have hrf := M3.rf
                  have hbl := M3.bl
                  have hO9 := ownsEnd M3.ow (g := w.heap.size) (by have := HM2.out.lt; omega) (.bool false) (.bool true) (.string (bs hh)) (.slice a L.length c) (.bool true) (.slice qa M.length qc) (.int .i64 0) (.int .i64 0)
                  have hU9 := ownsEnd hO3' (g := w.heap.size) (by have := HM2.out.lt; omega) (.bool false) (.bool true) (.string (bs hh)) (.slice a L.length c) (.bool true) (.slice qa M.length qc) (.int .i64 0) (.int .i64 0)
                  have htt := (HM2.out.below h3).tt
                  have xf := frozen_list (HM2.out.below h3).tt
                  clear hpq hO3 hO3' h3 M3 x4
                  have t0 := cell_list hrt 0
                  have t1 := cell_list hrt 1
                  have t2 := cell_list hrt 2
                  have t3 := cell_list hrt 3
                  have t4 := cell_list hrt 4
                  have t5 := cell_list hrt 5
                  have tf := frozen_list hrt
                  have f0 := cell_list hrf 0
                  have f1 := cell_list hrf 1
                  have ff := frozen_list hrf
                  simp only [List.getElem?_cons_zero, List.getElem?_cons_succ] at t0 t1 t2 t3 t4 t5 f0 f1
                  have x0 := cell_list htt 0
                  have x1 := cell_list htt 1
                  have x2 := cell_list htt 2
                  have x3 := cell_list htt 3
                  have x4 := cell_list htt 4
                  have x5 := cell_list htt 5
                  simp only [List.getElem?_cons_zero, List.getElem?_cons_succ] at x0 x1 x2 x3 x4 x5
                  have HO9 := Lib.hid hO9
                  have HU9 := Lib.hid hU9
                  clear hO9 hU9
                  go_wp2_with fail
                  have hO9 := HO9.out
                  have hU9 := HU9.out
                  clear HO9 HU9
                  obtain ⟨W, hWe⟩ : ∃ W, W = w3.setCell ⟨n6, 5, none⟩ (.slice qa M.length qc) := ⟨_, rfl⟩
                  rw [← hWe] at hrt hrf hbl hO9 hU9 ⊢
                  have hE9 := tEnd hrt hrf hbl (.bool false) (.bool true) (.string (bs hh)) (.slice a L.length c) (.bool true) (.slice qa M.length qc) (.int .i64 0) (.int .i64 0)
                  obtain ⟨hr6, hr7, hb9⟩ := hE9
                  obtain ⟨W9, hW9⟩ : ∃ W9, W9 = set2 (set6 W w.heap.size (.bool false) (.bool true) (.string (bs hh)) (.slice a L.length c) (.bool true) (.slice qa M.length qc)) (w.heap.size + 1) (.int .i64 0) (.int .i64 0) := ⟨_, rfl⟩
                  rw [← hW9] at hr6 hr7 hb9 hO9 hU9
                  unfold set2 set6 at hW9
                  rw [← hW9]
                  clear hW9
                  have z0 := cell_list hr6 0
                  have z1 := cell_list hr6 1
                  have z2 := cell_list hr6 2
                  have z3 := cell_list hr6 3
                  have z4 := cell_list hr6 4
                  have z5 := cell_list hr6 5
                  have y0 := cell_list hr7 0
                  have y1 := cell_list hr7 1
                  simp only [List.getElem?_cons_zero, List.getElem?_cons_succ] at z0 z1 z2 z3 z4 z5 y0 y1
                  try rw [Exit.noGoto_ret]
                  refine bodyPost_ret (v := .tuple #[.agg #[.bool false, .bool true, .string (bs hh), .slice a L.length c, .bool true, .slice qa M.length qc], .agg #[.int .i64 0, .int .i64 0]]) (by simp [results, Tryd.results14, go_sem, z0, z1, z2, z3, z4, z5, y0, y1]) rfl ?_
                  rw [HP.out, HTf.out]
                  obtain ⟨a9, c9, e9, k1, k2, hP9⟩ := OwnParts.form hO9
                  cases e9
                  obtain ⟨a8, c8, e8, k3, k4, hP8⟩ := OwnParts.form hU9
                  cases e8
                  exact ⟨a, c, qa, qc, rfl, hP9, hP8, hb9, k1, k2, k3, k4⟩
              · have hb63 : ((B[k].toNat : Int) == 63) = false := by
                  rw [hBk, beq_eq_false_iff_ne]
                  exact fun h => hb (UInt8.toNat.inj (by simpa using (by omega : b.toNat = 63)))
                have HNB := Lib.hid hb
                have hq := fun W h => read_any b r (by omega) W h
                rw [← HDR.out, ← HBX.out k] at hq
                clear hBk hb
                rcases hrd : rd (b :: r) with ⟨p, n⟩ | e
                · have hv : readV (s.drop k) = .tuple #[pv p, .int .i64 n, .int .i64 0] := by unfold readV; rw [HDR.out, hrd]
                  rw [hv] at hq
                  obtain ⟨n1, n2⟩ := rd_len hrd
                  obtain ⟨p1, p2, p3⟩ := rd_part hrd
                  have hP1 := Lib.hid p2
                  have HRD := Lib.hid hrd
                  unfold pv at hq
                  clear hv hrd p2
                  go_wp2_with fail
                  refine (hq _ hNW).mono ?_
                  rintro e w2 ⟨rfl, h2⟩
                  have hrow := World.alloc_heap_new w2 (.cells #[.int .i64 p.k, .string (bs p.t), .int .i64 p.n] 59)
                  have y0 := cell_list (cs := [.int .i64 p.k, .string (bs p.t), .int .i64 p.n]) hrow 0
                  have y1 := cell_list (cs := [.int .i64 p.k, .string (bs p.t), .int .i64 p.n]) hrow 1
                  have y2 := cell_list (cs := [.int .i64 p.k, .string (bs p.t), .int .i64 p.n]) hrow 2
                  simp only [List.getElem?_cons_zero, List.getElem?_cons_succ] at y0 y1 y2
                  have M2 := (HM.out.below h2).below ((Below.refl _ w2).alloc (Nat.le_refl _) (.cells #[.int .i64 p.k, .string (bs p.t), .int .i64 p.n] 59))
                  have x3 := cell_list M2.tt 3
                  simp only [List.getElem?_cons_zero, List.getElem?_cons_succ] at x3
                  have HM2 := Lib.hid M2
                  have lz := lt_of_cells M2.tt
                  have hadd := fun W h1 h2 => add_any (n6 + 1) v L p W h1 h2 (by omega) (by omega) (fun q hq => Nat.le_trans (HT.out q hq) (by omega)) hP1.out
                  unfold pv at hadd
                  clear hq M2
                  go_wp2_with fail
                  refine (hadd _ HM2.out.ow (by omega)).mono ?_
                  rintro e w3 ⟨v', rfl, hO3, hg3⟩
                  obtain ⟨a', c', hv', _, _, _⟩ := hO3.form
                  subst hv'
                  have M3 := HM2.out.app hO3 hg3
                  have HM3 := Lib.hid M3
                  have x3 := cell_list ((hg3.block _ (lt_of_cells HM2.out.tt) (fun e => by have := (HM2.out.ow.lt _ e.symm).1; omega)).trans HM2.out.tt) 3
                  have xf := frozen_list ((hg3.block _ (lt_of_cells HM2.out.tt) (fun e => by have := (HM2.out.ow.lt _ e.symm).1; omega)).trans HM2.out.tt)
                  simp only [List.getElem?_cons_zero, List.getElem?_cons_succ] at x3
                  clear hadd M3 hO3 hg3 y0 y1 y2 hrow h2
                  go_wp2_with fail
                  go_roundg g'
                  case measure => omega
                  case rel =>
                    refine ⟨k + n, D ++ [⟨p, k, n == 1⟩], addP L p, .slice a' (addP L p).length c', by go_num, by omega, by omega, ?_, ?_, ?_, ?_, ?_, addP_text HT.out p1, HM3.out⟩
                    · rw [HPC.out, HDR.out, pieces_ok HRD.out, ← HDR.out, List.drop_drop]
                      simp
                    · have := HPK.out
                      rw [HDR.out, pieces_ok HRD.out, ← HDR.out, List.drop_drop] at this
                      exact this
                    · intro q hq
                      rcases List.mem_append.1 hq with hq | hq
                      · exact HNQ.out q hq
                      · rw [List.mem_singleton] at hq
                        rw [hq, rd_isQ HRD.out]
                        simpa using HNB.out
                    · rw [List.map_append, List.map_cons, List.map_nil, joinP_snoc, HL.out]
                    · have := addP_len L p; omega
                · exfalso
                  have := HPK.out
                  rw [HDR.out, pieces_bad (by simp) hrd] at this
                  cases this
            · obtain rfl : k = s.length := by omega
              have hnk : ¬ (s.length : Int) < (B.size : Int) := by have := HBZ.out; omega
              have HTt : Hid (targetR s = if placeR L = true then ⟨false, true, hh, L, false, [], 0, 0⟩ else .fault 3 (((7 + hh.length) : Nat) : Int)) := Lib.hid (by
                rw [HT0.out, HPC.out, List.drop_length, pieces_nil, List.append_nil, rest_end HNQ.out, ← HL.out])
              obtain ⟨a, c, hv, hLc, hcm, hP⟩ := HM.out.ow.form
              subst hv
              have hpl := fun W h => place_any a c L W h (by omega) (fun q hq => by have := HT.out q hq; omega)
              have HPt := Lib.hid hP
              have x3 := cell_list HM.out.tt 3
              simp only [List.getElem?_cons_zero, List.getElem?_cons_succ] at x3
              clear hP
              go_wp2_with fail
              refine (hpl _ HPt.out).mono ?_
              rintro e w2 ⟨rfl, h2⟩
              have M2 := HM.out.below h2
              have HM2 := Lib.hid M2
              clear x3 hpl HPt M2
              rcases hpr : placeR L with _ | _
              · have hT : targetR s = .fault 3 (((7 + hh.length) : Nat) : Int) := by rw [HTt.out, if_neg (by rw [hpr]; simp)]
                have HTf := Lib.hid hT
                have hrt := HM2.out.rt
                have hrf := HM2.out.rf
                have hbl := HM2.out.bl
                clear hT hpr h2
                have t0 := cell_list hrt 0
                have t1 := cell_list hrt 1
                have t2 := cell_list hrt 2
                have t3 := cell_list hrt 3
                have t4 := cell_list hrt 4
                have t5 := cell_list hrt 5
                have tf := frozen_list hrt
                have f0 := cell_list hrf 0
                have f1 := cell_list hrf 1
                have ff := frozen_list hrf
                simp only [List.getElem?_cons_zero, List.getElem?_cons_succ] at t0 t1 t2 t3 t4 t5 f0 f1
                go_wp2_with fail
                have hE9 := tEnd hrt hrf hbl (.bool false) (.bool false) (.string ⟨#[]⟩) (.slice none 0 0) (.bool false) (.slice none 0 0) (.int .i64 3) (.int .i64 (7 + (hh.length : Int)))
                obtain ⟨hr6, hr7, hb9⟩ := hE9
                obtain ⟨W9, hW9⟩ : ∃ W9, W9 = set2 (set6 w2 w.heap.size (.bool false) (.bool false) (.string ⟨#[]⟩) (.slice none 0 0) (.bool false) (.slice none 0 0)) (w.heap.size + 1) (.int .i64 3) (.int .i64 (7 + (hh.length : Int))) := ⟨_, rfl⟩
                rw [← hW9] at hr6 hr7 hb9 
                unfold set2 set6 at hW9
                rw [← hW9]
                clear hW9
                have z0 := cell_list hr6 0
                have z1 := cell_list hr6 1
                have z2 := cell_list hr6 2
                have z3 := cell_list hr6 3
                have z4 := cell_list hr6 4
                have z5 := cell_list hr6 5
                have y0 := cell_list hr7 0
                have y1 := cell_list hr7 1
                simp only [List.getElem?_cons_zero, List.getElem?_cons_succ] at z0 z1 z2 z3 z4 z5 y0 y1
                try rw [Exit.noGoto_ret]
                refine bodyPost_ret (v := .tuple #[.agg #[.bool false, .bool false, .string ⟨#[]⟩, .slice none 0 0, .bool false, .slice none 0 0], .agg #[.int .i64 3, .int .i64 (7 + (hh.length : Int))]]) (by simp [results, Tryd.results14, go_sem, z0, z1, z2, z3, z4, z5, y0, y1]) rfl ?_
                rw [HP.out, HTf.out]
                exact ⟨none, 0, none, 0, rfl, Parts.nil _ _, Parts.nil _ _, hb9, Nat.le_refl _, Nat.zero_le _, Nat.le_refl _, Nat.zero_le _⟩
              · have hT : targetR s = ⟨false, true, hh, L, false, [], 0, 0⟩ := by rw [HTt.out, if_pos hpr]
                have HTf := Lib.hid hT
                have hrt := HM2.out.rt
                have hrf := HM2.out.rf
                have hbl := HM2.out.bl
                have hO9 := ownsEnd HM2.out.ow (g := w.heap.size) (by have := HM2.out.lt; omega) (.bool false) (.bool true) (.string (bs hh)) (.slice a L.length c) (.bool false) (.slice none 0 0) (.int .i64 0) (.int .i64 0)
                have htt := HM2.out.tt
                clear hT hpr h2
                have t0 := cell_list hrt 0
                have t1 := cell_list hrt 1
                have t2 := cell_list hrt 2
                have t3 := cell_list hrt 3
                have t4 := cell_list hrt 4
                have t5 := cell_list hrt 5
                have tf := frozen_list hrt
                have f0 := cell_list hrf 0
                have f1 := cell_list hrf 1
                have ff := frozen_list hrf
                simp only [List.getElem?_cons_zero, List.getElem?_cons_succ] at t0 t1 t2 t3 t4 t5 f0 f1
                have x0 := cell_list htt 0
                have x1 := cell_list htt 1
                have x2 := cell_list htt 2
                have x3 := cell_list htt 3
                have x4 := cell_list htt 4
                have x5 := cell_list htt 5
                simp only [List.getElem?_cons_zero, List.getElem?_cons_succ] at x0 x1 x2 x3 x4 x5
                have HO9 := Lib.hid hO9
                clear hO9
                go_wp2_with fail
                have hO9 := HO9.out
                clear HO9
                have hE9 := tEnd hrt hrf hbl (.bool false) (.bool true) (.string (bs hh)) (.slice a L.length c) (.bool false) (.slice none 0 0) (.int .i64 0) (.int .i64 0)
                obtain ⟨hr6, hr7, hb9⟩ := hE9
                obtain ⟨W9, hW9⟩ : ∃ W9, W9 = set2 (set6 w2 w.heap.size (.bool false) (.bool true) (.string (bs hh)) (.slice a L.length c) (.bool false) (.slice none 0 0)) (w.heap.size + 1) (.int .i64 0) (.int .i64 0) := ⟨_, rfl⟩
                rw [← hW9] at hr6 hr7 hb9 hO9
                unfold set2 set6 at hW9
                rw [← hW9]
                clear hW9
                have z0 := cell_list hr6 0
                have z1 := cell_list hr6 1
                have z2 := cell_list hr6 2
                have z3 := cell_list hr6 3
                have z4 := cell_list hr6 4
                have z5 := cell_list hr6 5
                have y0 := cell_list hr7 0
                have y1 := cell_list hr7 1
                simp only [List.getElem?_cons_zero, List.getElem?_cons_succ] at z0 z1 z2 z3 z4 z5 y0 y1
                try rw [Exit.noGoto_ret]
                refine bodyPost_ret (v := .tuple #[.agg #[.bool false, .bool true, .string (bs hh), .slice a L.length c, .bool false, .slice none 0 0], .agg #[.int .i64 0, .int .i64 0]]) (by simp [results, Tryd.results14, go_sem, z0, z1, z2, z3, z4, z5, y0, y1]) rfl ?_
                rw [HP.out, HTf.out]
                obtain ⟨a9, c9, e9, k1, k2, hP9⟩ := OwnParts.form hO9
                cases e9
                exact ⟨a, c, none, 0, rfl, hP9, Parts.nil _ _, hb9, k1, k2, Nat.le_refl _, Nat.zero_le _⟩
    · rw [if_neg h7l]
      have hbn : B7.size = hh.length := by omega
      have HBN := Lib.hid hbn
      clear hB7 hz7 h7l hle hbn
      go_wp2_with fail
      rw [HBN.out]
      have hi1 : (0 : Int) ≤ (hh.length : Int) := by omega
      have hi2 : (hh.length : Int) ≤ (B7.size : Int) := by omega
      go_region
      all_goals
        rw [HHX.out]
        obtain ⟨W2, hW2⟩ : ∃ W, W = ((w3.setCell ⟨n6, 1, none⟩ (.bool true)).setCell ⟨n6, 2, none⟩ (.string (bs hh))).drew := ⟨_, rfl⟩
        have HM0 := Lib.hid ((HM3.out.setEx true hh).drew)
        rw [← hW2] at HM0
        rw [← hW2]
        clear hW2 HM3 x1 x2 xf
        by_cases hz : hh.length = 0
        · have hzb : ((hh.length : Int) == 0) = true := by rw [hz]; rfl
          have hT : targetR s = .fault 3 7 := by rw [HTR3.out, if_pos (List.eq_nil_of_length_eq_zero hz)]
          have HT := Lib.hid hT
          have hrt := HM0.out.rt
          have hrf := HM0.out.rf
          have hbl := HM0.out.bl
          clear hT hz
          have t0 := cell_list hrt 0
          have t1 := cell_list hrt 1
          have t2 := cell_list hrt 2
          have t3 := cell_list hrt 3
          have t4 := cell_list hrt 4
          have t5 := cell_list hrt 5
          have tf := frozen_list hrt
          have f0 := cell_list hrf 0
          have f1 := cell_list hrf 1
          have ff := frozen_list hrf
          simp only [List.getElem?_cons_zero, List.getElem?_cons_succ] at t0 t1 t2 t3 t4 t5 f0 f1
          go_wp2_with fail
          have hE9 := tEnd hrt hrf hbl (.bool false) (.bool false) (.string ⟨#[]⟩) (.slice none 0 0) (.bool false) (.slice none 0 0) (.int .i64 3) (.int .i64 7)
          obtain ⟨hr6, hr7, hb9⟩ := hE9
          obtain ⟨W9, hW9⟩ : ∃ W9, W9 = set2 (set6 W2 w.heap.size (.bool false) (.bool false) (.string ⟨#[]⟩) (.slice none 0 0) (.bool false) (.slice none 0 0)) (w.heap.size + 1) (.int .i64 3) (.int .i64 7) := ⟨_, rfl⟩
          rw [← hW9] at hr6 hr7 hb9 
          unfold set2 set6 at hW9
          rw [← hW9]
          clear hW9
          have z0 := cell_list hr6 0
          have z1 := cell_list hr6 1
          have z2 := cell_list hr6 2
          have z3 := cell_list hr6 3
          have z4 := cell_list hr6 4
          have z5 := cell_list hr6 5
          have y0 := cell_list hr7 0
          have y1 := cell_list hr7 1
          simp only [List.getElem?_cons_zero, List.getElem?_cons_succ] at z0 z1 z2 z3 z4 z5 y0 y1
          try rw [Exit.noGoto_ret]
          refine bodyPost_ret (v := .tuple #[.agg #[.bool false, .bool false, .string ⟨#[]⟩, .slice none 0 0, .bool false, .slice none 0 0], .agg #[.int .i64 3, .int .i64 7]]) (by simp [results, Tryd.results14, go_sem, z0, z1, z2, z3, z4, z5, y0, y1]) rfl ?_
          rw [HP.out, HT.out]
          exact ⟨none, 0, none, 0, rfl, Parts.nil _ _, Parts.nil _ _, hb9, Nat.le_refl _, Nat.zero_le _, Nat.le_refl _, Nat.zero_le _⟩
        · have hzb : ((hh.length : Int) == 0) = false := by rw [beq_eq_false_iff_ne]; omega
          have hT0 : targetR s = restR true hh (7 + hh.length) (pieces (s.drop (7 + hh.length)) (7 + hh.length)).1 := by rw [HTR3.out, if_neg (fun h => hz (by rw [h]; rfl))]
          have HT0 := Lib.hid hT0
          have hat := h7n
          clear hT0 hz
          go_wp2_with fail
          go_step3
          go_wp2_with fail
          go_loopg [7] s.length (fun g s7 W => TI w s n6 true hh (7 + hh.length) g s7 W)
          case atStart => exact ⟨(7 + hh.length), [], [], .slice none 0 0, rfl, hat, by omega, rfl, HPN.out, by simp, rfl, by simp, by simp, HM0.out⟩
          case round =>
            obtain ⟨k, D, L, v, rfl, hk, hkg, hpc, hpn, hnq, hL, hLk, hLt, hm⟩ := hrel
            have HPC := Lib.hid hpc
            have HPK := Lib.hid hpn
            have HNQ := Lib.hid hnq
            have HL := Lib.hid hL
            have HT := Lib.hid hLt
            have HM := Lib.hid hm
            have hNW : Nm wr := hN.below hm.bl hN.lt
            clear hpc hpn hnq hL hLt hm
            by_cases hlt : k < s.length
            · obtain ⟨g', rfl⟩ : ∃ g', gk = g' + 1 := ⟨gk - 1, by omega⟩
              obtain ⟨b, r, hdr⟩ : ∃ b r, s.drop k = b :: r := ⟨_, _, List.drop_eq_getElem_cons hlt⟩
              have hrl : r.length ≤ 96 := by have := congrArg List.length hdr; simp at this; omega
              have q2 : (0 : Int) ≤ (k : Int) := by omega
              have q3 : (k : Int) ≤ (B.size : Int) := by have := HBZ.out; omega
              have q4 : (k : Int) < (B.size : Int) := by have := HBZ.out; omega
              have hkB : k < B.size := by omega
              have hBk : B[k] = b := by
                have h1 : (s.drop k)[0]? = some b := by rw [hdr]; rfl
                rw [List.getElem?_drop, Nat.add_zero] at h1
                exact HBK.out k b hkB h1
              have hlR : (b :: r).length = s.length - k := by rw [← hdr]; simp
              have HDR := Lib.hid hdr
              clear hdr
              by_cases hb : b = 63
              · have hb63 : ((B[k].toNat : Int) == 63) = true := by rw [hBk, hb]; rfl
                have hdr1 : s.drop (k + 1) = r := by rw [← List.tail_drop, HDR.out]; rfl
                have hpk : pieces (s.drop k) k = (⟨⟨1, [63], 0⟩, k, true⟩ :: (pieces r (k + 1)).1, (pieces r (k + 1)).2) := by
                  rw [HDR.out, hb, pieces_ok (rd_plain (by decide) (by decide) (by decide))]
                  rfl
                have hn0 : (pieces r (k + 1)).2 = none := by have := HPK.out; rw [hpk] at this; exact this
                obtain ⟨M, hM⟩ : ∃ M, joinP ((pieces r (k + 1)).1.map (·.p)) = M := ⟨_, rfl⟩
                have HMr := Lib.hid ((parse_shift hrl hn0).trans (by rw [hM]))
                have HTt : Hid (targetR s = if placeR L = true then ⟨false, true, hh, L, true, M, 0, 0⟩ else .fault 3 (((7 + hh.length) : Nat) : Int)) := Lib.hid (by
                  rw [HT0.out, HPC.out, hpk, rest_hit HNQ.out rfl, ← HL.out, hM])
                have HBr := Lib.hid ((HBX.out (k + 1)).trans (congrArg bs hdr1))
                clear hBk hdr1 hpk hn0 hM hb
                have x0 := cell_list HM.out.tt 4
                have xf := frozen_list HM.out.tt
                have HM1 := Lib.hid (HM.out.setHq true)
                simp only [List.getElem?_cons_zero, List.getElem?_cons_succ] at x0
                obtain ⟨a, c, hv, hLc, hcm, hP⟩ := HM1.out.ow.form
                subst hv
                have hpl := fun W h => place_any a c L W h (by omega) (fun q hq => by have := HT.out q hq; omega)
                have HPt := Lib.hid hP
                have x3 := cell_list HM.out.tt 3
                simp only [List.getElem?_cons_zero, List.getElem?_cons_succ] at x3
                clear hP
                go_wp2_with fail
                refine (hpl _ HPt.out).mono ?_
                rintro e w2 ⟨rfl, h2⟩
                have M2 := HM1.out.below h2
                have HM2 := Lib.hid M2
                clear x3 hpl HPt M2
                rcases hpr : placeR L with _ | _
                · have hT : targetR s = .fault 3 (((7 + hh.length) : Nat) : Int) := by rw [HTt.out, if_neg (by rw [hpr]; simp)]
                  have HTf := Lib.hid hT
                  have hrt := HM2.out.rt
                  have hrf := HM2.out.rf
                  have hbl := HM2.out.bl
                  clear hT hpr h2
                  have t0 := cell_list hrt 0
                  have t1 := cell_list hrt 1
                  have t2 := cell_list hrt 2
                  have t3 := cell_list hrt 3
                  have t4 := cell_list hrt 4
                  have t5 := cell_list hrt 5
                  have tf := frozen_list hrt
                  have f0 := cell_list hrf 0
                  have f1 := cell_list hrf 1
                  have ff := frozen_list hrf
                  simp only [List.getElem?_cons_zero, List.getElem?_cons_succ] at t0 t1 t2 t3 t4 t5 f0 f1
                  go_wp2_with fail
                  have hE9 := tEnd hrt hrf hbl (.bool false) (.bool false) (.string ⟨#[]⟩) (.slice none 0 0) (.bool false) (.slice none 0 0) (.int .i64 3) (.int .i64 (7 + (hh.length : Int)))
                  obtain ⟨hr6, hr7, hb9⟩ := hE9
                  obtain ⟨W9, hW9⟩ : ∃ W9, W9 = set2 (set6 w2 w.heap.size (.bool false) (.bool false) (.string ⟨#[]⟩) (.slice none 0 0) (.bool false) (.slice none 0 0)) (w.heap.size + 1) (.int .i64 3) (.int .i64 (7 + (hh.length : Int))) := ⟨_, rfl⟩
                  rw [← hW9] at hr6 hr7 hb9 
                  unfold set2 set6 at hW9
                  rw [← hW9]
                  clear hW9
                  have z0 := cell_list hr6 0
                  have z1 := cell_list hr6 1
                  have z2 := cell_list hr6 2
                  have z3 := cell_list hr6 3
                  have z4 := cell_list hr6 4
                  have z5 := cell_list hr6 5
                  have y0 := cell_list hr7 0
                  have y1 := cell_list hr7 1
                  simp only [List.getElem?_cons_zero, List.getElem?_cons_succ] at z0 z1 z2 z3 z4 z5 y0 y1
                  try rw [Exit.noGoto_ret]
                  refine bodyPost_ret (v := .tuple #[.agg #[.bool false, .bool false, .string ⟨#[]⟩, .slice none 0 0, .bool false, .slice none 0 0], .agg #[.int .i64 3, .int .i64 (7 + (hh.length : Int))]]) (by simp [results, Tryd.results14, go_sem, z0, z1, z2, z3, z4, z5, y0, y1]) rfl ?_
                  rw [HP.out, HTf.out]
                  exact ⟨none, 0, none, 0, rfl, Parts.nil _ _, Parts.nil _ _, hb9, Nat.le_refl _, Nat.zero_le _, Nat.le_refl _, Nat.zero_le _⟩
                · have hT : targetR s = ⟨false, true, hh, L, true, M, 0, 0⟩ := by rw [HTt.out, if_pos hpr]
                  have HTf := Lib.hid hT
                  have x4 := cell_list HM2.out.tt 4
                  simp only [List.getElem?_cons_zero, List.getElem?_cons_succ] at x4
                  have hpq := fun W h => parse_any r W (by omega) h
                  rw [HMr.out, ← HBr.out] at hpq
                  have hN2 : Nm w2 := hN.below HM2.out.bl hN.lt
                  have l6 := lt_of_cells HM2.out.tt
                  clear hT hpr h2
                  go_wp2_with fail
                  refine (hpq _ hN2).mono ?_
                  rintro e w3 ⟨v3, rfl, hO3, h3⟩
                  obtain ⟨qa, qc, hv3, _, _, _⟩ := OwnParts.form hO3
                  subst hv3
                  have hO3' : OwnParts (w3.setCell ⟨n6, 5, none⟩ (.slice qa M.length qc)) (n6 + 1) (.slice qa M.length qc) M := (ownsSetOld hO3 (by show n6 < w2.heap.size; exact l6) _).mono (by omega)
                  have M3 := (HM2.out.below h3).setU (.slice qa M.length qc)
                  have hrt := M3.rt
                  have hrf := M3.rf
                  have hbl := M3.bl
                  have hO9 := ownsEnd M3.ow (g := w.heap.size) (by have := HM2.out.lt; omega) (.bool false) (.bool true) (.string (bs hh)) (.slice a L.length c) (.bool true) (.slice qa M.length qc) (.int .i64 0) (.int .i64 0)
                  have hU9 := ownsEnd hO3' (g := w.heap.size) (by have := HM2.out.lt; omega) (.bool false) (.bool true) (.string (bs hh)) (.slice a L.length c) (.bool true) (.slice qa M.length qc) (.int .i64 0) (.int .i64 0)
                  have htt := (HM2.out.below h3).tt
                  have xf := frozen_list (HM2.out.below h3).tt
                  clear hpq hO3 hO3' h3 M3 x4
                  have t0 := cell_list hrt 0
                  have t1 := cell_list hrt 1
                  have t2 := cell_list hrt 2
                  have t3 := cell_list hrt 3
                  have t4 := cell_list hrt 4
                  have t5 := cell_list hrt 5
                  have tf := frozen_list hrt
                  have f0 := cell_list hrf 0
                  have f1 := cell_list hrf 1
                  have ff := frozen_list hrf
                  simp only [List.getElem?_cons_zero, List.getElem?_cons_succ] at t0 t1 t2 t3 t4 t5 f0 f1
                  have x0 := cell_list htt 0
                  have x1 := cell_list htt 1
                  have x2 := cell_list htt 2
                  have x3 := cell_list htt 3
                  have x4 := cell_list htt 4
                  have x5 := cell_list htt 5
                  simp only [List.getElem?_cons_zero, List.getElem?_cons_succ] at x0 x1 x2 x3 x4 x5
                  have HO9 := Lib.hid hO9
                  have HU9 := Lib.hid hU9
                  clear hO9 hU9
                  go_wp2_with fail
                  have hO9 := HO9.out
                  have hU9 := HU9.out
                  clear HO9 HU9
                  obtain ⟨W, hWe⟩ : ∃ W, W = w3.setCell ⟨n6, 5, none⟩ (.slice qa M.length qc) := ⟨_, rfl⟩
                  rw [← hWe] at hrt hrf hbl hO9 hU9 ⊢
                  have hE9 := tEnd hrt hrf hbl (.bool false) (.bool true) (.string (bs hh)) (.slice a L.length c) (.bool true) (.slice qa M.length qc) (.int .i64 0) (.int .i64 0)
                  obtain ⟨hr6, hr7, hb9⟩ := hE9
                  obtain ⟨W9, hW9⟩ : ∃ W9, W9 = set2 (set6 W w.heap.size (.bool false) (.bool true) (.string (bs hh)) (.slice a L.length c) (.bool true) (.slice qa M.length qc)) (w.heap.size + 1) (.int .i64 0) (.int .i64 0) := ⟨_, rfl⟩
                  rw [← hW9] at hr6 hr7 hb9 hO9 hU9
                  unfold set2 set6 at hW9
                  rw [← hW9]
                  clear hW9
                  have z0 := cell_list hr6 0
                  have z1 := cell_list hr6 1
                  have z2 := cell_list hr6 2
                  have z3 := cell_list hr6 3
                  have z4 := cell_list hr6 4
                  have z5 := cell_list hr6 5
                  have y0 := cell_list hr7 0
                  have y1 := cell_list hr7 1
                  simp only [List.getElem?_cons_zero, List.getElem?_cons_succ] at z0 z1 z2 z3 z4 z5 y0 y1
                  try rw [Exit.noGoto_ret]
                  refine bodyPost_ret (v := .tuple #[.agg #[.bool false, .bool true, .string (bs hh), .slice a L.length c, .bool true, .slice qa M.length qc], .agg #[.int .i64 0, .int .i64 0]]) (by simp [results, Tryd.results14, go_sem, z0, z1, z2, z3, z4, z5, y0, y1]) rfl ?_
                  rw [HP.out, HTf.out]
                  obtain ⟨a9, c9, e9, k1, k2, hP9⟩ := OwnParts.form hO9
                  cases e9
                  obtain ⟨a8, c8, e8, k3, k4, hP8⟩ := OwnParts.form hU9
                  cases e8
                  exact ⟨a, c, qa, qc, rfl, hP9, hP8, hb9, k1, k2, k3, k4⟩
              · have hb63 : ((B[k].toNat : Int) == 63) = false := by
                  rw [hBk, beq_eq_false_iff_ne]
                  exact fun h => hb (UInt8.toNat.inj (by simpa using (by omega : b.toNat = 63)))
                have HNB := Lib.hid hb
                have hq := fun W h => read_any b r (by omega) W h
                rw [← HDR.out, ← HBX.out k] at hq
                clear hBk hb
                rcases hrd : rd (b :: r) with ⟨p, n⟩ | e
                · have hv : readV (s.drop k) = .tuple #[pv p, .int .i64 n, .int .i64 0] := by unfold readV; rw [HDR.out, hrd]
                  rw [hv] at hq
                  obtain ⟨n1, n2⟩ := rd_len hrd
                  obtain ⟨p1, p2, p3⟩ := rd_part hrd
                  have hP1 := Lib.hid p2
                  have HRD := Lib.hid hrd
                  unfold pv at hq
                  clear hv hrd p2
                  go_wp2_with fail
                  refine (hq _ hNW).mono ?_
                  rintro e w2 ⟨rfl, h2⟩
                  have hrow := World.alloc_heap_new w2 (.cells #[.int .i64 p.k, .string (bs p.t), .int .i64 p.n] 59)
                  have y0 := cell_list (cs := [.int .i64 p.k, .string (bs p.t), .int .i64 p.n]) hrow 0
                  have y1 := cell_list (cs := [.int .i64 p.k, .string (bs p.t), .int .i64 p.n]) hrow 1
                  have y2 := cell_list (cs := [.int .i64 p.k, .string (bs p.t), .int .i64 p.n]) hrow 2
                  simp only [List.getElem?_cons_zero, List.getElem?_cons_succ] at y0 y1 y2
                  have M2 := (HM.out.below h2).below ((Below.refl _ w2).alloc (Nat.le_refl _) (.cells #[.int .i64 p.k, .string (bs p.t), .int .i64 p.n] 59))
                  have x3 := cell_list M2.tt 3
                  simp only [List.getElem?_cons_zero, List.getElem?_cons_succ] at x3
                  have HM2 := Lib.hid M2
                  have lz := lt_of_cells M2.tt
                  have hadd := fun W h1 h2 => add_any (n6 + 1) v L p W h1 h2 (by omega) (by omega) (fun q hq => Nat.le_trans (HT.out q hq) (by omega)) hP1.out
                  unfold pv at hadd
                  clear hq M2
                  go_wp2_with fail
                  refine (hadd _ HM2.out.ow (by omega)).mono ?_
                  rintro e w3 ⟨v', rfl, hO3, hg3⟩
                  obtain ⟨a', c', hv', _, _, _⟩ := hO3.form
                  subst hv'
                  have M3 := HM2.out.app hO3 hg3
                  have HM3 := Lib.hid M3
                  have x3 := cell_list ((hg3.block _ (lt_of_cells HM2.out.tt) (fun e => by have := (HM2.out.ow.lt _ e.symm).1; omega)).trans HM2.out.tt) 3
                  have xf := frozen_list ((hg3.block _ (lt_of_cells HM2.out.tt) (fun e => by have := (HM2.out.ow.lt _ e.symm).1; omega)).trans HM2.out.tt)
                  simp only [List.getElem?_cons_zero, List.getElem?_cons_succ] at x3
                  clear hadd M3 hO3 hg3 y0 y1 y2 hrow h2
                  go_wp2_with fail
                  go_roundg g'
                  case measure => omega
                  case rel =>
                    refine ⟨k + n, D ++ [⟨p, k, n == 1⟩], addP L p, .slice a' (addP L p).length c', by go_num, by omega, by omega, ?_, ?_, ?_, ?_, ?_, addP_text HT.out p1, HM3.out⟩
                    · rw [HPC.out, HDR.out, pieces_ok HRD.out, ← HDR.out, List.drop_drop]
                      simp
                    · have := HPK.out
                      rw [HDR.out, pieces_ok HRD.out, ← HDR.out, List.drop_drop] at this
                      exact this
                    · intro q hq
                      rcases List.mem_append.1 hq with hq | hq
                      · exact HNQ.out q hq
                      · rw [List.mem_singleton] at hq
                        rw [hq, rd_isQ HRD.out]
                        simpa using HNB.out
                    · rw [List.map_append, List.map_cons, List.map_nil, joinP_snoc, HL.out]
                    · have := addP_len L p; omega
                · exfalso
                  have := HPK.out
                  rw [HDR.out, pieces_bad (by simp) hrd] at this
                  cases this
            · obtain rfl : k = s.length := by omega
              have hnk : ¬ (s.length : Int) < (B.size : Int) := by have := HBZ.out; omega
              have HTt : Hid (targetR s = if placeR L = true then ⟨false, true, hh, L, false, [], 0, 0⟩ else .fault 3 (((7 + hh.length) : Nat) : Int)) := Lib.hid (by
                rw [HT0.out, HPC.out, List.drop_length, pieces_nil, List.append_nil, rest_end HNQ.out, ← HL.out])
              obtain ⟨a, c, hv, hLc, hcm, hP⟩ := HM.out.ow.form
              subst hv
              have hpl := fun W h => place_any a c L W h (by omega) (fun q hq => by have := HT.out q hq; omega)
              have HPt := Lib.hid hP
              have x3 := cell_list HM.out.tt 3
              simp only [List.getElem?_cons_zero, List.getElem?_cons_succ] at x3
              clear hP
              go_wp2_with fail
              refine (hpl _ HPt.out).mono ?_
              rintro e w2 ⟨rfl, h2⟩
              have M2 := HM.out.below h2
              have HM2 := Lib.hid M2
              clear x3 hpl HPt M2
              rcases hpr : placeR L with _ | _
              · have hT : targetR s = .fault 3 (((7 + hh.length) : Nat) : Int) := by rw [HTt.out, if_neg (by rw [hpr]; simp)]
                have HTf := Lib.hid hT
                have hrt := HM2.out.rt
                have hrf := HM2.out.rf
                have hbl := HM2.out.bl
                clear hT hpr h2
                have t0 := cell_list hrt 0
                have t1 := cell_list hrt 1
                have t2 := cell_list hrt 2
                have t3 := cell_list hrt 3
                have t4 := cell_list hrt 4
                have t5 := cell_list hrt 5
                have tf := frozen_list hrt
                have f0 := cell_list hrf 0
                have f1 := cell_list hrf 1
                have ff := frozen_list hrf
                simp only [List.getElem?_cons_zero, List.getElem?_cons_succ] at t0 t1 t2 t3 t4 t5 f0 f1
                go_wp2_with fail
                have hE9 := tEnd hrt hrf hbl (.bool false) (.bool false) (.string ⟨#[]⟩) (.slice none 0 0) (.bool false) (.slice none 0 0) (.int .i64 3) (.int .i64 (7 + (hh.length : Int)))
                obtain ⟨hr6, hr7, hb9⟩ := hE9
                obtain ⟨W9, hW9⟩ : ∃ W9, W9 = set2 (set6 w2 w.heap.size (.bool false) (.bool false) (.string ⟨#[]⟩) (.slice none 0 0) (.bool false) (.slice none 0 0)) (w.heap.size + 1) (.int .i64 3) (.int .i64 (7 + (hh.length : Int))) := ⟨_, rfl⟩
                rw [← hW9] at hr6 hr7 hb9 
                unfold set2 set6 at hW9
                rw [← hW9]
                clear hW9
                have z0 := cell_list hr6 0
                have z1 := cell_list hr6 1
                have z2 := cell_list hr6 2
                have z3 := cell_list hr6 3
                have z4 := cell_list hr6 4
                have z5 := cell_list hr6 5
                have y0 := cell_list hr7 0
                have y1 := cell_list hr7 1
                simp only [List.getElem?_cons_zero, List.getElem?_cons_succ] at z0 z1 z2 z3 z4 z5 y0 y1
                try rw [Exit.noGoto_ret]
                refine bodyPost_ret (v := .tuple #[.agg #[.bool false, .bool false, .string ⟨#[]⟩, .slice none 0 0, .bool false, .slice none 0 0], .agg #[.int .i64 3, .int .i64 (7 + (hh.length : Int))]]) (by simp [results, Tryd.results14, go_sem, z0, z1, z2, z3, z4, z5, y0, y1]) rfl ?_
                rw [HP.out, HTf.out]
                exact ⟨none, 0, none, 0, rfl, Parts.nil _ _, Parts.nil _ _, hb9, Nat.le_refl _, Nat.zero_le _, Nat.le_refl _, Nat.zero_le _⟩
              · have hT : targetR s = ⟨false, true, hh, L, false, [], 0, 0⟩ := by rw [HTt.out, if_pos hpr]
                have HTf := Lib.hid hT
                have hrt := HM2.out.rt
                have hrf := HM2.out.rf
                have hbl := HM2.out.bl
                have hO9 := ownsEnd HM2.out.ow (g := w.heap.size) (by have := HM2.out.lt; omega) (.bool false) (.bool true) (.string (bs hh)) (.slice a L.length c) (.bool false) (.slice none 0 0) (.int .i64 0) (.int .i64 0)
                have htt := HM2.out.tt
                clear hT hpr h2
                have t0 := cell_list hrt 0
                have t1 := cell_list hrt 1
                have t2 := cell_list hrt 2
                have t3 := cell_list hrt 3
                have t4 := cell_list hrt 4
                have t5 := cell_list hrt 5
                have tf := frozen_list hrt
                have f0 := cell_list hrf 0
                have f1 := cell_list hrf 1
                have ff := frozen_list hrf
                simp only [List.getElem?_cons_zero, List.getElem?_cons_succ] at t0 t1 t2 t3 t4 t5 f0 f1
                have x0 := cell_list htt 0
                have x1 := cell_list htt 1
                have x2 := cell_list htt 2
                have x3 := cell_list htt 3
                have x4 := cell_list htt 4
                have x5 := cell_list htt 5
                simp only [List.getElem?_cons_zero, List.getElem?_cons_succ] at x0 x1 x2 x3 x4 x5
                have HO9 := Lib.hid hO9
                clear hO9
                go_wp2_with fail
                have hO9 := HO9.out
                clear HO9
                have hE9 := tEnd hrt hrf hbl (.bool false) (.bool true) (.string (bs hh)) (.slice a L.length c) (.bool false) (.slice none 0 0) (.int .i64 0) (.int .i64 0)
                obtain ⟨hr6, hr7, hb9⟩ := hE9
                obtain ⟨W9, hW9⟩ : ∃ W9, W9 = set2 (set6 w2 w.heap.size (.bool false) (.bool true) (.string (bs hh)) (.slice a L.length c) (.bool false) (.slice none 0 0)) (w.heap.size + 1) (.int .i64 0) (.int .i64 0) := ⟨_, rfl⟩
                rw [← hW9] at hr6 hr7 hb9 hO9
                unfold set2 set6 at hW9
                rw [← hW9]
                clear hW9
                have z0 := cell_list hr6 0
                have z1 := cell_list hr6 1
                have z2 := cell_list hr6 2
                have z3 := cell_list hr6 3
                have z4 := cell_list hr6 4
                have z5 := cell_list hr6 5
                have y0 := cell_list hr7 0
                have y1 := cell_list hr7 1
                simp only [List.getElem?_cons_zero, List.getElem?_cons_succ] at z0 z1 z2 z3 z4 z5 y0 y1
                try rw [Exit.noGoto_ret]
                refine bodyPost_ret (v := .tuple #[.agg #[.bool false, .bool true, .string (bs hh), .slice a L.length c, .bool false, .slice none 0 0], .agg #[.int .i64 0, .int .i64 0]]) (by simp [results, Tryd.results14, go_sem, z0, z1, z2, z3, z4, z5, y0, y1]) rfl ?_
                rw [HP.out, HTf.out]
                obtain ⟨a9, c9, e9, k1, k2, hP9⟩ := OwnParts.form hO9
                cases e9
                exact ⟨a, c, none, 0, rfl, hP9, Parts.nil _ _, hb9, k1, k2, Nat.le_refl _, Nat.zero_le _⟩
theorem target_any (s : Tp.Bs) (w : World) (hs : s.length ≤ 100000) (hN : Nm w) : Calls Tryd.prog 14 #[.string (bs s)] w fun e w' => TargetPost (targetR s) w e w' :=
  (target_cap s w hs hN).mono fun _ _ ⟨pa, pc, qa, qc, h1, h2, h3, h4, _⟩ => ⟨pa, pc, qa, qc, h1, h2, h3, h4⟩
end Go.Proofs.YtllklgalghmnfaaDoor
