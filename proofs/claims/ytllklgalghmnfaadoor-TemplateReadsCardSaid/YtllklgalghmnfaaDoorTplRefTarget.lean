/- The reference's ReadTarget. -/
import Derived.Test.YtllklgalghmnfaaDoorTplTarget1
import Derived.RegionTactic
import Derived.Deep.LoopGhost
namespace Go.Proofs.YtllklgalghmnfaaDoor
open Go.RowKit Str Mem Tp
set_option linter.unusedVariables false
set_option linter.unusedSimpArgs false

theorem ex_f (A : Act) (G : (Nat → Value) → Act) (h : A = G (fun i => A.tmps.getD i (.bool false))) : ∃ f : Nat → Value, A = G f := ⟨_, h⟩
set_option maxRecDepth 100000 in
set_option maxHeartbeats 8000000 in
theorem refTarget_any (s : Tp.Bs) (w : World) (hs : s.length ≤ 100000) : Calls Tryd.prog 15 #[.string (bs s)] w fun e w' => TargetPost (targetR s) w e w' := by
  obtain ⟨P, hP⟩ : ∃ P : Ending → World → Prop, P = TargetPost (targetR s) w := ⟨_, rfl⟩
  have HP := Lib.hid hP
  rw [← hP]
  clear hP
  have hq := fun W => refPieces_any s W hs
  have hTR : targetR s = targetR s := rfl
  conv at hTR => rhs; unfold targetR
  have hwell : (parseR s).e = 0 → _ := fun h => parse_well h
  have hpw : (parseR s).e = 0 → _ := fun h => pieces_well h
  have hil : (parseR s).e ≠ 0 → _ := fun h => pieces_ill h
  obtain ⟨R, hR⟩ : ∃ R, parseR s = R := ⟨_, rfl⟩
  rw [hR] at hTR hwell hpw hil
  obtain ⟨LR, er, ea⟩ := R
  obtain ⟨Q, hQ⟩ : ∃ Q, piecesR s = Q := ⟨_, rfl⟩
  rw [hQ] at hq hpw hil
  obtain ⟨PS, qe, qa⟩ := Q
  simp only [] at hTR hwell hpw hil
  have HTR := Lib.hid hTR
  have HWL := Lib.hid hwell
  have HPW := Lib.hid hpw
  have HIL := Lib.hid hil
  clear hTR hwell hR hQ hpw hil
  have hb0 := ((Below.refl _ w).alloc (Nat.le_refl _) (.cells #[.bool false, .bool false, .string ⟨#[]⟩, .slice none 0 0, .bool false, .slice none 0 0] 30)).alloc (by simp) (.cells #[.int .i64 0, .int .i64 0] 26)
  have hrt0 := (Below.heap_alloc (w.alloc (.cells #[.bool false, .bool false, .string ⟨#[]⟩, .slice none 0 0, .bool false, .slice none 0 0] 30)) (.cells #[.int .i64 0, .int .i64 0] 26) w.heap.size (by simp)).trans (World.alloc_heap_new w (.cells #[.bool false, .bool false, .string ⟨#[]⟩, .slice none 0 0, .bool false, .slice none 0 0] 30))
  have hrf0 := World.alloc_heap_new (w.alloc (.cells #[.bool false, .bool false, .string ⟨#[]⟩, .slice none 0 0, .bool false, .slice none 0 0] 30)) (.cells #[.int .i64 0, .int .i64 0] 26)
  obtain ⟨B, hB⟩ : ∃ B, B = bs s := ⟨_, rfl⟩
  have hbg := fun W => begins_any s hs W
  rw [← hB] at hq hbg ⊢
  have hBl : B.toList = s := by rw [toList_data, hB, data_bs]
  have HBL := Lib.hid hBl
  clear hB hBl
  go_enter Tryd.func15, Tryd.ntmps15
  go_wp2_with fail
  refine (hq _).mono ?_
  rintro e w1 ⟨v, rfl, hO, h1⟩
  simp only [] at hO
  have hb1 := hb0.trans (h1.mono hb0.size)
  have hrt1 := (h1.block _ (lt_of_cells hrt0)).trans hrt0
  have hrf1 := (h1.block _ (lt_of_cells hrf0)).trans hrf0
  rw [World.size_alloc] at hrf1
  have l1 := lt_of_cells hrf1
  have hO1 : OwnPieces w1 (w.heap.size + 1 + 1) v PS := by rw [World.size_alloc, World.size_alloc] at hO; exact hO
  clear hO h1 hb0 hrt0 hrf0 hq
  by_cases he : ¬ er = 0
  · obtain ⟨i1, i2⟩ := HIL.out he
    subst i1
    subst i2
    have he' := he
    clear hO1 HIL HPW HWL he'
    have heb : (qe != 0) = true := by simpa using he
    have hT : targetR s = .fault qe qa := by rw [HTR.out, if_pos he]
    have HT := Lib.hid hT
    have hW := (Below.refl _ w1).alloc (Nat.le_refl _) (.cells #[.int .i64 qe, .int .i64 qa] 26)
    have hr5 := World.alloc_heap_new w1 (.cells #[.int .i64 qe, .int .i64 qa] 26)
    have hrt := (hW.block _ (by omega)).trans hrt1
    have hrf := (hW.block _ l1).trans hrf1
    have hb2 := hb1.alloc hb1.size (.cells #[.int .i64 qe, .int .i64 qa] 26)
    clear he hT
    go_wp2_with fail
    obtain ⟨W, hWe⟩ : ∃ W, W = w1.alloc (.cells #[.int .i64 qe, .int .i64 qa] 26) := ⟨_, rfl⟩
    obtain ⟨n5, hn5⟩ : ∃ n5, n5 = w1.heap.size := ⟨_, rfl⟩
    rw [← hWe] at hr5 hrt hrf hb2 ⊢
    rw [← hn5] at hr5 ⊢
    have hne : ¬ n5 = w.heap.size := by omega
    have hne2 : ¬ n5 = w.heap.size + 1 := by omega
    clear hW hWe hn5 l1 hb1 hrt1 hrf1
    have t0 := cell_list hrt 0
    have t1 := cell_list hrt 1
    have t2 := cell_list hrt 2
    have t3 := cell_list hrt 3
    have t4 := cell_list hrt 4
    have t5 := cell_list hrt 5
    have tf := frozen_list hrt
    have f0 := cell_list hrf 0
    have f1 := cell_list hrf 1
    have ff := frozen_list hrf
    simp only [List.getElem?_cons_zero, List.getElem?_cons_succ] at t0 t1 t2 t3 t4 t5 f0 f1
    have e0 := cell_list (cs := [.int .i64 qe, .int .i64 qa]) hr5 0
    have e1 := cell_list (cs := [.int .i64 qe, .int .i64 qa]) hr5 1
    simp only [List.getElem?_cons_zero, List.getElem?_cons_succ] at e0 e1
    go_region
    all_goals
      go_wp2_with fail
      have hE9 := tEnd hrt hrf hb2 (.bool false) (.bool false) (.string ⟨#[]⟩) (.slice none 0 0) (.bool false) (.slice none 0 0) (.int .i64 qe) (.int .i64 qa)
      obtain ⟨hr6, hr7, hb9⟩ := hE9
      obtain ⟨W9, hW9⟩ : ∃ W9, W9 = set2 (set6 W w.heap.size (.bool false) (.bool false) (.string ⟨#[]⟩) (.slice none 0 0) (.bool false) (.slice none 0 0)) (w.heap.size + 1) (.int .i64 qe) (.int .i64 qa) := ⟨_, rfl⟩
      rw [← hW9] at hr6 hr7 hb9 
      unfold set2 set6 at hW9
      rw [← hW9]
      clear hW9
      have hr6 : W9.drew.heap[w.heap.size]? = _ := hr6
      have hr7 : W9.drew.heap[w.heap.size + 1]? = _ := hr7
      have hb9 := hb9.drew
      obtain ⟨W8, hW8⟩ : ∃ W8, W8 = W9.drew := ⟨_, rfl⟩
      rw [← hW8] at hr6 hr7 hb9 ⊢
      clear hW8
      have z0 := cell_list hr6 0
      have z1 := cell_list hr6 1
      have z2 := cell_list hr6 2
      have z3 := cell_list hr6 3
      have z4 := cell_list hr6 4
      have z5 := cell_list hr6 5
      have y0 := cell_list hr7 0
      have y1 := cell_list hr7 1
      simp only [List.getElem?_cons_zero, List.getElem?_cons_succ] at z0 z1 z2 z3 z4 z5 y0 y1
      try rw [Exit.noGoto_ret]
      refine bodyPost_ret (v := .tuple #[.agg #[.bool false, .bool false, .string ⟨#[]⟩, .slice none 0 0, .bool false, .slice none 0 0], .agg #[.int .i64 qe, .int .i64 qa]]) (by simp [results, Tryd.results15, go_sem, z0, z1, z2, z3, z4, z5, y0, y1]) rfl ?_
      rw [HP.out, HT.out]
      exact ⟨none, 0, none, 0, rfl, Parts.nil _ _, Parts.nil _ _, hb9⟩
  have he0 : er = 0 := by omega
  subst he0
  obtain ⟨hw96, hwp, _⟩ := HWL.out rfl
  have hps := HPW.out rfl
  obtain ⟨rfl, rfl, rfl⟩ : PS = (pieces s 0).1 ∧ qe = 0 ∧ qa = 0 := by cases hps; exact ⟨rfl, rfl, rfl⟩
  have hPn : (pieces s 0).1.length ≤ 96 := by
    have := pieces_count s.length s 0
    show (pcs s.length s 0).1.length ≤ 96
    omega
  have hPt := pcs_text s.length s 0
  have hPl := pcs_lit s.length s 0
  change ∀ q ∈ (pieces s 0).1, _ at hPt
  change ∀ q ∈ (pieces s 0).1, _ at hPl
  obtain ⟨PS, hPS⟩ : ∃ PS, (pieces s 0).1 = PS := ⟨_, rfl⟩
  rw [hPS] at hPn hPt hPl hO1
  have HPt := Lib.hid hPt
  have HPl := Lib.hid hPl
  have HPS := Lib.hid hPS
  have HWP := Lib.hid hwp
  clear he hwp HWL HPW HIL hPt hPl hPS hps
  obtain ⟨a, c, hv, hLc, hcm, hPi⟩ := Owns.form hO1
  have hab : ∀ ad : Addr, a = some ad → w.heap.size + 1 < ad.block ∧ ad.block < w1.heap.size + 1 := fun ad e => by
    have := hO1.lt ad.block (by rw [hv, e]; rfl)
    omega
  subst hv
  have HAB := Lib.hid hab
  have HPi := Lib.hid hPi
  have hW := (Below.refl _ w1).alloc (Nat.le_refl _) (.cells #[.int .i64 0, .int .i64 0] 26)
  have hrt := (hW.block _ (by omega)).trans hrt1
  have hrf := (hW.block _ l1).trans hrf1
  have hb2 := hb1.alloc hb1.size (.cells #[.int .i64 0, .int .i64 0] 26)
  clear hW hO1 hab hPi
  have t0 := cell_list hrt 0
  have t1 := cell_list hrt 1
  have t2 := cell_list hrt 2
  have t3 := cell_list hrt 3
  have t4 := cell_list hrt 4
  have t5 := cell_list hrt 5
  have tf := frozen_list hrt
  have f0 := cell_list hrf 0
  have f1 := cell_list hrf 1
  have ff := frozen_list hrf
  simp only [List.getElem?_cons_zero, List.getElem?_cons_succ] at t0 t1 t2 t3 t4 t5 f0 f1
  by_cases hse : s = []
  · have hBe : B.toList.isEmpty = true := by rw [HBL.out, hse]; rfl
    have hT : targetR s = .fault 2 0 := by rw [HTR.out, if_neg (by simp), if_pos hse]
    have HT := Lib.hid hT
    clear hse hT
    go_wp2_with fail
    obtain ⟨W, hWe⟩ : ∃ W, W = w1.alloc (.cells #[.int .i64 0, .int .i64 0] 26) := ⟨_, rfl⟩
    rw [← hWe] at hrt hrf hb2 ⊢
    have hE9 := tEnd hrt hrf hb2 (.bool false) (.bool false) (.string ⟨#[]⟩) (.slice none 0 0) (.bool false) (.slice none 0 0) (.int .i64 2) (.int .i64 0)
    obtain ⟨hr6, hr7, hb9⟩ := hE9
    obtain ⟨W9, hW9⟩ : ∃ W9, W9 = set2 (set6 W w.heap.size (.bool false) (.bool false) (.string ⟨#[]⟩) (.slice none 0 0) (.bool false) (.slice none 0 0)) (w.heap.size + 1) (.int .i64 2) (.int .i64 0) := ⟨_, rfl⟩
    rw [← hW9] at hr6 hr7 hb9 
    unfold set2 set6 at hW9
    rw [← hW9]
    clear hW9
    have z0 := cell_list hr6 0
    have z1 := cell_list hr6 1
    have z2 := cell_list hr6 2
    have z3 := cell_list hr6 3
    have z4 := cell_list hr6 4
    have z5 := cell_list hr6 5
    have y0 := cell_list hr7 0
    have y1 := cell_list hr7 1
    simp only [List.getElem?_cons_zero, List.getElem?_cons_succ] at z0 z1 z2 z3 z4 z5 y0 y1
    try rw [Exit.noGoto_ret]
    refine bodyPost_ret (v := .tuple #[.agg #[.bool false, .bool false, .string ⟨#[]⟩, .slice none 0 0, .bool false, .slice none 0 0], .agg #[.int .i64 2, .int .i64 0]]) (by simp [results, Tryd.results15, go_sem, z0, z1, z2, z3, z4, z5, y0, y1]) rfl ?_
    rw [HP.out, HT.out]
    exact ⟨none, 0, none, 0, rfl, Parts.nil _ _, Parts.nil _ _, hb9⟩
  have hBe : B.toList.isEmpty = false := by rw [HBL.out]; simpa using hse
  by_cases hsm : s = [45]
  · have hBs : (B.toList == [45]) = true := by rw [HBL.out, hsm]; rfl
    have hT : targetR s = ⟨true, false, [], [], false, [], 0, 0⟩ := by rw [HTR.out, if_neg (by simp), if_neg hse, if_pos hsm]
    have HT := Lib.hid hT
    clear hse hsm hT
    go_wp2_with fail
    obtain ⟨W, hWe⟩ : ∃ W, W = w1.alloc (.cells #[.int .i64 0, .int .i64 0] 26) := ⟨_, rfl⟩
    rw [← hWe] at hrt hrf hb2 ⊢
    have hE9 := tEnd hrt hrf hb2 (.bool true) (.bool false) (.string ⟨#[]⟩) (.slice none 0 0) (.bool false) (.slice none 0 0) (.int .i64 0) (.int .i64 0)
    obtain ⟨hr6, hr7, hb9⟩ := hE9
    obtain ⟨W9, hW9⟩ : ∃ W9, W9 = set2 (set6 W w.heap.size (.bool true) (.bool false) (.string ⟨#[]⟩) (.slice none 0 0) (.bool false) (.slice none 0 0)) (w.heap.size + 1) (.int .i64 0) (.int .i64 0) := ⟨_, rfl⟩
    rw [← hW9] at hr6 hr7 hb9 
    unfold set2 set6 at hW9
    rw [← hW9]
    clear hW9
    have z0 := cell_list hr6 0
    have z1 := cell_list hr6 1
    have z2 := cell_list hr6 2
    have z3 := cell_list hr6 3
    have z4 := cell_list hr6 4
    have z5 := cell_list hr6 5
    have y0 := cell_list hr7 0
    have y1 := cell_list hr7 1
    simp only [List.getElem?_cons_zero, List.getElem?_cons_succ] at z0 z1 z2 z3 z4 z5 y0 y1
    try rw [Exit.noGoto_ret]
    refine bodyPost_ret (v := .tuple #[.agg #[.bool true, .bool false, .string ⟨#[]⟩, .slice none 0 0, .bool false, .slice none 0 0], .agg #[.int .i64 0, .int .i64 0]]) (by simp [results, Tryd.results15, go_sem, z0, z1, z2, z3, z4, z5, y0, y1]) rfl ?_
    rw [HP.out, HT.out]
    exact ⟨none, 0, none, 0, rfl, Parts.nil _ _, Parts.nil _ _, hb9⟩
  have hBs : (B.toList == [45]) = false := by rw [HBL.out]; simpa using hsm
  have hTR := HTR.out
  rw [if_neg (by simp), if_neg hse, if_neg hsm] at hTR
  have HTR2 := Lib.hid hTR
  clear hTR HTR hse hsm t0 t1 t2 t3 t4 t5 tf f0 f1 ff
  obtain ⟨W1, hW1⟩ : ∃ W, W = w1.alloc (.cells #[.int .i64 0, .int .i64 0] 26) := ⟨_, rfl⟩
  rw [← hW1] at hrt hrf hb2
  have l2 := lt_of_cells hrf
  have hz1 : W1.heap.size = w1.heap.size + 1 := by rw [hW1]; simp
  have hM0 : RM w (W1.alloc (.cells #[.bool false, .bool false, .string ⟨#[]⟩, .slice none 0 0, .bool false, .slice none 0 0] 30)) W1.heap.size false [] (.slice none 0 0) false (.slice none 0 0) [] a PS :=
    ⟨⟨(Below.heap_alloc _ _ _ (by omega)).trans hrt, (Below.heap_alloc _ _ _ l2).trans hrf, World.alloc_heap_new _ _, l2, hb2.alloc hb2.size _, Owns.nil _ _ _ _⟩, by rw [hW1]; exact Rd.alloc (Rd.alloc HPi.out _) _, by rw [hz1]; exact HAB.out⟩
  have HM0 := Lib.hid hM0
  clear hM0 hrt hrf hrt1 hrf1 hb1 hb2
  rw [hz1] at HM0
  clear hz1
  rcases hpre : schemeS.isPrefixOf s with _ | _
  · have hT0 : targetR s = restR false [] 0 (PS.drop 0) := by
      rw [HTR2.out, if_neg (by rw [hpre]; simp), ← HPS.out]; rfl
    have HT0 := Lib.hid hT0
    rw [hpre] at hbg
    have hat : 0 ≤ PS.length := Nat.zero_le _
    have hhd : ∀ q, PS[0]? = some q → q.at' = 0 := fun q hq => by
      rcases hl : PS with _ | ⟨x, tl⟩
      · rw [hl] at hq; cases hq
      · rw [hl] at hq
        cases hq
        exact head_at (HPS.out.trans hl)
    have HHD := Lib.hid hhd
    clear hT0 hpre hhd
    go_wp2_with fail
    obtain ⟨n6, hn6⟩ : ∃ n6, n6 = w1.heap.size + 1 := ⟨_, rfl⟩
    obtain ⟨W2, hW2⟩ : ∃ W, W = (w1.alloc (.cells #[.int .i64 0, .int .i64 0] 26)).alloc (.cells #[.bool false, .bool false, .string ⟨#[]⟩, .slice none 0 0, .bool false, .slice none 0 0] 30) := ⟨_, rfl⟩
    rw [hW1, ← hW2, ← hn6] at HM0
    rw [← hW2, ← hn6]
    clear hW2 hW1 hn6
    refine (hbg _).mono ?_
    rintro e w2 ⟨rfl, rfl⟩
    go_wp2_with fail
    go_loopg [8] PS.length (fun g s8 W => MI PS W2 0 g s8 W)
    case atStart => exact ⟨0, rfl, Nat.le_refl _, hat, by omega, fun i q h1 h2 => by omega, rfl⟩
    case round =>
      obtain ⟨j, rfl, hj0, hj, hjg, hnq, rfl⟩ := hrel
      have HNQ := Lib.hid hnq
      clear hnq
      by_cases hlt : j < PS.length
      · obtain ⟨q, hq⟩ : ∃ q, PS[j]? = some q := ⟨_, List.getElem?_eq_getElem hlt⟩
        obtain ⟨ad, had, hbk, c0, c1, c2, c3, c4⟩ := HM0.out.ps.get j q hq
        subst had
        have HQ := Lib.hid hq
        have q2 : (0 : Int) ≤ (j : Int) := by omega
        have q4 : (j : Int) < (PS.length : Int) := by omega
        clear hq c0 c2 c3
        by_cases hQ : isQ q = true
        · have hQ2 : q.plain = true ∧ q.p.t = [63] := by unfold isQ at hQ; simpa using hQ
          have hpl := hQ2.1
          have ht : (q.p.t == [63]) = true := by rw [hQ2.2]; rfl
          rw [hpl] at c4
          have HQQ := Lib.hid hQ
          clear hQ hQ2 hpl
          go_wp2_with fail
          have hsp := mark_split (at0 := 0) (j := j) (by omega) (by omega) HNQ.out
          obtain ⟨D, hD⟩ : ∃ D, (PS.drop 0).take (j - 0) = D := ⟨_, rfl⟩
          have hsub := HM0.out.ps.sub (i := 0) (j := j) (by omega) (by omega) (some ad) (fun hx => by simp [Addr.add])
          rw [hD] at hsp hsub
          obtain ⟨hs1, hs2, hs3⟩ := hsp
          have hDP : ∀ q ∈ D, q ∈ PS := fun q hq => by rw [← hD] at hq; exact List.mem_of_mem_drop (List.mem_of_mem_take hq)
          have hpts := fun W h => refParts_any (some ad) c D W h (by omega) (fun q hq => HPt.out q (hDP q hq))
          obtain ⟨L, hL⟩ : ∃ L, joinP (D.map (·.p)) = L := ⟨_, rfl⟩
          have hLl : L.length ≤ 96 := by rw [← hL]; have := joinP_len (D.map (·.p)); simp at this; omega
          have hLit : Lit L := by
            rw [← hL]
            exact joinP_lit _ _ (fun p hp => by
              obtain ⟨q, hq, rfl⟩ := List.mem_map.1 hp
              exact HPl.out q (hDP q hq)) (fun q hq => by simp at hq)
          rw [hL] at hpts
          have hDn : L ≠ [] → 0 < PS.length := fun hne => by
            rcases Nat.lt_or_ge 0 PS.length with hx | hx
            · exact hx
            · exfalso
              have hD0 : D = [] := List.eq_nil_of_length_eq_zero (by omega)
              rw [hD0] at hL
              exact hne hL.symm
          obtain ⟨M, hM⟩ : ∃ M, joinP ((PS.drop (j + 1)).map (·.p)) = M := ⟨_, rfl⟩
          have hqd : PS.drop j = q :: PS.drop (j + 1) := by
            rw [List.drop_eq_getElem_cons hlt]
            have := HQ.out
            rw [List.getElem?_eq_getElem hlt] at this
            cases this
            rfl
          have HTt : Hid (targetR s = if placeR L = true then ⟨false, false, [], L, true, M, 0, 0⟩ else .fault 3 ((0 : Nat) : Int)) := Lib.hid (by
            rw [HT0.out, hs1, hqd, rest_hit hs2 HQQ.out, hL, hM])
          have hdl : (PS.drop (j + 1)).length = PS.length - (j + 1) := by simp
          have hsub2 : ∀ W, Pieces W (some ad) PS.length PS → ∀ ad', (j + 1 < PS.length → ad' = some (ad.add ((j + 1) * 5))) → Pieces W ad' (PS.length - (j + 1)) (PS.drop (j + 1)) := fun W h ad' e => by
            have := h.sub (i := j + 1) (j := PS.length) (by omega) (by omega) ad' e
            rw [List.take_of_length_le (by omega), hdl] at this
            exact this
          have HSU := Lib.hid hsub2
          have hpp : ∀ ad' cap W, Pieces W ad' (PS.length - (j + 1)) (PS.drop (j + 1)) → Calls Tryd.prog 51 #[.slice ad' (PS.length - (j + 1)) cap] W fun e w' => ∃ v, e = .returned v ∧ OwnParts w' W.heap.size v M ∧ Below W.heap.size W w' := fun ad' cap W h => by
            rw [← hdl] at h ⊢
            rw [← hM]
            exact refParts_any ad' cap _ W h (by omega) (fun q hq => HPt.out q (List.mem_of_mem_drop hq))
          have HPp := Lib.hid hpp
          clear hqd hsub2 hM hpp hdl
          have HDN := Lib.hid hDn
          have HLit := Lib.hid hLit
          rw [hs3] at hpts hsub
          clear hs1 hs2 hs3 hD hDP hL hDn hLit
          refine (hpts _ hsub).mono ?_
          rintro e w2 ⟨v2, rfl, hO2, h2⟩
          obtain ⟨pa, pc, hv2, _, _, hPa⟩ := OwnParts.form hO2
          subst hv2
          have Mw := HM0.out.tm.below h2
          have HMw := Lib.hid Mw
          have hO2' : OwnParts w2 (n6 + 1) (.slice pa L.length pc) L := Owns.mono hO2 (by have := lt_of_cells HM0.out.tm.tt; omega)
          have hpab : ∀ x : Addr, pa = some x → x.block ≠ n6 := fun x e => by
            have := (hO2'.lt x.block (by rw [e]; rfl)).1
            omega
          have M2 := (HM0.out.below h2).setV hO2'
          have HM2 := Lib.hid M2
          have hPs := Rd.setCell hPa (p := ⟨n6, 3, none⟩) hpab (.slice pa L.length pc)
          have HPs := Lib.hid hPs
          have x3 := cell_list Mw.tt 3
          have xf := frozen_list Mw.tt
          have lpa : ∀ x : Addr, pa = some x → x.block ≠ n6 := hpab
          simp only [List.getElem?_cons_zero, List.getElem?_cons_succ] at x3
          clear hpts hsub hO2 hO2' hPa h2 Mw M2 hPs hpab
          by_cases hL0 : L = []
          · have hlz : ¬ (0 : Int) < (L.length : Int) := by rw [hL0]; simp
            have hpr : placeR L = true := by rw [hL0]; rfl
            clear hL0
            have hT : targetR s = ⟨false, false, [], L, true, M, 0, 0⟩ := by rw [HTt.out, if_pos hpr]
            have HTf := Lib.hid hT
            have htw := HMw.out.tt
            have x4 := cell_list htw 4
            have M2h := HM2.out.setHq true
            have HM2h := Lib.hid M2h
            simp only [List.getElem?_cons_zero, List.getElem?_cons_succ] at x4
            clear hT hpr M2h htw
            have l6 := lt_of_cells HM2h.out.tm.tt
            go_wp2_with fail
            · have hs := HSU.out _ HM2h.out.ps (some ad) (fun hx => by omega)
              refine (HPp.out _ 0 _ hs).mono ?_
              rintro e w3 ⟨v3, rfl, hO3, h3⟩
              obtain ⟨qa, qc, hv3, _, _, _⟩ := OwnParts.form hO3
              subst hv3
              have hO3' : OwnParts (w3.setCell ⟨n6, 5, none⟩ (.slice qa M.length qc)) (n6 + 1) (.slice qa M.length qc) M := (ownsSetOld hO3 (by exact l6) _).mono (by omega)
              have Mt := HM2h.out.tm.below h3
              have M3 := Mt.setU (.slice qa M.length qc)
              have hrt := M3.rt
              have hrf := M3.rf
              have hbl := M3.bl
              have hO9 := ownsEnd M3.ow (g := w.heap.size) (by have := HM2h.out.tm.lt; omega) (.bool false) (.bool false) (.string (bs [])) (.slice pa L.length pc) (.bool true) (.slice qa M.length qc) (.int .i64 0) (.int .i64 0)
              have hU9 := ownsEnd hO3' (g := w.heap.size) (by have := HM2h.out.tm.lt; omega) (.bool false) (.bool false) (.string (bs [])) (.slice pa L.length pc) (.bool true) (.slice qa M.length qc) (.int .i64 0) (.int .i64 0)
              have htt := Mt.tt
              have xf := frozen_list Mt.tt
              clear hO3 hO3' h3 M3 Mt x4 hs
              have t0 := cell_list hrt 0
              have t1 := cell_list hrt 1
              have t2 := cell_list hrt 2
              have t3 := cell_list hrt 3
              have t4 := cell_list hrt 4
              have t5 := cell_list hrt 5
              have tf := frozen_list hrt
              have f0 := cell_list hrf 0
              have f1 := cell_list hrf 1
              have ff := frozen_list hrf
              simp only [List.getElem?_cons_zero, List.getElem?_cons_succ] at t0 t1 t2 t3 t4 t5 f0 f1
              have x0 := cell_list htt 0
              have x1 := cell_list htt 1
              have x2 := cell_list htt 2
              have x3 := cell_list htt 3
              have x4 := cell_list htt 4
              have x5 := cell_list htt 5
              simp only [List.getElem?_cons_zero, List.getElem?_cons_succ] at x0 x1 x2 x3 x4 x5
              have HO9 := Lib.hid hO9
              have HU9 := Lib.hid hU9
              clear hO9 hU9
              go_wp2_with fail
              have hO9 := HO9.out
              have hU9 := HU9.out
              clear HO9 HU9
              obtain ⟨W, hWe⟩ : ∃ W, W = w3.setCell ⟨n6, 5, none⟩ (.slice qa M.length qc) := ⟨_, rfl⟩
              rw [← hWe] at hrt hrf hbl hO9 hU9 ⊢
              have hE9 := tEnd hrt hrf hbl (.bool false) (.bool false) (.string (bs [])) (.slice pa L.length pc) (.bool true) (.slice qa M.length qc) (.int .i64 0) (.int .i64 0)
              obtain ⟨hr6, hr7, hb9⟩ := hE9
              obtain ⟨W9, hW9⟩ : ∃ W9, W9 = set2 (set6 W w.heap.size (.bool false) (.bool false) (.string (bs [])) (.slice pa L.length pc) (.bool true) (.slice qa M.length qc)) (w.heap.size + 1) (.int .i64 0) (.int .i64 0) := ⟨_, rfl⟩
              rw [← hW9] at hr6 hr7 hb9 hO9 hU9
              unfold set2 set6 at hW9
              rw [← hW9]
              clear hW9
              have z0 := cell_list hr6 0
              have z1 := cell_list hr6 1
              have z2 := cell_list hr6 2
              have z3 := cell_list hr6 3
              have z4 := cell_list hr6 4
              have z5 := cell_list hr6 5
              have y0 := cell_list hr7 0
              have y1 := cell_list hr7 1
              simp only [List.getElem?_cons_zero, List.getElem?_cons_succ] at z0 z1 z2 z3 z4 z5 y0 y1
              try rw [Exit.noGoto_ret]
              refine bodyPost_ret (v := .tuple #[.agg #[.bool false, .bool false, .string (bs []), .slice pa L.length pc, .bool true, .slice qa M.length qc], .agg #[.int .i64 0, .int .i64 0]]) (by simp [results, Tryd.results15, go_sem, z0, z1, z2, z3, z4, z5, y0, y1]) rfl ?_
              rw [HP.out, HTf.out]
              obtain ⟨a9, c9, e9, _, _, hP9⟩ := OwnParts.form hO9
              cases e9
              obtain ⟨a8, c8, e8, _, _, hP8⟩ := OwnParts.form hU9
              cases e8
              exact ⟨pa, pc, qa, qc, rfl, hP9, hP8, hb9⟩
            · have hs := HSU.out _ HM2h.out.ps (some (ad.add ((j + 1) * 5))) (fun hx => rfl)
              refine (HPp.out _ (c - (j + 1)) _ hs).mono ?_
              rintro e w3 ⟨v3, rfl, hO3, h3⟩
              obtain ⟨qa, qc, hv3, _, _, _⟩ := OwnParts.form hO3
              subst hv3
              have hO3' : OwnParts (w3.setCell ⟨n6, 5, none⟩ (.slice qa M.length qc)) (n6 + 1) (.slice qa M.length qc) M := (ownsSetOld hO3 (by exact l6) _).mono (by omega)
              have Mt := HM2h.out.tm.below h3
              have M3 := Mt.setU (.slice qa M.length qc)
              have hrt := M3.rt
              have hrf := M3.rf
              have hbl := M3.bl
              have hO9 := ownsEnd M3.ow (g := w.heap.size) (by have := HM2h.out.tm.lt; omega) (.bool false) (.bool false) (.string (bs [])) (.slice pa L.length pc) (.bool true) (.slice qa M.length qc) (.int .i64 0) (.int .i64 0)
              have hU9 := ownsEnd hO3' (g := w.heap.size) (by have := HM2h.out.tm.lt; omega) (.bool false) (.bool false) (.string (bs [])) (.slice pa L.length pc) (.bool true) (.slice qa M.length qc) (.int .i64 0) (.int .i64 0)
              have htt := Mt.tt
              have xf := frozen_list Mt.tt
              clear hO3 hO3' h3 M3 Mt x4 hs
              have t0 := cell_list hrt 0
              have t1 := cell_list hrt 1
              have t2 := cell_list hrt 2
              have t3 := cell_list hrt 3
              have t4 := cell_list hrt 4
              have t5 := cell_list hrt 5
              have tf := frozen_list hrt
              have f0 := cell_list hrf 0
              have f1 := cell_list hrf 1
              have ff := frozen_list hrf
              simp only [List.getElem?_cons_zero, List.getElem?_cons_succ] at t0 t1 t2 t3 t4 t5 f0 f1
              have x0 := cell_list htt 0
              have x1 := cell_list htt 1
              have x2 := cell_list htt 2
              have x3 := cell_list htt 3
              have x4 := cell_list htt 4
              have x5 := cell_list htt 5
              simp only [List.getElem?_cons_zero, List.getElem?_cons_succ] at x0 x1 x2 x3 x4 x5
              have HO9 := Lib.hid hO9
              have HU9 := Lib.hid hU9
              clear hO9 hU9
              go_wp2_with fail
              have hO9 := HO9.out
              have hU9 := HU9.out
              clear HO9 HU9
              obtain ⟨W, hWe⟩ : ∃ W, W = w3.setCell ⟨n6, 5, none⟩ (.slice qa M.length qc) := ⟨_, rfl⟩
              rw [← hWe] at hrt hrf hbl hO9 hU9 ⊢
              have hE9 := tEnd hrt hrf hbl (.bool false) (.bool false) (.string (bs [])) (.slice pa L.length pc) (.bool true) (.slice qa M.length qc) (.int .i64 0) (.int .i64 0)
              obtain ⟨hr6, hr7, hb9⟩ := hE9
              obtain ⟨W9, hW9⟩ : ∃ W9, W9 = set2 (set6 W w.heap.size (.bool false) (.bool false) (.string (bs [])) (.slice pa L.length pc) (.bool true) (.slice qa M.length qc)) (w.heap.size + 1) (.int .i64 0) (.int .i64 0) := ⟨_, rfl⟩
              rw [← hW9] at hr6 hr7 hb9 hO9 hU9
              unfold set2 set6 at hW9
              rw [← hW9]
              clear hW9
              have z0 := cell_list hr6 0
              have z1 := cell_list hr6 1
              have z2 := cell_list hr6 2
              have z3 := cell_list hr6 3
              have z4 := cell_list hr6 4
              have z5 := cell_list hr6 5
              have y0 := cell_list hr7 0
              have y1 := cell_list hr7 1
              simp only [List.getElem?_cons_zero, List.getElem?_cons_succ] at z0 z1 z2 z3 z4 z5 y0 y1
              try rw [Exit.noGoto_ret]
              refine bodyPost_ret (v := .tuple #[.agg #[.bool false, .bool false, .string (bs []), .slice pa L.length pc, .bool true, .slice qa M.length qc], .agg #[.int .i64 0, .int .i64 0]]) (by simp [results, Tryd.results15, go_sem, z0, z1, z2, z3, z4, z5, y0, y1]) rfl ?_
              rw [HP.out, HTf.out]
              obtain ⟨a9, c9, e9, _, _, hP9⟩ := OwnParts.form hO9
              cases e9
              obtain ⟨a8, c8, e8, _, _, hP8⟩ := OwnParts.form hU9
              cases e8
              exact ⟨pa, pc, qa, qc, rfl, hP9, hP8, hb9⟩
          obtain ⟨p, L', hLp⟩ : ∃ p L', L = p :: L' := by
            rcases L with _ | ⟨p, L'⟩
            · exact absurd rfl hL0
            · exact ⟨p, L', rfl⟩
          have hlp : (0 : Int) < (L.length : Int) := by rw [hLp]; simp
          have hpv : placeR L = ((p.k == 1) && (p.t.head? == some 47)) := by rw [hLp]; rfl
          have hli := HLit.out p (by rw [hLp]; simp)
          obtain ⟨pad, hpad, _, p0, p1, _⟩ := Parts.get (L := L) HPs.out 0 p (by rw [hLp]; rfl)
          subst hpad
          have e0 : pad.add (0 * 3) = pad := by unfold Addr.add; simp
          rw [e0] at p0 p1
          have lpb := lpa pad rfl
          have hat0 := HDN.out hL0
          obtain ⟨q0, hq0⟩ : ∃ q0, PS[0]? = some q0 := ⟨_, List.getElem?_eq_getElem hat0⟩
          obtain ⟨bd, hbd, _, _, _, _, d3, _⟩ := HM2.out.ps.get 0 q0 hq0
          have lbd := (HM2.out.ab bd hbd).2
          rw [HHD.out q0 hq0] at d3
          cases hbd
          have e1 : ad.add (0 * 5) = ad := by unfold Addr.add; simp
          rw [e1] at d3
          have HLP := Lib.hid hLp
          have HPV := Lib.hid hpv
          have HLI := Lib.hid hli
          clear hLp hpv hli e0 e1 hq0 HHD
          by_cases hk : p.k = 1
          · obtain ⟨x, t', hxt⟩ : ∃ x t', p.t = x :: t' := by
              rcases ht : p.t with _ | ⟨x, t'⟩
              · exact absurd ht (HLI.out hk)
              · exact ⟨x, t', rfl⟩
            have hkb : (p.k == 1) = true := by simpa using hk
            obtain ⟨Tx, hTx⟩ : ∃ Tx, bs p.t = Tx := ⟨_, rfl⟩
            rw [hTx] at p1
            have hT0 : 0 < Tx.size := by rw [← hTx, size_bs, hxt]; simp
            have hTb : Tx[0] = x := by subst hTx; rw [get_data _ 0 hT0]; simp [data_bs, hxt]
            by_cases hx : x = 47
            · have hpr : placeR L = true := by rw [HPV.out, hk, hxt, hx]; rfl
              have hTe : ((Tx[0].toNat : Int) == 47) = true := by rw [hTb, hx]; rfl
              rw [hk] at p0
              clear hk hkb hxt hTx hTb hx
              have hT : targetR s = ⟨false, false, [], L, true, M, 0, 0⟩ := by rw [HTt.out, if_pos hpr]
              have HTf := Lib.hid hT
              have htw := HMw.out.tt
              have x4 := cell_list htw 4
              have M2h := HM2.out.setHq true
              have HM2h := Lib.hid M2h
              simp only [List.getElem?_cons_zero, List.getElem?_cons_succ] at x4
              clear hT hpr M2h htw
              have l6 := lt_of_cells HM2h.out.tm.tt
              go_wp2_with fail
              · have hs := HSU.out _ HM2h.out.ps (some ad) (fun hx => by omega)
                refine (HPp.out _ 0 _ hs).mono ?_
                rintro e w3 ⟨v3, rfl, hO3, h3⟩
                obtain ⟨qa, qc, hv3, _, _, _⟩ := OwnParts.form hO3
                subst hv3
                have hO3' : OwnParts (w3.setCell ⟨n6, 5, none⟩ (.slice qa M.length qc)) (n6 + 1) (.slice qa M.length qc) M := (ownsSetOld hO3 (by exact l6) _).mono (by omega)
                have Mt := HM2h.out.tm.below h3
                have M3 := Mt.setU (.slice qa M.length qc)
                have hrt := M3.rt
                have hrf := M3.rf
                have hbl := M3.bl
                have hO9 := ownsEnd M3.ow (g := w.heap.size) (by have := HM2h.out.tm.lt; omega) (.bool false) (.bool false) (.string (bs [])) (.slice (some pad) L.length pc) (.bool true) (.slice qa M.length qc) (.int .i64 0) (.int .i64 0)
                have hU9 := ownsEnd hO3' (g := w.heap.size) (by have := HM2h.out.tm.lt; omega) (.bool false) (.bool false) (.string (bs [])) (.slice (some pad) L.length pc) (.bool true) (.slice qa M.length qc) (.int .i64 0) (.int .i64 0)
                have htt := Mt.tt
                have xf := frozen_list Mt.tt
                clear hO3 hO3' h3 M3 Mt x4 hs
                have t0 := cell_list hrt 0
                have t1 := cell_list hrt 1
                have t2 := cell_list hrt 2
                have t3 := cell_list hrt 3
                have t4 := cell_list hrt 4
                have t5 := cell_list hrt 5
                have tf := frozen_list hrt
                have f0 := cell_list hrf 0
                have f1 := cell_list hrf 1
                have ff := frozen_list hrf
                simp only [List.getElem?_cons_zero, List.getElem?_cons_succ] at t0 t1 t2 t3 t4 t5 f0 f1
                have x0 := cell_list htt 0
                have x1 := cell_list htt 1
                have x2 := cell_list htt 2
                have x3 := cell_list htt 3
                have x4 := cell_list htt 4
                have x5 := cell_list htt 5
                simp only [List.getElem?_cons_zero, List.getElem?_cons_succ] at x0 x1 x2 x3 x4 x5
                have HO9 := Lib.hid hO9
                have HU9 := Lib.hid hU9
                clear hO9 hU9
                go_wp2_with fail
                have hO9 := HO9.out
                have hU9 := HU9.out
                clear HO9 HU9
                obtain ⟨W, hWe⟩ : ∃ W, W = w3.setCell ⟨n6, 5, none⟩ (.slice qa M.length qc) := ⟨_, rfl⟩
                rw [← hWe] at hrt hrf hbl hO9 hU9 ⊢
                have hE9 := tEnd hrt hrf hbl (.bool false) (.bool false) (.string (bs [])) (.slice (some pad) L.length pc) (.bool true) (.slice qa M.length qc) (.int .i64 0) (.int .i64 0)
                obtain ⟨hr6, hr7, hb9⟩ := hE9
                obtain ⟨W9, hW9⟩ : ∃ W9, W9 = set2 (set6 W w.heap.size (.bool false) (.bool false) (.string (bs [])) (.slice (some pad) L.length pc) (.bool true) (.slice qa M.length qc)) (w.heap.size + 1) (.int .i64 0) (.int .i64 0) := ⟨_, rfl⟩
                rw [← hW9] at hr6 hr7 hb9 hO9 hU9
                unfold set2 set6 at hW9
                rw [← hW9]
                clear hW9
                have z0 := cell_list hr6 0
                have z1 := cell_list hr6 1
                have z2 := cell_list hr6 2
                have z3 := cell_list hr6 3
                have z4 := cell_list hr6 4
                have z5 := cell_list hr6 5
                have y0 := cell_list hr7 0
                have y1 := cell_list hr7 1
                simp only [List.getElem?_cons_zero, List.getElem?_cons_succ] at z0 z1 z2 z3 z4 z5 y0 y1
                try rw [Exit.noGoto_ret]
                refine bodyPost_ret (v := .tuple #[.agg #[.bool false, .bool false, .string (bs []), .slice (some pad) L.length pc, .bool true, .slice qa M.length qc], .agg #[.int .i64 0, .int .i64 0]]) (by simp [results, Tryd.results15, go_sem, z0, z1, z2, z3, z4, z5, y0, y1]) rfl ?_
                rw [HP.out, HTf.out]
                obtain ⟨a9, c9, e9, _, _, hP9⟩ := OwnParts.form hO9
                cases e9
                obtain ⟨a8, c8, e8, _, _, hP8⟩ := OwnParts.form hU9
                cases e8
                exact ⟨(some pad), pc, qa, qc, rfl, hP9, hP8, hb9⟩
              · have hs := HSU.out _ HM2h.out.ps (some (ad.add ((j + 1) * 5))) (fun hx => rfl)
                refine (HPp.out _ (c - (j + 1)) _ hs).mono ?_
                rintro e w3 ⟨v3, rfl, hO3, h3⟩
                obtain ⟨qa, qc, hv3, _, _, _⟩ := OwnParts.form hO3
                subst hv3
                have hO3' : OwnParts (w3.setCell ⟨n6, 5, none⟩ (.slice qa M.length qc)) (n6 + 1) (.slice qa M.length qc) M := (ownsSetOld hO3 (by exact l6) _).mono (by omega)
                have Mt := HM2h.out.tm.below h3
                have M3 := Mt.setU (.slice qa M.length qc)
                have hrt := M3.rt
                have hrf := M3.rf
                have hbl := M3.bl
                have hO9 := ownsEnd M3.ow (g := w.heap.size) (by have := HM2h.out.tm.lt; omega) (.bool false) (.bool false) (.string (bs [])) (.slice (some pad) L.length pc) (.bool true) (.slice qa M.length qc) (.int .i64 0) (.int .i64 0)
                have hU9 := ownsEnd hO3' (g := w.heap.size) (by have := HM2h.out.tm.lt; omega) (.bool false) (.bool false) (.string (bs [])) (.slice (some pad) L.length pc) (.bool true) (.slice qa M.length qc) (.int .i64 0) (.int .i64 0)
                have htt := Mt.tt
                have xf := frozen_list Mt.tt
                clear hO3 hO3' h3 M3 Mt x4 hs
                have t0 := cell_list hrt 0
                have t1 := cell_list hrt 1
                have t2 := cell_list hrt 2
                have t3 := cell_list hrt 3
                have t4 := cell_list hrt 4
                have t5 := cell_list hrt 5
                have tf := frozen_list hrt
                have f0 := cell_list hrf 0
                have f1 := cell_list hrf 1
                have ff := frozen_list hrf
                simp only [List.getElem?_cons_zero, List.getElem?_cons_succ] at t0 t1 t2 t3 t4 t5 f0 f1
                have x0 := cell_list htt 0
                have x1 := cell_list htt 1
                have x2 := cell_list htt 2
                have x3 := cell_list htt 3
                have x4 := cell_list htt 4
                have x5 := cell_list htt 5
                simp only [List.getElem?_cons_zero, List.getElem?_cons_succ] at x0 x1 x2 x3 x4 x5
                have HO9 := Lib.hid hO9
                have HU9 := Lib.hid hU9
                clear hO9 hU9
                go_wp2_with fail
                have hO9 := HO9.out
                have hU9 := HU9.out
                clear HO9 HU9
                obtain ⟨W, hWe⟩ : ∃ W, W = w3.setCell ⟨n6, 5, none⟩ (.slice qa M.length qc) := ⟨_, rfl⟩
                rw [← hWe] at hrt hrf hbl hO9 hU9 ⊢
                have hE9 := tEnd hrt hrf hbl (.bool false) (.bool false) (.string (bs [])) (.slice (some pad) L.length pc) (.bool true) (.slice qa M.length qc) (.int .i64 0) (.int .i64 0)
                obtain ⟨hr6, hr7, hb9⟩ := hE9
                obtain ⟨W9, hW9⟩ : ∃ W9, W9 = set2 (set6 W w.heap.size (.bool false) (.bool false) (.string (bs [])) (.slice (some pad) L.length pc) (.bool true) (.slice qa M.length qc)) (w.heap.size + 1) (.int .i64 0) (.int .i64 0) := ⟨_, rfl⟩
                rw [← hW9] at hr6 hr7 hb9 hO9 hU9
                unfold set2 set6 at hW9
                rw [← hW9]
                clear hW9
                have z0 := cell_list hr6 0
                have z1 := cell_list hr6 1
                have z2 := cell_list hr6 2
                have z3 := cell_list hr6 3
                have z4 := cell_list hr6 4
                have z5 := cell_list hr6 5
                have y0 := cell_list hr7 0
                have y1 := cell_list hr7 1
                simp only [List.getElem?_cons_zero, List.getElem?_cons_succ] at z0 z1 z2 z3 z4 z5 y0 y1
                try rw [Exit.noGoto_ret]
                refine bodyPost_ret (v := .tuple #[.agg #[.bool false, .bool false, .string (bs []), .slice (some pad) L.length pc, .bool true, .slice qa M.length qc], .agg #[.int .i64 0, .int .i64 0]]) (by simp [results, Tryd.results15, go_sem, z0, z1, z2, z3, z4, z5, y0, y1]) rfl ?_
                rw [HP.out, HTf.out]
                obtain ⟨a9, c9, e9, _, _, hP9⟩ := OwnParts.form hO9
                cases e9
                obtain ⟨a8, c8, e8, _, _, hP8⟩ := OwnParts.form hU9
                cases e8
                exact ⟨(some pad), pc, qa, qc, rfl, hP9, hP8, hb9⟩
            · have hpr : placeR L = false := by rw [HPV.out, hk, hxt]; simpa using hx
              have hTe : ((Tx[0].toNat : Int) == 47) = false := by
                rw [hTb, beq_eq_false_iff_ne]
                exact fun h => hx (UInt8.toNat.inj (by simpa using (by omega : x.toNat = 47)))
              rw [hk] at p0
              clear hk hkb hxt hTx hTb hx
              have hT : targetR s = .fault 3 ((0 : Nat) : Int) := by rw [HTt.out, if_neg (by rw [hpr]; simp)]
              have HTf := Lib.hid hT
              have hrt := HM2.out.tm.rt
              have hrf := HM2.out.tm.rf
              have hbl := HM2.out.tm.bl
              clear hT hpr
              have t0 := cell_list hrt 0
              have t1 := cell_list hrt 1
              have t2 := cell_list hrt 2
              have t3 := cell_list hrt 3
              have t4 := cell_list hrt 4
              have t5 := cell_list hrt 5
              have tf := frozen_list hrt
              have f0 := cell_list hrf 0
              have f1 := cell_list hrf 1
              have ff := frozen_list hrf
              simp only [List.getElem?_cons_zero, List.getElem?_cons_succ] at t0 t1 t2 t3 t4 t5 f0 f1
              go_wp2_with fail
              obtain ⟨W, hWe⟩ : ∃ W, W = w2.setCell ⟨n6, 3, none⟩ (.slice (some pad) L.length pc) := ⟨_, rfl⟩
              rw [← hWe] at hrt hrf hbl ⊢
              have hE9 := tEnd hrt hrf hbl (.bool false) (.bool false) (.string ⟨#[]⟩) (.slice none 0 0) (.bool false) (.slice none 0 0) (.int .i64 3) (.int .i64 0)
              obtain ⟨hr6, hr7, hb9⟩ := hE9
              obtain ⟨W9, hW9⟩ : ∃ W9, W9 = set2 (set6 W w.heap.size (.bool false) (.bool false) (.string ⟨#[]⟩) (.slice none 0 0) (.bool false) (.slice none 0 0)) (w.heap.size + 1) (.int .i64 3) (.int .i64 0) := ⟨_, rfl⟩
              rw [← hW9] at hr6 hr7 hb9 
              unfold set2 set6 at hW9
              rw [← hW9]
              clear hW9
              have z0 := cell_list hr6 0
              have z1 := cell_list hr6 1
              have z2 := cell_list hr6 2
              have z3 := cell_list hr6 3
              have z4 := cell_list hr6 4
              have z5 := cell_list hr6 5
              have y0 := cell_list hr7 0
              have y1 := cell_list hr7 1
              simp only [List.getElem?_cons_zero, List.getElem?_cons_succ] at z0 z1 z2 z3 z4 z5 y0 y1
              try rw [Exit.noGoto_ret]
              refine bodyPost_ret (v := .tuple #[.agg #[.bool false, .bool false, .string ⟨#[]⟩, .slice none 0 0, .bool false, .slice none 0 0], .agg #[.int .i64 3, .int .i64 0]]) (by simp [results, Tryd.results15, go_sem, z0, z1, z2, z3, z4, z5, y0, y1]) rfl ?_
              rw [HP.out, HTf.out]
              exact ⟨none, 0, none, 0, rfl, Parts.nil _ _, Parts.nil _ _, hb9⟩
          · have hpr : placeR L = false := by rw [HPV.out]; have : (p.k == 1) = false := by simpa using hk
                                              rw [this]; rfl
            have hkb : (p.k != 1) = true := by simpa using hk
            clear hk
            have hT : targetR s = .fault 3 ((0 : Nat) : Int) := by rw [HTt.out, if_neg (by rw [hpr]; simp)]
            have HTf := Lib.hid hT
            have hrt := HM2.out.tm.rt
            have hrf := HM2.out.tm.rf
            have hbl := HM2.out.tm.bl
            clear hT hpr
            have t0 := cell_list hrt 0
            have t1 := cell_list hrt 1
            have t2 := cell_list hrt 2
            have t3 := cell_list hrt 3
            have t4 := cell_list hrt 4
            have t5 := cell_list hrt 5
            have tf := frozen_list hrt
            have f0 := cell_list hrf 0
            have f1 := cell_list hrf 1
            have ff := frozen_list hrf
            simp only [List.getElem?_cons_zero, List.getElem?_cons_succ] at t0 t1 t2 t3 t4 t5 f0 f1
            go_wp2_with fail
            obtain ⟨W, hWe⟩ : ∃ W, W = w2.setCell ⟨n6, 3, none⟩ (.slice (some pad) L.length pc) := ⟨_, rfl⟩
            rw [← hWe] at hrt hrf hbl ⊢
            have hE9 := tEnd hrt hrf hbl (.bool false) (.bool false) (.string ⟨#[]⟩) (.slice none 0 0) (.bool false) (.slice none 0 0) (.int .i64 3) (.int .i64 0)
            obtain ⟨hr6, hr7, hb9⟩ := hE9
            obtain ⟨W9, hW9⟩ : ∃ W9, W9 = set2 (set6 W w.heap.size (.bool false) (.bool false) (.string ⟨#[]⟩) (.slice none 0 0) (.bool false) (.slice none 0 0)) (w.heap.size + 1) (.int .i64 3) (.int .i64 0) := ⟨_, rfl⟩
            rw [← hW9] at hr6 hr7 hb9 
            unfold set2 set6 at hW9
            rw [← hW9]
            clear hW9
            have z0 := cell_list hr6 0
            have z1 := cell_list hr6 1
            have z2 := cell_list hr6 2
            have z3 := cell_list hr6 3
            have z4 := cell_list hr6 4
            have z5 := cell_list hr6 5
            have y0 := cell_list hr7 0
            have y1 := cell_list hr7 1
            simp only [List.getElem?_cons_zero, List.getElem?_cons_succ] at z0 z1 z2 z3 z4 z5 y0 y1
            try rw [Exit.noGoto_ret]
            refine bodyPost_ret (v := .tuple #[.agg #[.bool false, .bool false, .string ⟨#[]⟩, .slice none 0 0, .bool false, .slice none 0 0], .agg #[.int .i64 3, .int .i64 0]]) (by simp [results, Tryd.results15, go_sem, z0, z1, z2, z3, z4, z5, y0, y1]) rfl ?_
            rw [HP.out, HTf.out]
            exact ⟨none, 0, none, 0, rfl, Parts.nil _ _, Parts.nil _ _, hb9⟩
        · obtain ⟨g', rfl⟩ : ∃ g', gk = g' + 1 := ⟨gk - 1, by omega⟩
          have hQ2 : isQ q = false := by simpa using hQ
          have HQQ := Lib.hid hQ2
          clear hQ
          have hrel2 : ∀ i q, 0 ≤ i → i < j + 1 → PS[i]? = some q → isQ q = false := fun i x h1 h2 hx => by
            rcases Nat.lt_or_ge i j with h | h
            · exact HNQ.out i x h1 h hx
            · obtain rfl : i = j := by omega
              rw [HQ.out] at hx
              cases hx
              exact HQQ.out
          have HR := Lib.hid hrel2
          clear hrel2
          rcases hpl : q.plain with _ | _
          · rw [hpl] at c4
            clear hQ2 hpl
            go_wp2_with fail
            go_roundg g'
            case measure => omega
            case rel => exact ⟨j + 1, by go_num, by omega, by omega, by omega, HR.out, rfl⟩
          · rw [hpl] at c4
            have ht : (q.p.t == [63]) = false := by unfold isQ at hQ2; rw [hpl, Bool.true_and] at hQ2; exact hQ2
            clear hQ2 hpl
            go_wp2_with fail
            go_roundg g'
            case measure => omega
            case rel => exact ⟨j + 1, by go_num, by omega, by omega, by omega, HR.out, rfl⟩
      · obtain rfl : j = PS.length := by omega
        have hnk : ¬ (PS.length : Int) < (PS.length : Int) := by omega
        go_wp2_with fail
        have hsp := mark_split (at0 := 0) (j := PS.length) (by omega) (by omega) HNQ.out
        obtain ⟨D, hD⟩ : ∃ D, (PS.drop 0).take (PS.length - 0) = D := ⟨_, rfl⟩
        have hsub := HM0.out.ps.sub (i := 0) (j := PS.length) (by omega) (by omega) a (fun hx => by rw [Nat.zero_mul]; cases a <;> simp [Addr.add])
        rw [hD] at hsp hsub
        obtain ⟨hs1, hs2, hs3⟩ := hsp
        have hDP : ∀ q ∈ D, q ∈ PS := fun q hq => by rw [← hD] at hq; exact List.mem_of_mem_drop (List.mem_of_mem_take hq)
        have hpts := fun W h => refParts_any a c D W h (by omega) (fun q hq => HPt.out q (hDP q hq))
        obtain ⟨L, hL⟩ : ∃ L, joinP (D.map (·.p)) = L := ⟨_, rfl⟩
        have hLl : L.length ≤ 96 := by rw [← hL]; have := joinP_len (D.map (·.p)); simp at this; omega
        have hLit : Lit L := by
          rw [← hL]
          exact joinP_lit _ _ (fun p hp => by
            obtain ⟨q, hq, rfl⟩ := List.mem_map.1 hp
            exact HPl.out q (hDP q hq)) (fun q hq => by simp at hq)
        rw [hL] at hpts
        have hDn : L ≠ [] → 0 < PS.length := fun hne => by
          rcases Nat.lt_or_ge 0 PS.length with hx | hx
          · exact hx
          · exfalso
            have hD0 : D = [] := List.eq_nil_of_length_eq_zero (by omega)
            rw [hD0] at hL
            exact hne hL.symm
        have HTt : Hid (targetR s = if placeR L = true then ⟨false, false, [], L, false, [], 0, 0⟩ else .fault 3 ((0 : Nat) : Int)) := Lib.hid (by
          rw [HT0.out, hs1, List.drop_length, List.append_nil, rest_end hs2, hL])
        have HDN := Lib.hid hDn
        have HLit := Lib.hid hLit
        rw [hs3] at hpts hsub
        clear hs1 hs2 hs3 hD hDP hL hDn hLit
        refine (hpts _ hsub).mono ?_
        rintro e w2 ⟨v2, rfl, hO2, h2⟩
        obtain ⟨pa, pc, hv2, _, _, hPa⟩ := OwnParts.form hO2
        subst hv2
        have Mw := HM0.out.tm.below h2
        have HMw := Lib.hid Mw
        have hO2' : OwnParts w2 (n6 + 1) (.slice pa L.length pc) L := Owns.mono hO2 (by have := lt_of_cells HM0.out.tm.tt; omega)
        have hpab : ∀ x : Addr, pa = some x → x.block ≠ n6 := fun x e => by
          have := (hO2'.lt x.block (by rw [e]; rfl)).1
          omega
        have M2 := (HM0.out.below h2).setV hO2'
        have HM2 := Lib.hid M2
        have hPs := Rd.setCell hPa (p := ⟨n6, 3, none⟩) hpab (.slice pa L.length pc)
        have HPs := Lib.hid hPs
        have x3 := cell_list Mw.tt 3
        have xf := frozen_list Mw.tt
        have lpa : ∀ x : Addr, pa = some x → x.block ≠ n6 := hpab
        simp only [List.getElem?_cons_zero, List.getElem?_cons_succ] at x3
        clear hpts hsub hO2 hO2' hPa h2 Mw M2 hPs hpab
        by_cases hL0 : L = []
        · have hlz : ¬ (0 : Int) < (L.length : Int) := by rw [hL0]; simp
          have hpr : placeR L = true := by rw [hL0]; rfl
          clear hL0
          have hT : targetR s = ⟨false, false, [], L, false, [], 0, 0⟩ := by rw [HTt.out, if_pos hpr]
          have HTf := Lib.hid hT
          have hrt := HM2.out.tm.rt
          have hrf := HM2.out.tm.rf
          have hbl := HM2.out.tm.bl
          have hO9 := ownsEnd HM2.out.tm.ow (g := w.heap.size) (by have := HM2.out.tm.lt; omega) (.bool false) (.bool false) (.string (bs [])) (.slice pa L.length pc) (.bool false) (.slice none 0 0) (.int .i64 0) (.int .i64 0)
          have htt := HMw.out.tt
          clear hT hpr
          have t0 := cell_list hrt 0
          have t1 := cell_list hrt 1
          have t2 := cell_list hrt 2
          have t3 := cell_list hrt 3
          have t4 := cell_list hrt 4
          have t5 := cell_list hrt 5
          have tf := frozen_list hrt
          have f0 := cell_list hrf 0
          have f1 := cell_list hrf 1
          have ff := frozen_list hrf
          simp only [List.getElem?_cons_zero, List.getElem?_cons_succ] at t0 t1 t2 t3 t4 t5 f0 f1
          have x0 := cell_list htt 0
          have x1 := cell_list htt 1
          have x2 := cell_list htt 2
          have x3 := cell_list htt 3
          have x4 := cell_list htt 4
          have x5 := cell_list htt 5
          simp only [List.getElem?_cons_zero, List.getElem?_cons_succ] at x0 x1 x2 x3 x4 x5
          have HO9 := Lib.hid hO9
          clear hO9
          go_wp2_with fail
          have hO9 := HO9.out
          clear HO9
          obtain ⟨W, hWe⟩ : ∃ W, W = w2.setCell ⟨n6, 3, none⟩ (.slice pa L.length pc) := ⟨_, rfl⟩
          rw [← hWe] at hrt hrf hbl hO9 ⊢
          have hE9 := tEnd hrt hrf hbl (.bool false) (.bool false) (.string (bs [])) (.slice pa L.length pc) (.bool false) (.slice none 0 0) (.int .i64 0) (.int .i64 0)
          obtain ⟨hr6, hr7, hb9⟩ := hE9
          obtain ⟨W9, hW9⟩ : ∃ W9, W9 = set2 (set6 W w.heap.size (.bool false) (.bool false) (.string (bs [])) (.slice pa L.length pc) (.bool false) (.slice none 0 0)) (w.heap.size + 1) (.int .i64 0) (.int .i64 0) := ⟨_, rfl⟩
          rw [← hW9] at hr6 hr7 hb9 hO9
          unfold set2 set6 at hW9
          rw [← hW9]
          clear hW9
          have z0 := cell_list hr6 0
          have z1 := cell_list hr6 1
          have z2 := cell_list hr6 2
          have z3 := cell_list hr6 3
          have z4 := cell_list hr6 4
          have z5 := cell_list hr6 5
          have y0 := cell_list hr7 0
          have y1 := cell_list hr7 1
          simp only [List.getElem?_cons_zero, List.getElem?_cons_succ] at z0 z1 z2 z3 z4 z5 y0 y1
          try rw [Exit.noGoto_ret]
          refine bodyPost_ret (v := .tuple #[.agg #[.bool false, .bool false, .string (bs []), .slice pa L.length pc, .bool false, .slice none 0 0], .agg #[.int .i64 0, .int .i64 0]]) (by simp [results, Tryd.results15, go_sem, z0, z1, z2, z3, z4, z5, y0, y1]) rfl ?_
          rw [HP.out, HTf.out]
          obtain ⟨a9, c9, e9, _, _, hP9⟩ := OwnParts.form hO9
          cases e9
          exact ⟨pa, pc, none, 0, rfl, hP9, Parts.nil _ _, hb9⟩
        obtain ⟨p, L', hLp⟩ : ∃ p L', L = p :: L' := by
          rcases L with _ | ⟨p, L'⟩
          · exact absurd rfl hL0
          · exact ⟨p, L', rfl⟩
        have hlp : (0 : Int) < (L.length : Int) := by rw [hLp]; simp
        have hpv : placeR L = ((p.k == 1) && (p.t.head? == some 47)) := by rw [hLp]; rfl
        have hli := HLit.out p (by rw [hLp]; simp)
        obtain ⟨pad, hpad, _, p0, p1, _⟩ := Parts.get (L := L) HPs.out 0 p (by rw [hLp]; rfl)
        subst hpad
        have e0 : pad.add (0 * 3) = pad := by unfold Addr.add; simp
        rw [e0] at p0 p1
        have lpb := lpa pad rfl
        have hat0 := HDN.out hL0
        obtain ⟨q0, hq0⟩ : ∃ q0, PS[0]? = some q0 := ⟨_, List.getElem?_eq_getElem hat0⟩
        obtain ⟨bd, hbd, _, _, _, _, d3, _⟩ := HM2.out.ps.get 0 q0 hq0
        have lbd := (HM2.out.ab bd hbd).2
        rw [HHD.out q0 hq0] at d3
        subst hbd
        have e1 : bd.add (0 * 5) = bd := by unfold Addr.add; simp
        rw [e1] at d3
        have HLP := Lib.hid hLp
        have HPV := Lib.hid hpv
        have HLI := Lib.hid hli
        clear hLp hpv hli e0 e1 hq0 HHD
        by_cases hk : p.k = 1
        · obtain ⟨x, t', hxt⟩ : ∃ x t', p.t = x :: t' := by
            rcases ht : p.t with _ | ⟨x, t'⟩
            · exact absurd ht (HLI.out hk)
            · exact ⟨x, t', rfl⟩
          have hkb : (p.k == 1) = true := by simpa using hk
          obtain ⟨Tx, hTx⟩ : ∃ Tx, bs p.t = Tx := ⟨_, rfl⟩
          rw [hTx] at p1
          have hT0 : 0 < Tx.size := by rw [← hTx, size_bs, hxt]; simp
          have hTb : Tx[0] = x := by subst hTx; rw [get_data _ 0 hT0]; simp [data_bs, hxt]
          by_cases hx : x = 47
          · have hpr : placeR L = true := by rw [HPV.out, hk, hxt, hx]; rfl
            have hTe : ((Tx[0].toNat : Int) == 47) = true := by rw [hTb, hx]; rfl
            rw [hk] at p0
            clear hk hkb hxt hTx hTb hx
            have hT : targetR s = ⟨false, false, [], L, false, [], 0, 0⟩ := by rw [HTt.out, if_pos hpr]
            have HTf := Lib.hid hT
            have hrt := HM2.out.tm.rt
            have hrf := HM2.out.tm.rf
            have hbl := HM2.out.tm.bl
            have hO9 := ownsEnd HM2.out.tm.ow (g := w.heap.size) (by have := HM2.out.tm.lt; omega) (.bool false) (.bool false) (.string (bs [])) (.slice (some pad) L.length pc) (.bool false) (.slice none 0 0) (.int .i64 0) (.int .i64 0)
            have htt := HMw.out.tt
            clear hT hpr
            have t0 := cell_list hrt 0
            have t1 := cell_list hrt 1
            have t2 := cell_list hrt 2
            have t3 := cell_list hrt 3
            have t4 := cell_list hrt 4
            have t5 := cell_list hrt 5
            have tf := frozen_list hrt
            have f0 := cell_list hrf 0
            have f1 := cell_list hrf 1
            have ff := frozen_list hrf
            simp only [List.getElem?_cons_zero, List.getElem?_cons_succ] at t0 t1 t2 t3 t4 t5 f0 f1
            have x0 := cell_list htt 0
            have x1 := cell_list htt 1
            have x2 := cell_list htt 2
            have x3 := cell_list htt 3
            have x4 := cell_list htt 4
            have x5 := cell_list htt 5
            simp only [List.getElem?_cons_zero, List.getElem?_cons_succ] at x0 x1 x2 x3 x4 x5
            have HO9 := Lib.hid hO9
            clear hO9
            go_wp2_with fail
            have hO9 := HO9.out
            clear HO9
            obtain ⟨W, hWe⟩ : ∃ W, W = w2.setCell ⟨n6, 3, none⟩ (.slice (some pad) L.length pc) := ⟨_, rfl⟩
            rw [← hWe] at hrt hrf hbl hO9 ⊢
            have hE9 := tEnd hrt hrf hbl (.bool false) (.bool false) (.string (bs [])) (.slice (some pad) L.length pc) (.bool false) (.slice none 0 0) (.int .i64 0) (.int .i64 0)
            obtain ⟨hr6, hr7, hb9⟩ := hE9
            obtain ⟨W9, hW9⟩ : ∃ W9, W9 = set2 (set6 W w.heap.size (.bool false) (.bool false) (.string (bs [])) (.slice (some pad) L.length pc) (.bool false) (.slice none 0 0)) (w.heap.size + 1) (.int .i64 0) (.int .i64 0) := ⟨_, rfl⟩
            rw [← hW9] at hr6 hr7 hb9 hO9
            unfold set2 set6 at hW9
            rw [← hW9]
            clear hW9
            have z0 := cell_list hr6 0
            have z1 := cell_list hr6 1
            have z2 := cell_list hr6 2
            have z3 := cell_list hr6 3
            have z4 := cell_list hr6 4
            have z5 := cell_list hr6 5
            have y0 := cell_list hr7 0
            have y1 := cell_list hr7 1
            simp only [List.getElem?_cons_zero, List.getElem?_cons_succ] at z0 z1 z2 z3 z4 z5 y0 y1
            try rw [Exit.noGoto_ret]
            refine bodyPost_ret (v := .tuple #[.agg #[.bool false, .bool false, .string (bs []), .slice (some pad) L.length pc, .bool false, .slice none 0 0], .agg #[.int .i64 0, .int .i64 0]]) (by simp [results, Tryd.results15, go_sem, z0, z1, z2, z3, z4, z5, y0, y1]) rfl ?_
            rw [HP.out, HTf.out]
            obtain ⟨a9, c9, e9, _, _, hP9⟩ := OwnParts.form hO9
            cases e9
            exact ⟨(some pad), pc, none, 0, rfl, hP9, Parts.nil _ _, hb9⟩
          · have hpr : placeR L = false := by rw [HPV.out, hk, hxt]; simpa using hx
            have hTe : ((Tx[0].toNat : Int) == 47) = false := by
              rw [hTb, beq_eq_false_iff_ne]
              exact fun h => hx (UInt8.toNat.inj (by simpa using (by omega : x.toNat = 47)))
            rw [hk] at p0
            clear hk hkb hxt hTx hTb hx
            have hT : targetR s = .fault 3 ((0 : Nat) : Int) := by rw [HTt.out, if_neg (by rw [hpr]; simp)]
            have HTf := Lib.hid hT
            have hrt := HM2.out.tm.rt
            have hrf := HM2.out.tm.rf
            have hbl := HM2.out.tm.bl
            clear hT hpr
            have t0 := cell_list hrt 0
            have t1 := cell_list hrt 1
            have t2 := cell_list hrt 2
            have t3 := cell_list hrt 3
            have t4 := cell_list hrt 4
            have t5 := cell_list hrt 5
            have tf := frozen_list hrt
            have f0 := cell_list hrf 0
            have f1 := cell_list hrf 1
            have ff := frozen_list hrf
            simp only [List.getElem?_cons_zero, List.getElem?_cons_succ] at t0 t1 t2 t3 t4 t5 f0 f1
            go_wp2_with fail
            obtain ⟨W, hWe⟩ : ∃ W, W = w2.setCell ⟨n6, 3, none⟩ (.slice (some pad) L.length pc) := ⟨_, rfl⟩
            rw [← hWe] at hrt hrf hbl ⊢
            have hE9 := tEnd hrt hrf hbl (.bool false) (.bool false) (.string ⟨#[]⟩) (.slice none 0 0) (.bool false) (.slice none 0 0) (.int .i64 3) (.int .i64 0)
            obtain ⟨hr6, hr7, hb9⟩ := hE9
            obtain ⟨W9, hW9⟩ : ∃ W9, W9 = set2 (set6 W w.heap.size (.bool false) (.bool false) (.string ⟨#[]⟩) (.slice none 0 0) (.bool false) (.slice none 0 0)) (w.heap.size + 1) (.int .i64 3) (.int .i64 0) := ⟨_, rfl⟩
            rw [← hW9] at hr6 hr7 hb9 
            unfold set2 set6 at hW9
            rw [← hW9]
            clear hW9
            have z0 := cell_list hr6 0
            have z1 := cell_list hr6 1
            have z2 := cell_list hr6 2
            have z3 := cell_list hr6 3
            have z4 := cell_list hr6 4
            have z5 := cell_list hr6 5
            have y0 := cell_list hr7 0
            have y1 := cell_list hr7 1
            simp only [List.getElem?_cons_zero, List.getElem?_cons_succ] at z0 z1 z2 z3 z4 z5 y0 y1
            try rw [Exit.noGoto_ret]
            refine bodyPost_ret (v := .tuple #[.agg #[.bool false, .bool false, .string ⟨#[]⟩, .slice none 0 0, .bool false, .slice none 0 0], .agg #[.int .i64 3, .int .i64 0]]) (by simp [results, Tryd.results15, go_sem, z0, z1, z2, z3, z4, z5, y0, y1]) rfl ?_
            rw [HP.out, HTf.out]
            exact ⟨none, 0, none, 0, rfl, Parts.nil _ _, Parts.nil _ _, hb9⟩
        · have hpr : placeR L = false := by rw [HPV.out]; have : (p.k == 1) = false := by simpa using hk
                                            rw [this]; rfl
          have hkb : (p.k != 1) = true := by simpa using hk
          clear hk
          have hT : targetR s = .fault 3 ((0 : Nat) : Int) := by rw [HTt.out, if_neg (by rw [hpr]; simp)]
          have HTf := Lib.hid hT
          have hrt := HM2.out.tm.rt
          have hrf := HM2.out.tm.rf
          have hbl := HM2.out.tm.bl
          clear hT hpr
          have t0 := cell_list hrt 0
          have t1 := cell_list hrt 1
          have t2 := cell_list hrt 2
          have t3 := cell_list hrt 3
          have t4 := cell_list hrt 4
          have t5 := cell_list hrt 5
          have tf := frozen_list hrt
          have f0 := cell_list hrf 0
          have f1 := cell_list hrf 1
          have ff := frozen_list hrf
          simp only [List.getElem?_cons_zero, List.getElem?_cons_succ] at t0 t1 t2 t3 t4 t5 f0 f1
          go_wp2_with fail
          obtain ⟨W, hWe⟩ : ∃ W, W = w2.setCell ⟨n6, 3, none⟩ (.slice (some pad) L.length pc) := ⟨_, rfl⟩
          rw [← hWe] at hrt hrf hbl ⊢
          have hE9 := tEnd hrt hrf hbl (.bool false) (.bool false) (.string ⟨#[]⟩) (.slice none 0 0) (.bool false) (.slice none 0 0) (.int .i64 3) (.int .i64 0)
          obtain ⟨hr6, hr7, hb9⟩ := hE9
          obtain ⟨W9, hW9⟩ : ∃ W9, W9 = set2 (set6 W w.heap.size (.bool false) (.bool false) (.string ⟨#[]⟩) (.slice none 0 0) (.bool false) (.slice none 0 0)) (w.heap.size + 1) (.int .i64 3) (.int .i64 0) := ⟨_, rfl⟩
          rw [← hW9] at hr6 hr7 hb9 
          unfold set2 set6 at hW9
          rw [← hW9]
          clear hW9
          have z0 := cell_list hr6 0
          have z1 := cell_list hr6 1
          have z2 := cell_list hr6 2
          have z3 := cell_list hr6 3
          have z4 := cell_list hr6 4
          have z5 := cell_list hr6 5
          have y0 := cell_list hr7 0
          have y1 := cell_list hr7 1
          simp only [List.getElem?_cons_zero, List.getElem?_cons_succ] at z0 z1 z2 z3 z4 z5 y0 y1
          try rw [Exit.noGoto_ret]
          refine bodyPost_ret (v := .tuple #[.agg #[.bool false, .bool false, .string ⟨#[]⟩, .slice none 0 0, .bool false, .slice none 0 0], .agg #[.int .i64 3, .int .i64 0]]) (by simp [results, Tryd.results15, go_sem, z0, z1, z2, z3, z4, z5, y0, y1]) rfl ?_
          rw [HP.out, HTf.out]
          exact ⟨none, 0, none, 0, rfl, Parts.nil _ _, Parts.nil _ _, hb9⟩
  · rw [hpre] at hbg
    obtain ⟨hsplit, hpc, h7n⟩ := pieces_ext hpre
    have hTR := HTR2.out
    rw [if_pos hpre] at hTR
    obtain ⟨hh, hhh⟩ : ∃ hh, hostOf s = hh := ⟨_, rfl⟩
    have hst := ext_stop hhh
    have hhb : ∀ b ∈ hh, hostB b = true := fun b hb => by rw [← hhh] at hb; exact tw_all hb
    rw [hhh] at hTR hpc h7n
    rw [show pieces s 0 = (PS, (pieces s 0).2) from by rw [← HPS.out]] at hpc
    obtain ⟨TL, hTL⟩ : ∃ TL, (pieces (s.drop (7 + hh.length)) (7 + hh.length)).1 = TL := ⟨_, rfl⟩
    have hhd : ∀ q tl, TL = q :: tl → q.at' = 7 + hh.length := fun q tl h => head_at (hTL.trans h)
    rw [hTL] at hTR hpc hst
    have hPS2 : PS = plainP (schemeS ++ hh) 0 ++ TL := congrArg Prod.fst hpc
    have hpl : (plainP (schemeS ++ hh) 0).length = 7 + hh.length := by rw [plainP_len, List.length_append]; rfl
    have hdrop : PS.drop (7 + hh.length) = TL := by rw [hPS2, ← hpl, List.drop_left]
    have hat : 7 + hh.length ≤ PS.length := by rw [hPS2, List.length_append, hpl]; omega
    have hget : ∀ (j : Nat) (b : UInt8), hh[j]? = some b → PS[7 + j]? = some ⟨⟨1, [b], 0⟩, 7 + j, true⟩ := fun j b hb => by
      have hj := (List.getElem?_eq_some_iff.1 hb).1
      have h1 : (schemeS ++ hh)[7 + j]? = some b := by
        rw [List.getElem?_append_right (by show 7 ≤ 7 + j; omega)]
        have : 7 + j - schemeS.length = j := by show 7 + j - 7 = j; omega
        rw [this]; exact hb
      have h2 := plainP_get (schemeS ++ hh) 0 (7 + j) b h1
      rw [hPS2, List.getElem?_append_left (by rw [hpl]; omega), h2, Nat.zero_add]
    have HGET := Lib.hid hget
    have HTR3 : Hid (targetR s = if hh = [] then .fault 3 7 else restR true hh (7 + hh.length) (PS.drop (7 + hh.length))) := Lib.hid (by rw [hTR, hdrop])
    have hst2 : PS.length = 7 + hh.length ∨ ∃ q, PS[7 + hh.length]? = some q ∧ q.at' = 7 + hh.length ∧ (q.plain = false ∨ (q.plain = true ∧ (q.p.t = [47] ∨ q.p.t = [63]))) := by
      rcases hst with h | ⟨q, tl, h1, h2⟩
      · left; rw [hPS2, List.length_append, hpl, h]; rfl
      · right
        refine ⟨q, ?_, hhd q tl h1, ?_⟩
        · rw [hPS2, List.getElem?_append_right (by omega), hpl, Nat.sub_self, h1]; rfl
        · rcases h2 with h2 | ⟨h2, _, h3⟩
          · exact .inl h2
          · exact .inr ⟨h2, h3⟩
    have HST := Lib.hid hst2
    have hhd2 : ∀ q, PS[7 + hh.length]? = some q → q.at' = 7 + hh.length := fun q hq => by
      rcases hst2 with h | ⟨q', h1, h2, _⟩
      · rw [List.getElem?_eq_none (by omega)] at hq; cases hq
      · rw [hq] at h1; cases h1; exact h2
    have HHD := Lib.hid hhd2
    have HHB := Lib.hid hhb
    clear hpre hsplit hpc hTR hhh hst hhb hTL hhd hPS2 hpl hdrop hget hst2 hhd2 TL HTR2
    go_wp2_with fail
    obtain ⟨n6, hn6⟩ : ∃ n6, n6 = w1.heap.size + 1 := ⟨_, rfl⟩
    obtain ⟨W2, hW2⟩ : ∃ W, W = (w1.alloc (.cells #[.int .i64 0, .int .i64 0] 26)).alloc (.cells #[.bool false, .bool false, .string ⟨#[]⟩, .slice none 0 0, .bool false, .slice none 0 0] 30) := ⟨_, rfl⟩
    rw [hW1, ← hW2, ← hn6] at HM0
    rw [← hW2, ← hn6]
    clear hW2 hW1 hn6
    refine (hbg _).mono ?_
    rintro e w2 ⟨rfl, rfl⟩
    have htt := HM0.out.tm.tt
    have x1 := cell_list htt 1
    have xf := frozen_list htt
    simp only [List.getElem?_cons_zero, List.getElem?_cons_succ] at x1
    have HM1 := Lib.hid (HM0.out.set1 true)
    clear htt
    go_wp2_with fail
    clear x1 xf
    go_loopg [7] hh.length (fun g s7 W => HI w n6 hh a PS g s7 W)
    case atStart => exact ⟨0, rfl, Nat.zero_le _, by omega, HM1.out⟩
    case round =>
      clear HM0 HM1
      obtain ⟨j, rfl, hj, hjg, hm⟩ := hrel
      have HM := Lib.hid hm
      clear hm
      by_cases hlt : j < hh.length
      · obtain ⟨g', rfl⟩ : ∃ g', gk = g' + 1 := ⟨gk - 1, by omega⟩
        obtain ⟨b, hb⟩ : ∃ b, hh[j]? = some b := ⟨_, List.getElem?_eq_getElem hlt⟩
        have hbm : b ∈ hh := List.mem_of_getElem? hb
        obtain ⟨ad, had, hbk, c0, c1, c2, c3, c4⟩ := HM.out.ps.get (7 + j) _ (HGET.out j b hb)
        have hbb := HHB.out b hbm
        have hb47 : (([b] : Tp.Bs) == [47]) = false := by
          rw [beq_eq_false_iff_ne]
          intro h; cases h; revert hbb; decide
        have hb63 : (([b] : Tp.Bs) == [63]) = false := by
          rw [beq_eq_false_iff_ne]
          intro h; cases h; revert hbb; decide
        have htk : hh.take j ++ [b] = hh.take (j + 1) := by rw [List.take_add_one, hb]; rfl
        have HTK := Lib.hid htk
        have htt := HM.out.tm.tt
        have x2 := cell_list htt 2
        have xf := frozen_list htt
        have lad := (HM.out.ab ad had).2
        have c3' : wr.cell? ⟨(ad.add ((7 + j) * 5)).block, (ad.add ((7 + j) * 5)).off + 3, none⟩ = some (.int .i64 (7 + (j : Int))) := by rw [c3]; rfl
        simp only [List.getElem?_cons_zero, List.getElem?_cons_succ] at x2
        have i0 : (0 : Int) ≤ 7 + (j : Int) := by omega
        have i1 : 7 + (j : Int) < (PS.length : Int) := by omega
        have i2 : (7 + (j : Int)).toNat = 7 + j := by omega
        subst had
        simp only [] at c1 c4
        clear hb hbm hbb htk htt c0 c2 c3
        go_wp2_with fail
        go_region
        all_goals
          have HM2 := Lib.hid ((HM.out.set2 (hh.take (j + 1))).drew)
          have hcat : bs (hh.take j) ++ bs [b] = bs (hh.take (j + 1)) := by rw [bs_append, HTK.out]
          rw [hcat]
          clear x2 xf c1 c4 c3'
          go_wp2_with fail
          go_roundg g'
          case measure => omega
          case rel => exact ⟨j + 1, by go_num, by omega, by omega, HM2.out⟩
      · obtain rfl : j = hh.length := by omega
        obtain ⟨ad, had, -⟩ := HM.out.ps.get 0 (PS[0]'(by omega)) (List.getElem?_eq_getElem (by omega))
        subst had
        rw [List.take_length] at HM
        have i0 : (0 : Int) ≤ 7 + (hh.length : Int) := by omega
        have i2 : (7 + (hh.length : Int)).toNat = 7 + hh.length := by omega
        obtain ⟨Q1, hQ1⟩ : ∃ Q1 : Exit → Act → World → Prop, Q1 = fun e a' w' => e = .exit 1 ∧ w' = wr ∧ ∃ f : Nat → Value, a' = { tmps := #[.string B, f 1, .pointer (some ⟨w.heap.size, 0, none⟩), .pointer (some ⟨w.heap.size + 1, 0, none⟩), .slice (some ad) PS.length c, .pointer (some ⟨w1.heap.size, 0, none⟩), .pointer (some ⟨n6, 0, none⟩), .int .i64 (7 + (hh.length : Int)), f 8, f 9, f 10, f 11, f 12, f 13, f 14, f 15, f 16, f 17, f 18, f 19, f 20, f 21, f 22, f 23, f 24, f 25, f 26, f 27, f 28, f 29, f 30, f 31, f 32, f 33, f 34, f 35, f 36, f 37, f 38, f 39, f 40, f 41, f 42, f 43, f 44, f 45, f 46, f 47, f 48, f 49, f 50, f 51, f 52, f 53, f 54, f 55, f 56, f 57, f 58, f 59, f 60, f 61, f 62, f 63, f 64, f 65, f 66, f 67, f 68, f 69, f 70, f 71, f 72, f 73, f 74, f 75, f 76, f 77, f 78, f 79, f 80, f 81, f 82, f 83, f 84, f 85, f 86, f 87, f 88, f 89, f 90, f 91, f 92, f 93, f 94, f 95, f 96, f 97, f 98, f 99, f 100, f 101, f 102, f 103, f 104, f 105, f 106, f 107, f 108, f 109, f 110, f 111, f 112, f 113, f 114, f 115, f 116, f 117, f 118, f 119, f 120, f 121, f 122, f 123, f 124, f 125, f 126, f 127, f 128, f 129, f 130, f 131, f 132, f 133, f 134, f 135, f 136, f 137, f 138, f 139, f 140, f 141, f 142, f 143, f 144, f 145, f 146, f 147, f 148, f 149, f 150, f 151, f 152, f 153, f 154, f 155, f 156, f 157, f 158, f 159, f 160, f 161, f 162, f 163, f 164], defers := [] } := ⟨_, rfl⟩
        have HQ1 := Lib.hid hQ1
        clear hQ1
        refine Code.wp_mono (Q := Q1) ?_ ?_
        · intro e a' w' hq1
          rw [HQ1.out] at hq1
          obtain ⟨rfl, rfl, f, rfl⟩ := hq1
          clear HQ1 Q1
          obtain ⟨W2, rfl⟩ : ∃ W, W = w' := ⟨_, rfl⟩
          have HM0 := HM
          have htt := HM0.out.tm.tt
          have x2 := cell_list htt 2
          have xf := frozen_list htt
          simp only [List.getElem?_cons_zero, List.getElem?_cons_succ] at x2
          clear HM htt
          by_cases hz : hh = []
          · have hz1 : (bs hh).toList.isEmpty = true := by rw [toList_data, data_bs, hz]; rfl
            have hz2 : hh.isEmpty = true := by rw [hz]; rfl
            have hT : targetR s = .fault 3 7 := by rw [HTR3.out, if_pos hz]
            have HT := Lib.hid hT
            have hrt := HM0.out.tm.rt
            have hrf := HM0.out.tm.rf
            have hbl := HM0.out.tm.bl
            clear hT hz
            have t0 := cell_list hrt 0
            have t1 := cell_list hrt 1
            have t2 := cell_list hrt 2
            have t3 := cell_list hrt 3
            have t4 := cell_list hrt 4
            have t5 := cell_list hrt 5
            have tf := frozen_list hrt
            have f0 := cell_list hrf 0
            have f1 := cell_list hrf 1
            have ff := frozen_list hrf
            simp only [List.getElem?_cons_zero, List.getElem?_cons_succ] at t0 t1 t2 t3 t4 t5 f0 f1
            go_wp2_with fail
            have hE9 := tEnd hrt hrf hbl (.bool false) (.bool false) (.string ⟨#[]⟩) (.slice none 0 0) (.bool false) (.slice none 0 0) (.int .i64 3) (.int .i64 7)
            obtain ⟨hr6, hr7, hb9⟩ := hE9
            obtain ⟨W9, hW9⟩ : ∃ W9, W9 = set2 (set6 W2 w.heap.size (.bool false) (.bool false) (.string ⟨#[]⟩) (.slice none 0 0) (.bool false) (.slice none 0 0)) (w.heap.size + 1) (.int .i64 3) (.int .i64 7) := ⟨_, rfl⟩
            rw [← hW9] at hr6 hr7 hb9 
            unfold set2 set6 at hW9
            rw [← hW9]
            clear hW9
            have z0 := cell_list hr6 0
            have z1 := cell_list hr6 1
            have z2 := cell_list hr6 2
            have z3 := cell_list hr6 3
            have z4 := cell_list hr6 4
            have z5 := cell_list hr6 5
            have y0 := cell_list hr7 0
            have y1 := cell_list hr7 1
            simp only [List.getElem?_cons_zero, List.getElem?_cons_succ] at z0 z1 z2 z3 z4 z5 y0 y1
            try rw [Exit.noGoto_ret]
            refine bodyPost_ret (v := .tuple #[.agg #[.bool false, .bool false, .string ⟨#[]⟩, .slice none 0 0, .bool false, .slice none 0 0], .agg #[.int .i64 3, .int .i64 7]]) (by simp [results, Tryd.results15, go_sem, z0, z1, z2, z3, z4, z5, y0, y1]) rfl ?_
            rw [HP.out, HT.out]
            exact ⟨none, 0, none, 0, rfl, Parts.nil _ _, Parts.nil _ _, hb9⟩
          · have hz1 : (bs hh).toList.isEmpty = false := by rw [toList_data, data_bs]; simpa using hz
            have hz2 : hh.isEmpty = false := by simpa using hz
            have HT0 : Hid (targetR s = restR true hh (7 + hh.length) (PS.drop (7 + hh.length))) := Lib.hid (by rw [HTR3.out, if_neg hz])
            clear hz
            go_wp2_with fail
            clear x2 xf
            go_loopg [8] PS.length (fun g s8 W => MI PS W2 (7 + hh.length) g s8 W)
            case atStart => exact ⟨(7 + hh.length), rfl, Nat.le_refl _, hat, by omega, fun i q h1 h2 => by omega, rfl⟩
            case round =>
              obtain ⟨j, rfl, hj0, hj, hjg, hnq, rfl⟩ := hrel
              have HNQ := Lib.hid hnq
              clear hnq
              by_cases hlt : j < PS.length
              · obtain ⟨q, hq⟩ : ∃ q, PS[j]? = some q := ⟨_, List.getElem?_eq_getElem hlt⟩
                obtain ⟨ad', had, hbk, c0, c1, c2, c3, c4⟩ := HM0.out.ps.get j q hq
                cases had
                have HQ := Lib.hid hq
                have q2 : (0 : Int) ≤ (j : Int) := by omega
                have q4 : (j : Int) < (PS.length : Int) := by omega
                clear hq c0 c2 c3
                by_cases hQ : isQ q = true
                · have hQ2 : q.plain = true ∧ q.p.t = [63] := by unfold isQ at hQ; simpa using hQ
                  have hpl := hQ2.1
                  have ht : (q.p.t == [63]) = true := by rw [hQ2.2]; rfl
                  rw [hpl] at c4
                  have HQQ := Lib.hid hQ
                  clear hQ hQ2 hpl
                  have hcn : ¬ c = 7 + hh.length := by omega
                  have hj1 : 7 + (hh.length : Int) ≤ (j : Int) := by omega
                  go_wp2_with fail
                  have hsp := mark_split (at0 := (7 + hh.length)) (j := j) (by omega) (by omega) HNQ.out
                  obtain ⟨D, hD⟩ : ∃ D, (PS.drop (7 + hh.length)).take (j - (7 + hh.length)) = D := ⟨_, rfl⟩
                  have hsub := HM0.out.ps.sub (i := (7 + hh.length)) (j := j) (by omega) (by omega) (some (ad.add ((7 + hh.length) * 5))) (fun hx => rfl)
                  rw [hD] at hsp hsub
                  obtain ⟨hs1, hs2, hs3⟩ := hsp
                  have hDP : ∀ q ∈ D, q ∈ PS := fun q hq => by rw [← hD] at hq; exact List.mem_of_mem_drop (List.mem_of_mem_take hq)
                  have hpts := fun W h => refParts_any (some (ad.add ((7 + hh.length) * 5))) (c - (7 + hh.length)) D W h (by omega) (fun q hq => HPt.out q (hDP q hq))
                  obtain ⟨L, hL⟩ : ∃ L, joinP (D.map (·.p)) = L := ⟨_, rfl⟩
                  have hLl : L.length ≤ 96 := by rw [← hL]; have := joinP_len (D.map (·.p)); simp at this; omega
                  have hLit : Lit L := by
                    rw [← hL]
                    exact joinP_lit _ _ (fun p hp => by
                      obtain ⟨q, hq, rfl⟩ := List.mem_map.1 hp
                      exact HPl.out q (hDP q hq)) (fun q hq => by simp at hq)
                  rw [hL] at hpts
                  have hDn : L ≠ [] → (7 + hh.length) < PS.length := fun hne => by
                    rcases Nat.lt_or_ge (7 + hh.length) PS.length with hx | hx
                    · exact hx
                    · exfalso
                      have hD0 : D = [] := List.eq_nil_of_length_eq_zero (by omega)
                      rw [hD0] at hL
                      exact hne hL.symm
                  obtain ⟨M, hM⟩ : ∃ M, joinP ((PS.drop (j + 1)).map (·.p)) = M := ⟨_, rfl⟩
                  have hqd : PS.drop j = q :: PS.drop (j + 1) := by
                    rw [List.drop_eq_getElem_cons hlt]
                    have := HQ.out
                    rw [List.getElem?_eq_getElem hlt] at this
                    cases this
                    rfl
                  have HTt : Hid (targetR s = if placeR L = true then ⟨false, true, hh, L, true, M, 0, 0⟩ else .fault 3 (((7 + hh.length) : Nat) : Int)) := Lib.hid (by
                    rw [HT0.out, hs1, hqd, rest_hit hs2 HQQ.out, hL, hM])
                  have hdl : (PS.drop (j + 1)).length = PS.length - (j + 1) := by simp
                  have hsub2 : ∀ W, Pieces W (some ad) PS.length PS → ∀ ad', (j + 1 < PS.length → ad' = some (ad.add ((j + 1) * 5))) → Pieces W ad' (PS.length - (j + 1)) (PS.drop (j + 1)) := fun W h ad' e => by
                    have := h.sub (i := j + 1) (j := PS.length) (by omega) (by omega) ad' e
                    rw [List.take_of_length_le (by omega), hdl] at this
                    exact this
                  have HSU := Lib.hid hsub2
                  have hpp : ∀ ad' cap W, Pieces W ad' (PS.length - (j + 1)) (PS.drop (j + 1)) → Calls Tryd.prog 51 #[.slice ad' (PS.length - (j + 1)) cap] W fun e w' => ∃ v, e = .returned v ∧ OwnParts w' W.heap.size v M ∧ Below W.heap.size W w' := fun ad' cap W h => by
                    rw [← hdl] at h ⊢
                    rw [← hM]
                    exact refParts_any ad' cap _ W h (by omega) (fun q hq => HPt.out q (List.mem_of_mem_drop hq))
                  have HPp := Lib.hid hpp
                  clear hqd hsub2 hM hpp hdl
                  have HDN := Lib.hid hDn
                  have HLit := Lib.hid hLit
                  rw [hs3] at hpts hsub
                  clear hs1 hs2 hs3 hD hDP hL hDn hLit
                  refine (hpts _ hsub).mono ?_
                  rintro e w2 ⟨v2, rfl, hO2, h2⟩
                  obtain ⟨pa, pc, hv2, _, _, hPa⟩ := OwnParts.form hO2
                  subst hv2
                  have Mw := HM0.out.tm.below h2
                  have HMw := Lib.hid Mw
                  have hO2' : OwnParts w2 (n6 + 1) (.slice pa L.length pc) L := Owns.mono hO2 (by have := lt_of_cells HM0.out.tm.tt; omega)
                  have hpab : ∀ x : Addr, pa = some x → x.block ≠ n6 := fun x e => by
                    have := (hO2'.lt x.block (by rw [e]; rfl)).1
                    omega
                  have M2 := (HM0.out.below h2).setV hO2'
                  have HM2 := Lib.hid M2
                  have hPs := Rd.setCell hPa (p := ⟨n6, 3, none⟩) hpab (.slice pa L.length pc)
                  have HPs := Lib.hid hPs
                  have x3 := cell_list Mw.tt 3
                  have xf := frozen_list Mw.tt
                  have lpa : ∀ x : Addr, pa = some x → x.block ≠ n6 := hpab
                  simp only [List.getElem?_cons_zero, List.getElem?_cons_succ] at x3
                  clear hpts hsub hO2 hO2' hPa h2 Mw M2 hPs hpab
                  by_cases hL0 : L = []
                  · have hlz : ¬ (0 : Int) < (L.length : Int) := by rw [hL0]; simp
                    have hpr : placeR L = true := by rw [hL0]; rfl
                    clear hL0
                    have hT : targetR s = ⟨false, true, hh, L, true, M, 0, 0⟩ := by rw [HTt.out, if_pos hpr]
                    have HTf := Lib.hid hT
                    have htw := HMw.out.tt
                    have x4 := cell_list htw 4
                    have M2h := HM2.out.setHq true
                    have HM2h := Lib.hid M2h
                    simp only [List.getElem?_cons_zero, List.getElem?_cons_succ] at x4
                    clear hT hpr M2h htw
                    have l6 := lt_of_cells HM2h.out.tm.tt
                    go_wp2_with fail
                    · have hs := HSU.out _ HM2h.out.ps (some ad) (fun hx => by omega)
                      refine (HPp.out _ 0 _ hs).mono ?_
                      rintro e w3 ⟨v3, rfl, hO3, h3⟩
                      obtain ⟨qa, qc, hv3, _, _, _⟩ := OwnParts.form hO3
                      subst hv3
                      have hO3' : OwnParts (w3.setCell ⟨n6, 5, none⟩ (.slice qa M.length qc)) (n6 + 1) (.slice qa M.length qc) M := (ownsSetOld hO3 (by exact l6) _).mono (by omega)
                      have Mt := HM2h.out.tm.below h3
                      have M3 := Mt.setU (.slice qa M.length qc)
                      have hrt := M3.rt
                      have hrf := M3.rf
                      have hbl := M3.bl
                      have hO9 := ownsEnd M3.ow (g := w.heap.size) (by have := HM2h.out.tm.lt; omega) (.bool false) (.bool true) (.string (bs hh)) (.slice pa L.length pc) (.bool true) (.slice qa M.length qc) (.int .i64 0) (.int .i64 0)
                      have hU9 := ownsEnd hO3' (g := w.heap.size) (by have := HM2h.out.tm.lt; omega) (.bool false) (.bool true) (.string (bs hh)) (.slice pa L.length pc) (.bool true) (.slice qa M.length qc) (.int .i64 0) (.int .i64 0)
                      have htt := Mt.tt
                      have xf := frozen_list Mt.tt
                      clear hO3 hO3' h3 M3 Mt x4 hs
                      have t0 := cell_list hrt 0
                      have t1 := cell_list hrt 1
                      have t2 := cell_list hrt 2
                      have t3 := cell_list hrt 3
                      have t4 := cell_list hrt 4
                      have t5 := cell_list hrt 5
                      have tf := frozen_list hrt
                      have f0 := cell_list hrf 0
                      have f1 := cell_list hrf 1
                      have ff := frozen_list hrf
                      simp only [List.getElem?_cons_zero, List.getElem?_cons_succ] at t0 t1 t2 t3 t4 t5 f0 f1
                      have x0 := cell_list htt 0
                      have x1 := cell_list htt 1
                      have x2 := cell_list htt 2
                      have x3 := cell_list htt 3
                      have x4 := cell_list htt 4
                      have x5 := cell_list htt 5
                      simp only [List.getElem?_cons_zero, List.getElem?_cons_succ] at x0 x1 x2 x3 x4 x5
                      have HO9 := Lib.hid hO9
                      have HU9 := Lib.hid hU9
                      clear hO9 hU9
                      go_wp2_with fail
                      have hO9 := HO9.out
                      have hU9 := HU9.out
                      clear HO9 HU9
                      obtain ⟨W, hWe⟩ : ∃ W, W = w3.setCell ⟨n6, 5, none⟩ (.slice qa M.length qc) := ⟨_, rfl⟩
                      rw [← hWe] at hrt hrf hbl hO9 hU9 ⊢
                      have hE9 := tEnd hrt hrf hbl (.bool false) (.bool true) (.string (bs hh)) (.slice pa L.length pc) (.bool true) (.slice qa M.length qc) (.int .i64 0) (.int .i64 0)
                      obtain ⟨hr6, hr7, hb9⟩ := hE9
                      obtain ⟨W9, hW9⟩ : ∃ W9, W9 = set2 (set6 W w.heap.size (.bool false) (.bool true) (.string (bs hh)) (.slice pa L.length pc) (.bool true) (.slice qa M.length qc)) (w.heap.size + 1) (.int .i64 0) (.int .i64 0) := ⟨_, rfl⟩
                      rw [← hW9] at hr6 hr7 hb9 hO9 hU9
                      unfold set2 set6 at hW9
                      rw [← hW9]
                      clear hW9
                      have z0 := cell_list hr6 0
                      have z1 := cell_list hr6 1
                      have z2 := cell_list hr6 2
                      have z3 := cell_list hr6 3
                      have z4 := cell_list hr6 4
                      have z5 := cell_list hr6 5
                      have y0 := cell_list hr7 0
                      have y1 := cell_list hr7 1
                      simp only [List.getElem?_cons_zero, List.getElem?_cons_succ] at z0 z1 z2 z3 z4 z5 y0 y1
                      try rw [Exit.noGoto_ret]
                      refine bodyPost_ret (v := .tuple #[.agg #[.bool false, .bool true, .string (bs hh), .slice pa L.length pc, .bool true, .slice qa M.length qc], .agg #[.int .i64 0, .int .i64 0]]) (by simp [results, Tryd.results15, go_sem, z0, z1, z2, z3, z4, z5, y0, y1]) rfl ?_
                      rw [HP.out, HTf.out]
                      obtain ⟨a9, c9, e9, _, _, hP9⟩ := OwnParts.form hO9
                      cases e9
                      obtain ⟨a8, c8, e8, _, _, hP8⟩ := OwnParts.form hU9
                      cases e8
                      exact ⟨pa, pc, qa, qc, rfl, hP9, hP8, hb9⟩
                    · have hs := HSU.out _ HM2h.out.ps (some (ad.add ((j + 1) * 5))) (fun hx => rfl)
                      refine (HPp.out _ (c - (j + 1)) _ hs).mono ?_
                      rintro e w3 ⟨v3, rfl, hO3, h3⟩
                      obtain ⟨qa, qc, hv3, _, _, _⟩ := OwnParts.form hO3
                      subst hv3
                      have hO3' : OwnParts (w3.setCell ⟨n6, 5, none⟩ (.slice qa M.length qc)) (n6 + 1) (.slice qa M.length qc) M := (ownsSetOld hO3 (by exact l6) _).mono (by omega)
                      have Mt := HM2h.out.tm.below h3
                      have M3 := Mt.setU (.slice qa M.length qc)
                      have hrt := M3.rt
                      have hrf := M3.rf
                      have hbl := M3.bl
                      have hO9 := ownsEnd M3.ow (g := w.heap.size) (by have := HM2h.out.tm.lt; omega) (.bool false) (.bool true) (.string (bs hh)) (.slice pa L.length pc) (.bool true) (.slice qa M.length qc) (.int .i64 0) (.int .i64 0)
                      have hU9 := ownsEnd hO3' (g := w.heap.size) (by have := HM2h.out.tm.lt; omega) (.bool false) (.bool true) (.string (bs hh)) (.slice pa L.length pc) (.bool true) (.slice qa M.length qc) (.int .i64 0) (.int .i64 0)
                      have htt := Mt.tt
                      have xf := frozen_list Mt.tt
                      clear hO3 hO3' h3 M3 Mt x4 hs
                      have t0 := cell_list hrt 0
                      have t1 := cell_list hrt 1
                      have t2 := cell_list hrt 2
                      have t3 := cell_list hrt 3
                      have t4 := cell_list hrt 4
                      have t5 := cell_list hrt 5
                      have tf := frozen_list hrt
                      have f0 := cell_list hrf 0
                      have f1 := cell_list hrf 1
                      have ff := frozen_list hrf
                      simp only [List.getElem?_cons_zero, List.getElem?_cons_succ] at t0 t1 t2 t3 t4 t5 f0 f1
                      have x0 := cell_list htt 0
                      have x1 := cell_list htt 1
                      have x2 := cell_list htt 2
                      have x3 := cell_list htt 3
                      have x4 := cell_list htt 4
                      have x5 := cell_list htt 5
                      simp only [List.getElem?_cons_zero, List.getElem?_cons_succ] at x0 x1 x2 x3 x4 x5
                      have HO9 := Lib.hid hO9
                      have HU9 := Lib.hid hU9
                      clear hO9 hU9
                      go_wp2_with fail
                      have hO9 := HO9.out
                      have hU9 := HU9.out
                      clear HO9 HU9
                      obtain ⟨W, hWe⟩ : ∃ W, W = w3.setCell ⟨n6, 5, none⟩ (.slice qa M.length qc) := ⟨_, rfl⟩
                      rw [← hWe] at hrt hrf hbl hO9 hU9 ⊢
                      have hE9 := tEnd hrt hrf hbl (.bool false) (.bool true) (.string (bs hh)) (.slice pa L.length pc) (.bool true) (.slice qa M.length qc) (.int .i64 0) (.int .i64 0)
                      obtain ⟨hr6, hr7, hb9⟩ := hE9
                      obtain ⟨W9, hW9⟩ : ∃ W9, W9 = set2 (set6 W w.heap.size (.bool false) (.bool true) (.string (bs hh)) (.slice pa L.length pc) (.bool true) (.slice qa M.length qc)) (w.heap.size + 1) (.int .i64 0) (.int .i64 0) := ⟨_, rfl⟩
                      rw [← hW9] at hr6 hr7 hb9 hO9 hU9
                      unfold set2 set6 at hW9
                      rw [← hW9]
                      clear hW9
                      have z0 := cell_list hr6 0
                      have z1 := cell_list hr6 1
                      have z2 := cell_list hr6 2
                      have z3 := cell_list hr6 3
                      have z4 := cell_list hr6 4
                      have z5 := cell_list hr6 5
                      have y0 := cell_list hr7 0
                      have y1 := cell_list hr7 1
                      simp only [List.getElem?_cons_zero, List.getElem?_cons_succ] at z0 z1 z2 z3 z4 z5 y0 y1
                      try rw [Exit.noGoto_ret]
                      refine bodyPost_ret (v := .tuple #[.agg #[.bool false, .bool true, .string (bs hh), .slice pa L.length pc, .bool true, .slice qa M.length qc], .agg #[.int .i64 0, .int .i64 0]]) (by simp [results, Tryd.results15, go_sem, z0, z1, z2, z3, z4, z5, y0, y1]) rfl ?_
                      rw [HP.out, HTf.out]
                      obtain ⟨a9, c9, e9, _, _, hP9⟩ := OwnParts.form hO9
                      cases e9
                      obtain ⟨a8, c8, e8, _, _, hP8⟩ := OwnParts.form hU9
                      cases e8
                      exact ⟨pa, pc, qa, qc, rfl, hP9, hP8, hb9⟩
                  obtain ⟨p, L', hLp⟩ : ∃ p L', L = p :: L' := by
                    rcases L with _ | ⟨p, L'⟩
                    · exact absurd rfl hL0
                    · exact ⟨p, L', rfl⟩
                  have hlp : (0 : Int) < (L.length : Int) := by rw [hLp]; simp
                  have hpv : placeR L = ((p.k == 1) && (p.t.head? == some 47)) := by rw [hLp]; rfl
                  have hli := HLit.out p (by rw [hLp]; simp)
                  obtain ⟨pad, hpad, _, p0, p1, _⟩ := Parts.get (L := L) HPs.out 0 p (by rw [hLp]; rfl)
                  subst hpad
                  have e0 : pad.add (0 * 3) = pad := by unfold Addr.add; simp
                  rw [e0] at p0 p1
                  have lpb := lpa pad rfl
                  have hat0 := HDN.out hL0
                  obtain ⟨q0, hq0⟩ : ∃ q0, PS[(7 + hh.length)]? = some q0 := ⟨_, List.getElem?_eq_getElem hat0⟩
                  obtain ⟨bd, hbd, _, _, _, _, d3, _⟩ := HM2.out.ps.get (7 + hh.length) q0 hq0
                  have lbd := (HM2.out.ab bd hbd).2
                  rw [HHD.out q0 hq0] at d3
                  cases hbd
                  have e1 : (ad.add ((7 + hh.length) * 5)) = (ad.add ((7 + hh.length) * 5)) := rfl
                  rw [e1] at d3
                  have HLP := Lib.hid hLp
                  have HPV := Lib.hid hpv
                  have HLI := Lib.hid hli
                  clear hLp hpv hli e0 e1 hq0 HHD
                  by_cases hk : p.k = 1
                  · obtain ⟨x, t', hxt⟩ : ∃ x t', p.t = x :: t' := by
                      rcases ht : p.t with _ | ⟨x, t'⟩
                      · exact absurd ht (HLI.out hk)
                      · exact ⟨x, t', rfl⟩
                    have hkb : (p.k == 1) = true := by simpa using hk
                    obtain ⟨Tx, hTx⟩ : ∃ Tx, bs p.t = Tx := ⟨_, rfl⟩
                    rw [hTx] at p1
                    have hT0 : 0 < Tx.size := by rw [← hTx, size_bs, hxt]; simp
                    have hTb : Tx[0] = x := by subst hTx; rw [get_data _ 0 hT0]; simp [data_bs, hxt]
                    by_cases hx : x = 47
                    · have hpr : placeR L = true := by rw [HPV.out, hk, hxt, hx]; rfl
                      have hTe : ((Tx[0].toNat : Int) == 47) = true := by rw [hTb, hx]; rfl
                      rw [hk] at p0
                      clear hk hkb hxt hTx hTb hx
                      have hT : targetR s = ⟨false, true, hh, L, true, M, 0, 0⟩ := by rw [HTt.out, if_pos hpr]
                      have HTf := Lib.hid hT
                      have htw := HMw.out.tt
                      have x4 := cell_list htw 4
                      have M2h := HM2.out.setHq true
                      have HM2h := Lib.hid M2h
                      simp only [List.getElem?_cons_zero, List.getElem?_cons_succ] at x4
                      clear hT hpr M2h htw
                      have l6 := lt_of_cells HM2h.out.tm.tt
                      go_wp2_with fail
                      · have hs := HSU.out _ HM2h.out.ps (some ad) (fun hx => by omega)
                        refine (HPp.out _ 0 _ hs).mono ?_
                        rintro e w3 ⟨v3, rfl, hO3, h3⟩
                        obtain ⟨qa, qc, hv3, _, _, _⟩ := OwnParts.form hO3
                        subst hv3
                        have hO3' : OwnParts (w3.setCell ⟨n6, 5, none⟩ (.slice qa M.length qc)) (n6 + 1) (.slice qa M.length qc) M := (ownsSetOld hO3 (by exact l6) _).mono (by omega)
                        have Mt := HM2h.out.tm.below h3
                        have M3 := Mt.setU (.slice qa M.length qc)
                        have hrt := M3.rt
                        have hrf := M3.rf
                        have hbl := M3.bl
                        have hO9 := ownsEnd M3.ow (g := w.heap.size) (by have := HM2h.out.tm.lt; omega) (.bool false) (.bool true) (.string (bs hh)) (.slice (some pad) L.length pc) (.bool true) (.slice qa M.length qc) (.int .i64 0) (.int .i64 0)
                        have hU9 := ownsEnd hO3' (g := w.heap.size) (by have := HM2h.out.tm.lt; omega) (.bool false) (.bool true) (.string (bs hh)) (.slice (some pad) L.length pc) (.bool true) (.slice qa M.length qc) (.int .i64 0) (.int .i64 0)
                        have htt := Mt.tt
                        have xf := frozen_list Mt.tt
                        clear hO3 hO3' h3 M3 Mt x4 hs
                        have t0 := cell_list hrt 0
                        have t1 := cell_list hrt 1
                        have t2 := cell_list hrt 2
                        have t3 := cell_list hrt 3
                        have t4 := cell_list hrt 4
                        have t5 := cell_list hrt 5
                        have tf := frozen_list hrt
                        have f0 := cell_list hrf 0
                        have f1 := cell_list hrf 1
                        have ff := frozen_list hrf
                        simp only [List.getElem?_cons_zero, List.getElem?_cons_succ] at t0 t1 t2 t3 t4 t5 f0 f1
                        have x0 := cell_list htt 0
                        have x1 := cell_list htt 1
                        have x2 := cell_list htt 2
                        have x3 := cell_list htt 3
                        have x4 := cell_list htt 4
                        have x5 := cell_list htt 5
                        simp only [List.getElem?_cons_zero, List.getElem?_cons_succ] at x0 x1 x2 x3 x4 x5
                        have HO9 := Lib.hid hO9
                        have HU9 := Lib.hid hU9
                        clear hO9 hU9
                        go_wp2_with fail
                        have hO9 := HO9.out
                        have hU9 := HU9.out
                        clear HO9 HU9
                        obtain ⟨W, hWe⟩ : ∃ W, W = w3.setCell ⟨n6, 5, none⟩ (.slice qa M.length qc) := ⟨_, rfl⟩
                        rw [← hWe] at hrt hrf hbl hO9 hU9 ⊢
                        have hE9 := tEnd hrt hrf hbl (.bool false) (.bool true) (.string (bs hh)) (.slice (some pad) L.length pc) (.bool true) (.slice qa M.length qc) (.int .i64 0) (.int .i64 0)
                        obtain ⟨hr6, hr7, hb9⟩ := hE9
                        obtain ⟨W9, hW9⟩ : ∃ W9, W9 = set2 (set6 W w.heap.size (.bool false) (.bool true) (.string (bs hh)) (.slice (some pad) L.length pc) (.bool true) (.slice qa M.length qc)) (w.heap.size + 1) (.int .i64 0) (.int .i64 0) := ⟨_, rfl⟩
                        rw [← hW9] at hr6 hr7 hb9 hO9 hU9
                        unfold set2 set6 at hW9
                        rw [← hW9]
                        clear hW9
                        have z0 := cell_list hr6 0
                        have z1 := cell_list hr6 1
                        have z2 := cell_list hr6 2
                        have z3 := cell_list hr6 3
                        have z4 := cell_list hr6 4
                        have z5 := cell_list hr6 5
                        have y0 := cell_list hr7 0
                        have y1 := cell_list hr7 1
                        simp only [List.getElem?_cons_zero, List.getElem?_cons_succ] at z0 z1 z2 z3 z4 z5 y0 y1
                        try rw [Exit.noGoto_ret]
                        refine bodyPost_ret (v := .tuple #[.agg #[.bool false, .bool true, .string (bs hh), .slice (some pad) L.length pc, .bool true, .slice qa M.length qc], .agg #[.int .i64 0, .int .i64 0]]) (by simp [results, Tryd.results15, go_sem, z0, z1, z2, z3, z4, z5, y0, y1]) rfl ?_
                        rw [HP.out, HTf.out]
                        obtain ⟨a9, c9, e9, _, _, hP9⟩ := OwnParts.form hO9
                        cases e9
                        obtain ⟨a8, c8, e8, _, _, hP8⟩ := OwnParts.form hU9
                        cases e8
                        exact ⟨(some pad), pc, qa, qc, rfl, hP9, hP8, hb9⟩
                      · have hs := HSU.out _ HM2h.out.ps (some (ad.add ((j + 1) * 5))) (fun hx => rfl)
                        refine (HPp.out _ (c - (j + 1)) _ hs).mono ?_
                        rintro e w3 ⟨v3, rfl, hO3, h3⟩
                        obtain ⟨qa, qc, hv3, _, _, _⟩ := OwnParts.form hO3
                        subst hv3
                        have hO3' : OwnParts (w3.setCell ⟨n6, 5, none⟩ (.slice qa M.length qc)) (n6 + 1) (.slice qa M.length qc) M := (ownsSetOld hO3 (by exact l6) _).mono (by omega)
                        have Mt := HM2h.out.tm.below h3
                        have M3 := Mt.setU (.slice qa M.length qc)
                        have hrt := M3.rt
                        have hrf := M3.rf
                        have hbl := M3.bl
                        have hO9 := ownsEnd M3.ow (g := w.heap.size) (by have := HM2h.out.tm.lt; omega) (.bool false) (.bool true) (.string (bs hh)) (.slice (some pad) L.length pc) (.bool true) (.slice qa M.length qc) (.int .i64 0) (.int .i64 0)
                        have hU9 := ownsEnd hO3' (g := w.heap.size) (by have := HM2h.out.tm.lt; omega) (.bool false) (.bool true) (.string (bs hh)) (.slice (some pad) L.length pc) (.bool true) (.slice qa M.length qc) (.int .i64 0) (.int .i64 0)
                        have htt := Mt.tt
                        have xf := frozen_list Mt.tt
                        clear hO3 hO3' h3 M3 Mt x4 hs
                        have t0 := cell_list hrt 0
                        have t1 := cell_list hrt 1
                        have t2 := cell_list hrt 2
                        have t3 := cell_list hrt 3
                        have t4 := cell_list hrt 4
                        have t5 := cell_list hrt 5
                        have tf := frozen_list hrt
                        have f0 := cell_list hrf 0
                        have f1 := cell_list hrf 1
                        have ff := frozen_list hrf
                        simp only [List.getElem?_cons_zero, List.getElem?_cons_succ] at t0 t1 t2 t3 t4 t5 f0 f1
                        have x0 := cell_list htt 0
                        have x1 := cell_list htt 1
                        have x2 := cell_list htt 2
                        have x3 := cell_list htt 3
                        have x4 := cell_list htt 4
                        have x5 := cell_list htt 5
                        simp only [List.getElem?_cons_zero, List.getElem?_cons_succ] at x0 x1 x2 x3 x4 x5
                        have HO9 := Lib.hid hO9
                        have HU9 := Lib.hid hU9
                        clear hO9 hU9
                        go_wp2_with fail
                        have hO9 := HO9.out
                        have hU9 := HU9.out
                        clear HO9 HU9
                        obtain ⟨W, hWe⟩ : ∃ W, W = w3.setCell ⟨n6, 5, none⟩ (.slice qa M.length qc) := ⟨_, rfl⟩
                        rw [← hWe] at hrt hrf hbl hO9 hU9 ⊢
                        have hE9 := tEnd hrt hrf hbl (.bool false) (.bool true) (.string (bs hh)) (.slice (some pad) L.length pc) (.bool true) (.slice qa M.length qc) (.int .i64 0) (.int .i64 0)
                        obtain ⟨hr6, hr7, hb9⟩ := hE9
                        obtain ⟨W9, hW9⟩ : ∃ W9, W9 = set2 (set6 W w.heap.size (.bool false) (.bool true) (.string (bs hh)) (.slice (some pad) L.length pc) (.bool true) (.slice qa M.length qc)) (w.heap.size + 1) (.int .i64 0) (.int .i64 0) := ⟨_, rfl⟩
                        rw [← hW9] at hr6 hr7 hb9 hO9 hU9
                        unfold set2 set6 at hW9
                        rw [← hW9]
                        clear hW9
                        have z0 := cell_list hr6 0
                        have z1 := cell_list hr6 1
                        have z2 := cell_list hr6 2
                        have z3 := cell_list hr6 3
                        have z4 := cell_list hr6 4
                        have z5 := cell_list hr6 5
                        have y0 := cell_list hr7 0
                        have y1 := cell_list hr7 1
                        simp only [List.getElem?_cons_zero, List.getElem?_cons_succ] at z0 z1 z2 z3 z4 z5 y0 y1
                        try rw [Exit.noGoto_ret]
                        refine bodyPost_ret (v := .tuple #[.agg #[.bool false, .bool true, .string (bs hh), .slice (some pad) L.length pc, .bool true, .slice qa M.length qc], .agg #[.int .i64 0, .int .i64 0]]) (by simp [results, Tryd.results15, go_sem, z0, z1, z2, z3, z4, z5, y0, y1]) rfl ?_
                        rw [HP.out, HTf.out]
                        obtain ⟨a9, c9, e9, _, _, hP9⟩ := OwnParts.form hO9
                        cases e9
                        obtain ⟨a8, c8, e8, _, _, hP8⟩ := OwnParts.form hU9
                        cases e8
                        exact ⟨(some pad), pc, qa, qc, rfl, hP9, hP8, hb9⟩
                    · have hpr : placeR L = false := by rw [HPV.out, hk, hxt]; simpa using hx
                      have hTe : ((Tx[0].toNat : Int) == 47) = false := by
                        rw [hTb, beq_eq_false_iff_ne]
                        exact fun h => hx (UInt8.toNat.inj (by simpa using (by omega : x.toNat = 47)))
                      rw [hk] at p0
                      clear hk hkb hxt hTx hTb hx
                      have hT : targetR s = .fault 3 (((7 + hh.length) : Nat) : Int) := by rw [HTt.out, if_neg (by rw [hpr]; simp)]
                      have HTf := Lib.hid hT
                      have hrt := HM2.out.tm.rt
                      have hrf := HM2.out.tm.rf
                      have hbl := HM2.out.tm.bl
                      clear hT hpr
                      have t0 := cell_list hrt 0
                      have t1 := cell_list hrt 1
                      have t2 := cell_list hrt 2
                      have t3 := cell_list hrt 3
                      have t4 := cell_list hrt 4
                      have t5 := cell_list hrt 5
                      have tf := frozen_list hrt
                      have f0 := cell_list hrf 0
                      have f1 := cell_list hrf 1
                      have ff := frozen_list hrf
                      simp only [List.getElem?_cons_zero, List.getElem?_cons_succ] at t0 t1 t2 t3 t4 t5 f0 f1
                      go_wp2_with fail
                      obtain ⟨W, hWe⟩ : ∃ W, W = w2.setCell ⟨n6, 3, none⟩ (.slice (some pad) L.length pc) := ⟨_, rfl⟩
                      rw [← hWe] at hrt hrf hbl ⊢
                      have hE9 := tEnd hrt hrf hbl (.bool false) (.bool false) (.string ⟨#[]⟩) (.slice none 0 0) (.bool false) (.slice none 0 0) (.int .i64 3) (.int .i64 (7 + (hh.length : Int)))
                      obtain ⟨hr6, hr7, hb9⟩ := hE9
                      obtain ⟨W9, hW9⟩ : ∃ W9, W9 = set2 (set6 W w.heap.size (.bool false) (.bool false) (.string ⟨#[]⟩) (.slice none 0 0) (.bool false) (.slice none 0 0)) (w.heap.size + 1) (.int .i64 3) (.int .i64 (7 + (hh.length : Int))) := ⟨_, rfl⟩
                      rw [← hW9] at hr6 hr7 hb9 
                      unfold set2 set6 at hW9
                      rw [← hW9]
                      clear hW9
                      have z0 := cell_list hr6 0
                      have z1 := cell_list hr6 1
                      have z2 := cell_list hr6 2
                      have z3 := cell_list hr6 3
                      have z4 := cell_list hr6 4
                      have z5 := cell_list hr6 5
                      have y0 := cell_list hr7 0
                      have y1 := cell_list hr7 1
                      simp only [List.getElem?_cons_zero, List.getElem?_cons_succ] at z0 z1 z2 z3 z4 z5 y0 y1
                      try rw [Exit.noGoto_ret]
                      refine bodyPost_ret (v := .tuple #[.agg #[.bool false, .bool false, .string ⟨#[]⟩, .slice none 0 0, .bool false, .slice none 0 0], .agg #[.int .i64 3, .int .i64 (7 + (hh.length : Int))]]) (by simp [results, Tryd.results15, go_sem, z0, z1, z2, z3, z4, z5, y0, y1]) rfl ?_
                      rw [HP.out, HTf.out]
                      exact ⟨none, 0, none, 0, rfl, Parts.nil _ _, Parts.nil _ _, hb9⟩
                  · have hpr : placeR L = false := by rw [HPV.out]; have : (p.k == 1) = false := by simpa using hk
                                                      rw [this]; rfl
                    have hkb : (p.k != 1) = true := by simpa using hk
                    clear hk
                    have hT : targetR s = .fault 3 (((7 + hh.length) : Nat) : Int) := by rw [HTt.out, if_neg (by rw [hpr]; simp)]
                    have HTf := Lib.hid hT
                    have hrt := HM2.out.tm.rt
                    have hrf := HM2.out.tm.rf
                    have hbl := HM2.out.tm.bl
                    clear hT hpr
                    have t0 := cell_list hrt 0
                    have t1 := cell_list hrt 1
                    have t2 := cell_list hrt 2
                    have t3 := cell_list hrt 3
                    have t4 := cell_list hrt 4
                    have t5 := cell_list hrt 5
                    have tf := frozen_list hrt
                    have f0 := cell_list hrf 0
                    have f1 := cell_list hrf 1
                    have ff := frozen_list hrf
                    simp only [List.getElem?_cons_zero, List.getElem?_cons_succ] at t0 t1 t2 t3 t4 t5 f0 f1
                    go_wp2_with fail
                    obtain ⟨W, hWe⟩ : ∃ W, W = w2.setCell ⟨n6, 3, none⟩ (.slice (some pad) L.length pc) := ⟨_, rfl⟩
                    rw [← hWe] at hrt hrf hbl ⊢
                    have hE9 := tEnd hrt hrf hbl (.bool false) (.bool false) (.string ⟨#[]⟩) (.slice none 0 0) (.bool false) (.slice none 0 0) (.int .i64 3) (.int .i64 (7 + (hh.length : Int)))
                    obtain ⟨hr6, hr7, hb9⟩ := hE9
                    obtain ⟨W9, hW9⟩ : ∃ W9, W9 = set2 (set6 W w.heap.size (.bool false) (.bool false) (.string ⟨#[]⟩) (.slice none 0 0) (.bool false) (.slice none 0 0)) (w.heap.size + 1) (.int .i64 3) (.int .i64 (7 + (hh.length : Int))) := ⟨_, rfl⟩
                    rw [← hW9] at hr6 hr7 hb9 
                    unfold set2 set6 at hW9
                    rw [← hW9]
                    clear hW9
                    have z0 := cell_list hr6 0
                    have z1 := cell_list hr6 1
                    have z2 := cell_list hr6 2
                    have z3 := cell_list hr6 3
                    have z4 := cell_list hr6 4
                    have z5 := cell_list hr6 5
                    have y0 := cell_list hr7 0
                    have y1 := cell_list hr7 1
                    simp only [List.getElem?_cons_zero, List.getElem?_cons_succ] at z0 z1 z2 z3 z4 z5 y0 y1
                    try rw [Exit.noGoto_ret]
                    refine bodyPost_ret (v := .tuple #[.agg #[.bool false, .bool false, .string ⟨#[]⟩, .slice none 0 0, .bool false, .slice none 0 0], .agg #[.int .i64 3, .int .i64 (7 + (hh.length : Int))]]) (by simp [results, Tryd.results15, go_sem, z0, z1, z2, z3, z4, z5, y0, y1]) rfl ?_
                    rw [HP.out, HTf.out]
                    exact ⟨none, 0, none, 0, rfl, Parts.nil _ _, Parts.nil _ _, hb9⟩
                · obtain ⟨g', rfl⟩ : ∃ g', gk = g' + 1 := ⟨gk - 1, by omega⟩
                  have hQ2 : isQ q = false := by simpa using hQ
                  have HQQ := Lib.hid hQ2
                  clear hQ
                  have hrel2 : ∀ i q, (7 + hh.length) ≤ i → i < j + 1 → PS[i]? = some q → isQ q = false := fun i x h1 h2 hx => by
                    rcases Nat.lt_or_ge i j with h | h
                    · exact HNQ.out i x h1 h hx
                    · obtain rfl : i = j := by omega
                      rw [HQ.out] at hx
                      cases hx
                      exact HQQ.out
                  have HR := Lib.hid hrel2
                  clear hrel2
                  rcases hpl : q.plain with _ | _
                  · rw [hpl] at c4
                    clear hQ2 hpl
                    go_wp2_with fail
                    go_roundg g'
                    case measure => omega
                    case rel => exact ⟨j + 1, by go_num, by omega, by omega, by omega, HR.out, rfl⟩
                  · rw [hpl] at c4
                    have ht : (q.p.t == [63]) = false := by unfold isQ at hQ2; rw [hpl, Bool.true_and] at hQ2; exact hQ2
                    clear hQ2 hpl
                    go_wp2_with fail
                    go_roundg g'
                    case measure => omega
                    case rel => exact ⟨j + 1, by go_num, by omega, by omega, by omega, HR.out, rfl⟩
              · obtain rfl : j = PS.length := by omega
                have hnk : ¬ (PS.length : Int) < (PS.length : Int) := by omega
                have hj1 : 7 + (hh.length : Int) ≤ (PS.length : Int) := by omega
                by_cases hcn : c = 7 + hh.length
                · go_wp2_with fail
                  have hsp := mark_split (at0 := (7 + hh.length)) (j := PS.length) (by omega) (by omega) HNQ.out
                  obtain ⟨D, hD⟩ : ∃ D, (PS.drop (7 + hh.length)).take (PS.length - (7 + hh.length)) = D := ⟨_, rfl⟩
                  have hsub := HM0.out.ps.sub (i := (7 + hh.length)) (j := PS.length) (by omega) (by omega) (some ad) (fun hx => by omega)
                  rw [hD] at hsp hsub
                  obtain ⟨hs1, hs2, hs3⟩ := hsp
                  have hDP : ∀ q ∈ D, q ∈ PS := fun q hq => by rw [← hD] at hq; exact List.mem_of_mem_drop (List.mem_of_mem_take hq)
                  have hpts := fun W h => refParts_any (some ad) 0 D W h (by omega) (fun q hq => HPt.out q (hDP q hq))
                  obtain ⟨L, hL⟩ : ∃ L, joinP (D.map (·.p)) = L := ⟨_, rfl⟩
                  have hLl : L.length ≤ 96 := by rw [← hL]; have := joinP_len (D.map (·.p)); simp at this; omega
                  have hLit : Lit L := by
                    rw [← hL]
                    exact joinP_lit _ _ (fun p hp => by
                      obtain ⟨q, hq, rfl⟩ := List.mem_map.1 hp
                      exact HPl.out q (hDP q hq)) (fun q hq => by simp at hq)
                  rw [hL] at hpts
                  have hDn : L ≠ [] → (7 + hh.length) < PS.length := fun hne => by
                    rcases Nat.lt_or_ge (7 + hh.length) PS.length with hx | hx
                    · exact hx
                    · exfalso
                      have hD0 : D = [] := List.eq_nil_of_length_eq_zero (by omega)
                      rw [hD0] at hL
                      exact hne hL.symm
                  have HTt : Hid (targetR s = if placeR L = true then ⟨false, true, hh, L, false, [], 0, 0⟩ else .fault 3 (((7 + hh.length) : Nat) : Int)) := Lib.hid (by
                    rw [HT0.out, hs1, List.drop_length, List.append_nil, rest_end hs2, hL])
                  have HDN := Lib.hid hDn
                  have HLit := Lib.hid hLit
                  rw [hs3] at hpts hsub
                  clear hs1 hs2 hs3 hD hDP hL hDn hLit
                  refine (hpts _ hsub).mono ?_
                  rintro e w2 ⟨v2, rfl, hO2, h2⟩
                  obtain ⟨pa, pc, hv2, _, _, hPa⟩ := OwnParts.form hO2
                  subst hv2
                  have Mw := HM0.out.tm.below h2
                  have HMw := Lib.hid Mw
                  have hO2' : OwnParts w2 (n6 + 1) (.slice pa L.length pc) L := Owns.mono hO2 (by have := lt_of_cells HM0.out.tm.tt; omega)
                  have hpab : ∀ x : Addr, pa = some x → x.block ≠ n6 := fun x e => by
                    have := (hO2'.lt x.block (by rw [e]; rfl)).1
                    omega
                  have M2 := (HM0.out.below h2).setV hO2'
                  have HM2 := Lib.hid M2
                  have hPs := Rd.setCell hPa (p := ⟨n6, 3, none⟩) hpab (.slice pa L.length pc)
                  have HPs := Lib.hid hPs
                  have x3 := cell_list Mw.tt 3
                  have xf := frozen_list Mw.tt
                  have lpa : ∀ x : Addr, pa = some x → x.block ≠ n6 := hpab
                  simp only [List.getElem?_cons_zero, List.getElem?_cons_succ] at x3
                  clear hpts hsub hO2 hO2' hPa h2 Mw M2 hPs hpab
                  by_cases hL0 : L = []
                  · have hlz : ¬ (0 : Int) < (L.length : Int) := by rw [hL0]; simp
                    have hpr : placeR L = true := by rw [hL0]; rfl
                    clear hL0
                    have hT : targetR s = ⟨false, true, hh, L, false, [], 0, 0⟩ := by rw [HTt.out, if_pos hpr]
                    have HTf := Lib.hid hT
                    have hrt := HM2.out.tm.rt
                    have hrf := HM2.out.tm.rf
                    have hbl := HM2.out.tm.bl
                    have hO9 := ownsEnd HM2.out.tm.ow (g := w.heap.size) (by have := HM2.out.tm.lt; omega) (.bool false) (.bool true) (.string (bs hh)) (.slice pa L.length pc) (.bool false) (.slice none 0 0) (.int .i64 0) (.int .i64 0)
                    have htt := HMw.out.tt
                    clear hT hpr
                    have t0 := cell_list hrt 0
                    have t1 := cell_list hrt 1
                    have t2 := cell_list hrt 2
                    have t3 := cell_list hrt 3
                    have t4 := cell_list hrt 4
                    have t5 := cell_list hrt 5
                    have tf := frozen_list hrt
                    have f0 := cell_list hrf 0
                    have f1 := cell_list hrf 1
                    have ff := frozen_list hrf
                    simp only [List.getElem?_cons_zero, List.getElem?_cons_succ] at t0 t1 t2 t3 t4 t5 f0 f1
                    have x0 := cell_list htt 0
                    have x1 := cell_list htt 1
                    have x2 := cell_list htt 2
                    have x3 := cell_list htt 3
                    have x4 := cell_list htt 4
                    have x5 := cell_list htt 5
                    simp only [List.getElem?_cons_zero, List.getElem?_cons_succ] at x0 x1 x2 x3 x4 x5
                    have HO9 := Lib.hid hO9
                    clear hO9
                    go_wp2_with fail
                    have hO9 := HO9.out
                    clear HO9
                    obtain ⟨W, hWe⟩ : ∃ W, W = w2.setCell ⟨n6, 3, none⟩ (.slice pa L.length pc) := ⟨_, rfl⟩
                    rw [← hWe] at hrt hrf hbl hO9 ⊢
                    have hE9 := tEnd hrt hrf hbl (.bool false) (.bool true) (.string (bs hh)) (.slice pa L.length pc) (.bool false) (.slice none 0 0) (.int .i64 0) (.int .i64 0)
                    obtain ⟨hr6, hr7, hb9⟩ := hE9
                    obtain ⟨W9, hW9⟩ : ∃ W9, W9 = set2 (set6 W w.heap.size (.bool false) (.bool true) (.string (bs hh)) (.slice pa L.length pc) (.bool false) (.slice none 0 0)) (w.heap.size + 1) (.int .i64 0) (.int .i64 0) := ⟨_, rfl⟩
                    rw [← hW9] at hr6 hr7 hb9 hO9
                    unfold set2 set6 at hW9
                    rw [← hW9]
                    clear hW9
                    have z0 := cell_list hr6 0
                    have z1 := cell_list hr6 1
                    have z2 := cell_list hr6 2
                    have z3 := cell_list hr6 3
                    have z4 := cell_list hr6 4
                    have z5 := cell_list hr6 5
                    have y0 := cell_list hr7 0
                    have y1 := cell_list hr7 1
                    simp only [List.getElem?_cons_zero, List.getElem?_cons_succ] at z0 z1 z2 z3 z4 z5 y0 y1
                    try rw [Exit.noGoto_ret]
                    refine bodyPost_ret (v := .tuple #[.agg #[.bool false, .bool true, .string (bs hh), .slice pa L.length pc, .bool false, .slice none 0 0], .agg #[.int .i64 0, .int .i64 0]]) (by simp [results, Tryd.results15, go_sem, z0, z1, z2, z3, z4, z5, y0, y1]) rfl ?_
                    rw [HP.out, HTf.out]
                    obtain ⟨a9, c9, e9, _, _, hP9⟩ := OwnParts.form hO9
                    cases e9
                    exact ⟨pa, pc, none, 0, rfl, hP9, Parts.nil _ _, hb9⟩
                  exact absurd (HDN.out hL0) (by omega)
                · go_wp2_with fail
                  have hsp := mark_split (at0 := (7 + hh.length)) (j := PS.length) (by omega) (by omega) HNQ.out
                  obtain ⟨D, hD⟩ : ∃ D, (PS.drop (7 + hh.length)).take (PS.length - (7 + hh.length)) = D := ⟨_, rfl⟩
                  have hsub := HM0.out.ps.sub (i := (7 + hh.length)) (j := PS.length) (by omega) (by omega) (some (ad.add ((7 + hh.length) * 5))) (fun hx => rfl)
                  rw [hD] at hsp hsub
                  obtain ⟨hs1, hs2, hs3⟩ := hsp
                  have hDP : ∀ q ∈ D, q ∈ PS := fun q hq => by rw [← hD] at hq; exact List.mem_of_mem_drop (List.mem_of_mem_take hq)
                  have hpts := fun W h => refParts_any (some (ad.add ((7 + hh.length) * 5))) (c - (7 + hh.length)) D W h (by omega) (fun q hq => HPt.out q (hDP q hq))
                  obtain ⟨L, hL⟩ : ∃ L, joinP (D.map (·.p)) = L := ⟨_, rfl⟩
                  have hLl : L.length ≤ 96 := by rw [← hL]; have := joinP_len (D.map (·.p)); simp at this; omega
                  have hLit : Lit L := by
                    rw [← hL]
                    exact joinP_lit _ _ (fun p hp => by
                      obtain ⟨q, hq, rfl⟩ := List.mem_map.1 hp
                      exact HPl.out q (hDP q hq)) (fun q hq => by simp at hq)
                  rw [hL] at hpts
                  have hDn : L ≠ [] → (7 + hh.length) < PS.length := fun hne => by
                    rcases Nat.lt_or_ge (7 + hh.length) PS.length with hx | hx
                    · exact hx
                    · exfalso
                      have hD0 : D = [] := List.eq_nil_of_length_eq_zero (by omega)
                      rw [hD0] at hL
                      exact hne hL.symm
                  have HTt : Hid (targetR s = if placeR L = true then ⟨false, true, hh, L, false, [], 0, 0⟩ else .fault 3 (((7 + hh.length) : Nat) : Int)) := Lib.hid (by
                    rw [HT0.out, hs1, List.drop_length, List.append_nil, rest_end hs2, hL])
                  have HDN := Lib.hid hDn
                  have HLit := Lib.hid hLit
                  rw [hs3] at hpts hsub
                  clear hs1 hs2 hs3 hD hDP hL hDn hLit
                  refine (hpts _ hsub).mono ?_
                  rintro e w2 ⟨v2, rfl, hO2, h2⟩
                  obtain ⟨pa, pc, hv2, _, _, hPa⟩ := OwnParts.form hO2
                  subst hv2
                  have Mw := HM0.out.tm.below h2
                  have HMw := Lib.hid Mw
                  have hO2' : OwnParts w2 (n6 + 1) (.slice pa L.length pc) L := Owns.mono hO2 (by have := lt_of_cells HM0.out.tm.tt; omega)
                  have hpab : ∀ x : Addr, pa = some x → x.block ≠ n6 := fun x e => by
                    have := (hO2'.lt x.block (by rw [e]; rfl)).1
                    omega
                  have M2 := (HM0.out.below h2).setV hO2'
                  have HM2 := Lib.hid M2
                  have hPs := Rd.setCell hPa (p := ⟨n6, 3, none⟩) hpab (.slice pa L.length pc)
                  have HPs := Lib.hid hPs
                  have x3 := cell_list Mw.tt 3
                  have xf := frozen_list Mw.tt
                  have lpa : ∀ x : Addr, pa = some x → x.block ≠ n6 := hpab
                  simp only [List.getElem?_cons_zero, List.getElem?_cons_succ] at x3
                  clear hpts hsub hO2 hO2' hPa h2 Mw M2 hPs hpab
                  by_cases hL0 : L = []
                  · have hlz : ¬ (0 : Int) < (L.length : Int) := by rw [hL0]; simp
                    have hpr : placeR L = true := by rw [hL0]; rfl
                    clear hL0
                    have hT : targetR s = ⟨false, true, hh, L, false, [], 0, 0⟩ := by rw [HTt.out, if_pos hpr]
                    have HTf := Lib.hid hT
                    have hrt := HM2.out.tm.rt
                    have hrf := HM2.out.tm.rf
                    have hbl := HM2.out.tm.bl
                    have hO9 := ownsEnd HM2.out.tm.ow (g := w.heap.size) (by have := HM2.out.tm.lt; omega) (.bool false) (.bool true) (.string (bs hh)) (.slice pa L.length pc) (.bool false) (.slice none 0 0) (.int .i64 0) (.int .i64 0)
                    have htt := HMw.out.tt
                    clear hT hpr
                    have t0 := cell_list hrt 0
                    have t1 := cell_list hrt 1
                    have t2 := cell_list hrt 2
                    have t3 := cell_list hrt 3
                    have t4 := cell_list hrt 4
                    have t5 := cell_list hrt 5
                    have tf := frozen_list hrt
                    have f0 := cell_list hrf 0
                    have f1 := cell_list hrf 1
                    have ff := frozen_list hrf
                    simp only [List.getElem?_cons_zero, List.getElem?_cons_succ] at t0 t1 t2 t3 t4 t5 f0 f1
                    have x0 := cell_list htt 0
                    have x1 := cell_list htt 1
                    have x2 := cell_list htt 2
                    have x3 := cell_list htt 3
                    have x4 := cell_list htt 4
                    have x5 := cell_list htt 5
                    simp only [List.getElem?_cons_zero, List.getElem?_cons_succ] at x0 x1 x2 x3 x4 x5
                    have HO9 := Lib.hid hO9
                    clear hO9
                    go_wp2_with fail
                    have hO9 := HO9.out
                    clear HO9
                    obtain ⟨W, hWe⟩ : ∃ W, W = w2.setCell ⟨n6, 3, none⟩ (.slice pa L.length pc) := ⟨_, rfl⟩
                    rw [← hWe] at hrt hrf hbl hO9 ⊢
                    have hE9 := tEnd hrt hrf hbl (.bool false) (.bool true) (.string (bs hh)) (.slice pa L.length pc) (.bool false) (.slice none 0 0) (.int .i64 0) (.int .i64 0)
                    obtain ⟨hr6, hr7, hb9⟩ := hE9
                    obtain ⟨W9, hW9⟩ : ∃ W9, W9 = set2 (set6 W w.heap.size (.bool false) (.bool true) (.string (bs hh)) (.slice pa L.length pc) (.bool false) (.slice none 0 0)) (w.heap.size + 1) (.int .i64 0) (.int .i64 0) := ⟨_, rfl⟩
                    rw [← hW9] at hr6 hr7 hb9 hO9
                    unfold set2 set6 at hW9
                    rw [← hW9]
                    clear hW9
                    have z0 := cell_list hr6 0
                    have z1 := cell_list hr6 1
                    have z2 := cell_list hr6 2
                    have z3 := cell_list hr6 3
                    have z4 := cell_list hr6 4
                    have z5 := cell_list hr6 5
                    have y0 := cell_list hr7 0
                    have y1 := cell_list hr7 1
                    simp only [List.getElem?_cons_zero, List.getElem?_cons_succ] at z0 z1 z2 z3 z4 z5 y0 y1
                    try rw [Exit.noGoto_ret]
                    refine bodyPost_ret (v := .tuple #[.agg #[.bool false, .bool true, .string (bs hh), .slice pa L.length pc, .bool false, .slice none 0 0], .agg #[.int .i64 0, .int .i64 0]]) (by simp [results, Tryd.results15, go_sem, z0, z1, z2, z3, z4, z5, y0, y1]) rfl ?_
                    rw [HP.out, HTf.out]
                    obtain ⟨a9, c9, e9, _, _, hP9⟩ := OwnParts.form hO9
                    cases e9
                    exact ⟨pa, pc, none, 0, rfl, hP9, Parts.nil _ _, hb9⟩
                  obtain ⟨p, L', hLp⟩ : ∃ p L', L = p :: L' := by
                    rcases L with _ | ⟨p, L'⟩
                    · exact absurd rfl hL0
                    · exact ⟨p, L', rfl⟩
                  have hlp : (0 : Int) < (L.length : Int) := by rw [hLp]; simp
                  have hpv : placeR L = ((p.k == 1) && (p.t.head? == some 47)) := by rw [hLp]; rfl
                  have hli := HLit.out p (by rw [hLp]; simp)
                  obtain ⟨pad, hpad, _, p0, p1, _⟩ := Parts.get (L := L) HPs.out 0 p (by rw [hLp]; rfl)
                  subst hpad
                  have e0 : pad.add (0 * 3) = pad := by unfold Addr.add; simp
                  rw [e0] at p0 p1
                  have lpb := lpa pad rfl
                  have hat0 := HDN.out hL0
                  obtain ⟨q0, hq0⟩ : ∃ q0, PS[(7 + hh.length)]? = some q0 := ⟨_, List.getElem?_eq_getElem hat0⟩
                  obtain ⟨bd, hbd, _, _, _, _, d3, _⟩ := HM2.out.ps.get (7 + hh.length) q0 hq0
                  have lbd := (HM2.out.ab bd hbd).2
                  rw [HHD.out q0 hq0] at d3
                  cases hbd
                  have e1 : (ad.add ((7 + hh.length) * 5)) = (ad.add ((7 + hh.length) * 5)) := rfl
                  rw [e1] at d3
                  have HLP := Lib.hid hLp
                  have HPV := Lib.hid hpv
                  have HLI := Lib.hid hli
                  clear hLp hpv hli e0 e1 hq0 HHD
                  by_cases hk : p.k = 1
                  · obtain ⟨x, t', hxt⟩ : ∃ x t', p.t = x :: t' := by
                      rcases ht : p.t with _ | ⟨x, t'⟩
                      · exact absurd ht (HLI.out hk)
                      · exact ⟨x, t', rfl⟩
                    have hkb : (p.k == 1) = true := by simpa using hk
                    obtain ⟨Tx, hTx⟩ : ∃ Tx, bs p.t = Tx := ⟨_, rfl⟩
                    rw [hTx] at p1
                    have hT0 : 0 < Tx.size := by rw [← hTx, size_bs, hxt]; simp
                    have hTb : Tx[0] = x := by subst hTx; rw [get_data _ 0 hT0]; simp [data_bs, hxt]
                    by_cases hx : x = 47
                    · have hpr : placeR L = true := by rw [HPV.out, hk, hxt, hx]; rfl
                      have hTe : ((Tx[0].toNat : Int) == 47) = true := by rw [hTb, hx]; rfl
                      rw [hk] at p0
                      clear hk hkb hxt hTx hTb hx
                      have hT : targetR s = ⟨false, true, hh, L, false, [], 0, 0⟩ := by rw [HTt.out, if_pos hpr]
                      have HTf := Lib.hid hT
                      have hrt := HM2.out.tm.rt
                      have hrf := HM2.out.tm.rf
                      have hbl := HM2.out.tm.bl
                      have hO9 := ownsEnd HM2.out.tm.ow (g := w.heap.size) (by have := HM2.out.tm.lt; omega) (.bool false) (.bool true) (.string (bs hh)) (.slice (some pad) L.length pc) (.bool false) (.slice none 0 0) (.int .i64 0) (.int .i64 0)
                      have htt := HMw.out.tt
                      clear hT hpr
                      have t0 := cell_list hrt 0
                      have t1 := cell_list hrt 1
                      have t2 := cell_list hrt 2
                      have t3 := cell_list hrt 3
                      have t4 := cell_list hrt 4
                      have t5 := cell_list hrt 5
                      have tf := frozen_list hrt
                      have f0 := cell_list hrf 0
                      have f1 := cell_list hrf 1
                      have ff := frozen_list hrf
                      simp only [List.getElem?_cons_zero, List.getElem?_cons_succ] at t0 t1 t2 t3 t4 t5 f0 f1
                      have x0 := cell_list htt 0
                      have x1 := cell_list htt 1
                      have x2 := cell_list htt 2
                      have x3 := cell_list htt 3
                      have x4 := cell_list htt 4
                      have x5 := cell_list htt 5
                      simp only [List.getElem?_cons_zero, List.getElem?_cons_succ] at x0 x1 x2 x3 x4 x5
                      have HO9 := Lib.hid hO9
                      clear hO9
                      go_wp2_with fail
                      have hO9 := HO9.out
                      clear HO9
                      obtain ⟨W, hWe⟩ : ∃ W, W = w2.setCell ⟨n6, 3, none⟩ (.slice (some pad) L.length pc) := ⟨_, rfl⟩
                      rw [← hWe] at hrt hrf hbl hO9 ⊢
                      have hE9 := tEnd hrt hrf hbl (.bool false) (.bool true) (.string (bs hh)) (.slice (some pad) L.length pc) (.bool false) (.slice none 0 0) (.int .i64 0) (.int .i64 0)
                      obtain ⟨hr6, hr7, hb9⟩ := hE9
                      obtain ⟨W9, hW9⟩ : ∃ W9, W9 = set2 (set6 W w.heap.size (.bool false) (.bool true) (.string (bs hh)) (.slice (some pad) L.length pc) (.bool false) (.slice none 0 0)) (w.heap.size + 1) (.int .i64 0) (.int .i64 0) := ⟨_, rfl⟩
                      rw [← hW9] at hr6 hr7 hb9 hO9
                      unfold set2 set6 at hW9
                      rw [← hW9]
                      clear hW9
                      have z0 := cell_list hr6 0
                      have z1 := cell_list hr6 1
                      have z2 := cell_list hr6 2
                      have z3 := cell_list hr6 3
                      have z4 := cell_list hr6 4
                      have z5 := cell_list hr6 5
                      have y0 := cell_list hr7 0
                      have y1 := cell_list hr7 1
                      simp only [List.getElem?_cons_zero, List.getElem?_cons_succ] at z0 z1 z2 z3 z4 z5 y0 y1
                      try rw [Exit.noGoto_ret]
                      refine bodyPost_ret (v := .tuple #[.agg #[.bool false, .bool true, .string (bs hh), .slice (some pad) L.length pc, .bool false, .slice none 0 0], .agg #[.int .i64 0, .int .i64 0]]) (by simp [results, Tryd.results15, go_sem, z0, z1, z2, z3, z4, z5, y0, y1]) rfl ?_
                      rw [HP.out, HTf.out]
                      obtain ⟨a9, c9, e9, _, _, hP9⟩ := OwnParts.form hO9
                      cases e9
                      exact ⟨(some pad), pc, none, 0, rfl, hP9, Parts.nil _ _, hb9⟩
                    · have hpr : placeR L = false := by rw [HPV.out, hk, hxt]; simpa using hx
                      have hTe : ((Tx[0].toNat : Int) == 47) = false := by
                        rw [hTb, beq_eq_false_iff_ne]
                        exact fun h => hx (UInt8.toNat.inj (by simpa using (by omega : x.toNat = 47)))
                      rw [hk] at p0
                      clear hk hkb hxt hTx hTb hx
                      have hT : targetR s = .fault 3 (((7 + hh.length) : Nat) : Int) := by rw [HTt.out, if_neg (by rw [hpr]; simp)]
                      have HTf := Lib.hid hT
                      have hrt := HM2.out.tm.rt
                      have hrf := HM2.out.tm.rf
                      have hbl := HM2.out.tm.bl
                      clear hT hpr
                      have t0 := cell_list hrt 0
                      have t1 := cell_list hrt 1
                      have t2 := cell_list hrt 2
                      have t3 := cell_list hrt 3
                      have t4 := cell_list hrt 4
                      have t5 := cell_list hrt 5
                      have tf := frozen_list hrt
                      have f0 := cell_list hrf 0
                      have f1 := cell_list hrf 1
                      have ff := frozen_list hrf
                      simp only [List.getElem?_cons_zero, List.getElem?_cons_succ] at t0 t1 t2 t3 t4 t5 f0 f1
                      go_wp2_with fail
                      obtain ⟨W, hWe⟩ : ∃ W, W = w2.setCell ⟨n6, 3, none⟩ (.slice (some pad) L.length pc) := ⟨_, rfl⟩
                      rw [← hWe] at hrt hrf hbl ⊢
                      have hE9 := tEnd hrt hrf hbl (.bool false) (.bool false) (.string ⟨#[]⟩) (.slice none 0 0) (.bool false) (.slice none 0 0) (.int .i64 3) (.int .i64 (7 + (hh.length : Int)))
                      obtain ⟨hr6, hr7, hb9⟩ := hE9
                      obtain ⟨W9, hW9⟩ : ∃ W9, W9 = set2 (set6 W w.heap.size (.bool false) (.bool false) (.string ⟨#[]⟩) (.slice none 0 0) (.bool false) (.slice none 0 0)) (w.heap.size + 1) (.int .i64 3) (.int .i64 (7 + (hh.length : Int))) := ⟨_, rfl⟩
                      rw [← hW9] at hr6 hr7 hb9 
                      unfold set2 set6 at hW9
                      rw [← hW9]
                      clear hW9
                      have z0 := cell_list hr6 0
                      have z1 := cell_list hr6 1
                      have z2 := cell_list hr6 2
                      have z3 := cell_list hr6 3
                      have z4 := cell_list hr6 4
                      have z5 := cell_list hr6 5
                      have y0 := cell_list hr7 0
                      have y1 := cell_list hr7 1
                      simp only [List.getElem?_cons_zero, List.getElem?_cons_succ] at z0 z1 z2 z3 z4 z5 y0 y1
                      try rw [Exit.noGoto_ret]
                      refine bodyPost_ret (v := .tuple #[.agg #[.bool false, .bool false, .string ⟨#[]⟩, .slice none 0 0, .bool false, .slice none 0 0], .agg #[.int .i64 3, .int .i64 (7 + (hh.length : Int))]]) (by simp [results, Tryd.results15, go_sem, z0, z1, z2, z3, z4, z5, y0, y1]) rfl ?_
                      rw [HP.out, HTf.out]
                      exact ⟨none, 0, none, 0, rfl, Parts.nil _ _, Parts.nil _ _, hb9⟩
                  · have hpr : placeR L = false := by rw [HPV.out]; have : (p.k == 1) = false := by simpa using hk
                                                      rw [this]; rfl
                    have hkb : (p.k != 1) = true := by simpa using hk
                    clear hk
                    have hT : targetR s = .fault 3 (((7 + hh.length) : Nat) : Int) := by rw [HTt.out, if_neg (by rw [hpr]; simp)]
                    have HTf := Lib.hid hT
                    have hrt := HM2.out.tm.rt
                    have hrf := HM2.out.tm.rf
                    have hbl := HM2.out.tm.bl
                    clear hT hpr
                    have t0 := cell_list hrt 0
                    have t1 := cell_list hrt 1
                    have t2 := cell_list hrt 2
                    have t3 := cell_list hrt 3
                    have t4 := cell_list hrt 4
                    have t5 := cell_list hrt 5
                    have tf := frozen_list hrt
                    have f0 := cell_list hrf 0
                    have f1 := cell_list hrf 1
                    have ff := frozen_list hrf
                    simp only [List.getElem?_cons_zero, List.getElem?_cons_succ] at t0 t1 t2 t3 t4 t5 f0 f1
                    go_wp2_with fail
                    obtain ⟨W, hWe⟩ : ∃ W, W = w2.setCell ⟨n6, 3, none⟩ (.slice (some pad) L.length pc) := ⟨_, rfl⟩
                    rw [← hWe] at hrt hrf hbl ⊢
                    have hE9 := tEnd hrt hrf hbl (.bool false) (.bool false) (.string ⟨#[]⟩) (.slice none 0 0) (.bool false) (.slice none 0 0) (.int .i64 3) (.int .i64 (7 + (hh.length : Int)))
                    obtain ⟨hr6, hr7, hb9⟩ := hE9
                    obtain ⟨W9, hW9⟩ : ∃ W9, W9 = set2 (set6 W w.heap.size (.bool false) (.bool false) (.string ⟨#[]⟩) (.slice none 0 0) (.bool false) (.slice none 0 0)) (w.heap.size + 1) (.int .i64 3) (.int .i64 (7 + (hh.length : Int))) := ⟨_, rfl⟩
                    rw [← hW9] at hr6 hr7 hb9 
                    unfold set2 set6 at hW9
                    rw [← hW9]
                    clear hW9
                    have z0 := cell_list hr6 0
                    have z1 := cell_list hr6 1
                    have z2 := cell_list hr6 2
                    have z3 := cell_list hr6 3
                    have z4 := cell_list hr6 4
                    have z5 := cell_list hr6 5
                    have y0 := cell_list hr7 0
                    have y1 := cell_list hr7 1
                    simp only [List.getElem?_cons_zero, List.getElem?_cons_succ] at z0 z1 z2 z3 z4 z5 y0 y1
                    try rw [Exit.noGoto_ret]
                    refine bodyPost_ret (v := .tuple #[.agg #[.bool false, .bool false, .string ⟨#[]⟩, .slice none 0 0, .bool false, .slice none 0 0], .agg #[.int .i64 3, .int .i64 (7 + (hh.length : Int))]]) (by simp [results, Tryd.results15, go_sem, z0, z1, z2, z3, z4, z5, y0, y1]) rfl ?_
                    rw [HP.out, HTf.out]
                    exact ⟨none, 0, none, 0, rfl, Parts.nil _ _, Parts.nil _ _, hb9⟩
        · rcases HST.out with hs1 | ⟨q, hq, hqa, hs1⟩
          · have hlt2 : ¬ (7 + (hh.length : Int) < (PS.length : Int)) := by omega
            clear HM hs1
            go_wp2_with fail
            rw [HQ1.out]
            exact ⟨rfl, rfl, ex_f _ _ rfl⟩
          · obtain ⟨ad', had, hbk, c0, c1, c2, c3, c4⟩ := HM.out.ps.get (7 + hh.length) q hq
            cases had
            have hlt2 : 7 + (hh.length : Int) < (PS.length : Int) := by have := (List.getElem?_eq_some_iff.1 hq).1; omega
            have c3' : wr.cell? ⟨(ad.add ((7 + hh.length) * 5)).block, (ad.add ((7 + hh.length) * 5)).off + 3, none⟩ = some (.int .i64 (7 + (hh.length : Int))) := by rw [c3, hqa]; rfl
            clear HM c0 c2 c3 hq hqa
            rcases hs1 with hs1 | ⟨hs1, hs2 | hs2⟩
            · rw [hs1] at c4
              clear hs1
              go_wp2_with fail
              rw [HQ1.out]
              exact ⟨rfl, rfl, ex_f _ _ rfl⟩
            · rw [hs1] at c4
              rw [hs2] at c1
              clear hs1 hs2
              go_wp2_with fail
              rw [HQ1.out]
              exact ⟨rfl, rfl, ex_f _ _ rfl⟩
            · rw [hs1] at c4
              rw [hs2] at c1
              clear hs1 hs2
              go_wp2_with fail
              rw [HQ1.out]
              exact ⟨rfl, rfl, ex_f _ _ rfl⟩
end Go.Proofs.YtllklgalghmnfaaDoor
