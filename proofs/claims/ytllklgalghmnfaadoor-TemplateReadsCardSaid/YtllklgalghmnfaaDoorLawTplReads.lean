/- The walk of TemplateReads. -/
import Derived.Test.YtllklgalghmnfaaDoorTplAwake
import Derived.Test.YtllklgalghmnfaaDoorTplRefTarget
namespace Go.Proofs.YtllklgalghmnfaaDoor
open Go.RowKit Str Mem Tp
set_option linter.unusedVariables false
set_option linter.unusedSimpArgs false
theorem parseR_len (s : Tp.Bs) : (parseR s).L.length ≤ 96 := by
  unfold parseR
  by_cases h : 96 < s.length
  · rw [if_pos h]; simp
  · rw [if_neg h]
    rcases hp : (pieces s 0).2 with _ | ⟨e, k⟩
    · show (joinP ((pieces s 0).1.map (·.p))).length ≤ 96
      have h1 := joinP_len ((pieces s 0).1.map (·.p))
      have h2 := pieces_count s.length s 0
      change (pieces s 0).1.length ≤ s.length at h2
      rw [List.length_map] at h1
      omega
    · simp
theorem restR_len (ex : Bool) (h : Tp.Bs) (k : Nat) (ps : List Piece) (hp : ps.length ≤ 96) : (restR ex h k ps).L.length ≤ 96 ∧ (restR ex h k ps).M.length ≤ 96 := by
  have h1 : (pathOf ps).length ≤ 96 := by
    have h2 := joinP_len ((ps.takeWhile (fun q => !isQ q)).map (·.p))
    rw [List.length_map] at h2
    have h3 := (List.takeWhile_sublist (l := ps) (fun q => !isQ q)).length_le
    unfold pathOf
    omega
  unfold restR
  split
  · split
    · exact ⟨h1, by simp⟩
    · rename_i x tl hd
      refine ⟨h1, ?_⟩
      have h2 := joinP_len (tl.map (·.p))
      rw [List.length_map] at h2
      have h3 := (List.dropWhile_sublist (l := ps) (fun q => !isQ q)).length_le
      rw [hd] at h3
      simp only [List.length_cons] at h3
      show (joinP (tl.map (·.p))).length ≤ 96
      omega
  · simp [TR.fault]
theorem targetR_len (s : Tp.Bs) : (targetR s).L.length ≤ 96 ∧ (targetR s).M.length ≤ 96 := by
  unfold targetR
  by_cases he : (parseR s).e ≠ 0
  · rw [if_pos he]; simp [TR.fault]
  · rw [if_neg he]
    have hs := (parse_well (by simpa using he)).1
    have hc : ∀ k, (pieces (s.drop k) k).1.length ≤ 96 := fun k => by
      have h2 := pieces_count (s.drop k).length (s.drop k) k
      change (pieces (s.drop k) k).1.length ≤ (s.drop k).length at h2
      rw [List.length_drop] at h2
      omega
    split
    · simp [TR.fault]
    · split
      · simp
      · split
        · split
          · simp [TR.fault]
          · exact restR_len _ _ _ _ (hc _)
        · exact restR_len _ _ _ _ (hc 0)

set_option maxRecDepth 100000 in
set_option maxHeartbeats 4000000 in
theorem lawReads_any (x : ByteArray) (w : World) (hN : Nm w) : Calls Tryd.prog 3 #[.string x] w fun e w' => e = .returned (.bool true) ∧ Below w.heap.size w w' := by
  obtain ⟨s, rfl⟩ : ∃ s, x = bs s := ⟨x.data.toList, (bs_data x).symm⟩
  have ha := fun W h => awake25_any W h
  have hz : (bs s).size = s.length := size_bs s
  by_cases hs : 110 < s.length
  · have q1 : (110 : Int) < ((bs s).size : Int) := by omega
    obtain ⟨B, hB⟩ : ∃ B, bs s = B := ⟨_, rfl⟩
    rw [hB] at q1 ⊢
    clear hz hB
    go_enter Tryd.func3, Tryd.ntmps3
    go_wp2_with fail
    refine (ha _ hN).mono ?_
    rintro e w1 ⟨rfl, h1⟩
    go_wp2_with fail
    go_ret
    exact ⟨rfl, h1⟩
  · have q1 : ¬ (110 : Int) < ((bs s).size : Int) := by omega
    have p1 := fun W h => parse_any s W (by omega) h
    have p2 := fun W => refParse_any s W (by omega)
    have p3 := fun W h => target_any s W (by omega) h
    have p4 := fun W => refTarget_any s W (by omega)
    obtain ⟨⟨L, er, ea⟩, hR⟩ : ∃ R, parseR s = R := ⟨_, rfl⟩
    rw [hR] at p1 p2
    obtain ⟨⟨sm, ex, h, P, hq, Q, te, ta⟩, hT⟩ : ∃ T, targetR s = T := ⟨_, rfl⟩
    rw [hT] at p3 p4
    have hLn : L.length ≤ 96 := by have := parseR_len s; rw [hR] at this; exact this
    have hPn : P.length ≤ 96 := by have := (targetR_len s).1; rw [hT] at this; exact this
    have hQn : Q.length ≤ 96 := by have := (targetR_len s).2; rw [hT] at this; exact this
    obtain ⟨B, hB⟩ : ∃ B, bs s = B := ⟨_, rfl⟩
    rw [hB] at p1 p2 p3 p4 q1 ⊢
    clear hz hB hR hT
    unfold ParsePost at p1 p2
    unfold TargetPost tgtV at p3 p4
    go_enter Tryd.func3, Tryd.ntmps3
    go_wp2_with fail
    refine (p1 _ hN).mono ?_
    rintro e w1 ⟨v1, rfl, hO1, h1⟩
    obtain ⟨a1, c1, rfl, _, _, hP1⟩ := OwnParts.form hO1
    have b1 := h1.alloc h1.size (.cells #[.int .i64 er, .int .i64 ea] 26)
    have f1 := World.alloc_heap_new w1 (.cells #[.int .i64 er, .int .i64 ea] 26)
    have P1 := Rd.alloc hP1 (.cells #[.int .i64 er, .int .i64 ea] 26)
    obtain ⟨W1, hW1⟩ : ∃ W, W = w1.alloc (.cells #[.int .i64 er, .int .i64 ea] 26) := ⟨_, rfl⟩
    rw [← hW1] at b1 f1 P1
    clear hO1 hP1 h1 p1
    go_wp2_with fail
    rw [← hW1]
    clear hW1
    refine (p2 _).mono ?_
    rintro e w2 ⟨v2, rfl, hO2, h2⟩
    obtain ⟨a2, c2, rfl, _, _, hP2⟩ := OwnParts.form hO2
    have h2' := h2.alloc h2.size (.cells #[.int .i64 er, .int .i64 ea] 26)
    have b2 := b1.trans (h2'.mono b1.size)
    have f2 := World.alloc_heap_new w2 (.cells #[.int .i64 er, .int .i64 ea] 26)
    have P2 := Rd.alloc hP2 (.cells #[.int .i64 er, .int .i64 ea] 26)
    obtain ⟨W2, hW2⟩ : ∃ W, W = w2.alloc (.cells #[.int .i64 er, .int .i64 ea] 26) := ⟨_, rfl⟩
    rw [← hW2] at b2 f2 P2 h2'
    have f1' := (h2'.block _ (lt_of_cells f1)).trans f1
    have P1' := Rd.below P1 h2'
    clear hO2 hP2 h2 h2' p2 b1 f1 P1
    go_wp2_with fail
    rw [← hW2]
    clear hW2
    refine (p3 _ (hN.below b2 hN.lt)).mono ?_
    rintro e w3 ⟨pa, pc, qa, qc, rfl, hPp, hPq, h3⟩
    have h3a := h3.alloc h3.size (.cells #[.bool sm, .bool ex, .string (bs h), .slice pa P.length pc, .bool hq, .slice qa Q.length qc] 30)
    have h3' := h3a.alloc h3a.size (.cells #[.int .i64 te, .int .i64 ta] 26)
    have b3 := b2.trans (h3'.mono b2.size)
    have t3 := World.alloc_heap_new w3 (.cells #[.bool sm, .bool ex, .string (bs h), .slice pa P.length pc, .bool hq, .slice qa Q.length qc] 30)
    obtain ⟨V3, hV3⟩ : ∃ W, W = w3.alloc (.cells #[.bool sm, .bool ex, .string (bs h), .slice pa P.length pc, .bool hq, .slice qa Q.length qc] 30) := ⟨_, rfl⟩
    have hz3 : V3.heap.size = w3.heap.size + 1 := by rw [hV3]; simp
    have PP := Rd.alloc hPp (.cells #[.bool sm, .bool ex, .string (bs h), .slice pa P.length pc, .bool hq, .slice qa Q.length qc] 30)
    have PQ := Rd.alloc hPq (.cells #[.bool sm, .bool ex, .string (bs h), .slice pa P.length pc, .bool hq, .slice qa Q.length qc] 30)
    rw [← hV3] at h3' b3 t3 PP PQ
    have f3 := World.alloc_heap_new V3 (.cells #[.int .i64 te, .int .i64 ta] 26)
    rw [hz3] at f3
    have t3' := (Below.heap_alloc V3 (.cells #[.int .i64 te, .int .i64 ta] 26) _ (lt_of_cells t3)).trans t3
    have PP' := Rd.alloc PP (.cells #[.int .i64 te, .int .i64 ta] 26)
    have PQ' := Rd.alloc PQ (.cells #[.int .i64 te, .int .i64 ta] 26)
    obtain ⟨W3, hW3⟩ : ∃ W, W = V3.alloc (.cells #[.int .i64 te, .int .i64 ta] 26) := ⟨_, rfl⟩
    rw [← hW3] at h3' b3 f3 t3' PP' PQ'
    rw [hV3] at hW3
    have f1 := (h3'.block _ (lt_of_cells f1')).trans f1'
    have f2' := (h3'.block _ (lt_of_cells f2)).trans f2
    have P1 := Rd.below P1' h3'
    have P2' := Rd.below P2 h3'
    clear h3 h3a h3' b2 f1' f2 P1' P2 t3 PP PQ hPp hPq hV3 hz3 p3
    go_wp2_with fail
    rw [← hW3]
    clear hW3
    refine (p4 _).mono ?_
    rintro e w4 ⟨pb, pd, qb, qd, rfl, hPp, hPq, h4⟩
    have h4a := h4.alloc h4.size (.cells #[.bool sm, .bool ex, .string (bs h), .slice pb P.length pd, .bool hq, .slice qb Q.length qd] 30)
    have h4' := h4a.alloc h4a.size (.cells #[.int .i64 te, .int .i64 ta] 26)
    have b4 := b3.trans (h4'.mono b3.size)
    have t4 := World.alloc_heap_new w4 (.cells #[.bool sm, .bool ex, .string (bs h), .slice pb P.length pd, .bool hq, .slice qb Q.length qd] 30)
    obtain ⟨V4, hV4⟩ : ∃ W, W = w4.alloc (.cells #[.bool sm, .bool ex, .string (bs h), .slice pb P.length pd, .bool hq, .slice qb Q.length qd] 30) := ⟨_, rfl⟩
    have hz4 : V4.heap.size = w4.heap.size + 1 := by rw [hV4]; simp
    have PP := Rd.alloc hPp (.cells #[.bool sm, .bool ex, .string (bs h), .slice pb P.length pd, .bool hq, .slice qb Q.length qd] 30)
    have PQ := Rd.alloc hPq (.cells #[.bool sm, .bool ex, .string (bs h), .slice pb P.length pd, .bool hq, .slice qb Q.length qd] 30)
    rw [← hV4] at h4' b4 t4 PP PQ
    have f4 := World.alloc_heap_new V4 (.cells #[.int .i64 te, .int .i64 ta] 26)
    rw [hz4] at f4
    have t4' := (Below.heap_alloc V4 (.cells #[.int .i64 te, .int .i64 ta] 26) _ (lt_of_cells t4)).trans t4
    have PPb := Rd.alloc PP (.cells #[.int .i64 te, .int .i64 ta] 26)
    have PQb := Rd.alloc PQ (.cells #[.int .i64 te, .int .i64 ta] 26)
    obtain ⟨W4, hW4⟩ : ∃ W, W = V4.alloc (.cells #[.int .i64 te, .int .i64 ta] 26) := ⟨_, rfl⟩
    rw [← hW4] at h4' b4 f4 t4' PPb PQb
    rw [hV4] at hW4
    have g1 := (h4'.block _ (lt_of_cells f1)).trans f1
    have g2 := (h4'.block _ (lt_of_cells f2')).trans f2'
    have g3 := (h4'.block _ (lt_of_cells f3)).trans f3
    have u3 := (h4'.block _ (lt_of_cells t3')).trans t3'
    have PPa := Rd.below PP' h4'
    have PQa := Rd.below PQ' h4'
    have HP1 := Lib.hid (Rd.below P1 h4')
    have HP2 := Lib.hid (Rd.below P2' h4')
    have s1 := fun W h1 h2 => sameParts_any a1 a2 c1 c2 L W h1 h2 (by omega)
    have HPPa := Lib.hid PPa
    have HPQa := Lib.hid PQa
    have HPPb := Lib.hid PPb
    have HPQb := Lib.hid PQb
    clear h4 h4a h4' b3 f1 f2' f3 t3' t4 P1 P2' PP PQ PP' PQ' hPp hPq hV4 hz4 p4 PPa PQa PPb PQb
    have d10 := cell_list (cs := [.int .i64 er, .int .i64 ea]) g1 0
    have d11 := cell_list (cs := [.int .i64 er, .int .i64 ea]) g1 1
    have d20 := cell_list (cs := [.int .i64 er, .int .i64 ea]) g2 0
    have d21 := cell_list (cs := [.int .i64 er, .int .i64 ea]) g2 1
    have d30 := cell_list (cs := [.int .i64 te, .int .i64 ta]) g3 0
    have d31 := cell_list (cs := [.int .i64 te, .int .i64 ta]) g3 1
    have d40 := cell_list (cs := [.int .i64 te, .int .i64 ta]) f4 0
    have d41 := cell_list (cs := [.int .i64 te, .int .i64 ta]) f4 1
    have z30 := cell_list (cs := [.bool sm, .bool ex, .string (bs h), .slice pa P.length pc, .bool hq, .slice qa Q.length qc]) u3 0
    have z31 := cell_list (cs := [.bool sm, .bool ex, .string (bs h), .slice pa P.length pc, .bool hq, .slice qa Q.length qc]) u3 1
    have z32 := cell_list (cs := [.bool sm, .bool ex, .string (bs h), .slice pa P.length pc, .bool hq, .slice qa Q.length qc]) u3 2
    have z33 := cell_list (cs := [.bool sm, .bool ex, .string (bs h), .slice pa P.length pc, .bool hq, .slice qa Q.length qc]) u3 3
    have z34 := cell_list (cs := [.bool sm, .bool ex, .string (bs h), .slice pa P.length pc, .bool hq, .slice qa Q.length qc]) u3 4
    have z35 := cell_list (cs := [.bool sm, .bool ex, .string (bs h), .slice pa P.length pc, .bool hq, .slice qa Q.length qc]) u3 5
    have z40 := cell_list (cs := [.bool sm, .bool ex, .string (bs h), .slice pb P.length pd, .bool hq, .slice qb Q.length qd]) t4' 0
    have z41 := cell_list (cs := [.bool sm, .bool ex, .string (bs h), .slice pb P.length pd, .bool hq, .slice qb Q.length qd]) t4' 1
    have z42 := cell_list (cs := [.bool sm, .bool ex, .string (bs h), .slice pb P.length pd, .bool hq, .slice qb Q.length qd]) t4' 2
    have z43 := cell_list (cs := [.bool sm, .bool ex, .string (bs h), .slice pb P.length pd, .bool hq, .slice qb Q.length qd]) t4' 3
    have z44 := cell_list (cs := [.bool sm, .bool ex, .string (bs h), .slice pb P.length pd, .bool hq, .slice qb Q.length qd]) t4' 4
    have z45 := cell_list (cs := [.bool sm, .bool ex, .string (bs h), .slice pb P.length pd, .bool hq, .slice qb Q.length qd]) t4' 5
    simp only [List.getElem?_cons_zero, List.getElem?_cons_succ] at d10 d11 d20 d21 d30 d31 d40 d41 z30 z31 z32 z33 z34 z35 z40 z41 z42 z43 z44 z45
    clear g1 g2 u3 t4'
    go_wp2_with fail
    rw [← hW4]
    clear hW4
    refine (s1 _ HP1.out HP2.out).mono ?_
    rintro e w5 ⟨rfl, n5, rfl⟩
    go_wp2_with fail
    refine (sameTarget_any sm ex hq h pa pb qa qb pc pd qc qd P Q _ (Rd.drewN HPPa.out n5) (Rd.drewN HPPb.out n5) (Rd.drewN HPQa.out n5) (Rd.drewN HPQb.out n5) (by omega) (by omega)).mono ?_
    rintro e w6 ⟨rfl, h6⟩
    have b5 := below_drewN b4 n5
    have b6 := b5.trans (h6.mono b5.size)
    have e30 := (World.cell?_of_block (w := W4.drewN n5) (a := ⟨w3.heap.size + 1, 0, none⟩) (h6.block _ (show w3.heap.size + 1 < W4.heap.size from lt_of_cells g3))).trans d30
    have e31 := (World.cell?_of_block (w := W4.drewN n5) (a := ⟨w3.heap.size + 1, 1, none⟩) (h6.block _ (show w3.heap.size + 1 < W4.heap.size from lt_of_cells g3))).trans d31
    have e40 := (World.cell?_of_block (w := W4.drewN n5) (a := ⟨w4.heap.size + 1, 0, none⟩) (h6.block _ (show w4.heap.size + 1 < W4.heap.size from lt_of_cells f4))).trans d40
    have e41 := (World.cell?_of_block (w := W4.drewN n5) (a := ⟨w4.heap.size + 1, 1, none⟩) (h6.block _ (show w4.heap.size + 1 < W4.heap.size from lt_of_cells f4))).trans d41
    have hN6 := hN.below b6 hN.lt
    clear h6 HPPa HPPb HPQa HPQb HP1 HP2 s1 b4 b5
    go_wp2_with fail
    refine (ha _ hN6).mono ?_
    rintro e w7 ⟨rfl, h7⟩
    go_wp2_with fail
    go_ret
    exact ⟨rfl, b6.trans (h7.mono b6.size)⟩
end Go.Proofs.YtllklgalghmnfaaDoor
