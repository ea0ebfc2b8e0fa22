/- The reference's One: what it returns is what line.One returns. -/
import Derived.Test.YteppipkokeaijaaLineRef
import Derived.Deep.RegionHeld3
namespace Go.Proofs.Yteppipkokeaijaa
open Go.RowKit Str Mem
set_option linter.unusedVariables false
set_option linter.unusedSimpArgs false

theorem one_step {lim : Nat} {T : List UInt8} {b : UInt8} {r : List UInt8} (hb : b ≠ 10) (hl : T.length ≠ lim) : Ln.one lim T (b :: r) = Ln.one lim (T ++ [b]) r := by
  conv => lhs; unfold Ln.one
  rw [if_neg hb, if_neg hl]

theorem rows32 {W : World} {g Ta Tb : Nat} {a0 a1 a2 b0 b1 : Value} (h : W.heap[g]? = some (.cells [a0, a1, a2].toArray Ta (0, 0))) (h2 : W.heap[g + 1]? = some (.cells [b0, b1].toArray Tb (0, 0))) :
    W.cell? ⟨g, 0, none⟩ = some a0 ∧ W.cell? ⟨g, 1, none⟩ = some a1 ∧ W.cell? ⟨g, 2, none⟩ = some a2 ∧ (∀ j, W.frozen? ⟨g, j, none⟩ = false) ∧ W.cell? ⟨g + 1, 0, none⟩ = some b0 ∧ W.cell? ⟨g + 1, 1, none⟩ = some b1 ∧ (∀ j, W.frozen? ⟨g + 1, j, none⟩ = false) :=
  ⟨by rw [cell_list h]; rfl, by rw [cell_list h]; rfl, by rw [cell_list h]; rfl, frozen_list h, by rw [cell_list h2]; rfl, by rw [cell_list h2]; rfl, frozen_list h2⟩
theorem keep3 {W : World} {g b o : Nat} {v : Value} (h : W.cell? ⟨b, o, none⟩ = some v) (hne : b ≠ g) (x0 x1 x2 : Value) : (((W.setCell ⟨g, 0, none⟩ x0).setCell ⟨g, 1, none⟩ x1).setCell ⟨g, 2, none⟩ x2).cell? ⟨b, o, none⟩ = some v :=
  (World.cell?_of_block (w := W) (set3_other (W := W) hne x0 x1 x2)).trans h
theorem keep2 {W : World} {g b o : Nat} {v : Value} (h : W.cell? ⟨b, o, none⟩ = some v) (hne : b ≠ g) (x0 x1 : Value) : ((W.setCell ⟨g, 0, none⟩ x0).setCell ⟨g, 1, none⟩ x1).cell? ⟨b, o, none⟩ = some v :=
  (World.cell?_of_block (w := W) (set2_other (W := W) hne x0 x1)).trans h
/-- The loop's relation. -/
def RefI (lim : Nat) (T chunk : List UInt8) (t i : Value) : Prop :=
  ∃ k : Nat, k ≤ chunk.length ∧ i = .int .i64 k ∧ (∃ U : List UInt8, t = .string (bs U) ∧ U.length ≤ lim ∧ U.contains 10 = false ∧ Ln.one lim T chunk = Ln.one lim U (chunk.drop k))

set_option maxRecDepth 20000 in
set_option maxHeartbeats 1000000 in
theorem refOne_any (lim : Int) (T chunk : List UInt8) (lg : Bool) (w : World) (hT : T.length ≤ maxLen) (hc : chunk.length ≤ 1000000) :
    Calls Try.prog 21 #[linesV lim T lg, .string (bs chunk)] w fun e w' => e = .returned (OneVal lim T chunk lg) ∧ Below w.heap.size w w' := by
  have hck := fun W => refCheck_any lim T lg W hT
  obtain ⟨V, hV⟩ : ∃ V, OneVal lim T chunk lg = V := ⟨_, rfl⟩
  rw [hV]
  have HV := Lib.hid hV
  clear hV
  unfold linesV
  unfold linesV at hck
  obtain ⟨K, hK⟩ : ∃ K, Ln.check lim T lg = K := ⟨_, rfl⟩
  rw [hK] at hck
  have HK := Lib.hid hK
  clear hK
  go_enter Try.func21, Try.ntmps21
  go_wp2_with fail
  refine (hck _).mono ?_
  rintro e w1 ⟨rfl, hb1⟩
  have hbl : Below w.heap.size w w1 := ((((Below.refl _ w).alloc (Nat.le_refl _) _).alloc (by simp) _).alloc (by simp; omega) _).trans (hb1.mono (by simp; omega))
  have hrl : w1.heap[w.heap.size]? = some (.cells [.int .i64 lim, .string (bs T), .bool lg].toArray 25 (0, 0)) := by
    have := World.alloc_heap_new w (.cells #[.int .i64 lim, .string (bs T), .bool lg] 25)
    exact (hb1.block _ (by simp; omega)).trans ((Below.heap_alloc _ _ _ (by simp; omega)).trans ((Below.heap_alloc _ _ _ (by simp)).trans this))
  have hrow : w1.heap[w.heap.size + 1]? = some (.cells [.int .i64 0, .string ⟨#[]⟩, .bool false].toArray 25 (0, 0)) := by
    have := World.alloc_heap_new (w.alloc (.cells #[.int .i64 lim, .string (bs T), .bool lg] 25)) (.cells #[.int .i64 0, .string ⟨#[]⟩, .bool false] 25)
    rw [World.size_alloc] at this
    exact (hb1.block _ (by simp)).trans ((Below.heap_alloc _ _ _ (by simp)).trans this)
  have hrx : w1.heap[w.heap.size + 1 + 1]? = some (.cells [.string ⟨#[]⟩, .bool false].toArray 36 (0, 0)) := by
    have := World.alloc_heap_new ((w.alloc (.cells #[.int .i64 lim, .string (bs T), .bool lg] 25)).alloc (.cells #[.int .i64 0, .string ⟨#[]⟩, .bool false] 25)) (.cells #[.string ⟨#[]⟩, .bool false] 36)
    rw [World.size_alloc, World.size_alloc] at this
    exact (hb1.block _ (by simp)).trans this
  have l0 := cell_list hrl 0
  have l1 := cell_list hrl 1
  have l2 := cell_list hrl 2
  have c0 := cell_list hrow 0
  have c1 := cell_list hrow 1
  have c2 := cell_list hrow 2
  have f0 := frozen_list hrow
  have d0 := cell_list hrx 0
  have d1 := cell_list hrx 1
  have g0 := frozen_list hrx
  simp only [List.getElem?_cons_zero, List.getElem?_cons_succ] at c0 c1 c2 d0 d1 l0 l1 l2
  clear hb1 hck
  have hfin : ∀ (W : World) (y0 y1 y2 z0 z1 : Value), W.heap[w.heap.size + 1]? = some (.cells [.int .i64 0, .string ⟨#[]⟩, .bool false].toArray 25 (0, 0)) → W.heap[w.heap.size + 1 + 1]? = some (.cells [.string ⟨#[]⟩, .bool false].toArray 36 (0, 0)) → Below w.heap.size w W →
      ∃ W', W' = set2 (set3 W (w.heap.size + 1) y0 y1 y2) (w.heap.size + 1 + 1) z0 z1 ∧ W'.cell? ⟨w.heap.size + 1, 0, none⟩ = some y0 ∧ W'.cell? ⟨w.heap.size + 1, 1, none⟩ = some y1 ∧ W'.cell? ⟨w.heap.size + 1, 2, none⟩ = some y2 ∧ W'.cell? ⟨w.heap.size + 1 + 1, 0, none⟩ = some z0 ∧ W'.cell? ⟨w.heap.size + 1 + 1, 1, none⟩ = some z1 ∧ Below w.heap.size w W' := by
    intro W y0 y1 y2 z0 z1 hrow hrx hbl
    have r1 := set3_row hrow y0 y1 y2
    have r2 := (set2_other (W := set3 W (w.heap.size + 1) y0 y1 y2) (g := w.heap.size + 1 + 1) (k := w.heap.size + 1) (by omega) z0 z1).trans r1
    have r3 := set2_row ((set3_other (W := W) (g := w.heap.size + 1) (k := w.heap.size + 1 + 1) (by omega) y0 y1 y2).trans hrx) z0 z1
    refine ⟨_, rfl, ?_, ?_, ?_, ?_, ?_, set2_below (set3_below hbl (by omega) _ _ _) (by omega) _ _⟩
    · rw [cell_list r2]; rfl
    · rw [cell_list r2]; rfl
    · rw [cell_list r2]; rfl
    · rw [cell_list r3]; rfl
    · rw [cell_list r3]; rfl
  have HF := Lib.hid hfin
  clear hfin
  have hbad : ∀ er : Int, er ≠ 0 → refuse lim T lg = er → OneVal lim T chunk lg = .tuple #[.agg #[.int .i64 0, .string ⟨#[]⟩, .bool false], .agg #[.string ⟨#[]⟩, .bool false], .string ⟨#[]⟩, .bool false, .int .i64 er] := by
    intro er h0 he
    unfold OneVal
    rw [he, if_neg h0]
    rfl
  have HB := Lib.hid hbad
  clear hbad
  by_cases hK0 : K = 0
  · subst hK0
    rcases lg with _ | _
    · obtain ⟨nl, rfl, hn1, hn2, hTn, hT10, _⟩ := refuse_ok (show refuse lim T false = 0 by unfold refuse; rw [HK.out]; simp)
      go_wp2_with fail
      have HK1 := Lib.hid HK
      obtain ⟨B, hB⟩ : ∃ B, B = bs chunk := ⟨_, rfl⟩
      have hBs : B.size = chunk.length := by rw [hB, size_bs]
      have hBg : ∀ k (h : k < B.size) (h2 : k < chunk.length), B[k] = chunk[k] := fun k h h2 => by
        subst hB
        rw [get_data _ k h]
      have hBx : ∀ k (h : k < chunk.length), B.extract k (k + 1) = bs [chunk[k]] := fun k h => by
        subst hB
        refine eq_of_data ?_
        rw [extract_data, data_bs, data_bs]
        rw [List.drop_eq_getElem_cons h, Nat.add_sub_cancel_left]
        rfl
      have hBt : ∀ k, k ≤ chunk.length → B.extract k B.size = bs (chunk.drop k) := fun k h => by
        subst hB
        refine eq_of_data ?_
        rw [extract_data, data_bs, data_bs, size_bs]
        simp [List.take_of_length_le]
      rw [← hB]
      have hB6 : B.size ≤ 1000000 := by omega
      have HBs := Lib.hid hBs
      have HBg := Lib.hid hBg
      have HBx := Lib.hid hBx
      have HBt := Lib.hid hBt
      clear hB hBs hBg hBx hBt
      go_loop [10, 11] (fun t i => RefI nl T chunk t i) (fun _ i => chunk.length - (intOf i).toNat)
      case atStart => exact ⟨0, Nat.zero_le _, rfl, T, rfl, hTn, hT10, by simp⟩
      case round =>
        obtain ⟨k, hk, rfl, U, rfl, hUn, hU10, hone⟩ := hrel
        have HO := Lib.hid hone
        have HU := Lib.hid hU10
        have hUs : (bs U).size = U.length := size_bs U
        clear hone hU10
        obtain ⟨X, hX⟩ : ∃ X, X = bs U := ⟨_, rfl⟩
        rw [← hX] at hUs ⊢
        have HX := Lib.hid hX
        clear hX
        by_cases hlt : k < chunk.length
        · have hkB : k < B.size := by rw [HBs.out]; exact hlt
          have hkB2 : (k : Int) < (B.size : Int) := by omega
          have hk6 : k ≤ 1000000 := by omega
          have hdr := Lib.hid (List.drop_eq_getElem_cons hlt)
          by_cases hb : chunk[k] = 10
          · have hz : ((B[k].toNat : Int) == 10) = true := by rw [HBg.out k hkB hlt, hb]; rfl
            have hrl2 := fun W => refLine_any U (by omega) W
            rw [refMk_eq U HU.out] at hrl2
            unfold lineV at hrl2
            rw [← HX.out] at hrl2
            have q1 : IntKind.i64.wrap ((k : Int) + 1) = (k : Int) + 1 := IntWalk.i64_in _ (by omega)
            have q2 : (0 : Int) ≤ (k : Int) + 1 := by omega
            have q3 : (k : Int) + 1 ≤ (B.size : Int) := by omega
            have q4 : ((k : Int) + 1).toNat = k + 1 := by omega
            go_wp2_with fail
            refine wp_region_noPanic ?_
            refine wp_region_held_drew (S := fun W => W.cell? ⟨w.heap.size, 0, none⟩ = some (.int .i64 (nl : Int))) (by kernel_rfl) ?_ (fun hH => ?_)
            · exact l0
            refine Reg.take (i := 0) (u := ?b1_v0) rfl rfl rfl (by kernel_rfl) (by kernel_rfl) (by kernel_rfl) hH ?b1_y0 ?b1_r0
            case b1_y0 => (intro w hSw; (try dsimp only at hSw); go_simp; try (with_reducible rfl))
            case' b1_r0 => simp only [List.setIfInBounds_toArray, List.set_cons_zero, List.set_cons_succ]
            refine Reg.take (i := 1) (u := ?b1_v1) rfl rfl rfl (by kernel_rfl) (by kernel_rfl) (by kernel_rfl) hH ?b1_y1 ?b1_r1
            case b1_y1 => (intro w hSw; (try dsimp only at hSw); go_simp; try (with_reducible rfl))
            case' b1_r1 => simp only [List.setIfInBounds_toArray, List.set_cons_zero, List.set_cons_succ]
            refine Reg.take (i := 2) (u := ?b1_v2) rfl rfl rfl (by kernel_rfl) (by kernel_rfl) (by kernel_rfl) hH ?b1_y2 ?b1_r2
            case b1_y2 => (intro w hSw; (try dsimp only at hSw); go_simp; try (with_reducible rfl))
            case' b1_r2 => simp only [List.setIfInBounds_toArray, List.set_cons_zero, List.set_cons_succ]
            refine Reg.take (i := 3) (u := ?b1_v3) rfl rfl rfl (by kernel_rfl) (by kernel_rfl) (by kernel_rfl) hH ?b1_y3 ?b1_r3
            case b1_y3 => (intro w hSw; (try dsimp only at hSw); go_simp; try (with_reducible rfl))
            case' b1_r3 => simp only [List.setIfInBounds_toArray, List.set_cons_zero, List.set_cons_succ]
            refine Reg.take (i := 5) (u := ?b1_v5) rfl rfl rfl (by kernel_rfl) (by kernel_rfl) (by kernel_rfl) hH ?b1_y5 ?b1_r5
            case b1_y5 => (intro w hSw; (try dsimp only at hSw); go_simp; try (with_reducible rfl))
            case' b1_r5 => simp only [List.setIfInBounds_toArray, List.set_cons_zero, List.set_cons_succ]
            refine Reg.take (i := 6) (u := ?b1_v6) rfl rfl rfl (by kernel_rfl) (by kernel_rfl) (by kernel_rfl) hH ?b1_y6 ?b1_r6
            case b1_y6 => (intro w hSw; (try dsimp only at hSw); go_simp; try (with_reducible rfl))
            case' b1_r6 => simp only [List.setIfInBounds_toArray, List.set_cons_zero, List.set_cons_succ]
            refine Reg.take (i := 7) (u := ?b1_v7) rfl rfl rfl (by kernel_rfl) (by kernel_rfl) (by kernel_rfl) hH ?b1_y7 ?b1_r7
            case b1_y7 => (intro w hSw; (try dsimp only at hSw); go_simp; try (with_reducible rfl))
            case' b1_r7 => simp only [List.setIfInBounds_toArray, List.set_cons_zero, List.set_cons_succ]
            refine Reg.take (i := 8) (u := ?b1_v8) rfl rfl rfl (by kernel_rfl) (by kernel_rfl) (by kernel_rfl) hH ?b1_y8 ?b1_r8
            case b1_y8 => (intro w hSw; (try dsimp only at hSw); go_simp; try (with_reducible rfl))
            case' b1_r8 => simp only [List.setIfInBounds_toArray, List.set_cons_zero, List.set_cons_succ]
            refine Reg.only (i := 4) rfl (Reg.wanted_free rfl) (by kernel_rfl) (fun K hK => ?_)
            go_simp
            go_at_call 37
            refine (hrl2 _).mono ?_
            rintro e w2 ⟨rfl, h2⟩
            refine hK.out _ _ ?_ (fun hH2 => ?_)
            · exact (World.cell?_of_block (h2.block _ (lt_of_cells hrl))).trans l0
            clear hK hH
            have hH := hH2; clear hH2
            try simp only [Act.put, List.setIfInBounds_toArray, List.set_cons_zero, List.set_cons_succ]
            have hrow2 := (h2.block _ (lt_of_cells hrow)).trans hrow
            have hrx2 := (h2.block _ (lt_of_cells hrx)).trans hrx
            have hbl2 : Below w.heap.size w w2 := hbl.trans (Below.mono (w := w1) ⟨h2.os, h2.tape, h2.output, h2.size, h2.block⟩ hbl.size)
            obtain ⟨c0, c1, c2, f0, d0, d1, g0⟩ := rows32 hrow2 hrx2
            clear h2
            refine Reg.only (i := 9) rfl (Reg.wanted_free rfl) (by kernel_rfl) (fun K hK => ?_)
            go_simp
            refine hK.out _ _ ?_ (fun hH2 => ?_)
            · exact keep3 hH (by omega) _ _ _
            clear hK hH
            have hH := hH2; clear hH2
            try simp only [Act.put, List.setIfInBounds_toArray, List.set_cons_zero, List.set_cons_succ]
            refine Reg.only (i := 10) rfl (Reg.wanted_free rfl) (by kernel_rfl) (fun K hK => ?_)
            go_simp
            refine hK.out _ _ ?_ (fun hH2 => ?_)
            · exact keep2 hH (by omega) _ _
            clear hK hH
            have hH := hH2; clear hH2
            try simp only [Act.put, List.setIfInBounds_toArray, List.set_cons_zero, List.set_cons_succ]
            refine Reg.only (i := 11) rfl (Reg.wanted_free rfl) (by kernel_rfl) (fun K hK => ?_)
            go_simp
            refine hK.out _ _ ?_ (fun hH2 => ?_)
            · exact hH
            clear hK hH
            have hH := hH2; clear hH2
            try simp only [Act.put, List.setIfInBounds_toArray, List.set_cons_zero, List.set_cons_succ]
            refine Reg.only (i := 12) rfl (Reg.wanted_free rfl) (by kernel_rfl) (fun K hK => ?_)
            go_simp
            refine hK.out _ _ ?_ (fun hH2 => ?_)
            · exact hH
            clear hK hH
            have hH := hH2; clear hH2
            try simp only [Act.put, List.setIfInBounds_toArray, List.set_cons_zero, List.set_cons_succ]
            refine Reg.only (i := 13) rfl (Reg.wanted_free rfl) (by kernel_rfl) (fun K hK => ?_)
            go_simp
            refine hK.out _ _ ?_ (fun hH2 => ?_)
            · exact hH
            clear hK hH
            have hH := hH2; clear hH2
            try simp only [Act.put, List.setIfInBounds_toArray, List.set_cons_zero, List.set_cons_succ]
            refine wpAnyH_done (by kernel_rfl) ?_ _
            refine NoPanic.normal ?_
            go_wp2_with fail
            obtain ⟨Wf, hWf, z0, z1, z2, y0, y1, hbf⟩ := HF.out w2 (.int .i64 (nl : Int)) (.string ⟨#[]⟩) (.bool false) (.string (bs (Ln.mk U).1)) (.bool (Ln.mk U).2) hrow2 hrx2 hbl2
            unfold set2 set3 at hWf
            rw [← hWf]
            clear hWf c0 c1 c2 d0 d1 f0 g0
            refine bodyPost_ret (v := .tuple #[.agg #[.int .i64 (nl : Int), .string ⟨#[]⟩, .bool false], .agg #[.string (bs (Ln.mk U).1), .bool (Ln.mk U).2], .string (B.extract (k + 1) B.size), .bool true, .int .i64 0]) (by simp [results, Try.results21, go_sem, z0, z1, z2, y0, y1]) rfl ⟨?_, hbf⟩
            rw [← HV.out]
            unfold OneVal
            rw [if_pos (show refuse (nl : Int) T false = 0 by unfold refuse; rw [HK.out]; simp), Int.toNat_natCast, HO.out, HBt.out (k + 1) (by omega), hdr.out]
            unfold Ln.one
            rw [if_pos hb]
            rfl
          · have hz : ((B[k].toNat : Int) == 10) = false := by
              rw [HBg.out k hkB hlt, beq_eq_false_iff_ne]
              intro h
              exact hb (UInt8.toNat_inj.1 (show chunk[k].toNat = (10 : UInt8).toNat by have : (10 : UInt8).toNat = 10 := rfl; omega))
            by_cases hl : U.length = nl
            · have hs : ((X.size : Int) == (nl : Int)) = true := by rw [beq_iff_eq]; omega
              go_wp2_with fail
              obtain ⟨Wf, hWf, z0, z1, z2, y0, y1, hbf⟩ := HF.out w1 (.int .i64 (nl : Int)) (.string ⟨#[]⟩) (.bool true) (.string ⟨#[]⟩) (.bool false) hrow hrx hbl
              unfold set2 set3 at hWf
              rw [← hWf]
              clear hWf c0 c1 c2 d0 d1 f0 g0
              refine bodyPost_ret (v := .tuple #[.agg #[.int .i64 (nl : Int), .string ⟨#[]⟩, .bool true], .agg #[.string ⟨#[]⟩, .bool false], .string ⟨#[]⟩, .bool false, .int .i64 0]) (by simp [results, Try.results21, go_sem, z0, z1, z2, y0, y1]) rfl ⟨?_, hbf⟩
              rw [← HV.out]
              unfold OneVal
              rw [if_pos (show refuse (nl : Int) T false = 0 by unfold refuse; rw [HK.out]; simp), Int.toNat_natCast, HO.out]
              rw [hdr.out]
              unfold Ln.one
              rw [if_neg hb, if_pos hl]
              rfl
            · have hs : ((X.size : Int) == (nl : Int)) = false := by rw [beq_eq_false_iff_ne]; omega
              go_wp2_with fail
              go_round
              case measure => simp [intOf]; omega
              case rel =>
                refine ⟨k + 1, by omega, by go_num, U ++ [chunk[k]], ?_, by simp; omega, ?_, ?_⟩
                · rw [HBx.out k hlt, HX.out, bs_append]
                · have := HU.out
                  rw [List.contains_eq_any_beq] at *
                  simp at this ⊢
                  exact ⟨this, fun e => hb e.symm⟩
                · rw [HO.out, hdr.out, one_step hb hl]
        · have hkB : ¬ (k : Int) < (B.size : Int) := by rw [HBs.out]; omega
          go_wp2_with fail
          obtain ⟨Wf, hWf, z0, z1, z2, y0, y1, hbf⟩ := HF.out w1 (.int .i64 (nl : Int)) (.string X) (.bool false) (.string ⟨#[]⟩) (.bool false) hrow hrx hbl
          unfold set2 set3 at hWf
          rw [← hWf]
          clear hWf c0 c1 c2 d0 d1 f0 g0
          refine bodyPost_ret (v := .tuple #[.agg #[.int .i64 (nl : Int), .string X, .bool false], .agg #[.string ⟨#[]⟩, .bool false], .string ⟨#[]⟩, .bool false, .int .i64 0]) (by simp [results, Try.results21, go_sem, z0, z1, z2, y0, y1]) rfl ⟨?_, hbf⟩
          rw [← HV.out]
          unfold OneVal
          rw [if_pos (show refuse (nl : Int) T false = 0 by unfold refuse; rw [HK.out]; simp), Int.toNat_natCast, HO.out]
          rw [List.drop_of_length_le (by omega), HX.out]
          rfl
    · have hr := HB.out 9 (by omega) (by unfold refuse; rw [HK.out]; simp)
      go_wp2_with fail
      obtain ⟨Wf, hWf, z0, z1, z2, y0, y1, hbf⟩ := HF.out w1 (.int .i64 0) (.string ⟨#[]⟩) (.bool false) (.string ⟨#[]⟩) (.bool false) hrow hrx hbl
      unfold set2 set3 at hWf
      rw [← hWf]
      clear hWf c0 c1 c2 d0 d1 f0 g0
      refine bodyPost_ret (v := .tuple #[.agg #[.int .i64 0, .string ⟨#[]⟩, .bool false], .agg #[.string ⟨#[]⟩, .bool false], .string ⟨#[]⟩, .bool false, .int .i64 9]) (by simp [results, Try.results21, go_sem, z0, z1, z2, y0, y1]) rfl ⟨?_, hbf⟩
      rw [← HV.out, hr]
  · have hKb : (K != 0) = true := by simpa using hK0
    have hKc : (K == 0) = false := by simpa using hK0
    have hr := HB.out K hK0 (by unfold refuse; rw [HK.out, if_neg (fun h => hK0 h.1)])
    have hr := Lib.hid hr
    go_wp2_with fail
    obtain ⟨Wf, hWf, z0, z1, z2, y0, y1, hbf⟩ := HF.out w1 (.int .i64 0) (.string ⟨#[]⟩) (.bool false) (.string ⟨#[]⟩) (.bool false) hrow hrx hbl
    unfold set2 set3 at hWf
    rw [← hWf]
    clear hWf c0 c1 c2 d0 d1 f0 g0
    refine bodyPost_ret (v := .tuple #[.agg #[.int .i64 0, .string ⟨#[]⟩, .bool false], .agg #[.string ⟨#[]⟩, .bool false], .string ⟨#[]⟩, .bool false, .int .i64 K]) (by simp [results, Try.results21, go_sem, z0, z1, z2, y0, y1]) rfl ⟨?_, hbf⟩
    rw [← HV.out, hr.out]
end Go.Proofs.Yteppipkokeaijaa
