/- The reference's Parse. -/
import Derived.Test.YtllklgalghmnfaaDoorTplRefParts
import Derived.RegionTactic
namespace Go.Proofs.YtllklgalghmnfaaDoor
open Go.RowKit Str Mem Tp
set_option linter.unusedVariables false
set_option linter.unusedSimpArgs false

theorem pcs_text : ∀ (f : Nat) (r : Tp.Bs) (i : Nat), ∀ q ∈ (pcs f r i).1, q.p.t.length ≤ 1
  | 0, r, i => by simp [pcs]
  | f + 1, [], i => by simp [pcs]
  | f + 1, b :: r, i => by
    rw [pcs_succ]
    rcases h : rd (b :: r) with ⟨p, n⟩ | e
    · have := rd_part h
      intro q hq
      rcases List.mem_cons.1 hq with rfl | hq
      · exact this.2.2
      · exact pcs_text f _ _ q hq
    · simp
theorem pcs_errne : ∀ (f : Nat) (r : Tp.Bs) (i : Nat) (e : Int) (k : Nat), (pcs f r i).2 = some (e, k) → e ≠ 0
  | 0, r, i, e, k, h => by simp [pcs] at h
  | f + 1, [], i, e, k, h => by simp [pcs] at h
  | f + 1, b :: r, i, e, k, h => by
    rw [pcs_succ] at h
    rcases hr : rd (b :: r) with ⟨p, n⟩ | e'
    · rw [hr] at h
      exact pcs_errne f _ _ e k h
    · rw [hr] at h
      simp at h
      rw [← h.1]; exact rd_err hr
/-- Parse out of pieces. -/
theorem parse_pieces (s : Tp.Bs) : (piecesR s).e ≠ 0 ∧ parseR s = ⟨[], (piecesR s).e, (piecesR s).at'⟩ ∨ (piecesR s).e = 0 ∧ parseR s = ⟨joinP ((piecesR s).L.map (·.p)), 0, 0⟩ ∧ (piecesR s).L.length ≤ 96 ∧ ∀ q ∈ (piecesR s).L, q.p.t.length ≤ 1 := by
  unfold piecesR parseR
  by_cases h : 96 < s.length
  · rw [if_pos h, if_pos h]; left; exact ⟨by simp, rfl⟩
  · rw [if_neg h, if_neg h]
    rcases hp : (pieces s 0).2 with _ | ⟨e, k⟩
    · right
      refine ⟨rfl, rfl, ?_, pcs_text _ _ _⟩
      have := pieces_count s.length s 0
      show (pcs s.length s 0).1.length ≤ 96
      omega
    · left
      exact ⟨pcs_errne _ _ _ e k hp, rfl⟩

set_option maxRecDepth 100000 in
set_option maxHeartbeats 4000000 in
theorem refParse_any (s : Tp.Bs) (w : World) (hs : s.length ≤ 100000) : Calls Tryd.prog 13 #[.string (bs s)] w fun e w' => ParsePost (parseR s) w e w' := by
  obtain ⟨P, hP⟩ : ∃ P : Ending → World → Prop, P = ParsePost (parseR s) w := ⟨_, rfl⟩
  have HP := Lib.hid hP
  rw [← hP]
  clear hP
  have hq := fun W => refPieces_any s W hs
  have hpp := parse_pieces s
  obtain ⟨R, hR⟩ : ∃ R, piecesR s = R := ⟨_, rfl⟩
  rw [hR] at hq hpp
  clear hR
  obtain ⟨L, er, ea⟩ := R
  simp only [] at hpp
  go_enter Tryd.func13, Tryd.ntmps13
  go_wp2_with fail
  refine (hq _).mono ?_
  rintro e w1 ⟨v, rfl, hO, h1⟩
  simp only [] at hO
  have hb0 : Below w.heap.size w (w.alloc (.cells #[.int .i64 0, .int .i64 0] 26)) := (Below.refl _ w).alloc (Nat.le_refl _) _
  have hb1 := hb0.trans (h1.mono hb0.size)
  have hfr := (h1.block _ (by simp)).trans (World.alloc_heap_new w (.cells #[.int .i64 0, .int .i64 0] 26))
  have lfr := lt_of_cells hfr
  have hO1 : OwnPieces w1 (w.heap.size + 1) v L := by rw [World.size_alloc] at hO; exact hO
  clear hq h1 hO hb0
  rcases hpp with ⟨he, hpr⟩ | ⟨he, hpr, hLn, hLt⟩
  · have heb : (er != 0) = true := by simpa using he
    have HPR := Lib.hid hpr
    have hW := (Below.refl _ w1).alloc (Nat.le_refl _) (.cells #[.int .i64 er, .int .i64 ea] 26)
    have hr5 := World.alloc_heap_new w1 (.cells #[.int .i64 er, .int .i64 ea] 26)
    have hr3 := (hW.block _ lfr).trans hfr
    have hb2 := hb1.alloc hb1.size (.cells #[.int .i64 er, .int .i64 ea] 26)
    clear he hpr
    go_wp2_with fail
    obtain ⟨W, hWe⟩ : ∃ W, W = w1.alloc (.cells #[.int .i64 er, .int .i64 ea] 26) := ⟨_, rfl⟩
    obtain ⟨n5, hn5⟩ : ∃ n5, n5 = w1.heap.size := ⟨_, rfl⟩
    rw [← hWe] at hr5 hr3 hb2 ⊢
    rw [← hn5] at hr5 ⊢
    have hne : ¬ n5 = w.heap.size := by omega
    clear hW hWe hn5 hfr lfr hO1 hb1
    have f0 := cell_list (cs := [.int .i64 0, .int .i64 0]) hr3 0
    have f1 := cell_list (cs := [.int .i64 0, .int .i64 0]) hr3 1
    have ff := frozen_list (cs := [.int .i64 0, .int .i64 0]) hr3
    have e0 := cell_list (cs := [.int .i64 er, .int .i64 ea]) hr5 0
    have e1 := cell_list (cs := [.int .i64 er, .int .i64 ea]) hr5 1
    simp only [List.getElem?_cons_zero, List.getElem?_cons_succ] at f0 f1 e0 e1
    go_region
    all_goals
      go_wp2_with fail
      have hr4 := set2_row hr3 (.int .i64 er) (.int .i64 ea)
      have hb4 := set2_below hb2 (Nat.le_refl _) (.int .i64 er) (.int .i64 ea)
      obtain ⟨W3, hW3⟩ : ∃ W3, W3 = set2 W w.heap.size (.int .i64 er) (.int .i64 ea) := ⟨_, rfl⟩
      rw [← hW3] at hr4 hb4
      unfold set2 at hW3
      rw [← hW3]
      clear hW3
      have z0 : W3.drew.cell? ⟨w.heap.size, 0, none⟩ = some (.int .i64 er) := cell_list (cs := [.int .i64 er, .int .i64 ea]) hr4 0
      have z1 : W3.drew.cell? ⟨w.heap.size, 1, none⟩ = some (.int .i64 ea) := cell_list (cs := [.int .i64 er, .int .i64 ea]) hr4 1
      have hb5 := hb4.drew
      obtain ⟨W4, hW4⟩ : ∃ W4, W4 = W3.drew := ⟨_, rfl⟩
      rw [← hW4] at z0 z1 hb5 ⊢
      refine bodyPost_ret (v := .tuple #[.slice none 0 0, .agg #[.int .i64 er, .int .i64 ea]]) (by simp [results, Tryd.results13, go_sem, z0, z1]) rfl ?_
      rw [HP.out, HPR.out]
      exact ⟨_, rfl, Owns.nil _ _ _ _, hb5⟩
  · subst he
    have HPR := Lib.hid hpr
    have HLt := Lib.hid hLt
    obtain ⟨a, c, rfl, _, _, hPi⟩ := hO1.form
    have hpt := fun W h => refParts_any a c L W h (by omega) hLt
    have hb2 := hb1.alloc hb1.size (.cells #[.int .i64 0, .int .i64 ea] 26)
    have hfr2 := (Below.heap_alloc w1 (.cells #[.int .i64 0, .int .i64 ea] 26) _ lfr).trans hfr
    have hPi2 := Rd.alloc hPi (.cells #[.int .i64 0, .int .i64 ea] 26)
    have HPi := Lib.hid hPi2
    clear hpr hLt hPi hPi2 hO1
    go_wp2_with fail
    refine (hpt _ HPi.out).mono ?_
    rintro e w2 ⟨v2, rfl, hO2, h2⟩
    have hb3 := hb2.trans (h2.mono hb2.size)
    have hfr3 := (h2.block _ (lt_of_cells hfr2)).trans hfr2
    have f0 := cell_list (cs := [.int .i64 0, .int .i64 0]) hfr3 0
    have f1 := cell_list (cs := [.int .i64 0, .int .i64 0]) hfr3 1
    have ff := frozen_list (cs := [.int .i64 0, .int .i64 0]) hfr3
    simp only [List.getElem?_cons_zero, List.getElem?_cons_succ] at f0 f1
    have hr4 := set2_row hfr3 (.int .i64 0) (.int .i64 0)
    have hb4 := set2_below hb3 (Nat.le_refl _) (.int .i64 0) (.int .i64 0)
    have hO4 : Owns (set2 w2 w.heap.size (.int .i64 0) (.int .i64 0)) (w1.heap.size + 1) 59 3 v2 (joinP (L.map (·.p))).length (partCells (joinP (L.map (·.p)))) := by
      have h := hO2
      unfold OwnParts at h
      rw [World.size_alloc] at h
      exact ownsSetOld (ownsSetOld h (by show w.heap.size < _; omega) _) (by show w.heap.size < _; omega) _
    have HO4 := Lib.hid hO4
    clear hpt hO2 hO4 h2
    go_wp2_with fail
    have hO4 := HO4.out
    clear HO4
    obtain ⟨W, hW⟩ : ∃ W, W = set2 w2 w.heap.size (.int .i64 0) (.int .i64 0) := ⟨_, rfl⟩
    rw [← hW] at hr4 hb4 hO4
    unfold set2 at hW
    rw [← hW]
    clear hW f0 f1 ff
    have z0 := cell_list (cs := [.int .i64 0, .int .i64 0]) hr4 0
    have z1 := cell_list (cs := [.int .i64 0, .int .i64 0]) hr4 1
    simp only [List.getElem?_cons_zero, List.getElem?_cons_succ] at z0 z1
    refine bodyPost_ret (v := .tuple #[v2, .agg #[.int .i64 0, .int .i64 0]]) (by simp [results, Tryd.results13, go_sem, z0, z1]) rfl ?_
    rw [HP.out, HPR.out]
    exact ⟨_, rfl, hO4.mono (by omega), hb4⟩
end Go.Proofs.YtllklgalghmnfaaDoor
