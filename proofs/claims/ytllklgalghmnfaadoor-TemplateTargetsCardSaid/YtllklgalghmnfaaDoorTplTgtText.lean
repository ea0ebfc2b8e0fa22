/- template.TargetText. -/
import Derived.Test.YtllklgalghmnfaaDoorTplTgtText0
import Derived.Deep.LoopGhost
namespace Go.Proofs.YtllklgalghmnfaaDoor
open Go.RowKit Str Mem Tp
set_option linter.unusedVariables false
set_option linter.unusedSimpArgs false

set_option maxRecDepth 100000 in
set_option maxHeartbeats 8000000 in
theorem targetText_any (sm ex hq : Bool) (h : Tp.Bs) (pa qa : Option Addr) (pc qc : Nat) (L M : List Part) (w : World) (hN : Nm w) (hL : Parts w pa L.length L) (hM : Parts w qa M.length M) (hh : h.length ≤ 1000) (hLn : L.length ≤ 1000) (hMn : M.length ≤ 1000) (hLc : L.length ≤ pc) (hMc : M.length ≤ qc) (hpc : pc ≤ maxLen) (hqc : qc ≤ maxLen) (hLt : ∀ p ∈ L, p.t.length ≤ 1000) (hMt : ∀ p ∈ M, p.t.length ≤ 1000) :
    Calls Tryd.prog 20 #[tgtV sm ex h pa L.length pc hq qa M.length qc] w fun e w' => e = .returned (.tuple #[.string (bs (tgtText sm ex h L hq M).1), .int .i64 (tgtText sm ex h L hq M).2]) ∧ Below w.heap.size w w' := by
  obtain ⟨O, hO⟩ : ∃ O, tgtText sm ex h L hq M = O := ⟨_, rfl⟩
  rw [hO]
  have HO := Lib.hid hO
  obtain ⟨Bh, hBh⟩ : ∃ Bh, bs h = Bh := ⟨_, rfl⟩
  have hBz : Bh.size ≤ 1000 := by rw [← hBh, size_bs]; exact hh
  have hBe : Bh.toList.isEmpty = h.isEmpty := by rw [← hBh, toList_data, data_bs]
  have HBE := Lib.hid hBe
  have HBH := Lib.hid hBh
  have hca := fun W => containsAny_at Bh ⟨#[47, 63, 36, 37, 92]⟩ (by omega) (by decide) (by decide) (by decide) W
  have hcd : hasAny Bh.data.toList (ByteArray.data ⟨#[47, 63, 36, 37, 92]⟩).toList = anyH h := by rw [← hBh, data_bs]; rfl
  rw [hcd] at hca
  have hcl := fun W hp hn => check_any pa pc L W hp (by omega) hLc hpc (fun p hp => by have := hLt p hp; omega) hn
  have hcm := fun W hp hn => check_any qa qc M W hp (by omega) hMc hqc (fun p hp => by have := hMt p hp; omega) hn
  have htl : checkR L = 0 → ∀ W, Parts W pa L.length L → Nm W → Calls Tryd.prog 57 #[.slice pa L.length pc] W fun e w' => e = .returned (.string (bs (textP L))) ∧ Below W.heap.size W w' := fun h0 W hp hn => text_any pa pc L W hp (by omega) (fun p hp => (one_fitX p (checkTo_fit L false (checkR_zero h0).1 p hp) (by have := hLt p hp; omega)).w) hn
  have htm : checkR M = 0 → ∀ W, Parts W qa M.length M → Nm W → Calls Tryd.prog 57 #[.slice qa M.length qc] W fun e w' => e = .returned (.string (bs (textP M))) ∧ Below W.heap.size W w' := fun h0 W hp hn => text_any qa qc M W hp (by omega) (fun p hp => (one_fitX p (checkTo_fit M false (checkR_zero h0).1 p hp) (by have := hMt p hp; omega)).w) hn
  have hpl := fun W hp => place_any pa pc L W hp hLn (fun p hp => by have := hLt p hp; omega)
  have HTL := Lib.hid htl
  have HTM := Lib.hid htm
  have hm0 : TB w (w.alloc (.cells #[.bool sm, .bool ex, .string Bh, .slice pa L.length pc, .bool hq, .slice qa M.length qc] 30)) w.heap.size sm ex Bh pa pc L hq qa qc M :=
    ⟨World.alloc_heap_new _ _, Rd.alloc hL _, Rd.alloc hM _, (Below.refl _ w).alloc (Nat.le_refl _) _⟩
  have HM0 := Lib.hid hm0
  have hLz : (L.length : Int) = (L.length : Int) := rfl
  unfold tgtV
  rw [hBh]
  clear hO hBh hBe hcd htl htm hm0 hL hM hLz hLt hMt
  obtain ⟨E1, hE1⟩ : ∃ E, checkR L = E := ⟨_, rfl⟩
  obtain ⟨E2, hE2⟩ : ∃ E, checkR M = E := ⟨_, rfl⟩
  rw [hE1] at hcl
  rw [hE2] at hcm
  have HE1 := Lib.hid hE1
  have HE2 := Lib.hid hE2
  obtain ⟨CA, hCA⟩ : ∃ E, anyH h = E := ⟨_, rfl⟩
  obtain ⟨PL, hPL⟩ : ∃ E, placeR L = E := ⟨_, rfl⟩
  rw [hCA] at hca
  rw [hPL] at hpl
  have HCA := Lib.hid hCA
  have HPL := Lib.hid hPL
  clear hE1 hE2 hCA hPL
  go_enter Tryd.func20, Tryd.ntmps20
  obtain ⟨x0, x1, x2, x3, x4, x5⟩ := HM0.out.cells
  go_wp2_with fail
  have HS0 := Lib.hid (World.alloc_heap_new (w.alloc (.cells #[.bool sm, .bool ex, .string Bh, .slice pa L.length pc, .bool hq, .slice qa M.length qc] 30)) (.cells #[.slice pa L.length pc, .slice qa M.length qc] 23))
  rw [show (w.alloc (.cells #[.bool sm, .bool ex, .string Bh, .slice pa L.length pc, .bool hq, .slice qa M.length qc] 30)).heap.size = w.heap.size + 1 from by simp] at HS0
  have HM1 := Lib.hid (HM0.out.below ((Below.refl _ _).alloc (Nat.le_refl _) (.cells #[.slice pa L.length pc, .slice qa M.length qc] 23)))
  go_loopg [15] 2 (fun g i W => ∃ k : Nat, i = .int .i64 k ∧ k ≤ 2 ∧ 2 ≤ k + g ∧ (1 ≤ k → E1 = 0) ∧ (2 ≤ k → E2 = 0) ∧ TB w W w.heap.size sm ex Bh pa pc L hq qa qc M ∧ W.heap[w.heap.size + 1]? = some (.cells [.slice pa L.length pc, .slice qa M.length qc].toArray 23 (0, 0)))
  case atStart => exact ⟨0, rfl, by omega, by omega, fun h => by omega, fun h => by omega, HM1.out, HS0.out⟩
  case round =>
    clear HM0 HM1 HS0 x0 x1 x2 x3 x4 x5
    obtain ⟨k, rfl, hk, hkg, he1, he2, hm, hs⟩ := hrel
    have HM := Lib.hid hm
    have HS := Lib.hid hs
    have hNr : Nm wr := hN.below hm.bl hN.lt
    have s0 := cell_list hs 0
    have s1 := cell_list hs 1
    simp only [List.getElem?_cons_zero, List.getElem?_cons_succ] at s0 s1
    clear hm hs
    have hk3 : k = 0 ∨ k = 1 ∨ k = 2 := by omega
    rcases hk3 with rfl | rfl | rfl
    · obtain ⟨g', rfl⟩ : ∃ g', gk = g' + 1 := ⟨gk - 1, by omega⟩
      have HC := Lib.hid (hcl _ HM.out.pl hNr)
      clear he1 he2 s1
      go_wp2_with fail
      refine HC.out.mono ?_
      rintro e w2 ⟨rfl, h2⟩
      have M2 := HM.out.below h2
      have HM2 := Lib.hid M2
      have HS2 := Lib.hid ((h2.block _ (lt_of_cells HS.out)).trans HS.out)
      clear HC M2 s0
      by_cases hE : E1 = 0
      · have hEb : (E1 == 0) = true := by simpa using hE
        have hEb2 : (E1 != 0) = false := by simpa using hE
        have HE0 := Lib.hid hE
        clear hE
        go_wp2_with fail
        go_roundg g'
        case measure => omega
        case rel => exact ⟨1, rfl, by omega, by omega, fun _ => HE0.out, fun h => by omega, HM2.out, HS2.out⟩
      · have hEb : (E1 != 0) = true := by simpa using hE
        have hO : O = ([], E1) := by rw [← HO.out]; unfold tgtText; rw [HE1.out, if_pos hE]
        have HOO := Lib.hid hO
        clear hE hO
        go_wp2_with fail
        go_ret2
        exact ⟨by rw [HOO.out]; rfl, HM2.out.bl⟩
    · obtain ⟨g', rfl⟩ : ∃ g', gk = g' + 1 := ⟨gk - 1, by omega⟩
      have HC := Lib.hid (hcm _ HM.out.pm hNr)
      have HE10 := Lib.hid (he1 (by omega))
      clear he1 he2 s0
      go_wp2_with fail
      refine HC.out.mono ?_
      rintro e w2 ⟨rfl, h2⟩
      have M2 := HM.out.below h2
      have HM2 := Lib.hid M2
      have HS2 := Lib.hid ((h2.block _ (lt_of_cells HS.out)).trans HS.out)
      clear HC M2 s1
      by_cases hE : E2 = 0
      · have hEb : (E2 == 0) = true := by simpa using hE
        have hEb2 : (E2 != 0) = false := by simpa using hE
        have HE0 := Lib.hid hE
        clear hE
        go_wp2_with fail
        go_roundg g'
        case measure => omega
        case rel => exact ⟨2, rfl, by omega, by omega, fun _ => HE10.out, fun _ => HE0.out, HM2.out, HS2.out⟩
      · have hEb : (E2 != 0) = true := by simpa using hE
        have hO : O = ([], E2) := by rw [← HO.out]; unfold tgtText; rw [HE1.out, HE10.out, HE2.out, if_neg (by simp), if_pos hE]
        have HOO := Lib.hid hO
        clear hE hO
        go_wp2_with fail
        go_ret2
        exact ⟨by rw [HOO.out]; rfl, HM2.out.bl⟩
    · have HE10 := Lib.hid (HE1.out.trans (he1 (by omega)))
      have HE20 := Lib.hid (HE2.out.trans (he2 (by omega)))
      obtain ⟨z1, zl⟩ := checkR_zero HE10.out
      obtain ⟨z2, zm⟩ := checkR_zero HE20.out
      have htl := HTL.out HE10.out
      have htm := HTM.out HE20.out
      obtain ⟨A, hA⟩ : ∃ A, bs (textP L) = A := ⟨_, rfl⟩
      obtain ⟨C, hC⟩ : ∃ A, bs (textP M) = A := ⟨_, rfl⟩
      have hAz : A.size ≤ 96 := by rw [← hA, size_bs]; exact zl
      have hCz : C.size ≤ 96 := by rw [← hC, size_bs]; exact zm
      rw [hA] at htl
      rw [hC] at htm
      have HA := Lib.hid hA
      have HC := Lib.hid hC
      obtain ⟨x0, x1, x2, x3, x4, x5⟩ := HM.out.cells
      clear he1 he2 s0 s1 hA hC z1 z2 zl zm hcl hcm HTL HTM HE1 HE2
      rcases sm with _ | _
      · rcases ex with _ | _
        · by_cases hh0 : h = []
          · have hh1 : h.isEmpty = true := by rw [hh0]; rfl
            have hBe : Bh.toList.isEmpty = true := by rw [HBE.out]; exact hh1
            have HH1 := Lib.hid hh1
            clear hh0 hh1
            have hca0 : CA = false := by rw [← HCA.out]; have := HH1.out; rw [List.isEmpty_iff] at this; rw [this]; rfl
            subst hca0
            by_cases hL0 : L = []
            · have hl1 : L.isEmpty = true := by rw [hL0]; rfl
              have hlz : decide (0 < L.length) = false := by rw [hL0]; rfl
              have HL1 := Lib.hid hl1
              clear hL0 hl1
              have hpl0 : PL = true := by rw [← HPL.out]; have := HL1.out; rw [List.isEmpty_iff] at this; rw [this]; rfl
              subst hpl0
              rcases hq with _ | _
              · by_cases hM0 : M = []
                · have hm1 : M.isEmpty = true := by rw [hM0]; rfl
                  have hmz : decide (0 < M.length) = false := by rw [hM0]; rfl
                  have HMm := Lib.hid hm1
                  clear hM0 hm1
                  have hO : O = ([], 3) := by rw [← HO.out]; unfold tgtText; simp [HE10.out, HE20.out, HH1.out, HL1.out, HMm.out]
                  have HOO := Lib.hid hO
                  clear hO
                  go_wp2_with fail
                  go_ret2
                  exact ⟨by rw [HOO.out]; rfl, HM.out.bl⟩
                · have hm1 : M.isEmpty = false := by simpa using hM0
                  have hmz : decide (0 < M.length) = true := decide_eq_true (List.length_pos_iff.2 hM0)
                  have HMm := Lib.hid hm1
                  clear hM0 hm1
                  have hO : O = ([], 3) := by rw [← HO.out]; unfold tgtText; simp [HE10.out, HE20.out, HH1.out, HL1.out, HCA.out, HPL.out, HMm.out]
                  have HOO := Lib.hid hO
                  clear hO
                  go_wp2_with fail
                  refine (hca _).mono ?_
                  rintro e w11 ⟨rfl, hbw11⟩
                  have HM11 := Lib.hid (HM.out.below hbw11)
                  clear hbw11 x0 x1 x2 x3 x4 x5
                  obtain ⟨x0, x1, x2, x3, x4, x5⟩ := HM11.out.cells
                  go_wp2_with fail
                  refine (hpl _ HM11.out.pl).mono ?_
                  rintro e w12 ⟨rfl, hbw12⟩
                  have HM12 := Lib.hid (HM11.out.below hbw12)
                  clear hbw12 x0 x1 x2 x3 x4 x5
                  obtain ⟨x0, x1, x2, x3, x4, x5⟩ := HM12.out.cells
                  go_wp2_with fail
                  go_ret2
                  exact ⟨by rw [HOO.out]; rfl, HM12.out.bl⟩
              · go_wp2_with fail
                refine (hca _).mono ?_
                rintro e w13 ⟨rfl, hbw13⟩
                have HM13 := Lib.hid (HM.out.below hbw13)
                clear hbw13 x0 x1 x2 x3 x4 x5
                obtain ⟨x0, x1, x2, x3, x4, x5⟩ := HM13.out.cells
                go_wp2_with fail
                refine (hpl _ HM13.out.pl).mono ?_
                rintro e w14 ⟨rfl, hbw14⟩
                have HM14 := Lib.hid (HM13.out.below hbw14)
                clear hbw14 x0 x1 x2 x3 x4 x5
                obtain ⟨x0, x1, x2, x3, x4, x5⟩ := HM14.out.cells
                go_wp2_with fail
                refine (htl _ HM14.out.pl (hN.below HM14.out.bl hN.lt)).mono ?_
                rintro e w15 ⟨rfl, hbw15⟩
                have HM15 := Lib.hid (HM14.out.below hbw15)
                clear hbw15 x0 x1 x2 x3 x4 x5
                obtain ⟨x0, x1, x2, x3, x4, x5⟩ := HM15.out.cells
                go_wp2_with fail
                have hcat : (A ++ (⟨#[63]⟩ ++ C)) = bs (outP false h L true M) := by
                  unfold outP
                  rw [← HA.out, ← HC.out]
                  simp [bs_append, show (⟨#[104, 116, 116, 112, 58, 47, 47]⟩ : ByteArray) = bs [104, 116, 116, 112, 58, 47, 47] from rfl, show (⟨#[63]⟩ : ByteArray) = bs [63] from rfl]
                have hsz : (outP false h L true M).length = A.size + (1 + C.size) := by rw [← size_bs, ← hcat] <;> (simp only [ByteArray.size_append]; rfl)
                have hval : O = if 96 < (outP false h L true M).length then ([], 4) else (outP false h L true M, 0) := by rw [← HO.out]; unfold tgtText; simp [HE10.out, HE20.out, HH1.out, HL1.out, HCA.out, HPL.out]
                have HCAT := Lib.hid hcat
                have HSZ := Lib.hid hsz
                have HVAL := Lib.hid hval
                clear hcat hsz hval
                by_cases h96 : 96 < A.size + (1 + C.size)
                · have h96i : (96 : Int) < (A.size : Int) + (1 + (C.size : Int)) := by omega
                  refine (htm _ HM15.out.pm (hN.below HM15.out.bl hN.lt)).mono ?_
                  rintro e w16 ⟨rfl, hbw16⟩
                  have HM16 := Lib.hid (HM15.out.below hbw16)
                  clear hbw16 x0 x1 x2 x3 x4 x5
                  obtain ⟨x0, x1, x2, x3, x4, x5⟩ := HM16.out.cells
                  go_wp2_with fail
                  go_ret2
                  exact ⟨by rw [HVAL.out, if_pos (by rw [HSZ.out]; exact h96)]; rfl, HM16.out.bl⟩
                · have h96i : ¬ (96 : Int) < (A.size : Int) + (1 + (C.size : Int)) := by omega
                  refine (htm _ HM15.out.pm (hN.below HM15.out.bl hN.lt)).mono ?_
                  rintro e w17 ⟨rfl, hbw17⟩
                  have HM17 := Lib.hid (HM15.out.below hbw17)
                  clear hbw17 x0 x1 x2 x3 x4 x5
                  obtain ⟨x0, x1, x2, x3, x4, x5⟩ := HM17.out.cells
                  go_wp2_with fail
                  go_ret2
                  exact ⟨by rw [HVAL.out, if_neg (by rw [HSZ.out]; exact h96), ← HCAT.out]; rfl, HM17.out.bl⟩
            · have hl1 : L.isEmpty = false := by simpa using hL0
              have hlz : decide (0 < L.length) = true := decide_eq_true (List.length_pos_iff.2 hL0)
              have HL1 := Lib.hid hl1
              clear hL0 hl1
              rcases PL with _ | _
              · have hO : O = ([], 3) := by rw [← HO.out]; unfold tgtText; simp [HE10.out, HE20.out, HH1.out, HL1.out, HCA.out, HPL.out]
                have HOO := Lib.hid hO
                clear hO
                go_wp2_with fail
                refine (hca _).mono ?_
                rintro e w18 ⟨rfl, hbw18⟩
                have HM18 := Lib.hid (HM.out.below hbw18)
                clear hbw18 x0 x1 x2 x3 x4 x5
                obtain ⟨x0, x1, x2, x3, x4, x5⟩ := HM18.out.cells
                go_wp2_with fail
                refine (hpl _ HM18.out.pl).mono ?_
                rintro e w19 ⟨rfl, hbw19⟩
                have HM19 := Lib.hid (HM18.out.below hbw19)
                clear hbw19 x0 x1 x2 x3 x4 x5
                obtain ⟨x0, x1, x2, x3, x4, x5⟩ := HM19.out.cells
                go_wp2_with fail
                go_ret2
                exact ⟨by rw [HOO.out]; rfl, HM19.out.bl⟩
              · rcases hq with _ | _
                · by_cases hM0 : M = []
                  · have hm1 : M.isEmpty = true := by rw [hM0]; rfl
                    have hmz : decide (0 < M.length) = false := by rw [hM0]; rfl
                    have HMm := Lib.hid hm1
                    clear hM0 hm1
                    go_wp2_with fail
                    refine (hca _).mono ?_
                    rintro e w20 ⟨rfl, hbw20⟩
                    have HM20 := Lib.hid (HM.out.below hbw20)
                    clear hbw20 x0 x1 x2 x3 x4 x5
                    obtain ⟨x0, x1, x2, x3, x4, x5⟩ := HM20.out.cells
                    go_wp2_with fail
                    refine (hpl _ HM20.out.pl).mono ?_
                    rintro e w21 ⟨rfl, hbw21⟩
                    have HM21 := Lib.hid (HM20.out.below hbw21)
                    clear hbw21 x0 x1 x2 x3 x4 x5
                    obtain ⟨x0, x1, x2, x3, x4, x5⟩ := HM21.out.cells
                    go_wp2_with fail
                    have hcat : A = bs (outP false h L false M) := by
                      unfold outP
                      rw [← HA.out]
                      simp [bs_append, show (⟨#[104, 116, 116, 112, 58, 47, 47]⟩ : ByteArray) = bs [104, 116, 116, 112, 58, 47, 47] from rfl, show (⟨#[63]⟩ : ByteArray) = bs [63] from rfl]
                    have hsz : (outP false h L false M).length = A.size := by rw [← size_bs, ← hcat] <;> (simp only [ByteArray.size_append]; rfl)
                    have hval : O = if 96 < (outP false h L false M).length then ([], 4) else (outP false h L false M, 0) := by rw [← HO.out]; unfold tgtText; simp [HE10.out, HE20.out, HH1.out, HL1.out, HCA.out, HPL.out, HMm.out]
                    have HCAT := Lib.hid hcat
                    have HSZ := Lib.hid hsz
                    have HVAL := Lib.hid hval
                    clear hcat hsz hval
                    by_cases h96 : 96 < A.size
                    · have h96i : (96 : Int) < (A.size : Int) := by omega
                      exact absurd h96 (by omega)
                    · have h96i : ¬ (96 : Int) < (A.size : Int) := by omega
                      refine (htl _ HM21.out.pl (hN.below HM21.out.bl hN.lt)).mono ?_
                      rintro e w23 ⟨rfl, hbw23⟩
                      have HM23 := Lib.hid (HM21.out.below hbw23)
                      clear hbw23 x0 x1 x2 x3 x4 x5
                      obtain ⟨x0, x1, x2, x3, x4, x5⟩ := HM23.out.cells
                      go_wp2_with fail
                      go_ret2
                      exact ⟨by rw [HVAL.out, if_neg (by rw [HSZ.out]; exact h96), ← HCAT.out]; rfl, HM23.out.bl⟩
                  · have hm1 : M.isEmpty = false := by simpa using hM0
                    have hmz : decide (0 < M.length) = true := decide_eq_true (List.length_pos_iff.2 hM0)
                    have HMm := Lib.hid hm1
                    clear hM0 hm1
                    have hO : O = ([], 3) := by rw [← HO.out]; unfold tgtText; simp [HE10.out, HE20.out, HH1.out, HL1.out, HCA.out, HPL.out, HMm.out]
                    have HOO := Lib.hid hO
                    clear hO
                    go_wp2_with fail
                    refine (hca _).mono ?_
                    rintro e w24 ⟨rfl, hbw24⟩
                    have HM24 := Lib.hid (HM.out.below hbw24)
                    clear hbw24 x0 x1 x2 x3 x4 x5
                    obtain ⟨x0, x1, x2, x3, x4, x5⟩ := HM24.out.cells
                    go_wp2_with fail
                    refine (hpl _ HM24.out.pl).mono ?_
                    rintro e w25 ⟨rfl, hbw25⟩
                    have HM25 := Lib.hid (HM24.out.below hbw25)
                    clear hbw25 x0 x1 x2 x3 x4 x5
                    obtain ⟨x0, x1, x2, x3, x4, x5⟩ := HM25.out.cells
                    go_wp2_with fail
                    go_ret2
                    exact ⟨by rw [HOO.out]; rfl, HM25.out.bl⟩
                · go_wp2_with fail
                  refine (hca _).mono ?_
                  rintro e w26 ⟨rfl, hbw26⟩
                  have HM26 := Lib.hid (HM.out.below hbw26)
                  clear hbw26 x0 x1 x2 x3 x4 x5
                  obtain ⟨x0, x1, x2, x3, x4, x5⟩ := HM26.out.cells
                  go_wp2_with fail
                  refine (hpl _ HM26.out.pl).mono ?_
                  rintro e w27 ⟨rfl, hbw27⟩
                  have HM27 := Lib.hid (HM26.out.below hbw27)
                  clear hbw27 x0 x1 x2 x3 x4 x5
                  obtain ⟨x0, x1, x2, x3, x4, x5⟩ := HM27.out.cells
                  go_wp2_with fail
                  refine (htl _ HM27.out.pl (hN.below HM27.out.bl hN.lt)).mono ?_
                  rintro e w28 ⟨rfl, hbw28⟩
                  have HM28 := Lib.hid (HM27.out.below hbw28)
                  clear hbw28 x0 x1 x2 x3 x4 x5
                  obtain ⟨x0, x1, x2, x3, x4, x5⟩ := HM28.out.cells
                  go_wp2_with fail
                  have hcat : (A ++ (⟨#[63]⟩ ++ C)) = bs (outP false h L true M) := by
                    unfold outP
                    rw [← HA.out, ← HC.out]
                    simp [bs_append, show (⟨#[104, 116, 116, 112, 58, 47, 47]⟩ : ByteArray) = bs [104, 116, 116, 112, 58, 47, 47] from rfl, show (⟨#[63]⟩ : ByteArray) = bs [63] from rfl]
                  have hsz : (outP false h L true M).length = A.size + (1 + C.size) := by rw [← size_bs, ← hcat] <;> (simp only [ByteArray.size_append]; rfl)
                  have hval : O = if 96 < (outP false h L true M).length then ([], 4) else (outP false h L true M, 0) := by rw [← HO.out]; unfold tgtText; simp [HE10.out, HE20.out, HH1.out, HL1.out, HCA.out, HPL.out]
                  have HCAT := Lib.hid hcat
                  have HSZ := Lib.hid hsz
                  have HVAL := Lib.hid hval
                  clear hcat hsz hval
                  by_cases h96 : 96 < A.size + (1 + C.size)
                  · have h96i : (96 : Int) < (A.size : Int) + (1 + (C.size : Int)) := by omega
                    refine (htm _ HM28.out.pm (hN.below HM28.out.bl hN.lt)).mono ?_
                    rintro e w29 ⟨rfl, hbw29⟩
                    have HM29 := Lib.hid (HM28.out.below hbw29)
                    clear hbw29 x0 x1 x2 x3 x4 x5
                    obtain ⟨x0, x1, x2, x3, x4, x5⟩ := HM29.out.cells
                    go_wp2_with fail
                    go_ret2
                    exact ⟨by rw [HVAL.out, if_pos (by rw [HSZ.out]; exact h96)]; rfl, HM29.out.bl⟩
                  · have h96i : ¬ (96 : Int) < (A.size : Int) + (1 + (C.size : Int)) := by omega
                    refine (htm _ HM28.out.pm (hN.below HM28.out.bl hN.lt)).mono ?_
                    rintro e w30 ⟨rfl, hbw30⟩
                    have HM30 := Lib.hid (HM28.out.below hbw30)
                    clear hbw30 x0 x1 x2 x3 x4 x5
                    obtain ⟨x0, x1, x2, x3, x4, x5⟩ := HM30.out.cells
                    go_wp2_with fail
                    go_ret2
                    exact ⟨by rw [HVAL.out, if_neg (by rw [HSZ.out]; exact h96), ← HCAT.out]; rfl, HM30.out.bl⟩
          · have hh1 : h.isEmpty = false := by simpa using hh0
            have hBe : Bh.toList.isEmpty = false := by rw [HBE.out]; exact hh1
            have HH1 := Lib.hid hh1
            clear hh0 hh1
            have hO : O = ([], 3) := by rw [← HO.out]; unfold tgtText; simp [HE10.out, HE20.out, HH1.out]
            have HOO := Lib.hid hO
            clear hO
            go_wp2_with fail
            go_ret2
            exact ⟨by rw [HOO.out]; rfl, HM.out.bl⟩
        · by_cases hh0 : h = []
          · have hh1 : h.isEmpty = true := by rw [hh0]; rfl
            have hBe : Bh.toList.isEmpty = true := by rw [HBE.out]; exact hh1
            have HH1 := Lib.hid hh1
            clear hh0 hh1
            have hO : O = ([], 3) := by rw [← HO.out]; unfold tgtText; simp [HE10.out, HE20.out, HH1.out]
            have HOO := Lib.hid hO
            clear hO
            go_wp2_with fail
            go_ret2
            exact ⟨by rw [HOO.out]; rfl, HM.out.bl⟩
          · have hh1 : h.isEmpty = false := by simpa using hh0
            have hBe : Bh.toList.isEmpty = false := by rw [HBE.out]; exact hh1
            have HH1 := Lib.hid hh1
            clear hh0 hh1
            rcases CA with _ | _
            · rcases PL with _ | _
              · have hO : O = ([], 3) := by rw [← HO.out]; unfold tgtText; simp [HE10.out, HE20.out, HH1.out, HCA.out, HPL.out]
                have HOO := Lib.hid hO
                clear hO
                go_wp2_with fail
                refine (hca _).mono ?_
                rintro e w31 ⟨rfl, hbw31⟩
                have HM31 := Lib.hid (HM.out.below hbw31)
                clear hbw31 x0 x1 x2 x3 x4 x5
                obtain ⟨x0, x1, x2, x3, x4, x5⟩ := HM31.out.cells
                go_wp2_with fail
                refine (hpl _ HM31.out.pl).mono ?_
                rintro e w32 ⟨rfl, hbw32⟩
                have HM32 := Lib.hid (HM31.out.below hbw32)
                clear hbw32 x0 x1 x2 x3 x4 x5
                obtain ⟨x0, x1, x2, x3, x4, x5⟩ := HM32.out.cells
                go_wp2_with fail
                go_ret2
                exact ⟨by rw [HOO.out]; rfl, HM32.out.bl⟩
              · rcases hq with _ | _
                · by_cases hM0 : M = []
                  · have hm1 : M.isEmpty = true := by rw [hM0]; rfl
                    have hmz : decide (0 < M.length) = false := by rw [hM0]; rfl
                    have HMm := Lib.hid hm1
                    clear hM0 hm1
                    go_wp2_with fail
                    refine (hca _).mono ?_
                    rintro e w33 ⟨rfl, hbw33⟩
                    have HM33 := Lib.hid (HM.out.below hbw33)
                    clear hbw33 x0 x1 x2 x3 x4 x5
                    obtain ⟨x0, x1, x2, x3, x4, x5⟩ := HM33.out.cells
                    go_wp2_with fail
                    refine (hpl _ HM33.out.pl).mono ?_
                    rintro e w34 ⟨rfl, hbw34⟩
                    have HM34 := Lib.hid (HM33.out.below hbw34)
                    clear hbw34 x0 x1 x2 x3 x4 x5
                    obtain ⟨x0, x1, x2, x3, x4, x5⟩ := HM34.out.cells
                    go_wp2_with fail
                    have hcat : (⟨#[104, 116, 116, 112, 58, 47, 47]⟩ ++ Bh ++ A) = bs (outP true h L false M) := by
                      unfold outP
                      rw [← HA.out, ← HBH.out]
                      simp [bs_append, show (⟨#[104, 116, 116, 112, 58, 47, 47]⟩ : ByteArray) = bs [104, 116, 116, 112, 58, 47, 47] from rfl, show (⟨#[63]⟩ : ByteArray) = bs [63] from rfl]
                    have hsz : (outP true h L false M).length = 7 + Bh.size + A.size := by rw [← size_bs, ← hcat] <;> (simp only [ByteArray.size_append]; rfl)
                    have hval : O = if 96 < (outP true h L false M).length then ([], 4) else (outP true h L false M, 0) := by rw [← HO.out]; unfold tgtText; simp [HE10.out, HE20.out, HH1.out, HCA.out, HPL.out, HMm.out]
                    have HCAT := Lib.hid hcat
                    have HSZ := Lib.hid hsz
                    have HVAL := Lib.hid hval
                    clear hcat hsz hval
                    by_cases h96 : 96 < 7 + Bh.size + A.size
                    · have h96i : (96 : Int) < 7 + (Bh.size : Int) + (A.size : Int) := by omega
                      refine (htl _ HM34.out.pl (hN.below HM34.out.bl hN.lt)).mono ?_
                      rintro e w35 ⟨rfl, hbw35⟩
                      have HM35 := Lib.hid (HM34.out.below hbw35)
                      clear hbw35 x0 x1 x2 x3 x4 x5
                      obtain ⟨x0, x1, x2, x3, x4, x5⟩ := HM35.out.cells
                      go_wp2_with fail
                      go_ret2
                      exact ⟨by rw [HVAL.out, if_pos (by rw [HSZ.out]; exact h96)]; rfl, HM35.out.bl⟩
                    · have h96i : ¬ (96 : Int) < 7 + (Bh.size : Int) + (A.size : Int) := by omega
                      refine (htl _ HM34.out.pl (hN.below HM34.out.bl hN.lt)).mono ?_
                      rintro e w36 ⟨rfl, hbw36⟩
                      have HM36 := Lib.hid (HM34.out.below hbw36)
                      clear hbw36 x0 x1 x2 x3 x4 x5
                      obtain ⟨x0, x1, x2, x3, x4, x5⟩ := HM36.out.cells
                      go_wp2_with fail
                      go_ret2
                      exact ⟨by rw [HVAL.out, if_neg (by rw [HSZ.out]; exact h96), ← HCAT.out]; rfl, HM36.out.bl⟩
                  · have hm1 : M.isEmpty = false := by simpa using hM0
                    have hmz : decide (0 < M.length) = true := decide_eq_true (List.length_pos_iff.2 hM0)
                    have HMm := Lib.hid hm1
                    clear hM0 hm1
                    have hO : O = ([], 3) := by rw [← HO.out]; unfold tgtText; simp [HE10.out, HE20.out, HH1.out, HCA.out, HPL.out, HMm.out]
                    have HOO := Lib.hid hO
                    clear hO
                    go_wp2_with fail
                    refine (hca _).mono ?_
                    rintro e w37 ⟨rfl, hbw37⟩
                    have HM37 := Lib.hid (HM.out.below hbw37)
                    clear hbw37 x0 x1 x2 x3 x4 x5
                    obtain ⟨x0, x1, x2, x3, x4, x5⟩ := HM37.out.cells
                    go_wp2_with fail
                    refine (hpl _ HM37.out.pl).mono ?_
                    rintro e w38 ⟨rfl, hbw38⟩
                    have HM38 := Lib.hid (HM37.out.below hbw38)
                    clear hbw38 x0 x1 x2 x3 x4 x5
                    obtain ⟨x0, x1, x2, x3, x4, x5⟩ := HM38.out.cells
                    go_wp2_with fail
                    go_ret2
                    exact ⟨by rw [HOO.out]; rfl, HM38.out.bl⟩
                · go_wp2_with fail
                  refine (hca _).mono ?_
                  rintro e w39 ⟨rfl, hbw39⟩
                  have HM39 := Lib.hid (HM.out.below hbw39)
                  clear hbw39 x0 x1 x2 x3 x4 x5
                  obtain ⟨x0, x1, x2, x3, x4, x5⟩ := HM39.out.cells
                  go_wp2_with fail
                  refine (hpl _ HM39.out.pl).mono ?_
                  rintro e w40 ⟨rfl, hbw40⟩
                  have HM40 := Lib.hid (HM39.out.below hbw40)
                  clear hbw40 x0 x1 x2 x3 x4 x5
                  obtain ⟨x0, x1, x2, x3, x4, x5⟩ := HM40.out.cells
                  go_wp2_with fail
                  refine (htl _ HM40.out.pl (hN.below HM40.out.bl hN.lt)).mono ?_
                  rintro e w41 ⟨rfl, hbw41⟩
                  have HM41 := Lib.hid (HM40.out.below hbw41)
                  clear hbw41 x0 x1 x2 x3 x4 x5
                  obtain ⟨x0, x1, x2, x3, x4, x5⟩ := HM41.out.cells
                  go_wp2_with fail
                  have hcat : ((⟨#[104, 116, 116, 112, 58, 47, 47]⟩ ++ Bh ++ A) ++ (⟨#[63]⟩ ++ C)) = bs (outP true h L true M) := by
                    unfold outP
                    rw [← HA.out, ← HC.out, ← HBH.out]
                    simp [bs_append, show (⟨#[104, 116, 116, 112, 58, 47, 47]⟩ : ByteArray) = bs [104, 116, 116, 112, 58, 47, 47] from rfl, show (⟨#[63]⟩ : ByteArray) = bs [63] from rfl]
                  have hsz : (outP true h L true M).length = 7 + Bh.size + A.size + (1 + C.size) := by rw [← size_bs, ← hcat] <;> (simp only [ByteArray.size_append]; rfl)
                  have hval : O = if 96 < (outP true h L true M).length then ([], 4) else (outP true h L true M, 0) := by rw [← HO.out]; unfold tgtText; simp [HE10.out, HE20.out, HH1.out, HCA.out, HPL.out]
                  have HCAT := Lib.hid hcat
                  have HSZ := Lib.hid hsz
                  have HVAL := Lib.hid hval
                  clear hcat hsz hval
                  by_cases h96 : 96 < 7 + Bh.size + A.size + (1 + C.size)
                  · have h96i : (96 : Int) < 7 + (Bh.size : Int) + (A.size : Int) + (1 + (C.size : Int)) := by omega
                    refine (htm _ HM41.out.pm (hN.below HM41.out.bl hN.lt)).mono ?_
                    rintro e w42 ⟨rfl, hbw42⟩
                    have HM42 := Lib.hid (HM41.out.below hbw42)
                    clear hbw42 x0 x1 x2 x3 x4 x5
                    obtain ⟨x0, x1, x2, x3, x4, x5⟩ := HM42.out.cells
                    go_wp2_with fail
                    go_ret2
                    exact ⟨by rw [HVAL.out, if_pos (by rw [HSZ.out]; exact h96)]; rfl, HM42.out.bl⟩
                  · have h96i : ¬ (96 : Int) < 7 + (Bh.size : Int) + (A.size : Int) + (1 + (C.size : Int)) := by omega
                    refine (htm _ HM41.out.pm (hN.below HM41.out.bl hN.lt)).mono ?_
                    rintro e w43 ⟨rfl, hbw43⟩
                    have HM43 := Lib.hid (HM41.out.below hbw43)
                    clear hbw43 x0 x1 x2 x3 x4 x5
                    obtain ⟨x0, x1, x2, x3, x4, x5⟩ := HM43.out.cells
                    go_wp2_with fail
                    go_ret2
                    exact ⟨by rw [HVAL.out, if_neg (by rw [HSZ.out]; exact h96), ← HCAT.out]; rfl, HM43.out.bl⟩
            · have hO : O = ([], 3) := by rw [← HO.out]; unfold tgtText; simp [HE10.out, HE20.out, HH1.out, HCA.out]
              have HOO := Lib.hid hO
              clear hO
              go_wp2_with fail
              refine (hca _).mono ?_
              rintro e w44 ⟨rfl, hbw44⟩
              have HM44 := Lib.hid (HM.out.below hbw44)
              clear hbw44 x0 x1 x2 x3 x4 x5
              obtain ⟨x0, x1, x2, x3, x4, x5⟩ := HM44.out.cells
              go_wp2_with fail
              go_ret2
              exact ⟨by rw [HOO.out]; rfl, HM44.out.bl⟩
      · rcases ex with _ | _
        · by_cases hh0 : h = []
          · have hh1 : h.isEmpty = true := by rw [hh0]; rfl
            have hBe : Bh.toList.isEmpty = true := by rw [HBE.out]; exact hh1
            have HH1 := Lib.hid hh1
            clear hh0 hh1
            by_cases hL0 : L = []
            · have hl1 : L.isEmpty = true := by rw [hL0]; rfl
              have hlz : decide (0 < L.length) = false := by rw [hL0]; rfl
              have HL1 := Lib.hid hl1
              clear hL0 hl1
              rcases hq with _ | _
              · by_cases hM0 : M = []
                · have hm1 : M.isEmpty = true := by rw [hM0]; rfl
                  have hmz : decide (0 < M.length) = false := by rw [hM0]; rfl
                  have HMm := Lib.hid hm1
                  clear hM0 hm1
                  have hO : O = ([45], 0) := by rw [← HO.out]; unfold tgtText; simp [HE10.out, HE20.out, HH1.out, HL1.out, HMm.out]
                  have HOO := Lib.hid hO
                  clear hO
                  go_wp2_with fail
                  go_ret2
                  exact ⟨by rw [HOO.out]; rfl, HM.out.bl⟩
                · have hm1 : M.isEmpty = false := by simpa using hM0
                  have hmz : decide (0 < M.length) = true := decide_eq_true (List.length_pos_iff.2 hM0)
                  have HMm := Lib.hid hm1
                  clear hM0 hm1
                  have hO : O = ([], 3) := by rw [← HO.out]; unfold tgtText; simp [HE10.out, HE20.out, HH1.out, HL1.out, HMm.out]
                  have HOO := Lib.hid hO
                  clear hO
                  go_wp2_with fail
                  go_ret2
                  exact ⟨by rw [HOO.out]; rfl, HM.out.bl⟩
              · have hO : O = ([], 3) := by rw [← HO.out]; unfold tgtText; simp [HE10.out, HE20.out, HH1.out, HL1.out]
                have HOO := Lib.hid hO
                clear hO
                go_wp2_with fail
                go_ret2
                exact ⟨by rw [HOO.out]; rfl, HM.out.bl⟩
            · have hl1 : L.isEmpty = false := by simpa using hL0
              have hlz : decide (0 < L.length) = true := decide_eq_true (List.length_pos_iff.2 hL0)
              have HL1 := Lib.hid hl1
              clear hL0 hl1
              have hO : O = ([], 3) := by rw [← HO.out]; unfold tgtText; simp [HE10.out, HE20.out, HH1.out, HL1.out]
              have HOO := Lib.hid hO
              clear hO
              go_wp2_with fail
              go_ret2
              exact ⟨by rw [HOO.out]; rfl, HM.out.bl⟩
          · have hh1 : h.isEmpty = false := by simpa using hh0
            have hBe : Bh.toList.isEmpty = false := by rw [HBE.out]; exact hh1
            have HH1 := Lib.hid hh1
            clear hh0 hh1
            have hO : O = ([], 3) := by rw [← HO.out]; unfold tgtText; simp [HE10.out, HE20.out, HH1.out]
            have HOO := Lib.hid hO
            clear hO
            go_wp2_with fail
            go_ret2
            exact ⟨by rw [HOO.out]; rfl, HM.out.bl⟩
        · have hO : O = ([], 3) := by rw [← HO.out]; unfold tgtText; simp [HE10.out, HE20.out]
          have HOO := Lib.hid hO
          clear hO
          go_wp2_with fail
          go_ret2
          exact ⟨by rw [HOO.out]; rfl, HM.out.bl⟩
end Go.Proofs.YtllklgalghmnfaaDoor
