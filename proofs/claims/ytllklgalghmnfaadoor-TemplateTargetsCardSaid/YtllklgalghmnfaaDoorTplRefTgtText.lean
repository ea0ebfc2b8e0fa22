/- The reference's TargetText. -/
import Derived.Test.YtllklgalghmnfaaDoorTplTgtText0
import Derived.Deep.LoopGhost
namespace Go.Proofs.YtllklgalghmnfaaDoor
open Go.RowKit Str Mem Tp
set_option linter.unusedVariables false
set_option linter.unusedSimpArgs false

set_option maxRecDepth 100000 in
set_option maxHeartbeats 8000000 in
theorem refTargetText_any (sm ex hq : Bool) (h : Tp.Bs) (pa qa : Option Addr) (pc qc : Nat) (L M : List Part) (w : World) (hN : Nm w) (hL : Parts w pa L.length L) (hM : Parts w qa M.length M) (hh : h.length ≤ 1000) (hLn : L.length ≤ 1000) (hMn : M.length ≤ 1000) (hLc : L.length ≤ pc) (hMc : M.length ≤ qc) (hpc : pc ≤ maxLen) (hqc : qc ≤ maxLen) (hLt : ∀ p ∈ L, p.t.length ≤ 1000) (hMt : ∀ p ∈ M, p.t.length ≤ 1000) :
    Calls Tryd.prog 21 #[tgtV sm ex h pa L.length pc hq qa M.length qc] w fun e w' => e = .returned (.tuple #[.string (bs (tgtText sm ex h L hq M).1), .int .i64 (tgtText sm ex h L hq M).2]) ∧ Below w.heap.size w w' := by
  obtain ⟨O, hO⟩ : ∃ O, tgtText sm ex h L hq M = O := ⟨_, rfl⟩
  rw [hO]
  have HO := Lib.hid hO
  obtain ⟨Bh, hBh⟩ : ∃ Bh, bs h = Bh := ⟨_, rfl⟩
  have hBz : Bh.size ≤ 1000 := by rw [← hBh, size_bs]; exact hh
  have hBe : Bh.toList.isEmpty = h.isEmpty := by rw [← hBh, toList_data, data_bs]
  have HBE := Lib.hid hBe
  have HBH := Lib.hid hBh
  have hca := fun W => bare_any h (by omega) W
  rw [hBh] at hca
  have hcl := fun W hp => refCheck_any pa pc L W hp (by omega) (fun p hp => by have := hLt p hp; omega)
  have hcm := fun W hp => refCheck_any qa qc M W hp (by omega) (fun p hp => by have := hMt p hp; omega)
  have htl : checkR L = 0 → ∀ W, Parts W pa L.length L → Calls Tryd.prog 59 #[.slice pa L.length pc] W fun e w' => e = .returned (.string (bs (textP L))) ∧ Below W.heap.size W w' := fun h0 W hp => refText_any pa pc L W hp (by omega) (fun p hp => one_fitX p (checkTo_fit L false (checkR_zero h0).1 p hp) (by have := hLt p hp; omega))
  have htm : checkR M = 0 → ∀ W, Parts W qa M.length M → Calls Tryd.prog 59 #[.slice qa M.length qc] W fun e w' => e = .returned (.string (bs (textP M))) ∧ Below W.heap.size W w' := fun h0 W hp => refText_any qa qc M W hp (by omega) (fun p hp => one_fitX p (checkTo_fit M false (checkR_zero h0).1 p hp) (by have := hMt p hp; omega))
  have hlit : checkR L = 0 → ∀ p ∈ L, p.k = 1 → p.t ≠ [] := fun h0 p hp hk => by
    have h1 := checkTo_fit L false (checkR_zero h0).1 p hp
    unfold oneE at h1
    rw [if_neg (by omega)] at h1
    split at h1
    · cases h1
    · split at h1
      · cases h1
      · rename_i h2
        intro ht
        exact h2 (by simp [hk, ht])
  have HLIT := Lib.hid hlit
  have HTL := Lib.hid htl
  have HTM := Lib.hid htm
  have hm0 : TB w (w.alloc (.cells #[.bool sm, .bool ex, .string Bh, .slice pa L.length pc, .bool hq, .slice qa M.length qc] 30)) w.heap.size sm ex Bh pa pc L hq qa qc M :=
    ⟨World.alloc_heap_new _ _, Rd.alloc hL _, Rd.alloc hM _, (Below.refl _ w).alloc (Nat.le_refl _) _⟩
  have HM0 := Lib.hid hm0
  have hLz : (L.length : Int) = (L.length : Int) := rfl
  unfold tgtV
  rw [hBh]
  clear hO hBh hBe htl htm hlit hm0 hL hM hLz hLt hMt
  obtain ⟨E1, hE1⟩ : ∃ E, checkR L = E := ⟨_, rfl⟩
  obtain ⟨E2, hE2⟩ : ∃ E, checkR M = E := ⟨_, rfl⟩
  rw [hE1] at hcl
  rw [hE2] at hcm
  have HE1 := Lib.hid hE1
  have HE2 := Lib.hid hE2
  obtain ⟨CA, hCA⟩ : ∃ E, anyH h = E := ⟨_, rfl⟩
  rw [hCA] at hca
  have HCA := Lib.hid hCA
  clear hE1 hE2 hCA
  go_enter Tryd.func21, Tryd.ntmps21
  obtain ⟨x0, x1, x2, x3, x4, x5⟩ := HM0.out.cells
  go_wp2_with fail
  refine (hcl _ HM0.out.pl).mono ?_
  rintro e w2 ⟨rfl, h2⟩
  have HM1 := Lib.hid (HM0.out.below h2)
  clear HM0 h2 x0 x1 x2 x3 x4 x5
  obtain ⟨x0, x1, x2, x3, x4, x5⟩ := HM1.out.cells
  by_cases hE : ¬ E1 = 0
  · have hEb : (E1 != 0) = true := by simpa using hE
    have hEb2 : (E1 == 0) = false := by simpa using hE
    have hO : O = ([], E1) := by rw [← HO.out]; unfold tgtText; rw [HE1.out, if_pos hE]
    have HOO := Lib.hid hO
    clear hE hO
    go_wp2_with fail
    go_ret2
    exact ⟨by rw [HOO.out]; rfl, HM1.out.bl⟩
  have hE10 : E1 = 0 := by omega
  subst hE10
  have HC := Lib.hid (hcm _ HM1.out.pm)
  clear hE hcl
  go_wp2_with fail
  refine HC.out.mono ?_
  rintro e wr ⟨rfl, h2⟩
  have HM := Lib.hid (HM1.out.below h2)
  clear HM1 h2 HC x0 x1 x2 x3 x4 x5
  obtain ⟨x0, x1, x2, x3, x4, x5⟩ := HM.out.cells
  by_cases hE : ¬ E2 = 0
  · have hEb : (E2 != 0) = true := by simpa using hE
    have hEb2 : (E2 == 0) = false := by simpa using hE
    have hO : O = ([], E2) := by rw [← HO.out]; unfold tgtText; rw [HE1.out, HE2.out, if_neg (by simp), if_pos hE]
    have HOO := Lib.hid hO
    clear hE hO
    go_wp2_with fail
    go_ret2
    exact ⟨by rw [HOO.out]; rfl, HM.out.bl⟩
  have hE20 : E2 = 0 := by omega
  subst hE20
  have HE10 := HE1
  have HE20 := HE2
  obtain ⟨z1, zl⟩ := checkR_zero HE10.out
  obtain ⟨z2, zm⟩ := checkR_zero HE20.out
  have htl := HTL.out HE10.out
  have htm := HTM.out HE20.out
  have HLT := Lib.hid (HLIT.out HE10.out)
  obtain ⟨A, hA⟩ : ∃ A, bs (textP L) = A := ⟨_, rfl⟩
  obtain ⟨C, hC⟩ : ∃ A, bs (textP M) = A := ⟨_, rfl⟩
  have hAz : A.size ≤ 96 := by rw [← hA, size_bs]; exact zl
  have hCz : C.size ≤ 96 := by rw [← hC, size_bs]; exact zm
  rw [hA] at htl
  rw [hC] at htm
  have HA := Lib.hid hA
  have HC := Lib.hid hC
  clear hE hA hC z1 z2 zl zm hcm HTL HTM HE1 HE2 HLIT
  rcases sm with _ | _
  · rcases ex with _ | _
    · by_cases hh0 : h = []
      · have hh1 : h.isEmpty = true := by rw [hh0]; rfl
        have hBe : Bh.toList.isEmpty = true := by rw [HBE.out]; exact hh1
        have HH1 := Lib.hid hh1
        clear hh0 hh1
        have hca0 : CA = false := by rw [← HCA.out]; have := HH1.out; rw [List.isEmpty_iff] at this; rw [this]; rfl
        subst hca0
        by_cases hL0 : L = []
        · have hl1 : L.isEmpty = true := by rw [hL0]; rfl
          have hlz : decide (0 < L.length) = false := by rw [hL0]; rfl
          have HL1 := Lib.hid hl1
          clear hL0 hl1
          have HPL : Hid (placeR L = true) := Lib.hid (by have := HL1.out; rw [List.isEmpty_iff] at this; rw [this]; rfl)
          rcases hq with _ | _
          · by_cases hM0 : M = []
            · have hm1 : M.isEmpty = true := by rw [hM0]; rfl
              have hmz : decide (0 < M.length) = false := by rw [hM0]; rfl
              have HMm := Lib.hid hm1
              clear hM0 hm1
              have hO : O = ([], 3) := by rw [← HO.out]; unfold tgtText; simp [HE10.out, HE20.out, HH1.out, HL1.out, HMm.out]
              have HOO := Lib.hid hO
              clear hO
              go_wp2_with fail
              go_ret2
              exact ⟨by rw [HOO.out]; rfl, HM.out.bl⟩
            · have hm1 : M.isEmpty = false := by simpa using hM0
              have hmz : decide (0 < M.length) = true := decide_eq_true (List.length_pos_iff.2 hM0)
              have HMm := Lib.hid hm1
              clear hM0 hm1
              have hO : O = ([], 3) := by rw [← HO.out]; unfold tgtText; simp [HE10.out, HE20.out, HH1.out, HL1.out, HCA.out, HPL.out, HMm.out]
              have HOO := Lib.hid hO
              clear hO
              go_wp2_with fail
              refine (hca _).mono ?_
              rintro e w11 ⟨rfl, rfl⟩
              go_wp2_with fail
              go_ret2
              exact ⟨by rw [HOO.out]; rfl, HM.out.bl⟩
          · by_cases hM0 : M = []
            · have hm1 : M.isEmpty = true := by rw [hM0]; rfl
              have hmz : decide (0 < M.length) = false := by rw [hM0]; rfl
              have HMm := Lib.hid hm1
              clear hM0 hm1
              go_wp2_with fail
              refine (hca _).mono ?_
              rintro e w12 ⟨rfl, rfl⟩
              go_wp2_with fail
              refine (htl _ HM.out.pl).mono ?_
              rintro e w13 ⟨rfl, hbw13⟩
              have HM13 := Lib.hid (HM.out.below hbw13)
              clear hbw13 x0 x1 x2 x3 x4 x5
              obtain ⟨x0, x1, x2, x3, x4, x5⟩ := HM13.out.cells
              go_wp2_with fail
              have hcat : (A ++ ⟨#[63]⟩ ++ C) = bs (outP false h L true M) := by
                unfold outP
                rw [← HA.out, ← HC.out]
                simp [bs_append, show (⟨#[104, 116, 116, 112, 58, 47, 47]⟩ : ByteArray) = bs [104, 116, 116, 112, 58, 47, 47] from rfl, show (⟨#[63]⟩ : ByteArray) = bs [63] from rfl]
              have hsz : (outP false h L true M).length = A.size + 1 + C.size := by rw [← size_bs, ← hcat] <;> (simp only [ByteArray.size_append]; rfl)
              have hval : O = if 96 < (outP false h L true M).length then ([], 4) else (outP false h L true M, 0) := by rw [← HO.out]; unfold tgtText; simp [HE10.out, HE20.out, HH1.out, HL1.out, HCA.out, HPL.out]
              have HCAT := Lib.hid hcat
              have HSZ := Lib.hid hsz
              have HVAL := Lib.hid hval
              clear hcat hsz hval
              by_cases h96 : 96 < A.size + 1 + C.size
              · have h96i : (96 : Int) < (A.size : Int) + 1 + (C.size : Int) := by omega
                refine (htm _ HM13.out.pm).mono ?_
                rintro e w14 ⟨rfl, hbw14⟩
                have HM14 := Lib.hid (HM13.out.below hbw14)
                clear hbw14 x0 x1 x2 x3 x4 x5
                obtain ⟨x0, x1, x2, x3, x4, x5⟩ := HM14.out.cells
                go_wp2_with fail
                go_ret2
                exact ⟨by rw [HVAL.out, if_pos (by rw [HSZ.out]; exact h96)]; rfl, HM14.out.bl⟩
              · have h96i : ¬ (96 : Int) < (A.size : Int) + 1 + (C.size : Int) := by omega
                refine (htm _ HM13.out.pm).mono ?_
                rintro e w15 ⟨rfl, hbw15⟩
                have HM15 := Lib.hid (HM13.out.below hbw15)
                clear hbw15 x0 x1 x2 x3 x4 x5
                obtain ⟨x0, x1, x2, x3, x4, x5⟩ := HM15.out.cells
                go_wp2_with fail
                go_ret2
                exact ⟨by rw [HVAL.out, if_neg (by rw [HSZ.out]; exact h96), ← HCAT.out]; rfl, HM15.out.bl⟩
            · have hm1 : M.isEmpty = false := by simpa using hM0
              have hmz : decide (0 < M.length) = true := decide_eq_true (List.length_pos_iff.2 hM0)
              have HMm := Lib.hid hm1
              clear hM0 hm1
              go_wp2_with fail
              refine (hca _).mono ?_
              rintro e w16 ⟨rfl, rfl⟩
              go_wp2_with fail
              refine (htl _ HM.out.pl).mono ?_
              rintro e w17 ⟨rfl, hbw17⟩
              have HM17 := Lib.hid (HM.out.below hbw17)
              clear hbw17 x0 x1 x2 x3 x4 x5
              obtain ⟨x0, x1, x2, x3, x4, x5⟩ := HM17.out.cells
              go_wp2_with fail
              have hcat : (A ++ ⟨#[63]⟩ ++ C) = bs (outP false h L true M) := by
                unfold outP
                rw [← HA.out, ← HC.out]
                simp [bs_append, show (⟨#[104, 116, 116, 112, 58, 47, 47]⟩ : ByteArray) = bs [104, 116, 116, 112, 58, 47, 47] from rfl, show (⟨#[63]⟩ : ByteArray) = bs [63] from rfl]
              have hsz : (outP false h L true M).length = A.size + 1 + C.size := by rw [← size_bs, ← hcat] <;> (simp only [ByteArray.size_append]; rfl)
              have hval : O = if 96 < (outP false h L true M).length then ([], 4) else (outP false h L true M, 0) := by rw [← HO.out]; unfold tgtText; simp [HE10.out, HE20.out, HH1.out, HL1.out, HCA.out, HPL.out]
              have HCAT := Lib.hid hcat
              have HSZ := Lib.hid hsz
              have HVAL := Lib.hid hval
              clear hcat hsz hval
              by_cases h96 : 96 < A.size + 1 + C.size
              · have h96i : (96 : Int) < (A.size : Int) + 1 + (C.size : Int) := by omega
                refine (htm _ HM17.out.pm).mono ?_
                rintro e w18 ⟨rfl, hbw18⟩
                have HM18 := Lib.hid (HM17.out.below hbw18)
                clear hbw18 x0 x1 x2 x3 x4 x5
                obtain ⟨x0, x1, x2, x3, x4, x5⟩ := HM18.out.cells
                go_wp2_with fail
                go_ret2
                exact ⟨by rw [HVAL.out, if_pos (by rw [HSZ.out]; exact h96)]; rfl, HM18.out.bl⟩
              · have h96i : ¬ (96 : Int) < (A.size : Int) + 1 + (C.size : Int) := by omega
                refine (htm _ HM17.out.pm).mono ?_
                rintro e w19 ⟨rfl, hbw19⟩
                have HM19 := Lib.hid (HM17.out.below hbw19)
                clear hbw19 x0 x1 x2 x3 x4 x5
                obtain ⟨x0, x1, x2, x3, x4, x5⟩ := HM19.out.cells
                go_wp2_with fail
                go_ret2
                exact ⟨by rw [HVAL.out, if_neg (by rw [HSZ.out]; exact h96), ← HCAT.out]; rfl, HM19.out.bl⟩
        · have hl1 : L.isEmpty = false := by simpa using hL0
          have hlz : decide (0 < L.length) = true := decide_eq_true (List.length_pos_iff.2 hL0)
          have HL1 := Lib.hid hl1
          clear hL0 hl1
          rcases hq with _ | _
          · by_cases hM0 : M = []
            · have hm1 : M.isEmpty = true := by rw [hM0]; rfl
              have hmz : decide (0 < M.length) = false := by rw [hM0]; rfl
              have HMm := Lib.hid hm1
              clear hM0 hm1
              obtain ⟨p, L', hLp⟩ : ∃ p L', L = p :: L' := by
                have := HL1.out
                rcases L with _ | ⟨p, L'⟩
                · cases this
                · exact ⟨p, L', rfl⟩
              have hpv : placeR L = ((p.k == 1) && (p.t.head? == some 47)) := by rw [hLp]; rfl
              have hli := HLT.out p (by rw [hLp]; simp)
              obtain ⟨pad, hpad, hpb, p0, p1, -⟩ := Parts.get (L := L) HM.out.pl 0 p (by rw [hLp]; rfl)
              have hl1 : (0 : Int) < (L.length : Int) := by rw [hLp]; simp
              subst hpad
              have e0 : pad.add (0 * 3) = pad := by unfold Addr.add; simp
              rw [e0] at p0 p1
              have HPV := Lib.hid hpv
              clear hLp hpv e0
              by_cases hk : p.k = 1
              · obtain ⟨x, t', hxt⟩ : ∃ x t', p.t = x :: t' := by
                  rcases ht : p.t with _ | ⟨x, t'⟩
                  · exact absurd ht (hli hk)
                  · exact ⟨x, t', rfl⟩
                obtain ⟨Tx, hTx⟩ : ∃ Tx, bs p.t = Tx := ⟨_, rfl⟩
                rw [hTx] at p1
                have hT0 : 0 < Tx.size := by rw [← hTx, size_bs, hxt]; simp
                have hTb : Tx[0] = x := by subst hTx; rw [get_data _ 0 hT0]; simp [data_bs, hxt]
                by_cases hx : x = 47
                · have HPL : Hid (placeR L = true) := Lib.hid (by rw [HPV.out, hk, hxt, hx]; rfl)
                  have hTe : ((Tx[0].toNat : Int) == 47) = true := by rw [hTb, hx]; rfl
                  rw [hk] at p0
                  clear hk hxt hTx hTb hx hli
                  go_wp2_with fail
                  refine (hca _).mono ?_
                  rintro e w20 ⟨rfl, rfl⟩
                  go_wp2_with fail
                  have hcat : A = bs (outP false h L false M) := by
                    unfold outP
                    rw [← HA.out]
                    simp [bs_append, show (⟨#[104, 116, 116, 112, 58, 47, 47]⟩ : ByteArray) = bs [104, 116, 116, 112, 58, 47, 47] from rfl, show (⟨#[63]⟩ : ByteArray) = bs [63] from rfl]
                  have hsz : (outP false h L false M).length = A.size := by rw [← size_bs, ← hcat] <;> (simp only [ByteArray.size_append]; rfl)
                  have hval : O = if 96 < (outP false h L false M).length then ([], 4) else (outP false h L false M, 0) := by rw [← HO.out]; unfold tgtText; simp [HE10.out, HE20.out, HH1.out, HL1.out, HCA.out, HPL.out, HMm.out]
                  have HCAT := Lib.hid hcat
                  have HSZ := Lib.hid hsz
                  have HVAL := Lib.hid hval
                  clear hcat hsz hval
                  by_cases h96 : 96 < A.size
                  · have h96i : (96 : Int) < (A.size : Int) := by omega
                    exact absurd h96 (by omega)
                  · have h96i : ¬ (96 : Int) < (A.size : Int) := by omega
                    refine (htl _ HM.out.pl).mono ?_
                    rintro e w22 ⟨rfl, hbw22⟩
                    have HM22 := Lib.hid (HM.out.below hbw22)
                    clear hbw22 x0 x1 x2 x3 x4 x5
                    obtain ⟨x0, x1, x2, x3, x4, x5⟩ := HM22.out.cells
                    go_wp2_with fail
                    go_ret2
                    exact ⟨by rw [HVAL.out, if_neg (by rw [HSZ.out]; exact h96), ← HCAT.out]; rfl, HM22.out.bl⟩
                · have HPL : Hid (placeR L = false) := Lib.hid (by rw [HPV.out, hk, hxt]; simpa using hx)
                  have hTe : ((Tx[0].toNat : Int) == 47) = false := by
                    rw [hTb, beq_eq_false_iff_ne]
                    exact fun h => hx (UInt8.toNat.inj (by simpa using (by omega : x.toNat = 47)))
                  rw [hk] at p0
                  clear hk hxt hTx hTb hx hli
                  have hO : O = ([], 3) := by rw [← HO.out]; unfold tgtText; simp [HE10.out, HE20.out, HH1.out, HL1.out, HCA.out, HPL.out, HMm.out]
                  have HOO := Lib.hid hO
                  clear hO
                  go_wp2_with fail
                  refine (hca _).mono ?_
                  rintro e w23 ⟨rfl, rfl⟩
                  go_wp2_with fail
                  go_ret2
                  exact ⟨by rw [HOO.out]; rfl, HM.out.bl⟩
              · have HPL : Hid (placeR L = false) := Lib.hid (by
                  rw [HPV.out]
                  have : (p.k == 1) = false := by simpa using hk
                  rw [this]; rfl)
                have hkb : (p.k != 1) = true := by simpa using hk
                clear hk hli
                have hO : O = ([], 3) := by rw [← HO.out]; unfold tgtText; simp [HE10.out, HE20.out, HH1.out, HL1.out, HCA.out, HPL.out, HMm.out]
                have HOO := Lib.hid hO
                clear hO
                go_wp2_with fail
                refine (hca _).mono ?_
                rintro e w24 ⟨rfl, rfl⟩
                go_wp2_with fail
                go_ret2
                exact ⟨by rw [HOO.out]; rfl, HM.out.bl⟩
            · have hm1 : M.isEmpty = false := by simpa using hM0
              have hmz : decide (0 < M.length) = true := decide_eq_true (List.length_pos_iff.2 hM0)
              have HMm := Lib.hid hm1
              clear hM0 hm1
              have hO : O = ([], 3) := by rw [← HO.out]; unfold tgtText; simp [HE10.out, HE20.out, HH1.out, HL1.out, HCA.out, HMm.out]
              have HOO := Lib.hid hO
              clear hO
              go_wp2_with fail
              refine (hca _).mono ?_
              rintro e w25 ⟨rfl, rfl⟩
              go_wp2_with fail
              go_ret2
              exact ⟨by rw [HOO.out]; rfl, HM.out.bl⟩
          · by_cases hM0 : M = []
            · have hm1 : M.isEmpty = true := by rw [hM0]; rfl
              have hmz : decide (0 < M.length) = false := by rw [hM0]; rfl
              have HMm := Lib.hid hm1
              clear hM0 hm1
              obtain ⟨p, L', hLp⟩ : ∃ p L', L = p :: L' := by
                have := HL1.out
                rcases L with _ | ⟨p, L'⟩
                · cases this
                · exact ⟨p, L', rfl⟩
              have hpv : placeR L = ((p.k == 1) && (p.t.head? == some 47)) := by rw [hLp]; rfl
              have hli := HLT.out p (by rw [hLp]; simp)
              obtain ⟨pad, hpad, hpb, p0, p1, -⟩ := Parts.get (L := L) HM.out.pl 0 p (by rw [hLp]; rfl)
              have hl1 : (0 : Int) < (L.length : Int) := by rw [hLp]; simp
              subst hpad
              have e0 : pad.add (0 * 3) = pad := by unfold Addr.add; simp
              rw [e0] at p0 p1
              have HPV := Lib.hid hpv
              clear hLp hpv e0
              by_cases hk : p.k = 1
              · obtain ⟨x, t', hxt⟩ : ∃ x t', p.t = x :: t' := by
                  rcases ht : p.t with _ | ⟨x, t'⟩
                  · exact absurd ht (hli hk)
                  · exact ⟨x, t', rfl⟩
                obtain ⟨Tx, hTx⟩ : ∃ Tx, bs p.t = Tx := ⟨_, rfl⟩
                rw [hTx] at p1
                have hT0 : 0 < Tx.size := by rw [← hTx, size_bs, hxt]; simp
                have hTb : Tx[0] = x := by subst hTx; rw [get_data _ 0 hT0]; simp [data_bs, hxt]
                by_cases hx : x = 47
                · have HPL : Hid (placeR L = true) := Lib.hid (by rw [HPV.out, hk, hxt, hx]; rfl)
                  have hTe : ((Tx[0].toNat : Int) == 47) = true := by rw [hTb, hx]; rfl
                  rw [hk] at p0
                  clear hk hxt hTx hTb hx hli
                  go_wp2_with fail
                  refine (hca _).mono ?_
                  rintro e w26 ⟨rfl, rfl⟩
                  go_wp2_with fail
                  refine (htl _ HM.out.pl).mono ?_
                  rintro e w27 ⟨rfl, hbw27⟩
                  have HM27 := Lib.hid (HM.out.below hbw27)
                  clear hbw27 x0 x1 x2 x3 x4 x5
                  obtain ⟨x0, x1, x2, x3, x4, x5⟩ := HM27.out.cells
                  go_wp2_with fail
                  have hcat : (A ++ ⟨#[63]⟩ ++ C) = bs (outP false h L true M) := by
                    unfold outP
                    rw [← HA.out, ← HC.out]
                    simp [bs_append, show (⟨#[104, 116, 116, 112, 58, 47, 47]⟩ : ByteArray) = bs [104, 116, 116, 112, 58, 47, 47] from rfl, show (⟨#[63]⟩ : ByteArray) = bs [63] from rfl]
                  have hsz : (outP false h L true M).length = A.size + 1 + C.size := by rw [← size_bs, ← hcat] <;> (simp only [ByteArray.size_append]; rfl)
                  have hval : O = if 96 < (outP false h L true M).length then ([], 4) else (outP false h L true M, 0) := by rw [← HO.out]; unfold tgtText; simp [HE10.out, HE20.out, HH1.out, HL1.out, HCA.out, HPL.out]
                  have HCAT := Lib.hid hcat
                  have HSZ := Lib.hid hsz
                  have HVAL := Lib.hid hval
                  clear hcat hsz hval
                  by_cases h96 : 96 < A.size + 1 + C.size
                  · have h96i : (96 : Int) < (A.size : Int) + 1 + (C.size : Int) := by omega
                    refine (htm _ HM27.out.pm).mono ?_
                    rintro e w28 ⟨rfl, hbw28⟩
                    have HM28 := Lib.hid (HM27.out.below hbw28)
                    clear hbw28 x0 x1 x2 x3 x4 x5
                    obtain ⟨x0, x1, x2, x3, x4, x5⟩ := HM28.out.cells
                    go_wp2_with fail
                    go_ret2
                    exact ⟨by rw [HVAL.out, if_pos (by rw [HSZ.out]; exact h96)]; rfl, HM28.out.bl⟩
                  · have h96i : ¬ (96 : Int) < (A.size : Int) + 1 + (C.size : Int) := by omega
                    refine (htm _ HM27.out.pm).mono ?_
                    rintro e w29 ⟨rfl, hbw29⟩
                    have HM29 := Lib.hid (HM27.out.below hbw29)
                    clear hbw29 x0 x1 x2 x3 x4 x5
                    obtain ⟨x0, x1, x2, x3, x4, x5⟩ := HM29.out.cells
                    go_wp2_with fail
                    go_ret2
                    exact ⟨by rw [HVAL.out, if_neg (by rw [HSZ.out]; exact h96), ← HCAT.out]; rfl, HM29.out.bl⟩
                · have HPL : Hid (placeR L = false) := Lib.hid (by rw [HPV.out, hk, hxt]; simpa using hx)
                  have hTe : ((Tx[0].toNat : Int) == 47) = false := by
                    rw [hTb, beq_eq_false_iff_ne]
                    exact fun h => hx (UInt8.toNat.inj (by simpa using (by omega : x.toNat = 47)))
                  rw [hk] at p0
                  clear hk hxt hTx hTb hx hli
                  have hO : O = ([], 3) := by rw [← HO.out]; unfold tgtText; simp [HE10.out, HE20.out, HH1.out, HL1.out, HCA.out, HPL.out]
                  have HOO := Lib.hid hO
                  clear hO
                  go_wp2_with fail
                  refine (hca _).mono ?_
                  rintro e w30 ⟨rfl, rfl⟩
                  go_wp2_with fail
                  go_ret2
                  exact ⟨by rw [HOO.out]; rfl, HM.out.bl⟩
              · have HPL : Hid (placeR L = false) := Lib.hid (by
                  rw [HPV.out]
                  have : (p.k == 1) = false := by simpa using hk
                  rw [this]; rfl)
                have hkb : (p.k != 1) = true := by simpa using hk
                clear hk hli
                have hO : O = ([], 3) := by rw [← HO.out]; unfold tgtText; simp [HE10.out, HE20.out, HH1.out, HL1.out, HCA.out, HPL.out]
                have HOO := Lib.hid hO
                clear hO
                go_wp2_with fail
                refine (hca _).mono ?_
                rintro e w31 ⟨rfl, rfl⟩
                go_wp2_with fail
                go_ret2
                exact ⟨by rw [HOO.out]; rfl, HM.out.bl⟩
            · have hm1 : M.isEmpty = false := by simpa using hM0
              have hmz : decide (0 < M.length) = true := decide_eq_true (List.length_pos_iff.2 hM0)
              have HMm := Lib.hid hm1
              clear hM0 hm1
              obtain ⟨p, L', hLp⟩ : ∃ p L', L = p :: L' := by
                have := HL1.out
                rcases L with _ | ⟨p, L'⟩
                · cases this
                · exact ⟨p, L', rfl⟩
              have hpv : placeR L = ((p.k == 1) && (p.t.head? == some 47)) := by rw [hLp]; rfl
              have hli := HLT.out p (by rw [hLp]; simp)
              obtain ⟨pad, hpad, hpb, p0, p1, -⟩ := Parts.get (L := L) HM.out.pl 0 p (by rw [hLp]; rfl)
              have hl1 : (0 : Int) < (L.length : Int) := by rw [hLp]; simp
              subst hpad
              have e0 : pad.add (0 * 3) = pad := by unfold Addr.add; simp
              rw [e0] at p0 p1
              have HPV := Lib.hid hpv
              clear hLp hpv e0
              by_cases hk : p.k = 1
              · obtain ⟨x, t', hxt⟩ : ∃ x t', p.t = x :: t' := by
                  rcases ht : p.t with _ | ⟨x, t'⟩
                  · exact absurd ht (hli hk)
                  · exact ⟨x, t', rfl⟩
                obtain ⟨Tx, hTx⟩ : ∃ Tx, bs p.t = Tx := ⟨_, rfl⟩
                rw [hTx] at p1
                have hT0 : 0 < Tx.size := by rw [← hTx, size_bs, hxt]; simp
                have hTb : Tx[0] = x := by subst hTx; rw [get_data _ 0 hT0]; simp [data_bs, hxt]
                by_cases hx : x = 47
                · have HPL : Hid (placeR L = true) := Lib.hid (by rw [HPV.out, hk, hxt, hx]; rfl)
                  have hTe : ((Tx[0].toNat : Int) == 47) = true := by rw [hTb, hx]; rfl
                  rw [hk] at p0
                  clear hk hxt hTx hTb hx hli
                  go_wp2_with fail
                  refine (hca _).mono ?_
                  rintro e w32 ⟨rfl, rfl⟩
                  go_wp2_with fail
                  refine (htl _ HM.out.pl).mono ?_
                  rintro e w33 ⟨rfl, hbw33⟩
                  have HM33 := Lib.hid (HM.out.below hbw33)
                  clear hbw33 x0 x1 x2 x3 x4 x5
                  obtain ⟨x0, x1, x2, x3, x4, x5⟩ := HM33.out.cells
                  go_wp2_with fail
                  have hcat : (A ++ ⟨#[63]⟩ ++ C) = bs (outP false h L true M) := by
                    unfold outP
                    rw [← HA.out, ← HC.out]
                    simp [bs_append, show (⟨#[104, 116, 116, 112, 58, 47, 47]⟩ : ByteArray) = bs [104, 116, 116, 112, 58, 47, 47] from rfl, show (⟨#[63]⟩ : ByteArray) = bs [63] from rfl]
                  have hsz : (outP false h L true M).length = A.size + 1 + C.size := by rw [← size_bs, ← hcat] <;> (simp only [ByteArray.size_append]; rfl)
                  have hval : O = if 96 < (outP false h L true M).length then ([], 4) else (outP false h L true M, 0) := by rw [← HO.out]; unfold tgtText; simp [HE10.out, HE20.out, HH1.out, HL1.out, HCA.out, HPL.out]
                  have HCAT := Lib.hid hcat
                  have HSZ := Lib.hid hsz
                  have HVAL := Lib.hid hval
                  clear hcat hsz hval
                  by_cases h96 : 96 < A.size + 1 + C.size
                  · have h96i : (96 : Int) < (A.size : Int) + 1 + (C.size : Int) := by omega
                    refine (htm _ HM33.out.pm).mono ?_
                    rintro e w34 ⟨rfl, hbw34⟩
                    have HM34 := Lib.hid (HM33.out.below hbw34)
                    clear hbw34 x0 x1 x2 x3 x4 x5
                    obtain ⟨x0, x1, x2, x3, x4, x5⟩ := HM34.out.cells
                    go_wp2_with fail
                    go_ret2
                    exact ⟨by rw [HVAL.out, if_pos (by rw [HSZ.out]; exact h96)]; rfl, HM34.out.bl⟩
                  · have h96i : ¬ (96 : Int) < (A.size : Int) + 1 + (C.size : Int) := by omega
                    refine (htm _ HM33.out.pm).mono ?_
                    rintro e w35 ⟨rfl, hbw35⟩
                    have HM35 := Lib.hid (HM33.out.below hbw35)
                    clear hbw35 x0 x1 x2 x3 x4 x5
                    obtain ⟨x0, x1, x2, x3, x4, x5⟩ := HM35.out.cells
                    go_wp2_with fail
                    go_ret2
                    exact ⟨by rw [HVAL.out, if_neg (by rw [HSZ.out]; exact h96), ← HCAT.out]; rfl, HM35.out.bl⟩
                · have HPL : Hid (placeR L = false) := Lib.hid (by rw [HPV.out, hk, hxt]; simpa using hx)
                  have hTe : ((Tx[0].toNat : Int) == 47) = false := by
                    rw [hTb, beq_eq_false_iff_ne]
                    exact fun h => hx (UInt8.toNat.inj (by simpa using (by omega : x.toNat = 47)))
                  rw [hk] at p0
                  clear hk hxt hTx hTb hx hli
                  have hO : O = ([], 3) := by rw [← HO.out]; unfold tgtText; simp [HE10.out, HE20.out, HH1.out, HL1.out, HCA.out, HPL.out]
                  have HOO := Lib.hid hO
                  clear hO
                  go_wp2_with fail
                  refine (hca _).mono ?_
                  rintro e w36 ⟨rfl, rfl⟩
                  go_wp2_with fail
                  go_ret2
                  exact ⟨by rw [HOO.out]; rfl, HM.out.bl⟩
              · have HPL : Hid (placeR L = false) := Lib.hid (by
                  rw [HPV.out]
                  have : (p.k == 1) = false := by simpa using hk
                  rw [this]; rfl)
                have hkb : (p.k != 1) = true := by simpa using hk
                clear hk hli
                have hO : O = ([], 3) := by rw [← HO.out]; unfold tgtText; simp [HE10.out, HE20.out, HH1.out, HL1.out, HCA.out, HPL.out]
                have HOO := Lib.hid hO
                clear hO
                go_wp2_with fail
                refine (hca _).mono ?_
                rintro e w37 ⟨rfl, rfl⟩
                go_wp2_with fail
                go_ret2
                exact ⟨by rw [HOO.out]; rfl, HM.out.bl⟩
      · have hh1 : h.isEmpty = false := by simpa using hh0
        have hBe : Bh.toList.isEmpty = false := by rw [HBE.out]; exact hh1
        have HH1 := Lib.hid hh1
        clear hh0 hh1
        have hO : O = ([], 3) := by rw [← HO.out]; unfold tgtText; simp [HE10.out, HE20.out, HH1.out]
        have HOO := Lib.hid hO
        clear hO
        go_wp2_with fail
        go_ret2
        exact ⟨by rw [HOO.out]; rfl, HM.out.bl⟩
    · by_cases hh0 : h = []
      · have hh1 : h.isEmpty = true := by rw [hh0]; rfl
        have hBe : Bh.toList.isEmpty = true := by rw [HBE.out]; exact hh1
        have HH1 := Lib.hid hh1
        clear hh0 hh1
        have hO : O = ([], 3) := by rw [← HO.out]; unfold tgtText; simp [HE10.out, HE20.out, HH1.out]
        have HOO := Lib.hid hO
        clear hO
        go_wp2_with fail
        go_ret2
        exact ⟨by rw [HOO.out]; rfl, HM.out.bl⟩
      · have hh1 : h.isEmpty = false := by simpa using hh0
        have hBe : Bh.toList.isEmpty = false := by rw [HBE.out]; exact hh1
        have HH1 := Lib.hid hh1
        clear hh0 hh1
        rcases CA with _ | _
        · rcases hq with _ | _
          · by_cases hM0 : M = []
            · have hm1 : M.isEmpty = true := by rw [hM0]; rfl
              have hmz : decide (0 < M.length) = false := by rw [hM0]; rfl
              have HMm := Lib.hid hm1
              clear hM0 hm1
              by_cases hL0 : L = []
              · have hl1 : L.isEmpty = true := by rw [hL0]; rfl
                have hlz : decide (0 < L.length) = false := by rw [hL0]; rfl
                have HL1 := Lib.hid hl1
                clear hL0 hl1
                have HPL : Hid (placeR L = true) := Lib.hid (by have := HL1.out; rw [List.isEmpty_iff] at this; rw [this]; rfl)
                go_wp2_with fail
                refine (hca _).mono ?_
                rintro e w38 ⟨rfl, rfl⟩
                go_wp2_with fail
                have hcat : (⟨#[104, 116, 116, 112, 58, 47, 47]⟩ ++ Bh ++ A) = bs (outP true h L false M) := by
                  unfold outP
                  rw [← HA.out, ← HBH.out]
                  simp [bs_append, show (⟨#[104, 116, 116, 112, 58, 47, 47]⟩ : ByteArray) = bs [104, 116, 116, 112, 58, 47, 47] from rfl, show (⟨#[63]⟩ : ByteArray) = bs [63] from rfl]
                have hsz : (outP true h L false M).length = 7 + Bh.size + A.size := by rw [← size_bs, ← hcat] <;> (simp only [ByteArray.size_append]; rfl)
                have hval : O = if 96 < (outP true h L false M).length then ([], 4) else (outP true h L false M, 0) := by rw [← HO.out]; unfold tgtText; simp [HE10.out, HE20.out, HH1.out, HMm.out, HL1.out, HCA.out, HPL.out]
                have HCAT := Lib.hid hcat
                have HSZ := Lib.hid hsz
                have HVAL := Lib.hid hval
                clear hcat hsz hval
                by_cases h96 : 96 < 7 + Bh.size + A.size
                · have h96i : (96 : Int) < 7 + (Bh.size : Int) + (A.size : Int) := by omega
                  refine (htl _ HM.out.pl).mono ?_
                  rintro e w39 ⟨rfl, hbw39⟩
                  have HM39 := Lib.hid (HM.out.below hbw39)
                  clear hbw39 x0 x1 x2 x3 x4 x5
                  obtain ⟨x0, x1, x2, x3, x4, x5⟩ := HM39.out.cells
                  go_wp2_with fail
                  go_ret2
                  exact ⟨by rw [HVAL.out, if_pos (by rw [HSZ.out]; exact h96)]; rfl, HM39.out.bl⟩
                · have h96i : ¬ (96 : Int) < 7 + (Bh.size : Int) + (A.size : Int) := by omega
                  refine (htl _ HM.out.pl).mono ?_
                  rintro e w40 ⟨rfl, hbw40⟩
                  have HM40 := Lib.hid (HM.out.below hbw40)
                  clear hbw40 x0 x1 x2 x3 x4 x5
                  obtain ⟨x0, x1, x2, x3, x4, x5⟩ := HM40.out.cells
                  go_wp2_with fail
                  go_ret2
                  exact ⟨by rw [HVAL.out, if_neg (by rw [HSZ.out]; exact h96), ← HCAT.out]; rfl, HM40.out.bl⟩
              · have hl1 : L.isEmpty = false := by simpa using hL0
                have hlz : decide (0 < L.length) = true := decide_eq_true (List.length_pos_iff.2 hL0)
                have HL1 := Lib.hid hl1
                clear hL0 hl1
                obtain ⟨p, L', hLp⟩ : ∃ p L', L = p :: L' := by
                  have := HL1.out
                  rcases L with _ | ⟨p, L'⟩
                  · cases this
                  · exact ⟨p, L', rfl⟩
                have hpv : placeR L = ((p.k == 1) && (p.t.head? == some 47)) := by rw [hLp]; rfl
                have hli := HLT.out p (by rw [hLp]; simp)
                obtain ⟨pad, hpad, hpb, p0, p1, -⟩ := Parts.get (L := L) HM.out.pl 0 p (by rw [hLp]; rfl)
                have hl1 : (0 : Int) < (L.length : Int) := by rw [hLp]; simp
                subst hpad
                have e0 : pad.add (0 * 3) = pad := by unfold Addr.add; simp
                rw [e0] at p0 p1
                have HPV := Lib.hid hpv
                clear hLp hpv e0
                by_cases hk : p.k = 1
                · obtain ⟨x, t', hxt⟩ : ∃ x t', p.t = x :: t' := by
                    rcases ht : p.t with _ | ⟨x, t'⟩
                    · exact absurd ht (hli hk)
                    · exact ⟨x, t', rfl⟩
                  obtain ⟨Tx, hTx⟩ : ∃ Tx, bs p.t = Tx := ⟨_, rfl⟩
                  rw [hTx] at p1
                  have hT0 : 0 < Tx.size := by rw [← hTx, size_bs, hxt]; simp
                  have hTb : Tx[0] = x := by subst hTx; rw [get_data _ 0 hT0]; simp [data_bs, hxt]
                  by_cases hx : x = 47
                  · have HPL : Hid (placeR L = true) := Lib.hid (by rw [HPV.out, hk, hxt, hx]; rfl)
                    have hTe : ((Tx[0].toNat : Int) == 47) = true := by rw [hTb, hx]; rfl
                    rw [hk] at p0
                    clear hk hxt hTx hTb hx hli
                    go_wp2_with fail
                    refine (hca _).mono ?_
                    rintro e w41 ⟨rfl, rfl⟩
                    go_wp2_with fail
                    have hcat : (⟨#[104, 116, 116, 112, 58, 47, 47]⟩ ++ Bh ++ A) = bs (outP true h L false M) := by
                      unfold outP
                      rw [← HA.out, ← HBH.out]
                      simp [bs_append, show (⟨#[104, 116, 116, 112, 58, 47, 47]⟩ : ByteArray) = bs [104, 116, 116, 112, 58, 47, 47] from rfl, show (⟨#[63]⟩ : ByteArray) = bs [63] from rfl]
                    have hsz : (outP true h L false M).length = 7 + Bh.size + A.size := by rw [← size_bs, ← hcat] <;> (simp only [ByteArray.size_append]; rfl)
                    have hval : O = if 96 < (outP true h L false M).length then ([], 4) else (outP true h L false M, 0) := by rw [← HO.out]; unfold tgtText; simp [HE10.out, HE20.out, HH1.out, HMm.out, HL1.out, HCA.out, HPL.out]
                    have HCAT := Lib.hid hcat
                    have HSZ := Lib.hid hsz
                    have HVAL := Lib.hid hval
                    clear hcat hsz hval
                    by_cases h96 : 96 < 7 + Bh.size + A.size
                    · have h96i : (96 : Int) < 7 + (Bh.size : Int) + (A.size : Int) := by omega
                      refine (htl _ HM.out.pl).mono ?_
                      rintro e w42 ⟨rfl, hbw42⟩
                      have HM42 := Lib.hid (HM.out.below hbw42)
                      clear hbw42 x0 x1 x2 x3 x4 x5
                      obtain ⟨x0, x1, x2, x3, x4, x5⟩ := HM42.out.cells
                      go_wp2_with fail
                      go_ret2
                      exact ⟨by rw [HVAL.out, if_pos (by rw [HSZ.out]; exact h96)]; rfl, HM42.out.bl⟩
                    · have h96i : ¬ (96 : Int) < 7 + (Bh.size : Int) + (A.size : Int) := by omega
                      refine (htl _ HM.out.pl).mono ?_
                      rintro e w43 ⟨rfl, hbw43⟩
                      have HM43 := Lib.hid (HM.out.below hbw43)
                      clear hbw43 x0 x1 x2 x3 x4 x5
                      obtain ⟨x0, x1, x2, x3, x4, x5⟩ := HM43.out.cells
                      go_wp2_with fail
                      go_ret2
                      exact ⟨by rw [HVAL.out, if_neg (by rw [HSZ.out]; exact h96), ← HCAT.out]; rfl, HM43.out.bl⟩
                  · have HPL : Hid (placeR L = false) := Lib.hid (by rw [HPV.out, hk, hxt]; simpa using hx)
                    have hTe : ((Tx[0].toNat : Int) == 47) = false := by
                      rw [hTb, beq_eq_false_iff_ne]
                      exact fun h => hx (UInt8.toNat.inj (by simpa using (by omega : x.toNat = 47)))
                    rw [hk] at p0
                    clear hk hxt hTx hTb hx hli
                    have hO : O = ([], 3) := by rw [← HO.out]; unfold tgtText; simp [HE10.out, HE20.out, HH1.out, HMm.out, HL1.out, HCA.out, HPL.out]
                    have HOO := Lib.hid hO
                    clear hO
                    go_wp2_with fail
                    refine (hca _).mono ?_
                    rintro e w44 ⟨rfl, rfl⟩
                    go_wp2_with fail
                    go_ret2
                    exact ⟨by rw [HOO.out]; rfl, HM.out.bl⟩
                · have HPL : Hid (placeR L = false) := Lib.hid (by
                    rw [HPV.out]
                    have : (p.k == 1) = false := by simpa using hk
                    rw [this]; rfl)
                  have hkb : (p.k != 1) = true := by simpa using hk
                  clear hk hli
                  have hO : O = ([], 3) := by rw [← HO.out]; unfold tgtText; simp [HE10.out, HE20.out, HH1.out, HMm.out, HL1.out, HCA.out, HPL.out]
                  have HOO := Lib.hid hO
                  clear hO
                  go_wp2_with fail
                  refine (hca _).mono ?_
                  rintro e w45 ⟨rfl, rfl⟩
                  go_wp2_with fail
                  go_ret2
                  exact ⟨by rw [HOO.out]; rfl, HM.out.bl⟩
            · have hm1 : M.isEmpty = false := by simpa using hM0
              have hmz : decide (0 < M.length) = true := decide_eq_true (List.length_pos_iff.2 hM0)
              have HMm := Lib.hid hm1
              clear hM0 hm1
              have hO : O = ([], 3) := by rw [← HO.out]; unfold tgtText; simp [HE10.out, HE20.out, HH1.out, HCA.out, HMm.out]
              have HOO := Lib.hid hO
              clear hO
              go_wp2_with fail
              refine (hca _).mono ?_
              rintro e w46 ⟨rfl, rfl⟩
              go_wp2_with fail
              go_ret2
              exact ⟨by rw [HOO.out]; rfl, HM.out.bl⟩
          · by_cases hM0 : M = []
            · have hm1 : M.isEmpty = true := by rw [hM0]; rfl
              have hmz : decide (0 < M.length) = false := by rw [hM0]; rfl
              have HMm := Lib.hid hm1
              clear hM0 hm1
              by_cases hL0 : L = []
              · have hl1 : L.isEmpty = true := by rw [hL0]; rfl
                have hlz : decide (0 < L.length) = false := by rw [hL0]; rfl
                have HL1 := Lib.hid hl1
                clear hL0 hl1
                have HPL : Hid (placeR L = true) := Lib.hid (by have := HL1.out; rw [List.isEmpty_iff] at this; rw [this]; rfl)
                go_wp2_with fail
                refine (hca _).mono ?_
                rintro e w47 ⟨rfl, rfl⟩
                go_wp2_with fail
                refine (htl _ HM.out.pl).mono ?_
                rintro e w48 ⟨rfl, hbw48⟩
                have HM48 := Lib.hid (HM.out.below hbw48)
                clear hbw48 x0 x1 x2 x3 x4 x5
                obtain ⟨x0, x1, x2, x3, x4, x5⟩ := HM48.out.cells
                go_wp2_with fail
                have hcat : ((⟨#[104, 116, 116, 112, 58, 47, 47]⟩ ++ Bh ++ A) ++ ⟨#[63]⟩ ++ C) = bs (outP true h L true M) := by
                  unfold outP
                  rw [← HA.out, ← HC.out, ← HBH.out]
                  simp [bs_append, show (⟨#[104, 116, 116, 112, 58, 47, 47]⟩ : ByteArray) = bs [104, 116, 116, 112, 58, 47, 47] from rfl, show (⟨#[63]⟩ : ByteArray) = bs [63] from rfl]
                have hsz : (outP true h L true M).length = 7 + Bh.size + A.size + 1 + C.size := by rw [← size_bs, ← hcat] <;> (simp only [ByteArray.size_append]; rfl)
                have hval : O = if 96 < (outP true h L true M).length then ([], 4) else (outP true h L true M, 0) := by rw [← HO.out]; unfold tgtText; simp [HE10.out, HE20.out, HH1.out, HL1.out, HCA.out, HPL.out]
                have HCAT := Lib.hid hcat
                have HSZ := Lib.hid hsz
                have HVAL := Lib.hid hval
                clear hcat hsz hval
                by_cases h96 : 96 < 7 + Bh.size + A.size + 1 + C.size
                · have h96i : (96 : Int) < 7 + (Bh.size : Int) + (A.size : Int) + 1 + (C.size : Int) := by omega
                  refine (htm _ HM48.out.pm).mono ?_
                  rintro e w49 ⟨rfl, hbw49⟩
                  have HM49 := Lib.hid (HM48.out.below hbw49)
                  clear hbw49 x0 x1 x2 x3 x4 x5
                  obtain ⟨x0, x1, x2, x3, x4, x5⟩ := HM49.out.cells
                  go_wp2_with fail
                  go_ret2
                  exact ⟨by rw [HVAL.out, if_pos (by rw [HSZ.out]; exact h96)]; rfl, HM49.out.bl⟩
                · have h96i : ¬ (96 : Int) < 7 + (Bh.size : Int) + (A.size : Int) + 1 + (C.size : Int) := by omega
                  refine (htm _ HM48.out.pm).mono ?_
                  rintro e w50 ⟨rfl, hbw50⟩
                  have HM50 := Lib.hid (HM48.out.below hbw50)
                  clear hbw50 x0 x1 x2 x3 x4 x5
                  obtain ⟨x0, x1, x2, x3, x4, x5⟩ := HM50.out.cells
                  go_wp2_with fail
                  go_ret2
                  exact ⟨by rw [HVAL.out, if_neg (by rw [HSZ.out]; exact h96), ← HCAT.out]; rfl, HM50.out.bl⟩
              · have hl1 : L.isEmpty = false := by simpa using hL0
                have hlz : decide (0 < L.length) = true := decide_eq_true (List.length_pos_iff.2 hL0)
                have HL1 := Lib.hid hl1
                clear hL0 hl1
                obtain ⟨p, L', hLp⟩ : ∃ p L', L = p :: L' := by
                  have := HL1.out
                  rcases L with _ | ⟨p, L'⟩
                  · cases this
                  · exact ⟨p, L', rfl⟩
                have hpv : placeR L = ((p.k == 1) && (p.t.head? == some 47)) := by rw [hLp]; rfl
                have hli := HLT.out p (by rw [hLp]; simp)
                obtain ⟨pad, hpad, hpb, p0, p1, -⟩ := Parts.get (L := L) HM.out.pl 0 p (by rw [hLp]; rfl)
                have hl1 : (0 : Int) < (L.length : Int) := by rw [hLp]; simp
                subst hpad
                have e0 : pad.add (0 * 3) = pad := by unfold Addr.add; simp
                rw [e0] at p0 p1
                have HPV := Lib.hid hpv
                clear hLp hpv e0
                by_cases hk : p.k = 1
                · obtain ⟨x, t', hxt⟩ : ∃ x t', p.t = x :: t' := by
                    rcases ht : p.t with _ | ⟨x, t'⟩
                    · exact absurd ht (hli hk)
                    · exact ⟨x, t', rfl⟩
                  obtain ⟨Tx, hTx⟩ : ∃ Tx, bs p.t = Tx := ⟨_, rfl⟩
                  rw [hTx] at p1
                  have hT0 : 0 < Tx.size := by rw [← hTx, size_bs, hxt]; simp
                  have hTb : Tx[0] = x := by subst hTx; rw [get_data _ 0 hT0]; simp [data_bs, hxt]
                  by_cases hx : x = 47
                  · have HPL : Hid (placeR L = true) := Lib.hid (by rw [HPV.out, hk, hxt, hx]; rfl)
                    have hTe : ((Tx[0].toNat : Int) == 47) = true := by rw [hTb, hx]; rfl
                    rw [hk] at p0
                    clear hk hxt hTx hTb hx hli
                    go_wp2_with fail
                    refine (hca _).mono ?_
                    rintro e w51 ⟨rfl, rfl⟩
                    go_wp2_with fail
                    refine (htl _ HM.out.pl).mono ?_
                    rintro e w52 ⟨rfl, hbw52⟩
                    have HM52 := Lib.hid (HM.out.below hbw52)
                    clear hbw52 x0 x1 x2 x3 x4 x5
                    obtain ⟨x0, x1, x2, x3, x4, x5⟩ := HM52.out.cells
                    go_wp2_with fail
                    have hcat : ((⟨#[104, 116, 116, 112, 58, 47, 47]⟩ ++ Bh ++ A) ++ ⟨#[63]⟩ ++ C) = bs (outP true h L true M) := by
                      unfold outP
                      rw [← HA.out, ← HC.out, ← HBH.out]
                      simp [bs_append, show (⟨#[104, 116, 116, 112, 58, 47, 47]⟩ : ByteArray) = bs [104, 116, 116, 112, 58, 47, 47] from rfl, show (⟨#[63]⟩ : ByteArray) = bs [63] from rfl]
                    have hsz : (outP true h L true M).length = 7 + Bh.size + A.size + 1 + C.size := by rw [← size_bs, ← hcat] <;> (simp only [ByteArray.size_append]; rfl)
                    have hval : O = if 96 < (outP true h L true M).length then ([], 4) else (outP true h L true M, 0) := by rw [← HO.out]; unfold tgtText; simp [HE10.out, HE20.out, HH1.out, HL1.out, HCA.out, HPL.out]
                    have HCAT := Lib.hid hcat
                    have HSZ := Lib.hid hsz
                    have HVAL := Lib.hid hval
                    clear hcat hsz hval
                    by_cases h96 : 96 < 7 + Bh.size + A.size + 1 + C.size
                    · have h96i : (96 : Int) < 7 + (Bh.size : Int) + (A.size : Int) + 1 + (C.size : Int) := by omega
                      refine (htm _ HM52.out.pm).mono ?_
                      rintro e w53 ⟨rfl, hbw53⟩
                      have HM53 := Lib.hid (HM52.out.below hbw53)
                      clear hbw53 x0 x1 x2 x3 x4 x5
                      obtain ⟨x0, x1, x2, x3, x4, x5⟩ := HM53.out.cells
                      go_wp2_with fail
                      go_ret2
                      exact ⟨by rw [HVAL.out, if_pos (by rw [HSZ.out]; exact h96)]; rfl, HM53.out.bl⟩
                    · have h96i : ¬ (96 : Int) < 7 + (Bh.size : Int) + (A.size : Int) + 1 + (C.size : Int) := by omega
                      refine (htm _ HM52.out.pm).mono ?_
                      rintro e w54 ⟨rfl, hbw54⟩
                      have HM54 := Lib.hid (HM52.out.below hbw54)
                      clear hbw54 x0 x1 x2 x3 x4 x5
                      obtain ⟨x0, x1, x2, x3, x4, x5⟩ := HM54.out.cells
                      go_wp2_with fail
                      go_ret2
                      exact ⟨by rw [HVAL.out, if_neg (by rw [HSZ.out]; exact h96), ← HCAT.out]; rfl, HM54.out.bl⟩
                  · have HPL : Hid (placeR L = false) := Lib.hid (by rw [HPV.out, hk, hxt]; simpa using hx)
                    have hTe : ((Tx[0].toNat : Int) == 47) = false := by
                      rw [hTb, beq_eq_false_iff_ne]
                      exact fun h => hx (UInt8.toNat.inj (by simpa using (by omega : x.toNat = 47)))
                    rw [hk] at p0
                    clear hk hxt hTx hTb hx hli
                    have hO : O = ([], 3) := by rw [← HO.out]; unfold tgtText; simp [HE10.out, HE20.out, HH1.out, HL1.out, HCA.out, HPL.out]
                    have HOO := Lib.hid hO
                    clear hO
                    go_wp2_with fail
                    refine (hca _).mono ?_
                    rintro e w55 ⟨rfl, rfl⟩
                    go_wp2_with fail
                    go_ret2
                    exact ⟨by rw [HOO.out]; rfl, HM.out.bl⟩
                · have HPL : Hid (placeR L = false) := Lib.hid (by
                    rw [HPV.out]
                    have : (p.k == 1) = false := by simpa using hk
                    rw [this]; rfl)
                  have hkb : (p.k != 1) = true := by simpa using hk
                  clear hk hli
                  have hO : O = ([], 3) := by rw [← HO.out]; unfold tgtText; simp [HE10.out, HE20.out, HH1.out, HL1.out, HCA.out, HPL.out]
                  have HOO := Lib.hid hO
                  clear hO
                  go_wp2_with fail
                  refine (hca _).mono ?_
                  rintro e w56 ⟨rfl, rfl⟩
                  go_wp2_with fail
                  go_ret2
                  exact ⟨by rw [HOO.out]; rfl, HM.out.bl⟩
            · have hm1 : M.isEmpty = false := by simpa using hM0
              have hmz : decide (0 < M.length) = true := decide_eq_true (List.length_pos_iff.2 hM0)
              have HMm := Lib.hid hm1
              clear hM0 hm1
              by_cases hL0 : L = []
              · have hl1 : L.isEmpty = true := by rw [hL0]; rfl
                have hlz : decide (0 < L.length) = false := by rw [hL0]; rfl
                have HL1 := Lib.hid hl1
                clear hL0 hl1
                have HPL : Hid (placeR L = true) := Lib.hid (by have := HL1.out; rw [List.isEmpty_iff] at this; rw [this]; rfl)
                go_wp2_with fail
                refine (hca _).mono ?_
                rintro e w57 ⟨rfl, rfl⟩
                go_wp2_with fail
                refine (htl _ HM.out.pl).mono ?_
                rintro e w58 ⟨rfl, hbw58⟩
                have HM58 := Lib.hid (HM.out.below hbw58)
                clear hbw58 x0 x1 x2 x3 x4 x5
                obtain ⟨x0, x1, x2, x3, x4, x5⟩ := HM58.out.cells
                go_wp2_with fail
                have hcat : ((⟨#[104, 116, 116, 112, 58, 47, 47]⟩ ++ Bh ++ A) ++ ⟨#[63]⟩ ++ C) = bs (outP true h L true M) := by
                  unfold outP
                  rw [← HA.out, ← HC.out, ← HBH.out]
                  simp [bs_append, show (⟨#[104, 116, 116, 112, 58, 47, 47]⟩ : ByteArray) = bs [104, 116, 116, 112, 58, 47, 47] from rfl, show (⟨#[63]⟩ : ByteArray) = bs [63] from rfl]
                have hsz : (outP true h L true M).length = 7 + Bh.size + A.size + 1 + C.size := by rw [← size_bs, ← hcat] <;> (simp only [ByteArray.size_append]; rfl)
                have hval : O = if 96 < (outP true h L true M).length then ([], 4) else (outP true h L true M, 0) := by rw [← HO.out]; unfold tgtText; simp [HE10.out, HE20.out, HH1.out, HL1.out, HCA.out, HPL.out]
                have HCAT := Lib.hid hcat
                have HSZ := Lib.hid hsz
                have HVAL := Lib.hid hval
                clear hcat hsz hval
                by_cases h96 : 96 < 7 + Bh.size + A.size + 1 + C.size
                · have h96i : (96 : Int) < 7 + (Bh.size : Int) + (A.size : Int) + 1 + (C.size : Int) := by omega
                  refine (htm _ HM58.out.pm).mono ?_
                  rintro e w59 ⟨rfl, hbw59⟩
                  have HM59 := Lib.hid (HM58.out.below hbw59)
                  clear hbw59 x0 x1 x2 x3 x4 x5
                  obtain ⟨x0, x1, x2, x3, x4, x5⟩ := HM59.out.cells
                  go_wp2_with fail
                  go_ret2
                  exact ⟨by rw [HVAL.out, if_pos (by rw [HSZ.out]; exact h96)]; rfl, HM59.out.bl⟩
                · have h96i : ¬ (96 : Int) < 7 + (Bh.size : Int) + (A.size : Int) + 1 + (C.size : Int) := by omega
                  refine (htm _ HM58.out.pm).mono ?_
                  rintro e w60 ⟨rfl, hbw60⟩
                  have HM60 := Lib.hid (HM58.out.below hbw60)
                  clear hbw60 x0 x1 x2 x3 x4 x5
                  obtain ⟨x0, x1, x2, x3, x4, x5⟩ := HM60.out.cells
                  go_wp2_with fail
                  go_ret2
                  exact ⟨by rw [HVAL.out, if_neg (by rw [HSZ.out]; exact h96), ← HCAT.out]; rfl, HM60.out.bl⟩
              · have hl1 : L.isEmpty = false := by simpa using hL0
                have hlz : decide (0 < L.length) = true := decide_eq_true (List.length_pos_iff.2 hL0)
                have HL1 := Lib.hid hl1
                clear hL0 hl1
                obtain ⟨p, L', hLp⟩ : ∃ p L', L = p :: L' := by
                  have := HL1.out
                  rcases L with _ | ⟨p, L'⟩
                  · cases this
                  · exact ⟨p, L', rfl⟩
                have hpv : placeR L = ((p.k == 1) && (p.t.head? == some 47)) := by rw [hLp]; rfl
                have hli := HLT.out p (by rw [hLp]; simp)
                obtain ⟨pad, hpad, hpb, p0, p1, -⟩ := Parts.get (L := L) HM.out.pl 0 p (by rw [hLp]; rfl)
                have hl1 : (0 : Int) < (L.length : Int) := by rw [hLp]; simp
                subst hpad
                have e0 : pad.add (0 * 3) = pad := by unfold Addr.add; simp
                rw [e0] at p0 p1
                have HPV := Lib.hid hpv
                clear hLp hpv e0
                by_cases hk : p.k = 1
                · obtain ⟨x, t', hxt⟩ : ∃ x t', p.t = x :: t' := by
                    rcases ht : p.t with _ | ⟨x, t'⟩
                    · exact absurd ht (hli hk)
                    · exact ⟨x, t', rfl⟩
                  obtain ⟨Tx, hTx⟩ : ∃ Tx, bs p.t = Tx := ⟨_, rfl⟩
                  rw [hTx] at p1
                  have hT0 : 0 < Tx.size := by rw [← hTx, size_bs, hxt]; simp
                  have hTb : Tx[0] = x := by subst hTx; rw [get_data _ 0 hT0]; simp [data_bs, hxt]
                  by_cases hx : x = 47
                  · have HPL : Hid (placeR L = true) := Lib.hid (by rw [HPV.out, hk, hxt, hx]; rfl)
                    have hTe : ((Tx[0].toNat : Int) == 47) = true := by rw [hTb, hx]; rfl
                    rw [hk] at p0
                    clear hk hxt hTx hTb hx hli
                    go_wp2_with fail
                    refine (hca _).mono ?_
                    rintro e w61 ⟨rfl, rfl⟩
                    go_wp2_with fail
                    refine (htl _ HM.out.pl).mono ?_
                    rintro e w62 ⟨rfl, hbw62⟩
                    have HM62 := Lib.hid (HM.out.below hbw62)
                    clear hbw62 x0 x1 x2 x3 x4 x5
                    obtain ⟨x0, x1, x2, x3, x4, x5⟩ := HM62.out.cells
                    go_wp2_with fail
                    have hcat : ((⟨#[104, 116, 116, 112, 58, 47, 47]⟩ ++ Bh ++ A) ++ ⟨#[63]⟩ ++ C) = bs (outP true h L true M) := by
                      unfold outP
                      rw [← HA.out, ← HC.out, ← HBH.out]
                      simp [bs_append, show (⟨#[104, 116, 116, 112, 58, 47, 47]⟩ : ByteArray) = bs [104, 116, 116, 112, 58, 47, 47] from rfl, show (⟨#[63]⟩ : ByteArray) = bs [63] from rfl]
                    have hsz : (outP true h L true M).length = 7 + Bh.size + A.size + 1 + C.size := by rw [← size_bs, ← hcat] <;> (simp only [ByteArray.size_append]; rfl)
                    have hval : O = if 96 < (outP true h L true M).length then ([], 4) else (outP true h L true M, 0) := by rw [← HO.out]; unfold tgtText; simp [HE10.out, HE20.out, HH1.out, HL1.out, HCA.out, HPL.out]
                    have HCAT := Lib.hid hcat
                    have HSZ := Lib.hid hsz
                    have HVAL := Lib.hid hval
                    clear hcat hsz hval
                    by_cases h96 : 96 < 7 + Bh.size + A.size + 1 + C.size
                    · have h96i : (96 : Int) < 7 + (Bh.size : Int) + (A.size : Int) + 1 + (C.size : Int) := by omega
                      refine (htm _ HM62.out.pm).mono ?_
                      rintro e w63 ⟨rfl, hbw63⟩
                      have HM63 := Lib.hid (HM62.out.below hbw63)
                      clear hbw63 x0 x1 x2 x3 x4 x5
                      obtain ⟨x0, x1, x2, x3, x4, x5⟩ := HM63.out.cells
                      go_wp2_with fail
                      go_ret2
                      exact ⟨by rw [HVAL.out, if_pos (by rw [HSZ.out]; exact h96)]; rfl, HM63.out.bl⟩
                    · have h96i : ¬ (96 : Int) < 7 + (Bh.size : Int) + (A.size : Int) + 1 + (C.size : Int) := by omega
                      refine (htm _ HM62.out.pm).mono ?_
                      rintro e w64 ⟨rfl, hbw64⟩
                      have HM64 := Lib.hid (HM62.out.below hbw64)
                      clear hbw64 x0 x1 x2 x3 x4 x5
                      obtain ⟨x0, x1, x2, x3, x4, x5⟩ := HM64.out.cells
                      go_wp2_with fail
                      go_ret2
                      exact ⟨by rw [HVAL.out, if_neg (by rw [HSZ.out]; exact h96), ← HCAT.out]; rfl, HM64.out.bl⟩
                  · have HPL : Hid (placeR L = false) := Lib.hid (by rw [HPV.out, hk, hxt]; simpa using hx)
                    have hTe : ((Tx[0].toNat : Int) == 47) = false := by
                      rw [hTb, beq_eq_false_iff_ne]
                      exact fun h => hx (UInt8.toNat.inj (by simpa using (by omega : x.toNat = 47)))
                    rw [hk] at p0
                    clear hk hxt hTx hTb hx hli
                    have hO : O = ([], 3) := by rw [← HO.out]; unfold tgtText; simp [HE10.out, HE20.out, HH1.out, HL1.out, HCA.out, HPL.out]
                    have HOO := Lib.hid hO
                    clear hO
                    go_wp2_with fail
                    refine (hca _).mono ?_
                    rintro e w65 ⟨rfl, rfl⟩
                    go_wp2_with fail
                    go_ret2
                    exact ⟨by rw [HOO.out]; rfl, HM.out.bl⟩
                · have HPL : Hid (placeR L = false) := Lib.hid (by
                    rw [HPV.out]
                    have : (p.k == 1) = false := by simpa using hk
                    rw [this]; rfl)
                  have hkb : (p.k != 1) = true := by simpa using hk
                  clear hk hli
                  have hO : O = ([], 3) := by rw [← HO.out]; unfold tgtText; simp [HE10.out, HE20.out, HH1.out, HL1.out, HCA.out, HPL.out]
                  have HOO := Lib.hid hO
                  clear hO
                  go_wp2_with fail
                  refine (hca _).mono ?_
                  rintro e w66 ⟨rfl, rfl⟩
                  go_wp2_with fail
                  go_ret2
                  exact ⟨by rw [HOO.out]; rfl, HM.out.bl⟩
        · have hO : O = ([], 3) := by rw [← HO.out]; unfold tgtText; simp [HE10.out, HE20.out, HH1.out, HCA.out]
          have HOO := Lib.hid hO
          clear hO
          go_wp2_with fail
          refine (hca _).mono ?_
          rintro e w67 ⟨rfl, rfl⟩
          go_wp2_with fail
          go_ret2
          exact ⟨by rw [HOO.out]; rfl, HM.out.bl⟩
  · rcases ex with _ | _
    · by_cases hh0 : h = []
      · have hh1 : h.isEmpty = true := by rw [hh0]; rfl
        have hBe : Bh.toList.isEmpty = true := by rw [HBE.out]; exact hh1
        have HH1 := Lib.hid hh1
        clear hh0 hh1
        have hca0 : CA = false := by rw [← HCA.out]; have := HH1.out; rw [List.isEmpty_iff] at this; rw [this]; rfl
        subst hca0
        by_cases hL0 : L = []
        · have hl1 : L.isEmpty = true := by rw [hL0]; rfl
          have hlz : decide (0 < L.length) = false := by rw [hL0]; rfl
          have HL1 := Lib.hid hl1
          clear hL0 hl1
          rcases hq with _ | _
          · by_cases hM0 : M = []
            · have hm1 : M.isEmpty = true := by rw [hM0]; rfl
              have hmz : decide (0 < M.length) = false := by rw [hM0]; rfl
              have HMm := Lib.hid hm1
              clear hM0 hm1
              have hO : O = ([45], 0) := by rw [← HO.out]; unfold tgtText; simp [HE10.out, HE20.out, HH1.out, HL1.out, HMm.out]
              have HOO := Lib.hid hO
              clear hO
              go_wp2_with fail
              refine (hca _).mono ?_
              rintro e w68 ⟨rfl, rfl⟩
              go_wp2_with fail
              go_ret2
              exact ⟨by rw [HOO.out]; rfl, HM.out.bl⟩
            · have hm1 : M.isEmpty = false := by simpa using hM0
              have hmz : decide (0 < M.length) = true := decide_eq_true (List.length_pos_iff.2 hM0)
              have HMm := Lib.hid hm1
              clear hM0 hm1
              have hO : O = ([], 3) := by rw [← HO.out]; unfold tgtText; simp [HE10.out, HE20.out, HH1.out, HL1.out, HMm.out]
              have HOO := Lib.hid hO
              clear hO
              go_wp2_with fail
              go_ret2
              exact ⟨by rw [HOO.out]; rfl, HM.out.bl⟩
          · have hO : O = ([], 3) := by rw [← HO.out]; unfold tgtText; simp [HE10.out, HE20.out, HH1.out, HL1.out]
            have HOO := Lib.hid hO
            clear hO
            go_wp2_with fail
            go_ret2
            exact ⟨by rw [HOO.out]; rfl, HM.out.bl⟩
        · have hl1 : L.isEmpty = false := by simpa using hL0
          have hlz : decide (0 < L.length) = true := decide_eq_true (List.length_pos_iff.2 hL0)
          have HL1 := Lib.hid hl1
          clear hL0 hl1
          have hO : O = ([], 3) := by rw [← HO.out]; unfold tgtText; simp [HE10.out, HE20.out, HH1.out, HL1.out]
          have HOO := Lib.hid hO
          clear hO
          go_wp2_with fail
          go_ret2
          exact ⟨by rw [HOO.out]; rfl, HM.out.bl⟩
      · have hh1 : h.isEmpty = false := by simpa using hh0
        have hBe : Bh.toList.isEmpty = false := by rw [HBE.out]; exact hh1
        have HH1 := Lib.hid hh1
        clear hh0 hh1
        have hO : O = ([], 3) := by rw [← HO.out]; unfold tgtText; simp [HE10.out, HE20.out, HH1.out]
        have HOO := Lib.hid hO
        clear hO
        go_wp2_with fail
        go_ret2
        exact ⟨by rw [HOO.out]; rfl, HM.out.bl⟩
    · have hO : O = ([], 3) := by rw [← HO.out]; unfold tgtText; simp [HE10.out, HE20.out]
      have HOO := Lib.hid hO
      clear hO
      go_wp2_with fail
      go_ret2
      exact ⟨by rw [HOO.out]; rfl, HM.out.bl⟩
end Go.Proofs.YtllklgalghmnfaaDoor
