/- The text of a target: plain law, memory, the reference's bare. -/
import Derived.Test.YtllklgalghmnfaaDoorTplRefChecked
import Derived.Test.YtllklgalghmnfaaDoorAnyBytes
import Derived.Deep.LoopGhost
namespace Go.Proofs.YtllklgalghmnfaaDoor
open Go.RowKit Str Mem Tp
set_option linter.unusedVariables false
set_option linter.unusedSimpArgs false

def anyH (h : Tp.Bs) : Bool := hasAny h [47, 63, 36, 37, 92]
def outP (ex : Bool) (h : Tp.Bs) (L : List Part) (hq : Bool) (M : List Part) : Tp.Bs := (if ex = true then [104, 116, 116, 112, 58, 47, 47] ++ h else []) ++ textP L ++ (if hq = true then [63] ++ textP M else [])
def tgtText (sm ex : Bool) (h : Tp.Bs) (L : List Part) (hq : Bool) (M : List Part) : Tp.Bs × Int :=
  if checkR L ≠ 0 then ([], checkR L) else if checkR M ≠ 0 then ([], checkR M)
  else if sm = (ex || !h.isEmpty || !L.isEmpty || hq || !M.isEmpty) then ([], 3)
  else if sm = true then ([45], 0)
  else if ex = h.isEmpty ∨ anyH h = true ∨ placeR L = false ∨ (hq = false ∧ M.isEmpty = false) then ([], 3)
  else if 96 < (outP ex h L hq M).length then ([], 4) else (outP ex h L hq M, 0)
theorem checkR_zero {L : List Part} (h : checkR L = 0) : checkTo L false = 0 ∧ (textP L).length ≤ 96 := by
  unfold checkR at h
  split at h
  · rename_i h1; exact absurd h h1
  · rename_i h1
    split at h
    · cases h
    · exact ⟨by simpa using h1, by omega⟩
/-- A target in its box, and its parts. -/
structure TB (w W : World) (n1 : Nat) (sm ex : Bool) (Bh : ByteArray) (pa : Option Addr) (pc : Nat) (L : List Part) (hq : Bool) (qa : Option Addr) (qc : Nat) (M : List Part) : Prop where
  row : W.heap[n1]? = some (.cells [.bool sm, .bool ex, .string Bh, .slice pa L.length pc, .bool hq, .slice qa M.length qc].toArray 30 (0, 0))
  pl : Parts W pa L.length L
  pm : Parts W qa M.length M
  bl : Below w.heap.size w W
theorem TB.below {w W W' : World} {n1 : Nat} {sm ex hq : Bool} {Bh : ByteArray} {pa qa : Option Addr} {pc qc : Nat} {L M : List Part} (m : TB w W n1 sm ex Bh pa pc L hq qa qc M) (hb : Below W.heap.size W W') : TB w W' n1 sm ex Bh pa pc L hq qa qc M :=
  ⟨(hb.block _ (lt_of_cells m.row)).trans m.row, Rd.below m.pl hb, Rd.below m.pm hb, m.bl.trans (hb.mono m.bl.size)⟩
theorem TB.cells {w W : World} {n1 : Nat} {sm ex hq : Bool} {Bh : ByteArray} {pa qa : Option Addr} {pc qc : Nat} {L M : List Part} (m : TB w W n1 sm ex Bh pa pc L hq qa qc M) :
    W.cell? ⟨n1, 0, none⟩ = some (.bool sm) ∧ W.cell? ⟨n1, 1, none⟩ = some (.bool ex) ∧ W.cell? ⟨n1, 2, none⟩ = some (.string Bh) ∧ W.cell? ⟨n1, 3, none⟩ = some (.slice pa L.length pc) ∧ W.cell? ⟨n1, 4, none⟩ = some (.bool hq) ∧ W.cell? ⟨n1, 5, none⟩ = some (.slice qa M.length qc) := by
  have z0 := cell_list m.row 0
  have z1 := cell_list m.row 1
  have z2 := cell_list m.row 2
  have z3 := cell_list m.row 3
  have z4 := cell_list m.row 4
  have z5 := cell_list m.row 5
  simp only [List.getElem?_cons_zero, List.getElem?_cons_succ] at z0 z1 z2 z3 z4 z5
  exact ⟨z0, z1, z2, z3, z4, z5⟩

set_option maxRecDepth 100000 in
set_option maxHeartbeats 2000000 in
theorem bare_any (s : Tp.Bs) (hs : s.length ≤ 100000) (w : World) : Calls Tryd.prog 58 #[.string (bs s)] w fun e w' => e = .returned (.bool (!anyH s)) ∧ w' = w := by
  obtain ⟨V, hV⟩ : ∃ V, (!anyH s) = V := ⟨_, rfl⟩
  rw [hV]
  have HV := Lib.hid hV
  clear hV
  obtain ⟨T, hT⟩ : ∃ T, T = bs s := ⟨_, rfl⟩
  rw [← hT]
  have hTz : T.size = s.length := by rw [hT, size_bs]
  have HTz := Lib.hid hTz
  have hT6 : T.size ≤ 100000 := by omega
  have hTget : ∀ (j : Nat) (h : j < T.size) (h2 : j < s.length), T[j] = s[j] := fun j h h2 => by
    subst hT
    rw [get_data _ j h]
  have HTG := Lib.hid hTget
  clear hT hTz hTget
  go_enter Tryd.func58, Tryd.ntmps58
  go_wp2_with fail
  go_loopg [3] s.length (fun g i wr => ∃ k : Nat, i = .int .i64 k ∧ k + g = s.length ∧ (∀ j x, j < k → s[j]? = some x → ([47, 63, 36, 37, 92] : List UInt8).contains x = false) ∧ wr = w)
  case atStart => exact ⟨0, rfl, by omega, fun j x h => by omega, rfl⟩
  case round =>
    obtain ⟨k, rfl, hk, hall, rfl⟩ := hrel
    have HALL := Lib.hid hall
    clear hall
    by_cases hlt : k < s.length
    · obtain ⟨g', rfl⟩ : ∃ g', gk = g' + 1 := ⟨gk - 1, by omega⟩
      have hk2 : k < T.size := by have := HTz.out; omega
      have hTk := HTG.out k hk2 hlt
      have j0 : (0 : Int) ≤ (k : Int) := by omega
      have j1 : (k : Int) < (T.size : Int) := by omega
      have hyes : ([47, 63, 36, 37, 92] : List UInt8).contains s[k] = true → V = false := fun h => by
        rw [← HV.out]
        have : anyH s = true := by
          unfold anyH hasAny
          rw [List.any_eq_true]
          exact ⟨s[k], List.getElem_mem _, h⟩
        rw [this]; rfl
      have HY := Lib.hid hyes
      clear hyes
      by_cases n1 : s[k] = 47
      · have e1 : ((T[k].toNat : Int) == 47) = true := by rw [hTk, n1]; rfl
        have hv := HY.out (by rw [n1]; rfl)
        have HVF := Lib.hid hv
        clear n1 hv hTk
        go_wp2_with fail
        go_ret
        exact ⟨by rw [HVF.out]; rfl, rfl⟩
      have e1 : ((T[k].toNat : Int) == 47) = false := by
        rw [hTk, beq_eq_false_iff_ne]
        exact fun h => n1 (UInt8.toNat.inj (by simpa using (by omega : s[k].toNat = 47)))
      by_cases n2 : s[k] = 63
      · have e2 : ((T[k].toNat : Int) == 63) = true := by rw [hTk, n2]; rfl
        have hv := HY.out (by rw [n2]; rfl)
        have HVF := Lib.hid hv
        clear n1 n2 hv hTk
        go_wp2_with fail
        go_ret
        exact ⟨by rw [HVF.out]; rfl, rfl⟩
      have e2 : ((T[k].toNat : Int) == 63) = false := by
        rw [hTk, beq_eq_false_iff_ne]
        exact fun h => n2 (UInt8.toNat.inj (by simpa using (by omega : s[k].toNat = 63)))
      by_cases n3 : s[k] = 36
      · have e3 : ((T[k].toNat : Int) == 36) = true := by rw [hTk, n3]; rfl
        have hv := HY.out (by rw [n3]; rfl)
        have HVF := Lib.hid hv
        clear n1 n2 n3 hv hTk
        go_wp2_with fail
        go_ret
        exact ⟨by rw [HVF.out]; rfl, rfl⟩
      have e3 : ((T[k].toNat : Int) == 36) = false := by
        rw [hTk, beq_eq_false_iff_ne]
        exact fun h => n3 (UInt8.toNat.inj (by simpa using (by omega : s[k].toNat = 36)))
      by_cases n4 : s[k] = 37
      · have e4 : ((T[k].toNat : Int) == 37) = true := by rw [hTk, n4]; rfl
        have hv := HY.out (by rw [n4]; rfl)
        have HVF := Lib.hid hv
        clear n1 n2 n3 n4 hv hTk
        go_wp2_with fail
        go_ret
        exact ⟨by rw [HVF.out]; rfl, rfl⟩
      have e4 : ((T[k].toNat : Int) == 37) = false := by
        rw [hTk, beq_eq_false_iff_ne]
        exact fun h => n4 (UInt8.toNat.inj (by simpa using (by omega : s[k].toNat = 37)))
      by_cases n5 : s[k] = 92
      · have e5 : ((T[k].toNat : Int) == 92) = true := by rw [hTk, n5]; rfl
        have hv := HY.out (by rw [n5]; rfl)
        have HVF := Lib.hid hv
        clear n1 n2 n3 n4 n5 hv hTk
        go_wp2_with fail
        go_ret
        exact ⟨by rw [HVF.out]; rfl, rfl⟩
      have e5 : ((T[k].toNat : Int) == 92) = false := by
        rw [hTk, beq_eq_false_iff_ne]
        exact fun h => n5 (UInt8.toNat.inj (by simpa using (by omega : s[k].toNat = 92)))
      have hno : ([47, 63, 36, 37, 92] : List UInt8).contains s[k] = false := by simp [n1, n2, n3, n4, n5]
      have hall2 : ∀ j x, j < k + 1 → s[j]? = some x → ([47, 63, 36, 37, 92] : List UInt8).contains x = false := fun j x hj hx => by
        by_cases hjk : j = k
        · rw [hjk, List.getElem?_eq_getElem hlt] at hx; injection hx with hx; rw [← hx]; exact hno
        · exact HALL.out j x (by omega) hx
      have HA2 := Lib.hid hall2
      clear n1 n2 n3 n4 n5 hno hall2 hTk
      go_wp2_with fail
      go_roundg g'
      case measure => omega
      case rel => exact ⟨k + 1, by go_num, by omega, HA2.out, rfl⟩
    · obtain rfl : k = s.length := by omega
      have hnk : ¬ (s.length : Int) < (T.size : Int) := by have := HTz.out; omega
      go_wp2_with fail
      go_ret
      refine ⟨?_, rfl⟩
      rw [← HV.out]
      have : anyH s = false := by
        unfold anyH hasAny
        rw [List.any_eq_false]
        intro x hx
        obtain ⟨j, hj, e⟩ := List.getElem_of_mem hx
        have := HALL.out j x hj (by rw [List.getElem?_eq_getElem hj, e])
        rw [this]; simp
      rw [this]
      rfl
end Go.Proofs.YtllklgalghmnfaaDoor
namespace Go.Proofs.YtllklgalghmnfaaDoor
open Go.RowKit Str Mem Tp
set_option linter.unusedVariables false
set_option linter.unusedSimpArgs false

set_option maxRecDepth 100000 in
set_option maxHeartbeats 8000000 in
theorem targetText_any (sm ex hq : Bool) (h : Tp.Bs) (pa qa : Option Addr) (pc qc : Nat) (L M : List Part) (w : World) (hN : Nm w) (hL : Parts w pa L.length L) (hM : Parts w qa M.length M) (hh : h.length ≤ 1000) (hLn : L.length ≤ 1000) (hMn : M.length ≤ 1000) (hLc : L.length ≤ pc) (hMc : M.length ≤ qc) (hpc : pc ≤ maxLen) (hqc : qc ≤ maxLen) (hLt : ∀ p ∈ L, p.t.length ≤ 1000) (hMt : ∀ p ∈ M, p.t.length ≤ 1000) :
    Calls Tryd.prog 20 #[tgtV sm ex h pa L.length pc hq qa M.length qc] w fun e w' => e = .returned (.tuple #[.string (bs (tgtText sm ex h L hq M).1), .int .i64 (tgtText sm ex h L hq M).2]) ∧ Below w.heap.size w w' := by
  obtain ⟨O, hO⟩ : ∃ O, tgtText sm ex h L hq M = O := ⟨_, rfl⟩
  rw [hO]
  have HO := Lib.hid hO
  obtain ⟨Bh, hBh⟩ : ∃ Bh, bs h = Bh := ⟨_, rfl⟩
  have hBz : Bh.size ≤ 1000 := by rw [← hBh, size_bs]; exact hh
  have hBe : Bh.toList.isEmpty = h.isEmpty := by rw [← hBh, toList_data, data_bs]
  have HBE := Lib.hid hBe
  have HBH := Lib.hid hBh
  have hca := fun W => containsAny_at Bh ⟨#[47, 63, 36, 37, 92]⟩ (by omega) (by decide) (by decide) (by decide) W
  have hcd : hasAny Bh.data.toList (ByteArray.data ⟨#[47, 63, 36, 37, 92]⟩).toList = anyH h := by rw [← hBh, data_bs]; rfl
  rw [hcd] at hca
  have hcl := fun W hp hn => check_any pa pc L W hp (by omega) hLc hpc (fun p hp => by have := hLt p hp; omega) hn
  have hcm := fun W hp hn => check_any qa qc M W hp (by omega) hMc hqc (fun p hp => by have := hMt p hp; omega) hn
  have htl : checkR L = 0 → ∀ W, Parts W pa L.length L → Nm W → Calls Tryd.prog 57 #[.slice pa L.length pc] W fun e w' => e = .returned (.string (bs (textP L))) ∧ Below W.heap.size W w' := fun h0 W hp hn => text_any pa pc L W hp (by omega) (fun p hp => (one_fitX p (checkTo_fit L false (checkR_zero h0).1 p hp) (by have := hLt p hp; omega)).w) hn
  have htm : checkR M = 0 → ∀ W, Parts W qa M.length M → Nm W → Calls Tryd.prog 57 #[.slice qa M.length qc] W fun e w' => e = .returned (.string (bs (textP M))) ∧ Below W.heap.size W w' := fun h0 W hp hn => text_any qa qc M W hp (by omega) (fun p hp => (one_fitX p (checkTo_fit M false (checkR_zero h0).1 p hp) (by have := hMt p hp; omega)).w) hn
  have hpl := fun W hp => place_any pa pc L W hp hLn (fun p hp => by have := hLt p hp; omega)
  have HTL := Lib.hid htl
  have HTM := Lib.hid htm
  have hm0 : TB w (w.alloc (.cells #[.bool sm, .bool ex, .string Bh, .slice pa L.length pc, .bool hq, .slice qa M.length qc] 30)) w.heap.size sm ex Bh pa pc L hq qa qc M :=
    ⟨World.alloc_heap_new _ _, Rd.alloc hL _, Rd.alloc hM _, (Below.refl _ w).alloc (Nat.le_refl _) _⟩
  have HM0 := Lib.hid hm0
  have hLz : (L.length : Int) = (L.length : Int) := rfl
  unfold tgtV
  rw [hBh]
  clear hO hBh hBe hcd htl htm hm0 hL hM hLz hLt hMt
  obtain ⟨E1, hE1⟩ : ∃ E, checkR L = E := ⟨_, rfl⟩
  obtain ⟨E2, hE2⟩ : ∃ E, checkR M = E := ⟨_, rfl⟩
  rw [hE1] at hcl
  rw [hE2] at hcm
  have HE1 := Lib.hid hE1
  have HE2 := Lib.hid hE2
  obtain ⟨CA, hCA⟩ : ∃ E, anyH h = E := ⟨_, rfl⟩
  obtain ⟨PL, hPL⟩ : ∃ E, placeR L = E := ⟨_, rfl⟩
  rw [hCA] at hca
  rw [hPL] at hpl
  have HCA := Lib.hid hCA
  have HPL := Lib.hid hPL
  clear hE1 hE2 hCA hPL
  go_enter Tryd.func20, Tryd.ntmps20
  obtain ⟨x0, x1, x2, x3, x4, x5⟩ := HM0.out.cells
  go_wp2_with fail
  have HS0 := Lib.hid (World.alloc_heap_new (w.alloc (.cells #[.bool sm, .bool ex, .string Bh, .slice pa L.length pc, .bool hq, .slice qa M.length qc] 30)) (.cells #[.slice pa L.length pc, .slice qa M.length qc] 23))
  rw [show (w.alloc (.cells #[.bool sm, .bool ex, .string Bh, .slice pa L.length pc, .bool hq, .slice qa M.length qc] 30)).heap.size = w.heap.size + 1 from by simp] at HS0
  have HM1 := Lib.hid (HM0.out.below ((Below.refl _ _).alloc (Nat.le_refl _) (.cells #[.slice pa L.length pc, .slice qa M.length qc] 23)))
  go_loopg [15] 2 (fun g i W => ∃ k : Nat, i = .int .i64 k ∧ k ≤ 2 ∧ 2 ≤ k + g ∧ (1 ≤ k → E1 = 0) ∧ (2 ≤ k → E2 = 0) ∧ TB w W w.heap.size sm ex Bh pa pc L hq qa qc M ∧ W.heap[w.heap.size + 1]? = some (.cells [.slice pa L.length pc, .slice qa M.length qc].toArray 23 (0, 0)))
  case atStart => exact ⟨0, rfl, by omega, by omega, fun h => by omega, fun h => by omega, HM1.out, HS0.out⟩
  case round =>
    clear HM0 HM1 HS0 x0 x1 x2 x3 x4 x5
    obtain ⟨k, rfl, hk, hkg, he1, he2, hm, hs⟩ := hrel
    have HM := Lib.hid hm
    have HS := Lib.hid hs
    have hNr : Nm wr := hN.below hm.bl hN.lt
    have s0 := cell_list hs 0
    have s1 := cell_list hs 1
    simp only [List.getElem?_cons_zero, List.getElem?_cons_succ] at s0 s1
    clear hm hs
    have hk3 : k = 0 ∨ k = 1 ∨ k = 2 := by omega
    rcases hk3 with rfl | rfl | rfl
    · obtain ⟨g', rfl⟩ : ∃ g', gk = g' + 1 := ⟨gk - 1, by omega⟩
      have HC := Lib.hid (hcl _ HM.out.pl hNr)
      clear he1 he2 s1
      go_wp2_with fail
      refine HC.out.mono ?_
      rintro e w2 ⟨rfl, h2⟩
      have M2 := HM.out.below h2
      have HM2 := Lib.hid M2
      have HS2 := Lib.hid ((h2.block _ (lt_of_cells HS.out)).trans HS.out)
      clear HC M2 s0
      by_cases hE : E1 = 0
      · have hEb : (E1 == 0) = true := by simpa using hE
        have hEb2 : (E1 != 0) = false := by simpa using hE
        have HE0 := Lib.hid hE
        clear hE
        go_wp2_with fail
        go_roundg g'
        case measure => omega
        case rel => exact ⟨1, rfl, by omega, by omega, fun _ => HE0.out, fun h => by omega, HM2.out, HS2.out⟩
      · have hEb : (E1 != 0) = true := by simpa using hE
        have hO : O = ([], E1) := by rw [← HO.out]; unfold tgtText; rw [HE1.out, if_pos hE]
        have HOO := Lib.hid hO
        clear hE hO
        go_wp2_with fail
        go_ret2
        exact ⟨by rw [HOO.out]; rfl, HM2.out.bl⟩
    · obtain ⟨g', rfl⟩ : ∃ g', gk = g' + 1 := ⟨gk - 1, by omega⟩
      have HC := Lib.hid (hcm _ HM.out.pm hNr)
      have HE10 := Lib.hid (he1 (by omega))
      clear he1 he2 s0
      go_wp2_with fail
      refine HC.out.mono ?_
      rintro e w2 ⟨rfl, h2⟩
      have M2 := HM.out.below h2
      have HM2 := Lib.hid M2
      have HS2 := Lib.hid ((h2.block _ (lt_of_cells HS.out)).trans HS.out)
      clear HC M2 s1
      by_cases hE : E2 = 0
      · have hEb : (E2 == 0) = true := by simpa using hE
        have hEb2 : (E2 != 0) = false := by simpa using hE
        have HE0 := Lib.hid hE
        clear hE
        go_wp2_with fail
        go_roundg g'
        case measure => omega
        case rel => exact ⟨2, rfl, by omega, by omega, fun _ => HE10.out, fun _ => HE0.out, HM2.out, HS2.out⟩
      · have hEb : (E2 != 0) = true := by simpa using hE
        have hO : O = ([], E2) := by rw [← HO.out]; unfold tgtText; rw [HE1.out, HE10.out, HE2.out, if_neg (by simp), if_pos hE]
        have HOO := Lib.hid hO
        clear hE hO
        go_wp2_with fail
        go_ret2
        exact ⟨by rw [HOO.out]; rfl, HM2.out.bl⟩
    · have HE10 := Lib.hid (HE1.out.trans (he1 (by omega)))
      have HE20 := Lib.hid (HE2.out.trans (he2 (by omega)))
      obtain ⟨z1, zl⟩ := checkR_zero HE10.out
      obtain ⟨z2, zm⟩ := checkR_zero HE20.out
      have htl := HTL.out HE10.out
      have htm := HTM.out HE20.out
      obtain ⟨A, hA⟩ : ∃ A, bs (textP L) = A := ⟨_, rfl⟩
      obtain ⟨C, hC⟩ : ∃ A, bs (textP M) = A := ⟨_, rfl⟩
      have hAz : A.size ≤ 96 := by rw [← hA, size_bs]; exact zl
      have hCz : C.size ≤ 96 := by rw [← hC, size_bs]; exact zm
      rw [hA] at htl
      rw [hC] at htm
      have HA := Lib.hid hA
      have HC := Lib.hid hC
      obtain ⟨x0, x1, x2, x3, x4, x5⟩ := HM.out.cells
      clear he1 he2 s0 s1 hA hC z1 z2 zl zm hcl hcm HTL HTM HE1 HE2
      rcases sm with _ | _
      · rcases ex with _ | _
        · by_cases hh0 : h = []
          · have hh1 : h.isEmpty = true := by rw [hh0]; rfl
            have hBe : Bh.toList.isEmpty = true := by rw [HBE.out]; exact hh1
            have HH1 := Lib.hid hh1
            clear hh0 hh1
            have hca0 : CA = false := by rw [← HCA.out]; have := HH1.out; rw [List.isEmpty_iff] at this; rw [this]; rfl
            subst hca0
            by_cases hL0 : L = []
            · have hl1 : L.isEmpty = true := by rw [hL0]; rfl
              have hlz : decide (0 < L.length) = false := by rw [hL0]; rfl
              have HL1 := Lib.hid hl1
              clear hL0 hl1
              have hpl0 : PL = true := by rw [← HPL.out]; have := HL1.out; rw [List.isEmpty_iff] at this; rw [this]; rfl
              subst hpl0
              rcases hq with _ | _
              · by_cases hM0 : M = []
                · have hm1 : M.isEmpty = true := by rw [hM0]; rfl
                  have hmz : decide (0 < M.length) = false := by rw [hM0]; rfl
                  have HMm := Lib.hid hm1
                  clear hM0 hm1
                  have hO : O = ([], 3) := by rw [← HO.out]; unfold tgtText; simp [HE10.out, HE20.out, HH1.out, HL1.out, HMm.out]
                  have HOO := Lib.hid hO
                  clear hO
                  go_wp2_with fail
                  go_ret2
                  exact ⟨by rw [HOO.out]; rfl, HM.out.bl⟩
                · have hm1 : M.isEmpty = false := by simpa using hM0
                  have hmz : decide (0 < M.length) = true := decide_eq_true (List.length_pos_iff.2 hM0)
                  have HMm := Lib.hid hm1
                  clear hM0 hm1
                  have hO : O = ([], 3) := by rw [← HO.out]; unfold tgtText; simp [HE10.out, HE20.out, HH1.out, HL1.out, HCA.out, HPL.out, HMm.out]
                  have HOO := Lib.hid hO
                  clear hO
                  go_wp2_with fail
                  refine (hca _).mono ?_
                  rintro e w11 ⟨rfl, hbw11⟩
                  have HM11 := Lib.hid (HM.out.below hbw11)
                  clear hbw11 x0 x1 x2 x3 x4 x5
                  obtain ⟨x0, x1, x2, x3, x4, x5⟩ := HM11.out.cells
                  go_wp2_with fail
                  refine (hpl _ HM11.out.pl).mono ?_
                  rintro e w12 ⟨rfl, hbw12⟩
                  have HM12 := Lib.hid (HM11.out.below hbw12)
                  clear hbw12 x0 x1 x2 x3 x4 x5
                  obtain ⟨x0, x1, x2, x3, x4, x5⟩ := HM12.out.cells
                  go_wp2_with fail
                  go_ret2
                  exact ⟨by rw [HOO.out]; rfl, HM12.out.bl⟩
              · go_wp2_with fail
                refine (hca _).mono ?_
                rintro e w13 ⟨rfl, hbw13⟩
                have HM13 := Lib.hid (HM.out.below hbw13)
                clear hbw13 x0 x1 x2 x3 x4 x5
                obtain ⟨x0, x1, x2, x3, x4, x5⟩ := HM13.out.cells
                go_wp2_with fail
                refine (hpl _ HM13.out.pl).mono ?_
                rintro e w14 ⟨rfl, hbw14⟩
                have HM14 := Lib.hid (HM13.out.below hbw14)
                clear hbw14 x0 x1 x2 x3 x4 x5
                obtain ⟨x0, x1, x2, x3, x4, x5⟩ := HM14.out.cells
                go_wp2_with fail
                refine (htl _ HM14.out.pl (hN.below HM14.out.bl hN.lt)).mono ?_
                rintro e w15 ⟨rfl, hbw15⟩
                have HM15 := Lib.hid (HM14.out.below hbw15)
                clear hbw15 x0 x1 x2 x3 x4 x5
                obtain ⟨x0, x1, x2, x3, x4, x5⟩ := HM15.out.cells
                go_wp2_with fail
                have hcat : (A ++ (⟨#[63]⟩ ++ C)) = bs (outP false h L true M) := by
                  unfold outP
                  rw [← HA.out, ← HC.out]
                  simp [bs_append, show (⟨#[104, 116, 116, 112, 58, 47, 47]⟩ : ByteArray) = bs [104, 116, 116, 112, 58, 47, 47] from rfl, show (⟨#[63]⟩ : ByteArray) = bs [63] from rfl]
                have hsz : (outP false h L true M).length = A.size + (1 + C.size) := by rw [← size_bs, ← hcat] <;> (simp only [ByteArray.size_append]; rfl)
                have hval : O = if 96 < (outP false h L true M).length then ([], 4) else (outP false h L true M, 0) := by rw [← HO.out]; unfold tgtText; simp [HE10.out, HE20.out, HH1.out, HL1.out, HCA.out, HPL.out]
                have HCAT := Lib.hid hcat
                have HSZ := Lib.hid hsz
                have HVAL := Lib.hid hval
                clear hcat hsz hval
                by_cases h96 : 96 < A.size + (1 + C.size)
                · have h96i : (96 : Int) < (A.size : Int) + (1 + (C.size : Int)) := by omega
                  refine (htm _ HM15.out.pm (hN.below HM15.out.bl hN.lt)).mono ?_
                  rintro e w16 ⟨rfl, hbw16⟩
                  have HM16 := Lib.hid (HM15.out.below hbw16)
                  clear hbw16 x0 x1 x2 x3 x4 x5
                  obtain ⟨x0, x1, x2, x3, x4, x5⟩ := HM16.out.cells
                  go_wp2_with fail
                  go_ret2
                  exact ⟨by rw [HVAL.out, if_pos (by rw [HSZ.out]; exact h96)]; rfl, HM16.out.bl⟩
                · have h96i : ¬ (96 : Int) < (A.size : Int) + (1 + (C.size : Int)) := by omega
                  refine (htm _ HM15.out.pm (hN.below HM15.out.bl hN.lt)).mono ?_
                  rintro e w17 ⟨rfl, hbw17⟩
                  have HM17 := Lib.hid (HM15.out.below hbw17)
                  clear hbw17 x0 x1 x2 x3 x4 x5
                  obtain ⟨x0, x1, x2, x3, x4, x5⟩ := HM17.out.cells
                  go_wp2_with fail
                  go_ret2
                  exact ⟨by rw [HVAL.out, if_neg (by rw [HSZ.out]; exact h96), ← HCAT.out]; rfl, HM17.out.bl⟩
            · have hl1 : L.isEmpty = false := by simpa using hL0
              have hlz : decide (0 < L.length) = true := decide_eq_true (List.length_pos_iff.2 hL0)
              have HL1 := Lib.hid hl1
              clear hL0 hl1
              rcases PL with _ | _
              · have hO : O = ([], 3) := by rw [← HO.out]; unfold tgtText; simp [HE10.out, HE20.out, HH1.out, HL1.out, HCA.out, HPL.out]
                have HOO := Lib.hid hO
                clear hO
                go_wp2_with fail
                refine (hca _).mono ?_
                rintro e w18 ⟨rfl, hbw18⟩
                have HM18 := Lib.hid (HM.out.below hbw18)
                clear hbw18 x0 x1 x2 x3 x4 x5
                obtain ⟨x0, x1, x2, x3, x4, x5⟩ := HM18.out.cells
                go_wp2_with fail
                refine (hpl _ HM18.out.pl).mono ?_
                rintro e w19 ⟨rfl, hbw19⟩
                have HM19 := Lib.hid (HM18.out.below hbw19)
                clear hbw19 x0 x1 x2 x3 x4 x5
                obtain ⟨x0, x1, x2, x3, x4, x5⟩ := HM19.out.cells
                go_wp2_with fail
                go_ret2
                exact ⟨by rw [HOO.out]; rfl, HM19.out.bl⟩
              · rcases hq with _ | _
                · by_cases hM0 : M = []
                  · have hm1 : M.isEmpty = true := by rw [hM0]; rfl
                    have hmz : decide (0 < M.length) = false := by rw [hM0]; rfl
                    have HMm := Lib.hid hm1
                    clear hM0 hm1
                    go_wp2_with fail
                    refine (hca _).mono ?_
                    rintro e w20 ⟨rfl, hbw20⟩
                    have HM20 := Lib.hid (HM.out.below hbw20)
                    clear hbw20 x0 x1 x2 x3 x4 x5
                    obtain ⟨x0, x1, x2, x3, x4, x5⟩ := HM20.out.cells
                    go_wp2_with fail
                    refine (hpl _ HM20.out.pl).mono ?_
                    rintro e w21 ⟨rfl, hbw21⟩
                    have HM21 := Lib.hid (HM20.out.below hbw21)
                    clear hbw21 x0 x1 x2 x3 x4 x5
                    obtain ⟨x0, x1, x2, x3, x4, x5⟩ := HM21.out.cells
                    go_wp2_with fail
                    have hcat : A = bs (outP false h L false M) := by
                      unfold outP
                      rw [← HA.out]
                      simp [bs_append, show (⟨#[104, 116, 116, 112, 58, 47, 47]⟩ : ByteArray) = bs [104, 116, 116, 112, 58, 47, 47] from rfl, show (⟨#[63]⟩ : ByteArray) = bs [63] from rfl]
                    have hsz : (outP false h L false M).length = A.size := by rw [← size_bs, ← hcat] <;> (simp only [ByteArray.size_append]; rfl)
                    have hval : O = if 96 < (outP false h L false M).length then ([], 4) else (outP false h L false M, 0) := by rw [← HO.out]; unfold tgtText; simp [HE10.out, HE20.out, HH1.out, HL1.out, HCA.out, HPL.out, HMm.out]
                    have HCAT := Lib.hid hcat
                    have HSZ := Lib.hid hsz
                    have HVAL := Lib.hid hval
                    clear hcat hsz hval
                    by_cases h96 : 96 < A.size
                    · have h96i : (96 : Int) < (A.size : Int) := by omega
                      exact absurd h96 (by omega)
                    · have h96i : ¬ (96 : Int) < (A.size : Int) := by omega
                      refine (htl _ HM21.out.pl (hN.below HM21.out.bl hN.lt)).mono ?_
                      rintro e w23 ⟨rfl, hbw23⟩
                      have HM23 := Lib.hid (HM21.out.below hbw23)
                      clear hbw23 x0 x1 x2 x3 x4 x5
                      obtain ⟨x0, x1, x2, x3, x4, x5⟩ := HM23.out.cells
                      go_wp2_with fail
                      go_ret2
                      exact ⟨by rw [HVAL.out, if_neg (by rw [HSZ.out]; exact h96), ← HCAT.out]; rfl, HM23.out.bl⟩
                  · have hm1 : M.isEmpty = false := by simpa using hM0
                    have hmz : decide (0 < M.length) = true := decide_eq_true (List.length_pos_iff.2 hM0)
                    have HMm := Lib.hid hm1
                    clear hM0 hm1
                    have hO : O = ([], 3) := by rw [← HO.out]; unfold tgtText; simp [HE10.out, HE20.out, HH1.out, HL1.out, HCA.out, HPL.out, HMm.out]
                    have HOO := Lib.hid hO
                    clear hO
                    go_wp2_with fail
                    refine (hca _).mono ?_
                    rintro e w24 ⟨rfl, hbw24⟩
                    have HM24 := Lib.hid (HM.out.below hbw24)
                    clear hbw24 x0 x1 x2 x3 x4 x5
                    obtain ⟨x0, x1, x2, x3, x4, x5⟩ := HM24.out.cells
                    go_wp2_with fail
                    refine (hpl _ HM24.out.pl).mono ?_
                    rintro e w25 ⟨rfl, hbw25⟩
                    have HM25 := Lib.hid (HM24.out.below hbw25)
                    clear hbw25 x0 x1 x2 x3 x4 x5
                    obtain ⟨x0, x1, x2, x3, x4, x5⟩ := HM25.out.cells
                    go_wp2_with fail
                    go_ret2
                    exact ⟨by rw [HOO.out]; rfl, HM25.out.bl⟩
                · go_wp2_with fail
                  refine (hca _).mono ?_
                  rintro e w26 ⟨rfl, hbw26⟩
                  have HM26 := Lib.hid (HM.out.below hbw26)
                  clear hbw26 x0 x1 x2 x3 x4 x5
                  obtain ⟨x0, x1, x2, x3, x4, x5⟩ := HM26.out.cells
                  go_wp2_with fail
                  refine (hpl _ HM26.out.pl).mono ?_
                  rintro e w27 ⟨rfl, hbw27⟩
                  have HM27 := Lib.hid (HM26.out.below hbw27)
                  clear hbw27 x0 x1 x2 x3 x4 x5
                  obtain ⟨x0, x1, x2, x3, x4, x5⟩ := HM27.out.cells
                  go_wp2_with fail
                  refine (htl _ HM27.out.pl (hN.below HM27.out.bl hN.lt)).mono ?_
                  rintro e w28 ⟨rfl, hbw28⟩
                  have HM28 := Lib.hid (HM27.out.below hbw28)
                  clear hbw28 x0 x1 x2 x3 x4 x5
                  obtain ⟨x0, x1, x2, x3, x4, x5⟩ := HM28.out.cells
                  go_wp2_with fail
                  have hcat : (A ++ (⟨#[63]⟩ ++ C)) = bs (outP false h L true M) := by
                    unfold outP
                    rw [← HA.out, ← HC.out]
                    simp [bs_append, show (⟨#[104, 116, 116, 112, 58, 47, 47]⟩ : ByteArray) = bs [104, 116, 116, 112, 58, 47, 47] from rfl, show (⟨#[63]⟩ : ByteArray) = bs [63] from rfl]
                  have hsz : (outP false h L true M).length = A.size + (1 + C.size) := by rw [← size_bs, ← hcat] <;> (simp only [ByteArray.size_append]; rfl)
                  have hval : O = if 96 < (outP false h L true M).length then ([], 4) else (outP false h L true M, 0) := by rw [← HO.out]; unfold tgtText; simp [HE10.out, HE20.out, HH1.out, HL1.out, HCA.out, HPL.out]
                  have HCAT := Lib.hid hcat
                  have HSZ := Lib.hid hsz
                  have HVAL := Lib.hid hval
                  clear hcat hsz hval
                  by_cases h96 : 96 < A.size + (1 + C.size)
                  · have h96i : (96 : Int) < (A.size : Int) + (1 + (C.size : Int)) := by omega
                    refine (htm _ HM28.out.pm (hN.below HM28.out.bl hN.lt)).mono ?_
                    rintro e w29 ⟨rfl, hbw29⟩
                    have HM29 := Lib.hid (HM28.out.below hbw29)
                    clear hbw29 x0 x1 x2 x3 x4 x5
                    obtain ⟨x0, x1, x2, x3, x4, x5⟩ := HM29.out.cells
                    go_wp2_with fail
                    go_ret2
                    exact ⟨by rw [HVAL.out, if_pos (by rw [HSZ.out]; exact h96)]; rfl, HM29.out.bl⟩
                  · have h96i : ¬ (96 : Int) < (A.size : Int) + (1 + (C.size : Int)) := by omega
                    refine (htm _ HM28.out.pm (hN.below HM28.out.bl hN.lt)).mono ?_
                    rintro e w30 ⟨rfl, hbw30⟩
                    have HM30 := Lib.hid (HM28.out.below hbw30)
                    clear hbw30 x0 x1 x2 x3 x4 x5
                    obtain ⟨x0, x1, x2, x3, x4, x5⟩ := HM30.out.cells
                    go_wp2_with fail
                    go_ret2
                    exact ⟨by rw [HVAL.out, if_neg (by rw [HSZ.out]; exact h96), ← HCAT.out]; rfl, HM30.out.bl⟩
          · have hh1 : h.isEmpty = false := by simpa using hh0
            have hBe : Bh.toList.isEmpty = false := by rw [HBE.out]; exact hh1
            have HH1 := Lib.hid hh1
            clear hh0 hh1
            have hO : O = ([], 3) := by rw [← HO.out]; unfold tgtText; simp [HE10.out, HE20.out, HH1.out]
            have HOO := Lib.hid hO
            clear hO
            go_wp2_with fail
            go_ret2
            exact ⟨by rw [HOO.out]; rfl, HM.out.bl⟩
        · by_cases hh0 : h = []
          · have hh1 : h.isEmpty = true := by rw [hh0]; rfl
            have hBe : Bh.toList.isEmpty = true := by rw [HBE.out]; exact hh1
            have HH1 := Lib.hid hh1
            clear hh0 hh1
            have hO : O = ([], 3) := by rw [← HO.out]; unfold tgtText; simp [HE10.out, HE20.out, HH1.out]
            have HOO := Lib.hid hO
            clear hO
            go_wp2_with fail
            go_ret2
            exact ⟨by rw [HOO.out]; rfl, HM.out.bl⟩
          · have hh1 : h.isEmpty = false := by simpa using hh0
            have hBe : Bh.toList.isEmpty = false := by rw [HBE.out]; exact hh1
            have HH1 := Lib.hid hh1
            clear hh0 hh1
            rcases CA with _ | _
            · rcases PL with _ | _
              · have hO : O = ([], 3) := by rw [← HO.out]; unfold tgtText; simp [HE10.out, HE20.out, HH1.out, HCA.out, HPL.out]
                have HOO := Lib.hid hO
                clear hO
                go_wp2_with fail
                refine (hca _).mono ?_
                rintro e w31 ⟨rfl, hbw31⟩
                have HM31 := Lib.hid (HM.out.below hbw31)
                clear hbw31 x0 x1 x2 x3 x4 x5
                obtain ⟨x0, x1, x2, x3, x4, x5⟩ := HM31.out.cells
                go_wp2_with fail
                refine (hpl _ HM31.out.pl).mono ?_
                rintro e w32 ⟨rfl, hbw32⟩
                have HM32 := Lib.hid (HM31.out.below hbw32)
                clear hbw32 x0 x1 x2 x3 x4 x5
                obtain ⟨x0, x1, x2, x3, x4, x5⟩ := HM32.out.cells
                go_wp2_with fail
                go_ret2
                exact ⟨by rw [HOO.out]; rfl, HM32.out.bl⟩
              · rcases hq with _ | _
                · by_cases hM0 : M = []
                  · have hm1 : M.isEmpty = true := by rw [hM0]; rfl
                    have hmz : decide (0 < M.length) = false := by rw [hM0]; rfl
                    have HMm := Lib.hid hm1
                    clear hM0 hm1
                    go_wp2_with fail
                    refine (hca _).mono ?_
                    rintro e w33 ⟨rfl, hbw33⟩
                    have HM33 := Lib.hid (HM.out.below hbw33)
                    clear hbw33 x0 x1 x2 x3 x4 x5
                    obtain ⟨x0, x1, x2, x3, x4, x5⟩ := HM33.out.cells
                    go_wp2_with fail
                    refine (hpl _ HM33.out.pl).mono ?_
                    rintro e w34 ⟨rfl, hbw34⟩
                    have HM34 := Lib.hid (HM33.out.below hbw34)
                    clear hbw34 x0 x1 x2 x3 x4 x5
                    obtain ⟨x0, x1, x2, x3, x4, x5⟩ := HM34.out.cells
                    go_wp2_with fail
                    have hcat : (⟨#[104, 116, 116, 112, 58, 47, 47]⟩ ++ Bh ++ A) = bs (outP true h L false M) := by
                      unfold outP
                      rw [← HA.out, ← HBH.out]
                      simp [bs_append, show (⟨#[104, 116, 116, 112, 58, 47, 47]⟩ : ByteArray) = bs [104, 116, 116, 112, 58, 47, 47] from rfl, show (⟨#[63]⟩ : ByteArray) = bs [63] from rfl]
                    have hsz : (outP true h L false M).length = 7 + Bh.size + A.size := by rw [← size_bs, ← hcat] <;> (simp only [ByteArray.size_append]; rfl)
                    have hval : O = if 96 < (outP true h L false M).length then ([], 4) else (outP true h L false M, 0) := by rw [← HO.out]; unfold tgtText; simp [HE10.out, HE20.out, HH1.out, HCA.out, HPL.out, HMm.out]
                    have HCAT := Lib.hid hcat
                    have HSZ := Lib.hid hsz
                    have HVAL := Lib.hid hval
                    clear hcat hsz hval
                    by_cases h96 : 96 < 7 + Bh.size + A.size
                    · have h96i : (96 : Int) < 7 + (Bh.size : Int) + (A.size : Int) := by omega
                      refine (htl _ HM34.out.pl (hN.below HM34.out.bl hN.lt)).mono ?_
                      rintro e w35 ⟨rfl, hbw35⟩
                      have HM35 := Lib.hid (HM34.out.below hbw35)
                      clear hbw35 x0 x1 x2 x3 x4 x5
                      obtain ⟨x0, x1, x2, x3, x4, x5⟩ := HM35.out.cells
                      go_wp2_with fail
                      go_ret2
                      exact ⟨by rw [HVAL.out, if_pos (by rw [HSZ.out]; exact h96)]; rfl, HM35.out.bl⟩
                    · have h96i : ¬ (96 : Int) < 7 + (Bh.size : Int) + (A.size : Int) := by omega
                      refine (htl _ HM34.out.pl (hN.below HM34.out.bl hN.lt)).mono ?_
                      rintro e w36 ⟨rfl, hbw36⟩
                      have HM36 := Lib.hid (HM34.out.below hbw36)
                      clear hbw36 x0 x1 x2 x3 x4 x5
                      obtain ⟨x0, x1, x2, x3, x4, x5⟩ := HM36.out.cells
                      go_wp2_with fail
                      go_ret2
                      exact ⟨by rw [HVAL.out, if_neg (by rw [HSZ.out]; exact h96), ← HCAT.out]; rfl, HM36.out.bl⟩
                  · have hm1 : M.isEmpty = false := by simpa using hM0
                    have hmz : decide (0 < M.length) = true := decide_eq_true (List.length_pos_iff.2 hM0)
                    have HMm := Lib.hid hm1
                    clear hM0 hm1
                    have hO : O = ([], 3) := by rw [← HO.out]; unfold tgtText; simp [HE10.out, HE20.out, HH1.out, HCA.out, HPL.out, HMm.out]
                    have HOO := Lib.hid hO
                    clear hO
                    go_wp2_with fail
                    refine (hca _).mono ?_
                    rintro e w37 ⟨rfl, hbw37⟩
                    have HM37 := Lib.hid (HM.out.below hbw37)
                    clear hbw37 x0 x1 x2 x3 x4 x5
                    obtain ⟨x0, x1, x2, x3, x4, x5⟩ := HM37.out.cells
                    go_wp2_with fail
                    refine (hpl _ HM37.out.pl).mono ?_
                    rintro e w38 ⟨rfl, hbw38⟩
                    have HM38 := Lib.hid (HM37.out.below hbw38)
                    clear hbw38 x0 x1 x2 x3 x4 x5
                    obtain ⟨x0, x1, x2, x3, x4, x5⟩ := HM38.out.cells
                    go_wp2_with fail
                    go_ret2
                    exact ⟨by rw [HOO.out]; rfl, HM38.out.bl⟩
                · go_wp2_with fail
                  refine (hca _).mono ?_
                  rintro e w39 ⟨rfl, hbw39⟩
                  have HM39 := Lib.hid (HM.out.below hbw39)
                  clear hbw39 x0 x1 x2 x3 x4 x5
                  obtain ⟨x0, x1, x2, x3, x4, x5⟩ := HM39.out.cells
                  go_wp2_with fail
                  refine (hpl _ HM39.out.pl).mono ?_
                  rintro e w40 ⟨rfl, hbw40⟩
                  have HM40 := Lib.hid (HM39.out.below hbw40)
                  clear hbw40 x0 x1 x2 x3 x4 x5
                  obtain ⟨x0, x1, x2, x3, x4, x5⟩ := HM40.out.cells
                  go_wp2_with fail
                  refine (htl _ HM40.out.pl (hN.below HM40.out.bl hN.lt)).mono ?_
                  rintro e w41 ⟨rfl, hbw41⟩
                  have HM41 := Lib.hid (HM40.out.below hbw41)
                  clear hbw41 x0 x1 x2 x3 x4 x5
                  obtain ⟨x0, x1, x2, x3, x4, x5⟩ := HM41.out.cells
                  go_wp2_with fail
                  have hcat : ((⟨#[104, 116, 116, 112, 58, 47, 47]⟩ ++ Bh ++ A) ++ (⟨#[63]⟩ ++ C)) = bs (outP true h L true M) := by
                    unfold outP
                    rw [← HA.out, ← HC.out, ← HBH.out]
                    simp [bs_append, show (⟨#[104, 116, 116, 112, 58, 47, 47]⟩ : ByteArray) = bs [104, 116, 116, 112, 58, 47, 47] from rfl, show (⟨#[63]⟩ : ByteArray) = bs [63] from rfl]
                  have hsz : (outP true h L true M).length = 7 + Bh.size + A.size + (1 + C.size) := by rw [← size_bs, ← hcat] <;> (simp only [ByteArray.size_append]; rfl)
                  have hval : O = if 96 < (outP true h L true M).length then ([], 4) else (outP true h L true M, 0) := by rw [← HO.out]; unfold tgtText; simp [HE10.out, HE20.out, HH1.out, HCA.out, HPL.out]
                  have HCAT := Lib.hid hcat
                  have HSZ := Lib.hid hsz
                  have HVAL := Lib.hid hval
                  clear hcat hsz hval
                  by_cases h96 : 96 < 7 + Bh.size + A.size + (1 + C.size)
                  · have h96i : (96 : Int) < 7 + (Bh.size : Int) + (A.size : Int) + (1 + (C.size : Int)) := by omega
                    refine (htm _ HM41.out.pm (hN.below HM41.out.bl hN.lt)).mono ?_
                    rintro e w42 ⟨rfl, hbw42⟩
                    have HM42 := Lib.hid (HM41.out.below hbw42)
                    clear hbw42 x0 x1 x2 x3 x4 x5
                    obtain ⟨x0, x1, x2, x3, x4, x5⟩ := HM42.out.cells
                    go_wp2_with fail
                    go_ret2
                    exact ⟨by rw [HVAL.out, if_pos (by rw [HSZ.out]; exact h96)]; rfl, HM42.out.bl⟩
                  · have h96i : ¬ (96 : Int) < 7 + (Bh.size : Int) + (A.size : Int) + (1 + (C.size : Int)) := by omega
                    refine (htm _ HM41.out.pm (hN.below HM41.out.bl hN.lt)).mono ?_
                    rintro e w43 ⟨rfl, hbw43⟩
                    have HM43 := Lib.hid (HM41.out.below hbw43)
                    clear hbw43 x0 x1 x2 x3 x4 x5
                    obtain ⟨x0, x1, x2, x3, x4, x5⟩ := HM43.out.cells
                    go_wp2_with fail
                    go_ret2
                    exact ⟨by rw [HVAL.out, if_neg (by rw [HSZ.out]; exact h96), ← HCAT.out]; rfl, HM43.out.bl⟩
            · have hO : O = ([], 3) := by rw [← HO.out]; unfold tgtText; simp [HE10.out, HE20.out, HH1.out, HCA.out]
              have HOO := Lib.hid hO
              clear hO
              go_wp2_with fail
              refine (hca _).mono ?_
              rintro e w44 ⟨rfl, hbw44⟩
              have HM44 := Lib.hid (HM.out.below hbw44)
              clear hbw44 x0 x1 x2 x3 x4 x5
              obtain ⟨x0, x1, x2, x3, x4, x5⟩ := HM44.out.cells
              go_wp2_with fail
              go_ret2
              exact ⟨by rw [HOO.out]; rfl, HM44.out.bl⟩
      · rcases ex with _ | _
        · by_cases hh0 : h = []
          · have hh1 : h.isEmpty = true := by rw [hh0]; rfl
            have hBe : Bh.toList.isEmpty = true := by rw [HBE.out]; exact hh1
            have HH1 := Lib.hid hh1
            clear hh0 hh1
            by_cases hL0 : L = []
            · have hl1 : L.isEmpty = true := by rw [hL0]; rfl
              have hlz : decide (0 < L.length) = false := by rw [hL0]; rfl
              have HL1 := Lib.hid hl1
              clear hL0 hl1
              rcases hq with _ | _
              · by_cases hM0 : M = []
                · have hm1 : M.isEmpty = true := by rw [hM0]; rfl
                  have hmz : decide (0 < M.length) = false := by rw [hM0]; rfl
                  have HMm := Lib.hid hm1
                  clear hM0 hm1
                  have hO : O = ([45], 0) := by rw [← HO.out]; unfold tgtText; simp [HE10.out, HE20.out, HH1.out, HL1.out, HMm.out]
                  have HOO := Lib.hid hO
                  clear hO
                  go_wp2_with fail
                  go_ret2
                  exact ⟨by rw [HOO.out]; rfl, HM.out.bl⟩
                · have hm1 : M.isEmpty = false := by simpa using hM0
                  have hmz : decide (0 < M.length) = true := decide_eq_true (List.length_pos_iff.2 hM0)
                  have HMm := Lib.hid hm1
                  clear hM0 hm1
                  have hO : O = ([], 3) := by rw [← HO.out]; unfold tgtText; simp [HE10.out, HE20.out, HH1.out, HL1.out, HMm.out]
                  have HOO := Lib.hid hO
                  clear hO
                  go_wp2_with fail
                  go_ret2
                  exact ⟨by rw [HOO.out]; rfl, HM.out.bl⟩
              · have hO : O = ([], 3) := by rw [← HO.out]; unfold tgtText; simp [HE10.out, HE20.out, HH1.out, HL1.out]
                have HOO := Lib.hid hO
                clear hO
                go_wp2_with fail
                go_ret2
                exact ⟨by rw [HOO.out]; rfl, HM.out.bl⟩
            · have hl1 : L.isEmpty = false := by simpa using hL0
              have hlz : decide (0 < L.length) = true := decide_eq_true (List.length_pos_iff.2 hL0)
              have HL1 := Lib.hid hl1
              clear hL0 hl1
              have hO : O = ([], 3) := by rw [← HO.out]; unfold tgtText; simp [HE10.out, HE20.out, HH1.out, HL1.out]
              have HOO := Lib.hid hO
              clear hO
              go_wp2_with fail
              go_ret2
              exact ⟨by rw [HOO.out]; rfl, HM.out.bl⟩
          · have hh1 : h.isEmpty = false := by simpa using hh0
            have hBe : Bh.toList.isEmpty = false := by rw [HBE.out]; exact hh1
            have HH1 := Lib.hid hh1
            clear hh0 hh1
            have hO : O = ([], 3) := by rw [← HO.out]; unfold tgtText; simp [HE10.out, HE20.out, HH1.out]
            have HOO := Lib.hid hO
            clear hO
            go_wp2_with fail
            go_ret2
            exact ⟨by rw [HOO.out]; rfl, HM.out.bl⟩
        · have hO : O = ([], 3) := by rw [← HO.out]; unfold tgtText; simp [HE10.out, HE20.out]
          have HOO := Lib.hid hO
          clear hO
          go_wp2_with fail
          go_ret2
          exact ⟨by rw [HOO.out]; rfl, HM.out.bl⟩
end Go.Proofs.YtllklgalghmnfaaDoor
