/- The text of a target: plain law, memory, the reference's bare. -/
import Derived.Test.YtllklgalghmnfaaDoorTplRefChecked
import Derived.Test.YtllklgalghmnfaaDoorAnyAt
import Derived.Deep.LoopGhost
namespace Go.Proofs.YtllklgalghmnfaaDoor
open Go.RowKit Str Mem Tp
set_option linter.unusedVariables false
set_option linter.unusedSimpArgs false

def anyH (h : Tp.Bs) : Bool := hasAny h [47, 63, 36, 37, 92]
def outP (ex : Bool) (h : Tp.Bs) (L : List Part) (hq : Bool) (M : List Part) : Tp.Bs := (if ex = true then [104, 116, 116, 112, 58, 47, 47] ++ h else []) ++ textP L ++ (if hq = true then [63] ++ textP M else [])
def tgtText (sm ex : Bool) (h : Tp.Bs) (L : List Part) (hq : Bool) (M : List Part) : Tp.Bs × Int :=
  if checkR L ≠ 0 then ([], checkR L) else if checkR M ≠ 0 then ([], checkR M)
  else if sm = (ex || !h.isEmpty || !L.isEmpty || hq || !M.isEmpty) then ([], 3)
  else if sm = true then ([45], 0)
  else if ex = h.isEmpty ∨ anyH h = true ∨ placeR L = false ∨ (hq = false ∧ M.isEmpty = false) then ([], 3)
  else if 96 < (outP ex h L hq M).length then ([], 4) else (outP ex h L hq M, 0)
theorem checkR_zero {L : List Part} (h : checkR L = 0) : checkTo L false = 0 ∧ (textP L).length ≤ 96 := by
  unfold checkR at h
  split at h
  · rename_i h1; exact absurd h h1
  · rename_i h1
    split at h
    · cases h
    · exact ⟨by simpa using h1, by omega⟩
/-- A target in its box, and its parts. -/
structure TB (w W : World) (n1 : Nat) (sm ex : Bool) (Bh : ByteArray) (pa : Option Addr) (pc : Nat) (L : List Part) (hq : Bool) (qa : Option Addr) (qc : Nat) (M : List Part) : Prop where
  row : W.heap[n1]? = some (.cells [.bool sm, .bool ex, .string Bh, .slice pa L.length pc, .bool hq, .slice qa M.length qc].toArray 30 (0, 0))
  pl : Parts W pa L.length L
  pm : Parts W qa M.length M
  bl : Below w.heap.size w W
theorem TB.below {w W W' : World} {n1 : Nat} {sm ex hq : Bool} {Bh : ByteArray} {pa qa : Option Addr} {pc qc : Nat} {L M : List Part} (m : TB w W n1 sm ex Bh pa pc L hq qa qc M) (hb : Below W.heap.size W W') : TB w W' n1 sm ex Bh pa pc L hq qa qc M :=
  ⟨(hb.block _ (lt_of_cells m.row)).trans m.row, Rd.below m.pl hb, Rd.below m.pm hb, m.bl.trans (hb.mono m.bl.size)⟩
theorem TB.cells {w W : World} {n1 : Nat} {sm ex hq : Bool} {Bh : ByteArray} {pa qa : Option Addr} {pc qc : Nat} {L M : List Part} (m : TB w W n1 sm ex Bh pa pc L hq qa qc M) :
    W.cell? ⟨n1, 0, none⟩ = some (.bool sm) ∧ W.cell? ⟨n1, 1, none⟩ = some (.bool ex) ∧ W.cell? ⟨n1, 2, none⟩ = some (.string Bh) ∧ W.cell? ⟨n1, 3, none⟩ = some (.slice pa L.length pc) ∧ W.cell? ⟨n1, 4, none⟩ = some (.bool hq) ∧ W.cell? ⟨n1, 5, none⟩ = some (.slice qa M.length qc) := by
  have z0 := cell_list m.row 0
  have z1 := cell_list m.row 1
  have z2 := cell_list m.row 2
  have z3 := cell_list m.row 3
  have z4 := cell_list m.row 4
  have z5 := cell_list m.row 5
  simp only [List.getElem?_cons_zero, List.getElem?_cons_succ] at z0 z1 z2 z3 z4 z5
  exact ⟨z0, z1, z2, z3, z4, z5⟩

set_option maxRecDepth 100000 in
set_option maxHeartbeats 2000000 in
theorem bare_any (s : Tp.Bs) (hs : s.length ≤ 100000) (w : World) : Calls Tryd.prog 58 #[.string (bs s)] w fun e w' => e = .returned (.bool (!anyH s)) ∧ w' = w := by
  obtain ⟨V, hV⟩ : ∃ V, (!anyH s) = V := ⟨_, rfl⟩
  rw [hV]
  have HV := Lib.hid hV
  clear hV
  obtain ⟨T, hT⟩ : ∃ T, T = bs s := ⟨_, rfl⟩
  rw [← hT]
  have hTz : T.size = s.length := by rw [hT, size_bs]
  have HTz := Lib.hid hTz
  have hT6 : T.size ≤ 100000 := by omega
  have hTget : ∀ (j : Nat) (h : j < T.size) (h2 : j < s.length), T[j] = s[j] := fun j h h2 => by
    subst hT
    rw [get_data _ j h]
  have HTG := Lib.hid hTget
  clear hT hTz hTget
  go_enter Tryd.func58, Tryd.ntmps58
  go_wp2_with fail
  go_loopg [3] s.length (fun g i wr => ∃ k : Nat, i = .int .i64 k ∧ k + g = s.length ∧ (∀ j x, j < k → s[j]? = some x → ([47, 63, 36, 37, 92] : List UInt8).contains x = false) ∧ wr = w)
  case atStart => exact ⟨0, rfl, by omega, fun j x h => by omega, rfl⟩
  case round =>
    obtain ⟨k, rfl, hk, hall, rfl⟩ := hrel
    have HALL := Lib.hid hall
    clear hall
    by_cases hlt : k < s.length
    · obtain ⟨g', rfl⟩ : ∃ g', gk = g' + 1 := ⟨gk - 1, by omega⟩
      have hk2 : k < T.size := by have := HTz.out; omega
      have hTk := HTG.out k hk2 hlt
      have j0 : (0 : Int) ≤ (k : Int) := by omega
      have j1 : (k : Int) < (T.size : Int) := by omega
      have hyes : ([47, 63, 36, 37, 92] : List UInt8).contains s[k] = true → V = false := fun h => by
        rw [← HV.out]
        have : anyH s = true := by
          unfold anyH hasAny
          rw [List.any_eq_true]
          exact ⟨s[k], List.getElem_mem _, h⟩
        rw [this]; rfl
      have HY := Lib.hid hyes
      clear hyes
      by_cases n1 : s[k] = 47
      · have e1 : ((T[k].toNat : Int) == 47) = true := by rw [hTk, n1]; rfl
        have hv := HY.out (by rw [n1]; rfl)
        have HVF := Lib.hid hv
        clear n1 hv hTk
        go_wp2_with fail
        go_ret
        exact ⟨by rw [HVF.out]; rfl, rfl⟩
      have e1 : ((T[k].toNat : Int) == 47) = false := by
        rw [hTk, beq_eq_false_iff_ne]
        exact fun h => n1 (UInt8.toNat.inj (by simpa using (by omega : s[k].toNat = 47)))
      by_cases n2 : s[k] = 63
      · have e2 : ((T[k].toNat : Int) == 63) = true := by rw [hTk, n2]; rfl
        have hv := HY.out (by rw [n2]; rfl)
        have HVF := Lib.hid hv
        clear n1 n2 hv hTk
        go_wp2_with fail
        go_ret
        exact ⟨by rw [HVF.out]; rfl, rfl⟩
      have e2 : ((T[k].toNat : Int) == 63) = false := by
        rw [hTk, beq_eq_false_iff_ne]
        exact fun h => n2 (UInt8.toNat.inj (by simpa using (by omega : s[k].toNat = 63)))
      by_cases n3 : s[k] = 36
      · have e3 : ((T[k].toNat : Int) == 36) = true := by rw [hTk, n3]; rfl
        have hv := HY.out (by rw [n3]; rfl)
        have HVF := Lib.hid hv
        clear n1 n2 n3 hv hTk
        go_wp2_with fail
        go_ret
        exact ⟨by rw [HVF.out]; rfl, rfl⟩
      have e3 : ((T[k].toNat : Int) == 36) = false := by
        rw [hTk, beq_eq_false_iff_ne]
        exact fun h => n3 (UInt8.toNat.inj (by simpa using (by omega : s[k].toNat = 36)))
      by_cases n4 : s[k] = 37
      · have e4 : ((T[k].toNat : Int) == 37) = true := by rw [hTk, n4]; rfl
        have hv := HY.out (by rw [n4]; rfl)
        have HVF := Lib.hid hv
        clear n1 n2 n3 n4 hv hTk
        go_wp2_with fail
        go_ret
        exact ⟨by rw [HVF.out]; rfl, rfl⟩
      have e4 : ((T[k].toNat : Int) == 37) = false := by
        rw [hTk, beq_eq_false_iff_ne]
        exact fun h => n4 (UInt8.toNat.inj (by simpa using (by omega : s[k].toNat = 37)))
      by_cases n5 : s[k] = 92
      · have e5 : ((T[k].toNat : Int) == 92) = true := by rw [hTk, n5]; rfl
        have hv := HY.out (by rw [n5]; rfl)
        have HVF := Lib.hid hv
        clear n1 n2 n3 n4 n5 hv hTk
        go_wp2_with fail
        go_ret
        exact ⟨by rw [HVF.out]; rfl, rfl⟩
      have e5 : ((T[k].toNat : Int) == 92) = false := by
        rw [hTk, beq_eq_false_iff_ne]
        exact fun h => n5 (UInt8.toNat.inj (by simpa using (by omega : s[k].toNat = 92)))
      have hno : ([47, 63, 36, 37, 92] : List UInt8).contains s[k] = false := by simp [n1, n2, n3, n4, n5]
      have hall2 : ∀ j x, j < k + 1 → s[j]? = some x → ([47, 63, 36, 37, 92] : List UInt8).contains x = false := fun j x hj hx => by
        by_cases hjk : j = k
        · rw [hjk, List.getElem?_eq_getElem hlt] at hx; injection hx with hx; rw [← hx]; exact hno
        · exact HALL.out j x (by omega) hx
      have HA2 := Lib.hid hall2
      clear n1 n2 n3 n4 n5 hno hall2 hTk
      go_wp2_with fail
      go_roundg g'
      case measure => omega
      case rel => exact ⟨k + 1, by go_num, by omega, HA2.out, rfl⟩
    · obtain rfl : k = s.length := by omega
      have hnk : ¬ (s.length : Int) < (T.size : Int) := by have := HTz.out; omega
      go_wp2_with fail
      go_ret
      refine ⟨?_, rfl⟩
      rw [← HV.out]
      have : anyH s = false := by
        unfold anyH hasAny
        rw [List.any_eq_false]
        intro x hx
        obtain ⟨j, hj, e⟩ := List.getElem_of_mem hx
        have := HALL.out j x hj (by rw [List.getElem?_eq_getElem hj, e])
        rw [this]; simp
      rw [this]
      rfl
end Go.Proofs.YtllklgalghmnfaaDoor
