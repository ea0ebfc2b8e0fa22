/- template.write: digits and names. -/
import Derived.Test.YtllklgalghmnfaaDoorTplCheck0
import Derived.Test.YtllklgalghmnfaaDoorBuilderByte
import Derived.Lib.SlBytesRow
namespace Go.Proofs.YtllklgalghmnfaaDoor
open Go.RowKit Str Mem Tp
set_option linter.unusedVariables false
set_option linter.unusedSimpArgs false

theorem convOne (b : Nat) (d : UInt8) (W : World) (hc : W.cell? ⟨b, 0, none⟩ = some (.int .u8 (d.toNat : Int))) :
    (convert 97 9 (.slice (some ⟨b, 0, none⟩) 1 1)).run Tryd.prog W = .ok (.string (bs [d])) W :=
  Lib.run_convert_whole W _ _ _ Tryd.underlying97 Tryd.underlying5 Tryd.underlying9 b 0 (bs [d]) (fun i hi => by
    have hi1 : i < 1 := hi
    obtain rfl : i = 0 := by omega
    exact hc) 1
theorem digitByte (n : Int) (h0 : 0 ≤ n) (h9 : n ≤ 9) : (((48 + n).toNat.toUInt8).toNat : Int) = 48 + n := by
  have : ((48 + n).toNat.toUInt8).toNat = (48 + n).toNat := by
    show (UInt8.ofNat _).toNat = _
    rw [UInt8.toNat_ofNat']; omega
  rw [this]; omega

set_option maxRecDepth 100000 in
set_option maxHeartbeats 4000000 in
theorem write_two (p : Part) (hc : p.k = 2 ∨ p.k = 3) (hn0 : 0 ≤ p.n) (hn9 : p.n ≤ 9) (w : World) :
    Calls Tryd.prog 83 #[pv p] w fun e w' => e = .returned (.string (bs (writeP p))) ∧ Below w.heap.size w w' := by
  have hrow := World.alloc_heap_new w (.cells #[.int .i64 p.k, .string (bs p.t), .int .i64 p.n] 59)
  have hb0 := (Below.refl _ w).alloc (Nat.le_refl _) (.cells #[.int .i64 p.k, .string (bs p.t), .int .i64 p.n] 59)
  have hcv : (convert 97 9 (.slice (some ⟨w.heap.size + 1, 0, none⟩) 1 1)).run Tryd.prog ((w.alloc (.cells #[.int .i64 p.k, .string (bs p.t), .int .i64 p.n] 59)).alloc (.cells #[.int .u8 (48 + p.n)] 5)) = .ok (.string (bs [(48 + p.n).toNat.toUInt8])) ((w.alloc (.cells #[.int .i64 p.k, .string (bs p.t), .int .i64 p.n] 59)).alloc (.cells #[.int .u8 (48 + p.n)] 5)) := by
    refine convOne _ _ _ ?_
    have h := World.alloc_heap_new (w.alloc (.cells #[.int .i64 p.k, .string (bs p.t), .int .i64 p.n] 59)) (.cells #[.int .u8 (48 + p.n)] 5)
    rw [World.size_alloc] at h
    have := cell_list (cs := [.int .u8 (48 + p.n)]) h 0
    rw [this, digitByte p.n hn0 hn9]; rfl
  have hb1 := hb0.alloc (by simp) (.cells #[.int .u8 (48 + p.n)] 5)
  unfold pv
  rcases hc with hk | hk
  · have b2 : (p.k == 2) = true := by rw [hk]; rfl
    have b3 : (p.k == 3) = false := by rw [hk]; rfl
    have hv : writeP p = [36, (48 + p.n).toNat.toUInt8] := by unfold writeP; rw [if_pos hk]
    rw [hv]
    clear hv hk
    obtain ⟨d, hd⟩ : ∃ d, (48 + p.n).toNat.toUInt8 = d := ⟨_, rfl⟩
    rw [hd] at hcv ⊢
    clear hd
    go_enter Tryd.func83, Tryd.ntmps83
    go_wp2_with fail
    go_ret
    exact ⟨by rw [show bs [36, d] = bs [36] ++ bs [d] from (bs_append [36] [d]).symm]; rfl, hb1⟩
  · have b2 : (p.k == 2) = false := by rw [hk]; rfl
    have b3 : (p.k == 3) = true := by rw [hk]; rfl
    have hv : writeP p = [37, (48 + p.n).toNat.toUInt8] := by unfold writeP; rw [if_neg (by omega)]; rw [if_pos hk]
    rw [hv]
    clear hv hk
    obtain ⟨d, hd⟩ : ∃ d, (48 + p.n).toNat.toUInt8 = d := ⟨_, rfl⟩
    rw [hd] at hcv ⊢
    clear hd
    go_enter Tryd.func83, Tryd.ntmps83
    go_wp2_with fail
    go_ret
    exact ⟨by rw [show bs [37, d] = bs [37] ++ bs [d] from (bs_append [37] [d]).symm]; rfl, hb1⟩

set_option maxRecDepth 100000 in
set_option maxHeartbeats 4000000 in
theorem write_name (p : Part) (hk : p.k = 4) (hn0 : 0 ≤ p.n) (hn9 : p.n ≤ 4) (w : World) (hN : Nm w) :
    Calls Tryd.prog 83 #[pv p] w fun e w' => e = .returned (.string (bs (writeP p))) ∧ Below w.heap.size w w' := by
  have hrow := World.alloc_heap_new w (.cells #[.int .i64 p.k, .string (bs p.t), .int .i64 p.n] 59)
  have hb0 := (Below.refl _ w).alloc (Nat.le_refl _) (.cells #[.int .i64 p.k, .string (bs p.t), .int .i64 p.n] 59)
  have hN1 := hN.alloc (.cells #[.int .i64 p.k, .string (bs p.t), .int .i64 p.n] 59)
  obtain ⟨C0, C1, C2, C3, C4⟩ : _ ∧ _ ∧ _ ∧ _ ∧ _ := ⟨hN1.c0, hN1.c1, hN1.c2, hN1.c3, hN1.c4⟩
  have b2 : (p.k == 2) = false := by rw [hk]; rfl
  have b3 : (p.k == 3) = false := by rw [hk]; rfl
  have b4 : (p.k == 4) = true := by rw [hk]; rfl
  have hv : writeP p = [37, 123] ++ nmOf p.n.toNat ++ [125] := by unfold writeP; rw [if_neg (by omega), if_neg (by omega), if_pos hk]
  rw [hv]
  unfold pv
  clear hv hk hN hN1
  rcases (by omega : p.n = 0 ∨ p.n = 1 ∨ p.n = 2 ∨ p.n = 3 ∨ p.n = 4) with h | h | h | h | h <;> rw [h] at hrow hb0 C0 C1 C2 C3 C4 ⊢ <;> clear h hn0 hn9
  · go_enter Tryd.func83, Tryd.ntmps83
    go_wp2_with fail
    go_ret
    exact ⟨rfl, hb0⟩
  · go_enter Tryd.func83, Tryd.ntmps83
    go_wp2_with fail
    go_ret
    exact ⟨rfl, hb0⟩
  · go_enter Tryd.func83, Tryd.ntmps83
    go_wp2_with fail
    go_ret
    exact ⟨rfl, hb0⟩
  · go_enter Tryd.func83, Tryd.ntmps83
    go_wp2_with fail
    go_ret
    exact ⟨rfl, hb0⟩
  · go_enter Tryd.func83, Tryd.ntmps83
    go_wp2_with fail
    go_ret
    exact ⟨rfl, hb0⟩
end Go.Proofs.YtllklgalghmnfaaDoor
