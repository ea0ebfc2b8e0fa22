/- template.value of a group or a capture. -/
import Derived.Test.YtllklgalghmnfaaDoorTplValue
namespace Go.Proofs.YtllklgalghmnfaaDoor
open Go.RowKit Str Mem Tp
set_option linter.unusedVariables false
set_option linter.unusedSimpArgs false

theorem value_pick (R C : List Tp.Bs) (x1 x2 x3 x4 : Tp.Bs) (p : Part) (h4 : p.k ≠ 4) : valueR R C x1 x2 x3 x4 p = (if p.k = 3 then C else R).getD p.n.toNat [] := by unfold valueR; rw [if_neg h4]
set_option maxRecDepth 100000 in
set_option maxHeartbeats 4000000 in
theorem value_row (p : Part) (N : Nat) (hk : p.k ≠ 4) (hN : p.n = (N : Int)) (h9 : N ≤ 9) (R C : List Tp.Bs) (a b : Option Addr) (c d : Nat) (x1 x2 x3 x4 : Tp.Bs) (w : World) (hR : Strs w a R.length R) (hC : Strs w b C.length C) (hRn : R.length ≤ 1000000) (hCn : C.length ≤ 1000000) :
    Calls Tryd.prog 86 #[pv p, valsV a R.length c b C.length d x1 x2 x3 x4] w fun e w' => e = .returned (.string (bs (valueR R C x1 x2 x3 x4 p))) ∧ Below w.heap.size w w' := by
  have b4 : (p.k == 4) = false := by simpa using hk
  rw [value_pick R C x1 x2 x3 x4 p hk, hN, Int.toNat_natCast]
  have hh := ((Below.refl _ w).alloc (Nat.le_refl _) (.cells #[.int .i64 p.k, .string (bs p.t), .int .i64 (N : Int)] 59)).alloc (by simp) (.cells #[.slice a R.length c, .slice b C.length d, .string (bs x1), .string (bs x2), .string (bs x3), .string (bs x4)] 53)
  have hR2 : Strs _ a R.length R := Rd.below hR hh
  have hC2 : Strs _ b C.length C := Rd.below hC hh
  have n0 : (0 : Int) ≤ (N : Int) := by omega
  unfold pv valsV
  rw [hN]
  have HH := Lib.hid hh
  clear hR hC hk hN hh
  by_cases h3 : p.k = 3
  · have b3 : (p.k == 3) = true := by rw [h3]; rfl
    rw [if_pos h3]
    clear h3
    by_cases hlt : N < C.length
    · obtain ⟨ad, s, rfl, hb, hs, hcell⟩ := hC2.get hlt
      have hv : C.getD N [] = s := by rw [List.getD_eq_getElem?_getD, hs]; rfl
      have n1 : (N : Int) < (C.length : Int) := by omega
      rw [hv]
      clear hv hs hR2 hC2
      go_enter Tryd.func86, Tryd.ntmps86
      go_wp2_with fail
      go_ret
      exact ⟨rfl, HH.out⟩
    · have hv : C.getD N [] = [] := by rw [List.getD_eq_getElem?_getD, List.getElem?_eq_none (by omega)]; rfl
      have n1 : ¬ (N : Int) < (C.length : Int) := by omega
      rw [hv]
      clear hv hR2 hC2
      go_enter Tryd.func86, Tryd.ntmps86
      go_wp2_with fail
      go_ret
      exact ⟨rfl, HH.out⟩
  · have b3 : (p.k == 3) = false := by simpa using h3
    rw [if_neg h3]
    clear h3
    by_cases hlt : N < R.length
    · obtain ⟨ad, s, rfl, hb, hs, hcell⟩ := hR2.get hlt
      have hv : R.getD N [] = s := by rw [List.getD_eq_getElem?_getD, hs]; rfl
      have n1 : (N : Int) < (R.length : Int) := by omega
      rw [hv]
      clear hv hs hR2 hC2
      go_enter Tryd.func86, Tryd.ntmps86
      go_wp2_with fail
      go_ret
      exact ⟨rfl, HH.out⟩
    · have hv : R.getD N [] = [] := by rw [List.getD_eq_getElem?_getD, List.getElem?_eq_none (by omega)]; rfl
      have n1 : ¬ (N : Int) < (R.length : Int) := by omega
      rw [hv]
      clear hv hR2 hC2
      go_enter Tryd.func86, Tryd.ntmps86
      go_wp2_with fail
      go_ret
      exact ⟨rfl, HH.out⟩
end Go.Proofs.YtllklgalghmnfaaDoor
