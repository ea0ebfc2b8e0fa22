/- template.join of two, template.value of a variable. -/
import Derived.Test.YtllklgalghmnfaaDoorTplCheck
import Derived.Test.YtllklgalghmnfaaDoorShelfJoin
namespace Go.Proofs.YtllklgalghmnfaaDoor
open Go.RowKit Str Mem Tp
set_option linter.unusedVariables false
set_option linter.unusedSimpArgs false

/-- Two pieces joined. -/
theorem join2_any (b : Nat) (x y : Tp.Bs) (w : World) (h : w.heap[b]? = some (.cells #[.string (bs x), .string (bs y)] 9 (0, 0))) (hx : x.length ≤ 1000000000) (hy : y.length ≤ 1000000000) :
    Calls Tryd.prog 85 #[.slice (some ⟨b, 0, none⟩) 2 2] w fun e w' => e = .returned (.string (bs (x ++ y))) ∧ Below w.heap.size w w' := by
  have hj := sh_strings_Join b 0 2 [bs x, bs y] ⟨#[]⟩ w (fun j z hz => by
    have h0 := cell_list (cs := [.string (bs x), .string (bs y)]) h
    rcases j with _ | _ | j
    · simp at hz; subst hz; exact h0 0
    · simp at hz; subst hz; exact h0 1
    · simp at hz) (lt_of_cells h) (by simp) (by simp) (by
      simp [Lib.join, data_bs]; omega)
  have hv : (⟨(Lib.join ([bs x, bs y].map (·.data.toList)) (ByteArray.mk #[]).data.toList).toArray⟩ : ByteArray) = bs (x ++ y) := by
    simp [Lib.join, data_bs, bs]
  rw [hv] at hj
  clear hv
  obtain ⟨V, hV⟩ : ∃ V, V = bs (x ++ y) := ⟨_, rfl⟩
  rw [← hV] at hj ⊢
  clear hV
  go_enter Tryd.func85, Tryd.ntmps85
  go_wp2_with fail
  refine hj.mono ?_
  rintro e w2 ⟨rfl, h2⟩
  go_wp2_with fail
  go_ret
  exact ⟨rfl, h2⟩

/-- The value of a part that is no literal. -/
def valueR (R C : List Tp.Bs) (x1 x2 x3 x4 : Tp.Bs) (p : Part) : Tp.Bs :=
  if p.k = 4 then (if p.n = 1 then x1 else if p.n = 2 then x2 else if p.n = 3 then x3 else x4) else (if p.k = 3 then C else R).getD p.n.toNat []
/-- The values of a template as one value. -/
def valsV (a : Option Addr) (n c : Nat) (b : Option Addr) (m d : Nat) (x1 x2 x3 x4 : Tp.Bs) : Value := .agg #[.slice a n c, .slice b m d, .string (bs x1), .string (bs x2), .string (bs x3), .string (bs x4)]
set_option maxRecDepth 100000 in
set_option maxHeartbeats 4000000 in
theorem value_var (p : Part) (hk : p.k = 4) (h1 : 1 ≤ p.n) (h4 : p.n ≤ 4) (R C : List Tp.Bs) (a b : Option Addr) (n c m d : Nat) (x1 x2 x3 x4 : Tp.Bs) (w : World) :
    Calls Tryd.prog 86 #[pv p, valsV a n c b m d x1 x2 x3 x4] w fun e w' => e = .returned (.string (bs (valueR R C x1 x2 x3 x4 p))) ∧ Below w.heap.size w w' := by
  have b4 : (p.k == 4) = true := by rw [hk]; rfl
  have hv : valueR R C x1 x2 x3 x4 p = (if p.n = 1 then x1 else if p.n = 2 then x2 else if p.n = 3 then x3 else x4) := by unfold valueR; rw [if_pos hk]
  rw [hv]
  unfold pv valsV
  clear hv hk
  have hh := ((Below.refl _ w).alloc (Nat.le_refl _) (.cells #[.int .i64 p.k, .string (bs p.t), .int .i64 p.n] 59)).alloc (by simp) (.cells #[.slice a n c, .slice b m d, .string (bs x1), .string (bs x2), .string (bs x3), .string (bs x4)] 53)
  obtain ⟨X, hX⟩ : ∃ X, (if p.n = 1 then x1 else if p.n = 2 then x2 else if p.n = 3 then x3 else x4) = X := ⟨_, rfl⟩
  rw [hX]
  rcases (by omega : p.n = 1 ∨ p.n = 2 ∨ p.n = 3 ∨ p.n = 4) with h | h | h | h <;> rw [h] at hX hh ⊢ <;> clear h h1 h4
  · have hX2 : x1 = X := hX
    subst hX2
    clear hX
    go_enter Tryd.func86, Tryd.ntmps86
    go_wp2_with fail
    go_ret
    exact ⟨rfl, hh⟩
  · have hX2 : x2 = X := hX
    subst hX2
    clear hX
    go_enter Tryd.func86, Tryd.ntmps86
    go_wp2_with fail
    go_ret
    exact ⟨rfl, hh⟩
  · have hX2 : x3 = X := hX
    subst hX2
    clear hX
    go_enter Tryd.func86, Tryd.ntmps86
    go_wp2_with fail
    go_ret
    exact ⟨rfl, hh⟩
  · have hX2 : x4 = X := hX
    subst hX2
    clear hX
    go_enter Tryd.func86, Tryd.ntmps86
    go_wp2_with fail
    go_ret
    exact ⟨rfl, hh⟩
end Go.Proofs.YtllklgalghmnfaaDoor
namespace Go.Proofs.YtllklgalghmnfaaDoor
open Go.RowKit Str Mem Tp
set_option linter.unusedVariables false
set_option linter.unusedSimpArgs false

theorem value_pick (R C : List Tp.Bs) (x1 x2 x3 x4 : Tp.Bs) (p : Part) (h4 : p.k ≠ 4) : valueR R C x1 x2 x3 x4 p = (if p.k = 3 then C else R).getD p.n.toNat [] := by unfold valueR; rw [if_neg h4]
set_option maxRecDepth 100000 in
set_option maxHeartbeats 4000000 in
theorem value_row (p : Part) (N : Nat) (hk : p.k ≠ 4) (hN : p.n = (N : Int)) (h9 : N ≤ 9) (R C : List Tp.Bs) (a b : Option Addr) (c d : Nat) (x1 x2 x3 x4 : Tp.Bs) (w : World) (hR : Strs w a R.length R) (hC : Strs w b C.length C) (hRn : R.length ≤ 1000000) (hCn : C.length ≤ 1000000) :
    Calls Tryd.prog 86 #[pv p, valsV a R.length c b C.length d x1 x2 x3 x4] w fun e w' => e = .returned (.string (bs (valueR R C x1 x2 x3 x4 p))) ∧ Below w.heap.size w w' := by
  have b4 : (p.k == 4) = false := by simpa using hk
  rw [value_pick R C x1 x2 x3 x4 p hk, hN, Int.toNat_natCast]
  have hh := ((Below.refl _ w).alloc (Nat.le_refl _) (.cells #[.int .i64 p.k, .string (bs p.t), .int .i64 (N : Int)] 59)).alloc (by simp) (.cells #[.slice a R.length c, .slice b C.length d, .string (bs x1), .string (bs x2), .string (bs x3), .string (bs x4)] 53)
  have hR2 : Strs _ a R.length R := Rd.below hR hh
  have hC2 : Strs _ b C.length C := Rd.below hC hh
  have n0 : (0 : Int) ≤ (N : Int) := by omega
  unfold pv valsV
  rw [hN]
  have HH := Lib.hid hh
  clear hR hC hk hN hh
  by_cases h3 : p.k = 3
  · have b3 : (p.k == 3) = true := by rw [h3]; rfl
    rw [if_pos h3]
    clear h3
    by_cases hlt : N < C.length
    · obtain ⟨ad, s, rfl, hb, hs, hcell⟩ := hC2.get hlt
      have hv : C.getD N [] = s := by rw [List.getD_eq_getElem?_getD, hs]; rfl
      have n1 : (N : Int) < (C.length : Int) := by omega
      rw [hv]
      clear hv hs hR2 hC2
      go_enter Tryd.func86, Tryd.ntmps86
      go_wp2_with fail
      go_ret
      exact ⟨rfl, HH.out⟩
    · have hv : C.getD N [] = [] := by rw [List.getD_eq_getElem?_getD, List.getElem?_eq_none (by omega)]; rfl
      have n1 : ¬ (N : Int) < (C.length : Int) := by omega
      rw [hv]
      clear hv hR2 hC2
      go_enter Tryd.func86, Tryd.ntmps86
      go_wp2_with fail
      go_ret
      exact ⟨rfl, HH.out⟩
  · have b3 : (p.k == 3) = false := by simpa using h3
    rw [if_neg h3]
    clear h3
    by_cases hlt : N < R.length
    · obtain ⟨ad, s, rfl, hb, hs, hcell⟩ := hR2.get hlt
      have hv : R.getD N [] = s := by rw [List.getD_eq_getElem?_getD, hs]; rfl
      have n1 : (N : Int) < (R.length : Int) := by omega
      rw [hv]
      clear hv hs hR2 hC2
      go_enter Tryd.func86, Tryd.ntmps86
      go_wp2_with fail
      go_ret
      exact ⟨rfl, HH.out⟩
    · have hv : R.getD N [] = [] := by rw [List.getD_eq_getElem?_getD, List.getElem?_eq_none (by omega)]; rfl
      have n1 : ¬ (N : Int) < (R.length : Int) := by omega
      rw [hv]
      clear hv hR2 hC2
      go_enter Tryd.func86, Tryd.ntmps86
      go_wp2_with fail
      go_ret
      exact ⟨rfl, HH.out⟩
end Go.Proofs.YtllklgalghmnfaaDoor
