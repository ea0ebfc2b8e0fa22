/- template.Uses. -/
import Derived.Test.YtllklgalghmnfaaDoorTplRefChecked
import Derived.Deep.LoopGhost
import Derived.RegionTactic
namespace Go.Proofs.YtllklgalghmnfaaDoor
open Go.RowKit Str Mem Tp
set_option linter.unusedVariables false
set_option linter.unusedSimpArgs false

/-- How often parts of a kind have a number. -/
def cntP (K : Int) (L : List Part) (j : Int) : Nat := (L.filter fun p => decide (p.k = K ∧ p.n = j)).length
def rowP (K : Int) (L : List Part) (n : Nat) (off : Int) : List Value := (List.range n).map fun (j : Nat) => .int .i64 (cntP K L (off + (j : Int)) : Nat)
theorem rowP_len (K : Int) (L : List Part) (n : Nat) (off : Int) : (rowP K L n off).length = n := by simp [rowP]
theorem rowP_get (K : Int) (L : List Part) (n : Nat) (off : Int) (j : Nat) (hj : j < n) : (rowP K L n off)[j]? = some (.int .i64 (cntP K L (off + j) : Nat)) := by
  unfold rowP
  rw [List.getElem?_map, List.getElem?_range hj]
  rfl
theorem cntP_le (K : Int) (L : List Part) (j : Int) : cntP K L j ≤ L.length := List.length_filter_le _ _
theorem cntP_next (K : Int) (L : List Part) (k : Nat) (x : Part) (h : L[k]? = some x) (j : Int) : cntP K (L.take (k + 1)) j = cntP K (L.take k) j + if x.k = K ∧ x.n = j then 1 else 0 := by
  unfold cntP
  rw [List.take_add_one, h]
  simp only [Option.toList_some, List.filter_append, List.length_append]
  congr 1
  by_cases hx : x.k = K ∧ x.n = j
  · rw [if_pos hx, List.filter_cons, if_pos (by simpa using hx)]; rfl
  · rw [if_neg hx, List.filter_cons, if_neg (by simpa using hx)]; rfl
theorem rowP_other (K : Int) (L : List Part) (k : Nat) (x : Part) (h : L[k]? = some x) (n : Nat) (off : Int) (hx : x.k ≠ K) : rowP K (L.take (k + 1)) n off = rowP K (L.take k) n off := by
  unfold rowP
  apply List.map_congr_left
  intro j _
  rw [cntP_next K L k x h, if_neg (fun hh => hx hh.1)]
  rfl
theorem rowP_hit (K : Int) (L : List Part) (k : Nat) (x : Part) (h : L[k]? = some x) (n : Nat) (off : Int) (m : Nat) (hm : m < n) (hxn : x.n = off + m) (hx : x.k = K) : rowP K (L.take (k + 1)) n off = (rowP K (L.take k) n off).set m (.int .i64 ((cntP K (L.take k) (off + m) : Nat) + 1)) := by
  apply List.ext_getElem?
  intro j
  by_cases hj : j < n
  · rw [rowP_get _ _ _ _ j hj, cntP_next K L k x h]
    by_cases hjm : m = j
    · subst hjm
      rw [List.getElem?_set_self (by rw [rowP_len]; exact hj), if_pos ⟨hx, hxn⟩]
      simp
    · rw [List.getElem?_set_ne hjm, rowP_get _ _ _ _ j hj, if_neg (fun hh => hjm (by omega))]
      rfl
  · rw [List.getElem?_eq_none (by rw [rowP_len]; omega), List.getElem?_eq_none (by rw [List.length_set, rowP_len]; omega)]
theorem rowP_zero (K : Int) (n : Nat) (off : Int) : rowP K [] n off = List.replicate n (.int .i64 0) := by
  apply List.ext_getElem?
  intro j
  by_cases hj : j < n
  · rw [rowP_get _ _ _ _ j hj, List.getElem?_replicate, if_pos hj]; rfl
  · rw [List.getElem?_eq_none (by rw [rowP_len]; omega), List.getElem?_eq_none (by simp; omega)]

theorem rowP_rd {W : World} {g T : Nat} {K off : Int} {L : List Part} {n : Nat} (h : W.heap[g]? = some (.cells (rowP K L n off).toArray T (0, 0))) : Rd W 1 (some ⟨g, 0, none⟩) n (rowP K L n off) := by
  refine ⟨by rw [rowP_len]; omega, fun _ => ⟨_, rfl, lt_of_cells h, fun j u hu => ?_⟩⟩
  rw [add_flat, Nat.zero_add, cell_list h j]
  exact hu
def usesV (L : List Part) : List Value := if checkR L ≠ 0 then rowP 4 [] 4 1 else rowP 4 L 4 1
def usesG (K : Int) (L : List Part) : List Value := if checkR L ≠ 0 then [] else rowP K L 10 0
def UsesPost (L : List Part) (w : World) (e : Ending) (w' : World) : Prop := ∃ a1 c1 a2 c2, e = .returned (.tuple #[.slice a1 (usesG 2 L).length c1, .slice a2 (usesG 3 L).length c2, .agg (usesV L).toArray, .int .i64 (checkR L)]) ∧ Rd w' 1 a1 (usesG 2 L).length (usesG 2 L) ∧ Rd w' 1 a2 (usesG 3 L).length (usesG 3 L) ∧ Below w.heap.size w w'
theorem checkR_zeroU {L : List Part} (h : checkR L = 0) : checkTo L false = 0 ∧ (textP L).length ≤ 96 := by
  unfold checkR at h
  split at h
  · rename_i h1; exact absurd h h1
  · rename_i h1
    split at h
    · cases h
    · exact ⟨by simpa using h1, by omega⟩
/-- The memory while parts are counted. -/
structure UM (w W : World) (n4 gA gB : Nat) (L : List Part) (k : Nat) : Prop where
  v : W.heap[n4]? = some (.cells (rowP 4 (L.take k) 4 1).toArray 44 (0, 0))
  g : W.heap[gA]? = some (.cells (rowP 2 (L.take k) 10 0).toArray 3 (0, 0))
  c : W.heap[gB]? = some (.cells (rowP 3 (L.take k) 10 0).toArray 3 (0, 0))
  bl : Below w.heap.size w W

set_option maxRecDepth 100000 in
set_option maxHeartbeats 8000000 in
theorem uses_any (a : Option Addr) (c : Nat) (L : List Part) (w : World) (hP : Parts w a L.length L) (hn : L.length ≤ 100000) (hc : L.length ≤ c) (hcm : c ≤ maxLen) (ht : ∀ p ∈ L, p.t.length ≤ 100000) (hN : Nm w) :
    Calls Tryd.prog 26 #[.slice a L.length c] w fun e w' => UsesPost L w e w' := by
  obtain ⟨P, hPe⟩ : ∃ P : Ending → World → Prop, P = fun e w' => UsesPost L w e w' := ⟨_, rfl⟩
  have HPe := Lib.hid hPe
  rw [← hPe]
  have hq := fun W h1 h2 => check_any a c L W h1 hn hc hcm ht h2
  have hb0 := (Below.refl _ w).alloc (Nat.le_refl _) (.cells #[.int .i64 0, .int .i64 0, .int .i64 0, .int .i64 0] 44)
  have r0 := World.alloc_heap_new w (.cells #[.int .i64 0, .int .i64 0, .int .i64 0, .int .i64 0] 44)
  have hP0 : Parts _ a L.length L := Rd.below hP hb0
  obtain ⟨E, hE⟩ : ∃ E, checkR L = E := ⟨_, rfl⟩
  rw [hE] at hq
  have HE := Lib.hid hE
  have HT := Lib.hid ht
  have HP := Lib.hid hP
  clear hPe hE ht hP
  have hmk : ∀ w, (Instr.makeSlice 43 (.int .i64 10) (.int .i64 10)).run Tryd.prog w = .ok (.slice (some ⟨w.heap.size, 0, none⟩) 10 10) (w.alloc (.cells #[.int .i64 0, .int .i64 0, .int .i64 0, .int .i64 0, .int .i64 0, .int .i64 0, .int .i64 0, .int .i64 0, .int .i64 0, .int .i64 0] 3)) := fun w => by kernel_rfl
  go_enter Tryd.func26, Tryd.ntmps26
  go_wp2_with fail
  refine (hq _ hP0 (hN.below hb0 hN.lt)).mono ?_
  rintro e w1 ⟨rfl, h1⟩
  have b1 := hb0.trans (h1.mono hb0.size)
  have r1 := (h1.block _ (lt_of_cells r0)).trans r0
  have c0 := cell_list r1 0
  have c1 := cell_list r1 1
  have c2 := cell_list r1 2
  have c3 := cell_list r1 3
  have cf := frozen_list r1
  simp only [List.getElem?_cons_zero, List.getElem?_cons_succ] at c0 c1 c2 c3
  clear hq hb0 r0 hP0 h1
  by_cases hz : ¬ E = 0
  · have hzb : (E != 0) = true := by simpa using hz
    clear hz
    go_wp2_with fail
    go_region
    all_goals
      go_wp2_with fail
      have hr2 := set_list (set_list (set_list (set_list r1 0 (.int .i64 0)) 1 (.int .i64 0)) 2 (.int .i64 0)) 3 (.int .i64 0)
      have hb2 := ((((b1.setCell (p := ⟨w.heap.size, 0, none⟩) (Nat.le_refl _) (.int .i64 0)).setCell (p := ⟨w.heap.size, 1, none⟩) (Nat.le_refl _) (.int .i64 0)).setCell (p := ⟨w.heap.size, 2, none⟩) (Nat.le_refl _) (.int .i64 0)).setCell (p := ⟨w.heap.size, 3, none⟩) (Nat.le_refl _) (.int .i64 0)).drew
      obtain ⟨W9, hW9⟩ : ∃ W, W = ((((w1.setCell ⟨w.heap.size, 0, none⟩ (.int .i64 0)).setCell ⟨w.heap.size, 1, none⟩ (.int .i64 0)).setCell ⟨w.heap.size, 2, none⟩ (.int .i64 0)).setCell ⟨w.heap.size, 3, none⟩ (.int .i64 0)).drew := ⟨_, rfl⟩
      have hr3 : W9.heap[w.heap.size]? = some (.cells [.int .i64 0, .int .i64 0, .int .i64 0, .int .i64 0].toArray 44 (0, 0)) := by rw [hW9]; exact hr2
      rw [← hW9] at hb2 ⊢
      clear hW9 hr2
      have z0 := cell_list hr3 0
      have z1 := cell_list hr3 1
      have z2 := cell_list hr3 2
      have z3 := cell_list hr3 3
      refine bodyPost_ret (v := .tuple #[.slice none 0 0, .slice none 0 0, .agg #[.int .i64 0, .int .i64 0, .int .i64 0, .int .i64 0], .int .i64 E]) (by simp [results, Tryd.results26, go_sem, z0, z1, z2, z3]) rfl ?_
      rw [HPe.out]
      have hu : ∀ K, usesG K L = [] := fun K => by unfold usesG; rw [HE.out, if_pos (by simpa using hzb)]
      have hv : usesV L = [.int .i64 0, .int .i64 0, .int .i64 0, .int .i64 0] := by unfold usesV; rw [HE.out, if_pos (by simpa using hzb), rowP_zero]; rfl
      unfold UsesPost
      rw [hu, hu, hv, HE.out]
      exact ⟨none, 0, none, 0, rfl, Rd.nil _ _ _, Rd.nil _ _ _, hb2⟩
  have hz0 : E = 0 := by omega
  subst hz0
  clear hz
  go_wp2_with fail
  go_region
  · have hz1 : (w1.alloc (.cells #[.int .i64 0, .int .i64 0, .int .i64 0, .int .i64 0, .int .i64 0, .int .i64 0, .int .i64 0, .int .i64 0, .int .i64 0, .int .i64 0] 3)).heap.size = w1.heap.size + 1 := by simp
    have l1 := lt_of_cells r1
    have rA := World.alloc_heap_new w1 (.cells #[.int .i64 0, .int .i64 0, .int .i64 0, .int .i64 0, .int .i64 0, .int .i64 0, .int .i64 0, .int .i64 0, .int .i64 0, .int .i64 0] 3)
    have bA := b1.alloc b1.size (.cells #[.int .i64 0, .int .i64 0, .int .i64 0, .int .i64 0, .int .i64 0, .int .i64 0, .int .i64 0, .int .i64 0, .int .i64 0, .int .i64 0] 3)
    have r2 := (Below.heap_alloc w1 (.cells #[.int .i64 0, .int .i64 0, .int .i64 0, .int .i64 0, .int .i64 0, .int .i64 0, .int .i64 0, .int .i64 0, .int .i64 0, .int .i64 0] 3) _ l1).trans r1
    obtain ⟨V1, hV1⟩ : ∃ V, V = w1.alloc (.cells #[.int .i64 0, .int .i64 0, .int .i64 0, .int .i64 0, .int .i64 0, .int .i64 0, .int .i64 0, .int .i64 0, .int .i64 0, .int .i64 0] 3) := ⟨_, rfl⟩
    rw [← hV1] at hz1 rA bA r2
    have rB := World.alloc_heap_new V1 (.cells #[.int .i64 0, .int .i64 0, .int .i64 0, .int .i64 0, .int .i64 0, .int .i64 0, .int .i64 0, .int .i64 0, .int .i64 0, .int .i64 0] 3)
    have bB := (bA.alloc bA.size (.cells #[.int .i64 0, .int .i64 0, .int .i64 0, .int .i64 0, .int .i64 0, .int .i64 0, .int .i64 0, .int .i64 0, .int .i64 0, .int .i64 0] 3)).drew
    have rA2 := (Below.heap_alloc V1 (.cells #[.int .i64 0, .int .i64 0, .int .i64 0, .int .i64 0, .int .i64 0, .int .i64 0, .int .i64 0, .int .i64 0, .int .i64 0, .int .i64 0] 3) _ (lt_of_cells rA)).trans rA
    have r3 := (Below.heap_alloc V1 (.cells #[.int .i64 0, .int .i64 0, .int .i64 0, .int .i64 0, .int .i64 0, .int .i64 0, .int .i64 0, .int .i64 0, .int .i64 0, .int .i64 0] 3) _ (lt_of_cells r2)).trans r2
    rw [hz1] at rB
    have hU0 : UM w (V1.alloc (.cells #[.int .i64 0, .int .i64 0, .int .i64 0, .int .i64 0, .int .i64 0, .int .i64 0, .int .i64 0, .int .i64 0, .int .i64 0, .int .i64 0] 3)).drew w.heap.size w1.heap.size (w1.heap.size + 1) L 0 := ⟨r3, rA2, rB, bB⟩
    obtain ⟨V2, hV2⟩ : ∃ V, V = (V1.alloc (.cells #[.int .i64 0, .int .i64 0, .int .i64 0, .int .i64 0, .int .i64 0, .int .i64 0, .int .i64 0, .int .i64 0, .int .i64 0, .int .i64 0] 3)).drew := ⟨_, rfl⟩
    rw [← hV2] at hU0
    rw [hV1] at hV2
    rw [← hV2]
    obtain ⟨gA, hgA⟩ : ∃ g, g = w1.heap.size := ⟨_, rfl⟩
    obtain ⟨gB, hgB⟩ : ∃ g, g = w1.heap.size + 1 := ⟨_, rfl⟩
    rw [← hgB, ← hgA] at hU0
    rw [← hgB, ← hgA]
    have hne1 : ¬ w.heap.size = gA := by omega
    have hne2 : ¬ w.heap.size = gB := by omega
    have hne3 : ¬ gA = gB := by omega
    have hlA : w.heap.size < gA := by omega
    have hlB : w.heap.size < gB := by omega
    have HU0 := Lib.hid hU0
    clear hV1 hV2 hgA hgB rA bA r2 rB bB rA2 r3 hz1 l1 b1 r1 c0 c1 c2 c3 cf hU0 hmk V1
    obtain ⟨z1, z2⟩ := checkR_zeroU HE.out
    go_wp2_with fail
    go_loopg [19] L.length (fun g i W => ∃ k : Nat, i = .int .i64 k ∧ k + g = L.length ∧ UM w W w.heap.size gA gB L k)
    case atStart => exact ⟨0, rfl, by omega, HU0.out⟩
    case round =>
      clear HU0
      obtain ⟨k, rfl, hk, hm⟩ := hrel
      have HM := Lib.hid hm
      clear hm
      by_cases hlt : k < L.length
      · obtain ⟨g', rfl⟩ : ∃ g', gk = g' + 1 := ⟨gk - 1, by omega⟩
        obtain ⟨x, hx⟩ : ∃ x, L[k]? = some x := ⟨_, List.getElem?_eq_getElem hlt⟩
        have hxm := List.mem_of_getElem? hx
        have hfx := one_fitX x (checkTo_fit L false z1 x hxm) (HT.out x hxm)
        have hkr : x.k = 1 ∨ x.k = 2 ∨ x.k = 3 ∨ x.k = 4 := by
          have h1 := checkTo_fit L false z1 x hxm
          unfold oneE at h1
          split at h1
          · cases h1
          · omega
        have hPr : Parts wr a L.length L := Rd.below HP.out HM.out.bl
        obtain ⟨ad, had, hbk, q0, q1, q2⟩ := Parts.get (L := L) hPr k x hx
        subst had
        have i0 : (0 : Int) ≤ (k : Int) := by omega
        have i1 : (k : Int) < (L.length : Int) := by omega
        have HX := Lib.hid hx
        have HFX := Lib.hid hfx
        clear hx hxm hfx hPr
        rcases hkr with hK | hK | hK | hK
        all_goals rw [hK] at q0
        · have HK := Lib.hid hK
          have hbw := HM.out.bl.alloc HM.out.bl.size (.cells #[.int .i64 1, .string (bs x.t), .int .i64 x.n] 59)
          clear hK
          go_wp2_with fail
          go_roundg g'
          case measure => omega
          case rel => exact ⟨k + 1, by go_num, by omega, (by rw [rowP_other 4 L k x HX.out 4 1 (by rw [HK.out]; decide)]; exact (Below.heap_alloc _ _ _ (lt_of_cells HM.out.v)).trans HM.out.v), (by rw [rowP_other 2 L k x HX.out 10 0 (by rw [HK.out]; decide)]; exact (Below.heap_alloc _ _ _ (lt_of_cells HM.out.g)).trans HM.out.g), (by rw [rowP_other 3 L k x HX.out 10 0 (by rw [HK.out]; decide)]; exact (Below.heap_alloc _ _ _ (lt_of_cells HM.out.c)).trans HM.out.c), hbw⟩
        · have hfit := HFX.out
          obtain ⟨n0, n9⟩ : 0 ≤ x.n ∧ x.n ≤ 9 := hfit.2.1 (by omega)
          obtain ⟨m, hmm⟩ : ∃ m : Nat, x.n = (m : Int) := ⟨x.n.toNat, by omega⟩
          have hm9 : m < 10 := by omega
          have hxo : x.n = 0 + (m : Int) := by omega
          rw [hmm] at q2
          have lA := lt_of_cells HM.out.g
          have d0 := cell_list (cs := rowP 2 (L.take k) 10 0) ((Below.heap_alloc wr (.cells #[.int .i64 2, .string (bs x.t), .int .i64 m] 59) _ lA).trans HM.out.g) m
          rw [rowP_get _ _ _ _ m hm9] at d0
          have df := frozen_list ((Below.heap_alloc wr (.cells #[.int .i64 2, .string (bs x.t), .int .i64 m] 59) _ lA).trans HM.out.g)
          have df2 := frozen_list HM.out.g
          have d1 := cell_list (cs := rowP 2 (L.take k) 10 0) HM.out.g m
          rw [rowP_get _ _ _ _ m hm9] at d1
          have hcl := cntP_le 2 (L.take k) (0 + (m : Int))
          have hcl2 : (L.take k).length ≤ k := List.length_take_le _ _
          have im0 : (0 : Int) ≤ (m : Int) := by omega
          have im1 : (m : Int) < 10 := by omega
          have HK := Lib.hid hK
          have HXO := Lib.hid hxo
          obtain ⟨N, hN⟩ : ∃ N, cntP 2 (L.take k) (0 + (m : Int)) = N := ⟨_, rfl⟩
          rw [hN] at d0 d1 hcl
          have HNN := Lib.hid hN
          have hNb : N ≤ 100000 := by omega
          have hbw := (HM.out.bl.setCell (p := ⟨gA, m, none⟩) (by show w.heap.size ≤ gA; omega) (.int .i64 ((N : Int) + 1))).alloc (by simp [World.setCell]; have := HM.out.bl.size; omega) (.cells #[.int .i64 2, .string (bs x.t), .int .i64 m] 59)
          clear hK n0 n9 hN hxo hmm hfit
          go_wp2_with fail
          go_roundg g'
          case measure => omega
          case rel => exact ⟨k + 1, by go_num, by omega, (by rw [rowP_other 4 L k x HX.out 4 1 (by rw [HK.out]; decide)]; exact (Below.heap_alloc _ _ _ (by simp [World.setCell]; exact lt_of_cells HM.out.v)).trans ((Below.heap_setCell _ _ _ _ (by show w.heap.size ≠ gA; omega)).trans HM.out.v)), (by rw [rowP_hit 2 L k x HX.out 10 0 m hm9 HXO.out HK.out]; rw [HNN.out]; exact (Below.heap_alloc _ _ _ (by simp [World.setCell]; exact lt_of_cells HM.out.g)).trans (set_list HM.out.g m _)), (by rw [rowP_other 3 L k x HX.out 10 0 (by rw [HK.out]; decide)]; exact (Below.heap_alloc _ _ _ (by simp [World.setCell]; exact lt_of_cells HM.out.c)).trans ((Below.heap_setCell _ _ _ _ (by show gB ≠ gA; omega)).trans HM.out.c)), hbw⟩
        · have hfit := HFX.out
          obtain ⟨n0, n9⟩ : 0 ≤ x.n ∧ x.n ≤ 9 := hfit.2.1 (by omega)
          obtain ⟨m, hmm⟩ : ∃ m : Nat, x.n = (m : Int) := ⟨x.n.toNat, by omega⟩
          have hm9 : m < 10 := by omega
          have hxo : x.n = 0 + (m : Int) := by omega
          rw [hmm] at q2
          have lA := lt_of_cells HM.out.c
          have d0 := cell_list (cs := rowP 3 (L.take k) 10 0) ((Below.heap_alloc wr (.cells #[.int .i64 3, .string (bs x.t), .int .i64 m] 59) _ lA).trans HM.out.c) m
          rw [rowP_get _ _ _ _ m hm9] at d0
          have df := frozen_list ((Below.heap_alloc wr (.cells #[.int .i64 3, .string (bs x.t), .int .i64 m] 59) _ lA).trans HM.out.c)
          have df2 := frozen_list HM.out.c
          have d1 := cell_list (cs := rowP 3 (L.take k) 10 0) HM.out.c m
          rw [rowP_get _ _ _ _ m hm9] at d1
          have hcl := cntP_le 3 (L.take k) (0 + (m : Int))
          have hcl2 : (L.take k).length ≤ k := List.length_take_le _ _
          have im0 : (0 : Int) ≤ (m : Int) := by omega
          have im1 : (m : Int) < 10 := by omega
          have HK := Lib.hid hK
          have HXO := Lib.hid hxo
          obtain ⟨N, hN⟩ : ∃ N, cntP 3 (L.take k) (0 + (m : Int)) = N := ⟨_, rfl⟩
          rw [hN] at d0 d1 hcl
          have HNN := Lib.hid hN
          have hNb : N ≤ 100000 := by omega
          have hbw := (HM.out.bl.setCell (p := ⟨gB, m, none⟩) (by show w.heap.size ≤ gB; omega) (.int .i64 ((N : Int) + 1))).alloc (by simp [World.setCell]; have := HM.out.bl.size; omega) (.cells #[.int .i64 3, .string (bs x.t), .int .i64 m] 59)
          clear hK n0 n9 hN hxo hmm hfit
          go_wp2_with fail
          go_roundg g'
          case measure => omega
          case rel => exact ⟨k + 1, by go_num, by omega, (by rw [rowP_other 4 L k x HX.out 4 1 (by rw [HK.out]; decide)]; exact (Below.heap_alloc _ _ _ (by simp [World.setCell]; exact lt_of_cells HM.out.v)).trans ((Below.heap_setCell _ _ _ _ (by show w.heap.size ≠ gB; omega)).trans HM.out.v)), (by rw [rowP_other 2 L k x HX.out 10 0 (by rw [HK.out]; decide)]; exact (Below.heap_alloc _ _ _ (by simp [World.setCell]; exact lt_of_cells HM.out.g)).trans ((Below.heap_setCell _ _ _ _ (by show gA ≠ gB; omega)).trans HM.out.g)), (by rw [rowP_hit 3 L k x HX.out 10 0 m hm9 HXO.out HK.out]; rw [HNN.out]; exact (Below.heap_alloc _ _ _ (by simp [World.setCell]; exact lt_of_cells HM.out.c)).trans (set_list HM.out.c m _)), hbw⟩
        · have hfit := HFX.out
          obtain ⟨n0, n9⟩ : 1 ≤ x.n ∧ x.n ≤ 4 := hfit.2.2 hK
          obtain ⟨m, hmm⟩ : ∃ m : Nat, x.n = (m : Int) + 1 := ⟨(x.n - 1).toNat, by omega⟩
          have hm9 : m < 4 := by omega
          have hxo : x.n = 1 + (m : Int) := by omega
          rw [hmm] at q2
          have lA := lt_of_cells HM.out.v
          have d0 := cell_list (cs := rowP 4 (L.take k) 4 1) ((Below.heap_alloc wr (.cells #[.int .i64 4, .string (bs x.t), .int .i64 ((m : Int) + 1)] 59) _ lA).trans HM.out.v) m
          rw [rowP_get _ _ _ _ m hm9] at d0
          have df := frozen_list ((Below.heap_alloc wr (.cells #[.int .i64 4, .string (bs x.t), .int .i64 ((m : Int) + 1)] 59) _ lA).trans HM.out.v)
          have df2 := frozen_list HM.out.v
          have d1 := cell_list (cs := rowP 4 (L.take k) 4 1) HM.out.v m
          rw [rowP_get _ _ _ _ m hm9] at d1
          have hcl := cntP_le 4 (L.take k) (1 + (m : Int))
          have hcl2 : (L.take k).length ≤ k := List.length_take_le _ _
          have im0 : (0 : Int) ≤ (m : Int) := by omega
          have im1 : (m : Int) < 4 := by omega
          have HK := Lib.hid hK
          have HXO := Lib.hid hxo
          obtain ⟨N, hN⟩ : ∃ N, cntP 4 (L.take k) (1 + (m : Int)) = N := ⟨_, rfl⟩
          rw [hN] at d0 d1 hcl
          have HNN := Lib.hid hN
          have hNb : N ≤ 100000 := by omega
          have hbw := (HM.out.bl.setCell (p := ⟨w.heap.size, m, none⟩) (by show w.heap.size ≤ w.heap.size; omega) (.int .i64 ((N : Int) + 1))).alloc (by simp [World.setCell]; have := HM.out.bl.size; omega) (.cells #[.int .i64 4, .string (bs x.t), .int .i64 ((m : Int) + 1)] 59)
          clear hK n0 n9 hN hxo hmm hfit
          go_wp2_with fail
          go_roundg g'
          case measure => omega
          case rel => exact ⟨k + 1, by go_num, by omega, (by rw [rowP_hit 4 L k x HX.out 4 1 m hm9 HXO.out HK.out]; rw [HNN.out]; exact (Below.heap_alloc _ _ _ (by simp [World.setCell]; exact lt_of_cells HM.out.v)).trans (set_list HM.out.v m _)), (by rw [rowP_other 2 L k x HX.out 10 0 (by rw [HK.out]; decide)]; exact (Below.heap_alloc _ _ _ (by simp [World.setCell]; exact lt_of_cells HM.out.g)).trans ((Below.heap_setCell _ _ _ _ (by show gA ≠ w.heap.size; omega)).trans HM.out.g)), (by rw [rowP_other 3 L k x HX.out 10 0 (by rw [HK.out]; decide)]; exact (Below.heap_alloc _ _ _ (by simp [World.setCell]; exact lt_of_cells HM.out.c)).trans ((Below.heap_setCell _ _ _ _ (by show gB ≠ w.heap.size; omega)).trans HM.out.c)), hbw⟩
      · obtain rfl : k = L.length := by omega
        have hv := HM.out.v
        have hg := HM.out.g
        have hcc := HM.out.c
        have hbl := HM.out.bl
        rw [List.take_length] at hv hg hcc
        have hE4 : rowP 4 L 4 1 = [.int .i64 (cntP 4 L (1 + 0) : Nat), .int .i64 (cntP 4 L (1 + 1) : Nat), .int .i64 (cntP 4 L (1 + 2) : Nat), .int .i64 (cntP 4 L (1 + 3) : Nat)] := rfl
        have hu2 : usesG 2 L = rowP 2 L 10 0 := by unfold usesG; rw [HE.out, if_neg (by simp)]
        have hu3 : usesG 3 L = rowP 3 L 10 0 := by unfold usesG; rw [HE.out, if_neg (by simp)]
        have huv : usesV L = rowP 4 L 4 1 := by unfold usesV; rw [HE.out, if_neg (by simp)]
        rw [hE4] at hv huv
        generalize (cntP 4 L (1 + 0)) = N0 at hv huv
        generalize (cntP 4 L (1 + 1)) = N1 at hv huv
        generalize (cntP 4 L (1 + 2)) = N2 at hv huv
        generalize (cntP 4 L (1 + 3)) = N3 at hv huv
        have c0 := cell_list hv 0
        have c1 := cell_list hv 1
        have c2 := cell_list hv 2
        have c3 := cell_list hv 3
        have cf := frozen_list hv
        simp only [List.getElem?_cons_zero, List.getElem?_cons_succ] at c0 c1 c2 c3
        have HU2 := Lib.hid hu2
        have HU3 := Lib.hid hu3
        have HUV := Lib.hid huv
        have hr2 := set_list (set_list (set_list (set_list hv 0 (.int .i64 N0)) 1 (.int .i64 N1)) 2 (.int .i64 N2)) 3 (.int .i64 N3)
        have hb2 := ((((hbl.setCell (p := ⟨w.heap.size, 0, none⟩) (Nat.le_refl _) (.int .i64 N0)).setCell (p := ⟨w.heap.size, 1, none⟩) (Nat.le_refl _) (.int .i64 N1)).setCell (p := ⟨w.heap.size, 2, none⟩) (Nat.le_refl _) (.int .i64 N2)).setCell (p := ⟨w.heap.size, 3, none⟩) (Nat.le_refl _) (.int .i64 N3)).drew
        have hg2 := (Below.heap_setCell (((wr.setCell ⟨w.heap.size, 0, none⟩ (.int .i64 N0)).setCell ⟨w.heap.size, 1, none⟩ (.int .i64 N1)).setCell ⟨w.heap.size, 2, none⟩ (.int .i64 N2)) ⟨w.heap.size, 3, none⟩ (.int .i64 N3) gA (by show gA ≠ w.heap.size; omega)).trans ((Below.heap_setCell ((wr.setCell ⟨w.heap.size, 0, none⟩ (.int .i64 N0)).setCell ⟨w.heap.size, 1, none⟩ (.int .i64 N1)) ⟨w.heap.size, 2, none⟩ (.int .i64 N2) gA (by show gA ≠ w.heap.size; omega)).trans ((Below.heap_setCell (wr.setCell ⟨w.heap.size, 0, none⟩ (.int .i64 N0)) ⟨w.heap.size, 1, none⟩ (.int .i64 N1) gA (by show gA ≠ w.heap.size; omega)).trans ((Below.heap_setCell wr ⟨w.heap.size, 0, none⟩ (.int .i64 N0) gA (by show gA ≠ w.heap.size; omega)).trans hg)))
        have hc2 := (Below.heap_setCell (((wr.setCell ⟨w.heap.size, 0, none⟩ (.int .i64 N0)).setCell ⟨w.heap.size, 1, none⟩ (.int .i64 N1)).setCell ⟨w.heap.size, 2, none⟩ (.int .i64 N2)) ⟨w.heap.size, 3, none⟩ (.int .i64 N3) gB (by show gB ≠ w.heap.size; omega)).trans ((Below.heap_setCell ((wr.setCell ⟨w.heap.size, 0, none⟩ (.int .i64 N0)).setCell ⟨w.heap.size, 1, none⟩ (.int .i64 N1)) ⟨w.heap.size, 2, none⟩ (.int .i64 N2) gB (by show gB ≠ w.heap.size; omega)).trans ((Below.heap_setCell (wr.setCell ⟨w.heap.size, 0, none⟩ (.int .i64 N0)) ⟨w.heap.size, 1, none⟩ (.int .i64 N1) gB (by show gB ≠ w.heap.size; omega)).trans ((Below.heap_setCell wr ⟨w.heap.size, 0, none⟩ (.int .i64 N0) gB (by show gB ≠ w.heap.size; omega)).trans hcc)))
        have HR2 := Lib.hid hr2
        have HB2 := Lib.hid hb2
        have HG2 := Lib.hid hg2
        have HC2 := Lib.hid hc2
        clear hv hg hcc hbl hE4 hu2 hu3 huv hr2 hb2 hg2 hc2 HM
        go_wp2_with fail
        go_region
        all_goals
          go_wp2_with fail
          have hb2 := HB2.out
          obtain ⟨W9, hW9⟩ : ∃ W, W = ((((wr.setCell ⟨w.heap.size, 0, none⟩ (.int .i64 N0)).setCell ⟨w.heap.size, 1, none⟩ (.int .i64 N1)).setCell ⟨w.heap.size, 2, none⟩ (.int .i64 N2)).setCell ⟨w.heap.size, 3, none⟩ (.int .i64 N3)).drew := ⟨_, rfl⟩
          have hr3 : W9.heap[w.heap.size]? = some (.cells [.int .i64 N0, .int .i64 N1, .int .i64 N2, .int .i64 N3].toArray 44 (0, 0)) := by rw [hW9]; exact HR2.out
          have hg3 : W9.heap[gA]? = some (.cells (rowP 2 L 10 0).toArray 3 (0, 0)) := by rw [hW9]; exact HG2.out
          have hc3 : W9.heap[gB]? = some (.cells (rowP 3 L 10 0).toArray 3 (0, 0)) := by rw [hW9]; exact HC2.out
          rw [← hW9] at hb2 ⊢
          clear hW9
          have z0 := cell_list hr3 0
          have z1 := cell_list hr3 1
          have z2 := cell_list hr3 2
          have z3 := cell_list hr3 3
          simp only [List.getElem?_cons_zero, List.getElem?_cons_succ] at z0 z1 z2 z3
          refine bodyPost_ret (v := .tuple #[.slice (some ⟨gA, 0, none⟩) 10 10, .slice (some ⟨gB, 0, none⟩) 10 10, .agg #[.int .i64 N0, .int .i64 N1, .int .i64 N2, .int .i64 N3], .int .i64 0]) (by simp [results, Tryd.results26, go_sem, z0, z1, z2, z3]) rfl ?_
          rw [HPe.out]
          unfold UsesPost
          rw [HU2.out, HU3.out, HUV.out, HE.out, rowP_len, rowP_len]
          exact ⟨_, _, _, _, rfl, rowP_rd hg3, rowP_rd hc3, hb2⟩
  · have hz1 : (w1.alloc (.cells #[.int .i64 0, .int .i64 0, .int .i64 0, .int .i64 0, .int .i64 0, .int .i64 0, .int .i64 0, .int .i64 0, .int .i64 0, .int .i64 0] 3)).heap.size = w1.heap.size + 1 := by simp
    have l1 := lt_of_cells r1
    have rA := World.alloc_heap_new w1 (.cells #[.int .i64 0, .int .i64 0, .int .i64 0, .int .i64 0, .int .i64 0, .int .i64 0, .int .i64 0, .int .i64 0, .int .i64 0, .int .i64 0] 3)
    have bA := b1.alloc b1.size (.cells #[.int .i64 0, .int .i64 0, .int .i64 0, .int .i64 0, .int .i64 0, .int .i64 0, .int .i64 0, .int .i64 0, .int .i64 0, .int .i64 0] 3)
    have r2 := (Below.heap_alloc w1 (.cells #[.int .i64 0, .int .i64 0, .int .i64 0, .int .i64 0, .int .i64 0, .int .i64 0, .int .i64 0, .int .i64 0, .int .i64 0, .int .i64 0] 3) _ l1).trans r1
    obtain ⟨V1, hV1⟩ : ∃ V, V = w1.alloc (.cells #[.int .i64 0, .int .i64 0, .int .i64 0, .int .i64 0, .int .i64 0, .int .i64 0, .int .i64 0, .int .i64 0, .int .i64 0, .int .i64 0] 3) := ⟨_, rfl⟩
    rw [← hV1] at hz1 rA bA r2
    have rB := World.alloc_heap_new V1 (.cells #[.int .i64 0, .int .i64 0, .int .i64 0, .int .i64 0, .int .i64 0, .int .i64 0, .int .i64 0, .int .i64 0, .int .i64 0, .int .i64 0] 3)
    have bB := (bA.alloc bA.size (.cells #[.int .i64 0, .int .i64 0, .int .i64 0, .int .i64 0, .int .i64 0, .int .i64 0, .int .i64 0, .int .i64 0, .int .i64 0, .int .i64 0] 3)).drew
    have rA2 := (Below.heap_alloc V1 (.cells #[.int .i64 0, .int .i64 0, .int .i64 0, .int .i64 0, .int .i64 0, .int .i64 0, .int .i64 0, .int .i64 0, .int .i64 0, .int .i64 0] 3) _ (lt_of_cells rA)).trans rA
    have r3 := (Below.heap_alloc V1 (.cells #[.int .i64 0, .int .i64 0, .int .i64 0, .int .i64 0, .int .i64 0, .int .i64 0, .int .i64 0, .int .i64 0, .int .i64 0, .int .i64 0] 3) _ (lt_of_cells r2)).trans r2
    rw [hz1] at rB
    have hU0 : UM w (V1.alloc (.cells #[.int .i64 0, .int .i64 0, .int .i64 0, .int .i64 0, .int .i64 0, .int .i64 0, .int .i64 0, .int .i64 0, .int .i64 0, .int .i64 0] 3)).drew w.heap.size (w1.heap.size + 1) w1.heap.size L 0 := ⟨r3, rB, rA2, bB⟩
    obtain ⟨V2, hV2⟩ : ∃ V, V = (V1.alloc (.cells #[.int .i64 0, .int .i64 0, .int .i64 0, .int .i64 0, .int .i64 0, .int .i64 0, .int .i64 0, .int .i64 0, .int .i64 0, .int .i64 0] 3)).drew := ⟨_, rfl⟩
    rw [← hV2] at hU0
    rw [hV1] at hV2
    rw [← hV2]
    obtain ⟨gA, hgA⟩ : ∃ g, g = w1.heap.size + 1 := ⟨_, rfl⟩
    obtain ⟨gB, hgB⟩ : ∃ g, g = w1.heap.size := ⟨_, rfl⟩
    rw [← hgA, ← hgB] at hU0
    rw [← hgA, ← hgB]
    have hne1 : ¬ w.heap.size = gA := by omega
    have hne2 : ¬ w.heap.size = gB := by omega
    have hne3 : ¬ gA = gB := by omega
    have hlA : w.heap.size < gA := by omega
    have hlB : w.heap.size < gB := by omega
    have HU0 := Lib.hid hU0
    clear hV1 hV2 hgA hgB rA bA r2 rB bB rA2 r3 hz1 l1 b1 r1 c0 c1 c2 c3 cf hU0 hmk V1
    obtain ⟨z1, z2⟩ := checkR_zeroU HE.out
    go_wp2_with fail
    go_loopg [19] L.length (fun g i W => ∃ k : Nat, i = .int .i64 k ∧ k + g = L.length ∧ UM w W w.heap.size gA gB L k)
    case atStart => exact ⟨0, rfl, by omega, HU0.out⟩
    case round =>
      clear HU0
      obtain ⟨k, rfl, hk, hm⟩ := hrel
      have HM := Lib.hid hm
      clear hm
      by_cases hlt : k < L.length
      · obtain ⟨g', rfl⟩ : ∃ g', gk = g' + 1 := ⟨gk - 1, by omega⟩
        obtain ⟨x, hx⟩ : ∃ x, L[k]? = some x := ⟨_, List.getElem?_eq_getElem hlt⟩
        have hxm := List.mem_of_getElem? hx
        have hfx := one_fitX x (checkTo_fit L false z1 x hxm) (HT.out x hxm)
        have hkr : x.k = 1 ∨ x.k = 2 ∨ x.k = 3 ∨ x.k = 4 := by
          have h1 := checkTo_fit L false z1 x hxm
          unfold oneE at h1
          split at h1
          · cases h1
          · omega
        have hPr : Parts wr a L.length L := Rd.below HP.out HM.out.bl
        obtain ⟨ad, had, hbk, q0, q1, q2⟩ := Parts.get (L := L) hPr k x hx
        subst had
        have i0 : (0 : Int) ≤ (k : Int) := by omega
        have i1 : (k : Int) < (L.length : Int) := by omega
        have HX := Lib.hid hx
        have HFX := Lib.hid hfx
        clear hx hxm hfx hPr
        rcases hkr with hK | hK | hK | hK
        all_goals rw [hK] at q0
        · have HK := Lib.hid hK
          have hbw := HM.out.bl.alloc HM.out.bl.size (.cells #[.int .i64 1, .string (bs x.t), .int .i64 x.n] 59)
          clear hK
          go_wp2_with fail
          go_roundg g'
          case measure => omega
          case rel => exact ⟨k + 1, by go_num, by omega, (by rw [rowP_other 4 L k x HX.out 4 1 (by rw [HK.out]; decide)]; exact (Below.heap_alloc _ _ _ (lt_of_cells HM.out.v)).trans HM.out.v), (by rw [rowP_other 2 L k x HX.out 10 0 (by rw [HK.out]; decide)]; exact (Below.heap_alloc _ _ _ (lt_of_cells HM.out.g)).trans HM.out.g), (by rw [rowP_other 3 L k x HX.out 10 0 (by rw [HK.out]; decide)]; exact (Below.heap_alloc _ _ _ (lt_of_cells HM.out.c)).trans HM.out.c), hbw⟩
        · have hfit := HFX.out
          obtain ⟨n0, n9⟩ : 0 ≤ x.n ∧ x.n ≤ 9 := hfit.2.1 (by omega)
          obtain ⟨m, hmm⟩ : ∃ m : Nat, x.n = (m : Int) := ⟨x.n.toNat, by omega⟩
          have hm9 : m < 10 := by omega
          have hxo : x.n = 0 + (m : Int) := by omega
          rw [hmm] at q2
          have lA := lt_of_cells HM.out.g
          have d0 := cell_list (cs := rowP 2 (L.take k) 10 0) ((Below.heap_alloc wr (.cells #[.int .i64 2, .string (bs x.t), .int .i64 m] 59) _ lA).trans HM.out.g) m
          rw [rowP_get _ _ _ _ m hm9] at d0
          have df := frozen_list ((Below.heap_alloc wr (.cells #[.int .i64 2, .string (bs x.t), .int .i64 m] 59) _ lA).trans HM.out.g)
          have df2 := frozen_list HM.out.g
          have d1 := cell_list (cs := rowP 2 (L.take k) 10 0) HM.out.g m
          rw [rowP_get _ _ _ _ m hm9] at d1
          have hcl := cntP_le 2 (L.take k) (0 + (m : Int))
          have hcl2 : (L.take k).length ≤ k := List.length_take_le _ _
          have im0 : (0 : Int) ≤ (m : Int) := by omega
          have im1 : (m : Int) < 10 := by omega
          have HK := Lib.hid hK
          have HXO := Lib.hid hxo
          obtain ⟨N, hN⟩ : ∃ N, cntP 2 (L.take k) (0 + (m : Int)) = N := ⟨_, rfl⟩
          rw [hN] at d0 d1 hcl
          have HNN := Lib.hid hN
          have hNb : N ≤ 100000 := by omega
          have hbw := (HM.out.bl.setCell (p := ⟨gA, m, none⟩) (by show w.heap.size ≤ gA; omega) (.int .i64 ((N : Int) + 1))).alloc (by simp [World.setCell]; have := HM.out.bl.size; omega) (.cells #[.int .i64 2, .string (bs x.t), .int .i64 m] 59)
          clear hK n0 n9 hN hxo hmm hfit
          go_wp2_with fail
          go_roundg g'
          case measure => omega
          case rel => exact ⟨k + 1, by go_num, by omega, (by rw [rowP_other 4 L k x HX.out 4 1 (by rw [HK.out]; decide)]; exact (Below.heap_alloc _ _ _ (by simp [World.setCell]; exact lt_of_cells HM.out.v)).trans ((Below.heap_setCell _ _ _ _ (by show w.heap.size ≠ gA; omega)).trans HM.out.v)), (by rw [rowP_hit 2 L k x HX.out 10 0 m hm9 HXO.out HK.out]; rw [HNN.out]; exact (Below.heap_alloc _ _ _ (by simp [World.setCell]; exact lt_of_cells HM.out.g)).trans (set_list HM.out.g m _)), (by rw [rowP_other 3 L k x HX.out 10 0 (by rw [HK.out]; decide)]; exact (Below.heap_alloc _ _ _ (by simp [World.setCell]; exact lt_of_cells HM.out.c)).trans ((Below.heap_setCell _ _ _ _ (by show gB ≠ gA; omega)).trans HM.out.c)), hbw⟩
        · have hfit := HFX.out
          obtain ⟨n0, n9⟩ : 0 ≤ x.n ∧ x.n ≤ 9 := hfit.2.1 (by omega)
          obtain ⟨m, hmm⟩ : ∃ m : Nat, x.n = (m : Int) := ⟨x.n.toNat, by omega⟩
          have hm9 : m < 10 := by omega
          have hxo : x.n = 0 + (m : Int) := by omega
          rw [hmm] at q2
          have lA := lt_of_cells HM.out.c
          have d0 := cell_list (cs := rowP 3 (L.take k) 10 0) ((Below.heap_alloc wr (.cells #[.int .i64 3, .string (bs x.t), .int .i64 m] 59) _ lA).trans HM.out.c) m
          rw [rowP_get _ _ _ _ m hm9] at d0
          have df := frozen_list ((Below.heap_alloc wr (.cells #[.int .i64 3, .string (bs x.t), .int .i64 m] 59) _ lA).trans HM.out.c)
          have df2 := frozen_list HM.out.c
          have d1 := cell_list (cs := rowP 3 (L.take k) 10 0) HM.out.c m
          rw [rowP_get _ _ _ _ m hm9] at d1
          have hcl := cntP_le 3 (L.take k) (0 + (m : Int))
          have hcl2 : (L.take k).length ≤ k := List.length_take_le _ _
          have im0 : (0 : Int) ≤ (m : Int) := by omega
          have im1 : (m : Int) < 10 := by omega
          have HK := Lib.hid hK
          have HXO := Lib.hid hxo
          obtain ⟨N, hN⟩ : ∃ N, cntP 3 (L.take k) (0 + (m : Int)) = N := ⟨_, rfl⟩
          rw [hN] at d0 d1 hcl
          have HNN := Lib.hid hN
          have hNb : N ≤ 100000 := by omega
          have hbw := (HM.out.bl.setCell (p := ⟨gB, m, none⟩) (by show w.heap.size ≤ gB; omega) (.int .i64 ((N : Int) + 1))).alloc (by simp [World.setCell]; have := HM.out.bl.size; omega) (.cells #[.int .i64 3, .string (bs x.t), .int .i64 m] 59)
          clear hK n0 n9 hN hxo hmm hfit
          go_wp2_with fail
          go_roundg g'
          case measure => omega
          case rel => exact ⟨k + 1, by go_num, by omega, (by rw [rowP_other 4 L k x HX.out 4 1 (by rw [HK.out]; decide)]; exact (Below.heap_alloc _ _ _ (by simp [World.setCell]; exact lt_of_cells HM.out.v)).trans ((Below.heap_setCell _ _ _ _ (by show w.heap.size ≠ gB; omega)).trans HM.out.v)), (by rw [rowP_other 2 L k x HX.out 10 0 (by rw [HK.out]; decide)]; exact (Below.heap_alloc _ _ _ (by simp [World.setCell]; exact lt_of_cells HM.out.g)).trans ((Below.heap_setCell _ _ _ _ (by show gA ≠ gB; omega)).trans HM.out.g)), (by rw [rowP_hit 3 L k x HX.out 10 0 m hm9 HXO.out HK.out]; rw [HNN.out]; exact (Below.heap_alloc _ _ _ (by simp [World.setCell]; exact lt_of_cells HM.out.c)).trans (set_list HM.out.c m _)), hbw⟩
        · have hfit := HFX.out
          obtain ⟨n0, n9⟩ : 1 ≤ x.n ∧ x.n ≤ 4 := hfit.2.2 hK
          obtain ⟨m, hmm⟩ : ∃ m : Nat, x.n = (m : Int) + 1 := ⟨(x.n - 1).toNat, by omega⟩
          have hm9 : m < 4 := by omega
          have hxo : x.n = 1 + (m : Int) := by omega
          rw [hmm] at q2
          have lA := lt_of_cells HM.out.v
          have d0 := cell_list (cs := rowP 4 (L.take k) 4 1) ((Below.heap_alloc wr (.cells #[.int .i64 4, .string (bs x.t), .int .i64 ((m : Int) + 1)] 59) _ lA).trans HM.out.v) m
          rw [rowP_get _ _ _ _ m hm9] at d0
          have df := frozen_list ((Below.heap_alloc wr (.cells #[.int .i64 4, .string (bs x.t), .int .i64 ((m : Int) + 1)] 59) _ lA).trans HM.out.v)
          have df2 := frozen_list HM.out.v
          have d1 := cell_list (cs := rowP 4 (L.take k) 4 1) HM.out.v m
          rw [rowP_get _ _ _ _ m hm9] at d1
          have hcl := cntP_le 4 (L.take k) (1 + (m : Int))
          have hcl2 : (L.take k).length ≤ k := List.length_take_le _ _
          have im0 : (0 : Int) ≤ (m : Int) := by omega
          have im1 : (m : Int) < 4 := by omega
          have HK := Lib.hid hK
          have HXO := Lib.hid hxo
          obtain ⟨N, hN⟩ : ∃ N, cntP 4 (L.take k) (1 + (m : Int)) = N := ⟨_, rfl⟩
          rw [hN] at d0 d1 hcl
          have HNN := Lib.hid hN
          have hNb : N ≤ 100000 := by omega
          have hbw := (HM.out.bl.setCell (p := ⟨w.heap.size, m, none⟩) (by show w.heap.size ≤ w.heap.size; omega) (.int .i64 ((N : Int) + 1))).alloc (by simp [World.setCell]; have := HM.out.bl.size; omega) (.cells #[.int .i64 4, .string (bs x.t), .int .i64 ((m : Int) + 1)] 59)
          clear hK n0 n9 hN hxo hmm hfit
          go_wp2_with fail
          go_roundg g'
          case measure => omega
          case rel => exact ⟨k + 1, by go_num, by omega, (by rw [rowP_hit 4 L k x HX.out 4 1 m hm9 HXO.out HK.out]; rw [HNN.out]; exact (Below.heap_alloc _ _ _ (by simp [World.setCell]; exact lt_of_cells HM.out.v)).trans (set_list HM.out.v m _)), (by rw [rowP_other 2 L k x HX.out 10 0 (by rw [HK.out]; decide)]; exact (Below.heap_alloc _ _ _ (by simp [World.setCell]; exact lt_of_cells HM.out.g)).trans ((Below.heap_setCell _ _ _ _ (by show gA ≠ w.heap.size; omega)).trans HM.out.g)), (by rw [rowP_other 3 L k x HX.out 10 0 (by rw [HK.out]; decide)]; exact (Below.heap_alloc _ _ _ (by simp [World.setCell]; exact lt_of_cells HM.out.c)).trans ((Below.heap_setCell _ _ _ _ (by show gB ≠ w.heap.size; omega)).trans HM.out.c)), hbw⟩
      · obtain rfl : k = L.length := by omega
        have hv := HM.out.v
        have hg := HM.out.g
        have hcc := HM.out.c
        have hbl := HM.out.bl
        rw [List.take_length] at hv hg hcc
        have hE4 : rowP 4 L 4 1 = [.int .i64 (cntP 4 L (1 + 0) : Nat), .int .i64 (cntP 4 L (1 + 1) : Nat), .int .i64 (cntP 4 L (1 + 2) : Nat), .int .i64 (cntP 4 L (1 + 3) : Nat)] := rfl
        have hu2 : usesG 2 L = rowP 2 L 10 0 := by unfold usesG; rw [HE.out, if_neg (by simp)]
        have hu3 : usesG 3 L = rowP 3 L 10 0 := by unfold usesG; rw [HE.out, if_neg (by simp)]
        have huv : usesV L = rowP 4 L 4 1 := by unfold usesV; rw [HE.out, if_neg (by simp)]
        rw [hE4] at hv huv
        generalize (cntP 4 L (1 + 0)) = N0 at hv huv
        generalize (cntP 4 L (1 + 1)) = N1 at hv huv
        generalize (cntP 4 L (1 + 2)) = N2 at hv huv
        generalize (cntP 4 L (1 + 3)) = N3 at hv huv
        have c0 := cell_list hv 0
        have c1 := cell_list hv 1
        have c2 := cell_list hv 2
        have c3 := cell_list hv 3
        have cf := frozen_list hv
        simp only [List.getElem?_cons_zero, List.getElem?_cons_succ] at c0 c1 c2 c3
        have HU2 := Lib.hid hu2
        have HU3 := Lib.hid hu3
        have HUV := Lib.hid huv
        have hr2 := set_list (set_list (set_list (set_list hv 0 (.int .i64 N0)) 1 (.int .i64 N1)) 2 (.int .i64 N2)) 3 (.int .i64 N3)
        have hb2 := ((((hbl.setCell (p := ⟨w.heap.size, 0, none⟩) (Nat.le_refl _) (.int .i64 N0)).setCell (p := ⟨w.heap.size, 1, none⟩) (Nat.le_refl _) (.int .i64 N1)).setCell (p := ⟨w.heap.size, 2, none⟩) (Nat.le_refl _) (.int .i64 N2)).setCell (p := ⟨w.heap.size, 3, none⟩) (Nat.le_refl _) (.int .i64 N3)).drew
        have hg2 := (Below.heap_setCell (((wr.setCell ⟨w.heap.size, 0, none⟩ (.int .i64 N0)).setCell ⟨w.heap.size, 1, none⟩ (.int .i64 N1)).setCell ⟨w.heap.size, 2, none⟩ (.int .i64 N2)) ⟨w.heap.size, 3, none⟩ (.int .i64 N3) gA (by show gA ≠ w.heap.size; omega)).trans ((Below.heap_setCell ((wr.setCell ⟨w.heap.size, 0, none⟩ (.int .i64 N0)).setCell ⟨w.heap.size, 1, none⟩ (.int .i64 N1)) ⟨w.heap.size, 2, none⟩ (.int .i64 N2) gA (by show gA ≠ w.heap.size; omega)).trans ((Below.heap_setCell (wr.setCell ⟨w.heap.size, 0, none⟩ (.int .i64 N0)) ⟨w.heap.size, 1, none⟩ (.int .i64 N1) gA (by show gA ≠ w.heap.size; omega)).trans ((Below.heap_setCell wr ⟨w.heap.size, 0, none⟩ (.int .i64 N0) gA (by show gA ≠ w.heap.size; omega)).trans hg)))
        have hc2 := (Below.heap_setCell (((wr.setCell ⟨w.heap.size, 0, none⟩ (.int .i64 N0)).setCell ⟨w.heap.size, 1, none⟩ (.int .i64 N1)).setCell ⟨w.heap.size, 2, none⟩ (.int .i64 N2)) ⟨w.heap.size, 3, none⟩ (.int .i64 N3) gB (by show gB ≠ w.heap.size; omega)).trans ((Below.heap_setCell ((wr.setCell ⟨w.heap.size, 0, none⟩ (.int .i64 N0)).setCell ⟨w.heap.size, 1, none⟩ (.int .i64 N1)) ⟨w.heap.size, 2, none⟩ (.int .i64 N2) gB (by show gB ≠ w.heap.size; omega)).trans ((Below.heap_setCell (wr.setCell ⟨w.heap.size, 0, none⟩ (.int .i64 N0)) ⟨w.heap.size, 1, none⟩ (.int .i64 N1) gB (by show gB ≠ w.heap.size; omega)).trans ((Below.heap_setCell wr ⟨w.heap.size, 0, none⟩ (.int .i64 N0) gB (by show gB ≠ w.heap.size; omega)).trans hcc)))
        have HR2 := Lib.hid hr2
        have HB2 := Lib.hid hb2
        have HG2 := Lib.hid hg2
        have HC2 := Lib.hid hc2
        clear hv hg hcc hbl hE4 hu2 hu3 huv hr2 hb2 hg2 hc2 HM
        go_wp2_with fail
        go_region
        all_goals
          go_wp2_with fail
          have hb2 := HB2.out
          obtain ⟨W9, hW9⟩ : ∃ W, W = ((((wr.setCell ⟨w.heap.size, 0, none⟩ (.int .i64 N0)).setCell ⟨w.heap.size, 1, none⟩ (.int .i64 N1)).setCell ⟨w.heap.size, 2, none⟩ (.int .i64 N2)).setCell ⟨w.heap.size, 3, none⟩ (.int .i64 N3)).drew := ⟨_, rfl⟩
          have hr3 : W9.heap[w.heap.size]? = some (.cells [.int .i64 N0, .int .i64 N1, .int .i64 N2, .int .i64 N3].toArray 44 (0, 0)) := by rw [hW9]; exact HR2.out
          have hg3 : W9.heap[gA]? = some (.cells (rowP 2 L 10 0).toArray 3 (0, 0)) := by rw [hW9]; exact HG2.out
          have hc3 : W9.heap[gB]? = some (.cells (rowP 3 L 10 0).toArray 3 (0, 0)) := by rw [hW9]; exact HC2.out
          rw [← hW9] at hb2 ⊢
          clear hW9
          have z0 := cell_list hr3 0
          have z1 := cell_list hr3 1
          have z2 := cell_list hr3 2
          have z3 := cell_list hr3 3
          simp only [List.getElem?_cons_zero, List.getElem?_cons_succ] at z0 z1 z2 z3
          refine bodyPost_ret (v := .tuple #[.slice (some ⟨gA, 0, none⟩) 10 10, .slice (some ⟨gB, 0, none⟩) 10 10, .agg #[.int .i64 N0, .int .i64 N1, .int .i64 N2, .int .i64 N3], .int .i64 0]) (by simp [results, Tryd.results26, go_sem, z0, z1, z2, z3]) rfl ?_
          rw [HPe.out]
          unfold UsesPost
          rw [HU2.out, HU3.out, HUV.out, HE.out, rowP_len, rowP_len]
          exact ⟨_, _, _, _, rfl, rowP_rd hg3, rowP_rd hc3, hb2⟩
end Go.Proofs.YtllklgalghmnfaaDoor
