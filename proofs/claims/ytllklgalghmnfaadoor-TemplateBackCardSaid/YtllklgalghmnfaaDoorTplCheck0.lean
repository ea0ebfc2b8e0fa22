/- template.one, the error of one part, and the plain text of parts. -/
import Derived.Test.YtllklgalghmnfaaDoorTplSame
import Derived.Deep.RegionHeld3
namespace Go.Proofs.YtllklgalghmnfaaDoor
open Go.RowKit Str Mem Tp
set_option linter.unusedVariables false
set_option linter.unusedSimpArgs false

/-! What is right of a part, and the text of parts, plainly. -/
def lowR (k : Int) : Int := if k = 4 then 1 else 0
def highR (k : Int) : Int := if k = 1 then 0 else if k = 4 then 4 else 9
def oneE (p : Part) : Int := if p.k < 1 ∨ 4 < p.k then 10 else if p.n < lowR p.k ∨ highR p.k < p.n then 2 else if (p.k = 1) ≠ (p.t ≠ []) then 3 else 0
def esc (s : Tp.Bs) : Tp.Bs := s.flatMap fun b => if b = 36 ∨ b = 37 ∨ b = 92 ∨ b = 63 then [92, b] else [b]
def writeP (p : Part) : Tp.Bs := if p.k = 2 then [36, (48 + p.n).toNat.toUInt8] else if p.k = 3 then [37, (48 + p.n).toNat.toUInt8] else if p.k = 4 then [37, 123] ++ nmOf p.n.toNat ++ [125] else esc p.t
def textP (L : List Part) : Tp.Bs := (L.map writeP).flatten
/-- The error of parts but for their text's length. -/
def checkTo : List Part → Bool → Int
  | [], _ => 0
  | p :: L, prev => if oneE p ≠ 0 then oneE p else if p.k = 1 ∧ prev = true then 3 else checkTo L (p.k == 1)
def checkR (L : List Part) : Int := if checkTo L false ≠ 0 then checkTo L false else if 96 < (textP L).length then 4 else 0

set_option maxRecDepth 100000 in
set_option maxHeartbeats 4000000 in
theorem one_any (p : Part) (w : World) : Calls Tryd.prog 60 #[pv p] w fun e w' => e = .returned (.int .i64 (oneE p)) ∧ Below w.heap.size w w' := by
  have hlit := fun W => literal_any p W
  have hrow := World.alloc_heap_new w (.cells #[.int .i64 p.k, .string (bs p.t), .int .i64 p.n] 59)
  have hb0 := (Below.refl _ w).alloc (Nat.le_refl _) (.cells #[.int .i64 p.k, .string (bs p.t), .int .i64 p.n] 59)
  obtain ⟨V, hV⟩ : ∃ V, oneE p = V := ⟨_, rfl⟩
  rw [hV]
  unfold pv at *
  by_cases h1 : p.k = 1
  · have hk := h1
    have hkb : ∀ c : Int, c ≠ 1 → (p.k == c) = false := fun c hc => by rw [beq_eq_false_iff_ne, hk]; exact hc.symm
    have b1 : (p.k == 1) = true := by rw [hk]; rfl
    have b2 : (p.k == 2) = false := by exact hkb 2 (by omega)
    have b3 : (p.k == 3) = false := by exact hkb 3 (by omega)
    have b4 : (p.k == 4) = false := by exact hkb 4 (by omega)
    rw [b1] at hlit
    clear hkb h1
    by_cases hlo : p.n < 0
    · have hv : V = 2 := by rw [← hV]; unfold oneE; rw [if_neg (by omega), if_pos (.inl (by rw [show lowR p.k = 0 from by rw [hk]; rfl]; exact hlo))]
      clear hV hk
      go_enter Tryd.func60, Tryd.ntmps60
      go_wp2_with fail
      go_ret
      first | exact ⟨rfl, hb0⟩ | exact ⟨by rw [hv]; rfl, hb0⟩
    by_cases hhi : 0 < p.n
    · have hv : V = 2 := by rw [← hV]; unfold oneE; rw [if_neg (by omega), if_pos (.inr (by rw [show highR p.k = 0 from by rw [hk]; rfl]; exact hhi))]
      clear hV hk
      go_enter Tryd.func60, Tryd.ntmps60
      go_wp2_with fail
      go_ret
      first | exact ⟨rfl, hb0⟩ | exact ⟨by rw [hv]; rfl, hb0⟩
    have hl : lowR p.k = 0 := by rw [hk]; rfl
    have hh : highR p.k = 0 := by rw [hk]; rfl
    by_cases ht : p.t = []
    · have he : (bs p.t).toList = [] := by rw [toList_data, data_bs]; exact ht
      have he2 : p.t.isEmpty = true := by rw [ht]; rfl
      have he3 : (!p.t.isEmpty) = false := by rw [he2]; rfl
      have hv : V = 3 := by rw [← hV]; unfold oneE; rw [if_neg (by omega), if_neg (by rw [hl, hh]; omega)]; simp [hk, ht]
      have HVV := Lib.hid hv
      clear hV hk hv ht hl hh
      go_enter Tryd.func60, Tryd.ntmps60
      go_wp2_with fail
      have c0 := cell_list (cs := [.int .i64 p.k, .string (bs p.t), .int .i64 p.n]) hrow 0
      have c1 := cell_list (cs := [.int .i64 p.k, .string (bs p.t), .int .i64 p.n]) hrow 1
      have c2 := cell_list (cs := [.int .i64 p.k, .string (bs p.t), .int .i64 p.n]) hrow 2
      simp only [List.getElem?_cons_zero, List.getElem?_cons_succ] at c0 c1 c2
      go_region_held3 (fun W => W.cell? ⟨w.heap.size, 0, none⟩ = some (.int .i64 p.k) ∧ W.cell? ⟨w.heap.size, 1, none⟩ = some (.string (bs p.t)) ∧ W.cell? ⟨w.heap.size, 2, none⟩ = some (.int .i64 p.n))
        (first
          | go_keep
          | exact ⟨by rw [World.cell?_of_block (h2.block _ (lt_of_cells hrow))]; assumption, by rw [World.cell?_of_block (h2.block _ (lt_of_cells hrow))]; assumption, by rw [World.cell?_of_block (h2.block _ (lt_of_cells hrow))]; assumption⟩)
        ((go_at_call 61; refine (hlit _).mono ?_; rintro e w2 ⟨rfl, h2⟩))
      go_wp2_with fail
      go_ret
      exact ⟨by rw [HVV.out]; rfl, hb0.drew.trans (h2.mono hb0.size)⟩
    · have he : (bs p.t).toList.isEmpty = false := by rw [toList_data, data_bs]; simpa using ht
      have he2 : p.t.isEmpty = false := by simpa using ht
      have he3 : (!p.t.isEmpty) = true := by rw [he2]; rfl
      have hv : V = 0 := by rw [← hV]; unfold oneE; rw [if_neg (by omega), if_neg (by rw [hl, hh]; omega)]; simp [hk, ht]
      have HVV := Lib.hid hv
      clear hV hk hv ht hl hh
      go_enter Tryd.func60, Tryd.ntmps60
      go_wp2_with fail
      have c0 := cell_list (cs := [.int .i64 p.k, .string (bs p.t), .int .i64 p.n]) hrow 0
      have c1 := cell_list (cs := [.int .i64 p.k, .string (bs p.t), .int .i64 p.n]) hrow 1
      have c2 := cell_list (cs := [.int .i64 p.k, .string (bs p.t), .int .i64 p.n]) hrow 2
      simp only [List.getElem?_cons_zero, List.getElem?_cons_succ] at c0 c1 c2
      go_region_held3 (fun W => W.cell? ⟨w.heap.size, 0, none⟩ = some (.int .i64 p.k) ∧ W.cell? ⟨w.heap.size, 1, none⟩ = some (.string (bs p.t)) ∧ W.cell? ⟨w.heap.size, 2, none⟩ = some (.int .i64 p.n))
        (first
          | go_keep
          | exact ⟨by rw [World.cell?_of_block (h2.block _ (lt_of_cells hrow))]; assumption, by rw [World.cell?_of_block (h2.block _ (lt_of_cells hrow))]; assumption, by rw [World.cell?_of_block (h2.block _ (lt_of_cells hrow))]; assumption⟩)
        ((go_at_call 61; refine (hlit _).mono ?_; rintro e w2 ⟨rfl, h2⟩))
      go_wp2_with fail
      go_ret
      exact ⟨by rw [HVV.out]; rfl, hb0.drew.trans (h2.mono hb0.size)⟩
  by_cases h4 : p.k = 4
  · have hk := h4
    have hkb : ∀ c : Int, c ≠ 4 → (p.k == c) = false := fun c hc => by rw [beq_eq_false_iff_ne, hk]; exact hc.symm
    have b1 : (p.k == 1) = false := by exact hkb 1 (by omega)
    have b2 : (p.k == 2) = false := by exact hkb 2 (by omega)
    have b3 : (p.k == 3) = false := by exact hkb 3 (by omega)
    have b4 : (p.k == 4) = true := by rw [hk]; rfl
    rw [b1] at hlit
    clear hkb h4
    by_cases hlo : p.n < 1
    · have hv : V = 2 := by rw [← hV]; unfold oneE; rw [if_neg (by omega), if_pos (.inl (by rw [show lowR p.k = 1 from by rw [hk]; rfl]; exact hlo))]
      clear hV hk
      go_enter Tryd.func60, Tryd.ntmps60
      go_wp2_with fail
      go_ret
      first | exact ⟨rfl, hb0⟩ | exact ⟨by rw [hv]; rfl, hb0⟩
    by_cases hhi : 4 < p.n
    · have hv : V = 2 := by rw [← hV]; unfold oneE; rw [if_neg (by omega), if_pos (.inr (by rw [show highR p.k = 4 from by rw [hk]; rfl]; exact hhi))]
      clear hV hk
      go_enter Tryd.func60, Tryd.ntmps60
      go_wp2_with fail
      go_ret
      first | exact ⟨rfl, hb0⟩ | exact ⟨by rw [hv]; rfl, hb0⟩
    have hl : lowR p.k = 1 := by rw [hk]; rfl
    have hh : highR p.k = 4 := by rw [hk]; rfl
    by_cases ht : p.t = []
    · have he : (bs p.t).toList = [] := by rw [toList_data, data_bs]; exact ht
      have he2 : p.t.isEmpty = true := by rw [ht]; rfl
      have he3 : (!p.t.isEmpty) = false := by rw [he2]; rfl
      have hv : V = 0 := by rw [← hV]; unfold oneE; rw [if_neg (by omega), if_neg (by rw [hl, hh]; omega)]; simp [hk, ht]
      have HVV := Lib.hid hv
      clear hV hk hv ht hl hh
      go_enter Tryd.func60, Tryd.ntmps60
      go_wp2_with fail
      have c0 := cell_list (cs := [.int .i64 p.k, .string (bs p.t), .int .i64 p.n]) hrow 0
      have c1 := cell_list (cs := [.int .i64 p.k, .string (bs p.t), .int .i64 p.n]) hrow 1
      have c2 := cell_list (cs := [.int .i64 p.k, .string (bs p.t), .int .i64 p.n]) hrow 2
      simp only [List.getElem?_cons_zero, List.getElem?_cons_succ] at c0 c1 c2
      go_region_held3 (fun W => W.cell? ⟨w.heap.size, 0, none⟩ = some (.int .i64 p.k) ∧ W.cell? ⟨w.heap.size, 1, none⟩ = some (.string (bs p.t)) ∧ W.cell? ⟨w.heap.size, 2, none⟩ = some (.int .i64 p.n))
        (first
          | go_keep
          | exact ⟨by rw [World.cell?_of_block (h2.block _ (lt_of_cells hrow))]; assumption, by rw [World.cell?_of_block (h2.block _ (lt_of_cells hrow))]; assumption, by rw [World.cell?_of_block (h2.block _ (lt_of_cells hrow))]; assumption⟩)
        ((go_at_call 61; refine (hlit _).mono ?_; rintro e w2 ⟨rfl, h2⟩))
      go_wp2_with fail
      go_ret
      exact ⟨by rw [HVV.out]; rfl, hb0.drew.trans (h2.mono hb0.size)⟩
    · have he : (bs p.t).toList.isEmpty = false := by rw [toList_data, data_bs]; simpa using ht
      have he2 : p.t.isEmpty = false := by simpa using ht
      have he3 : (!p.t.isEmpty) = true := by rw [he2]; rfl
      have hv : V = 3 := by rw [← hV]; unfold oneE; rw [if_neg (by omega), if_neg (by rw [hl, hh]; omega)]; simp [hk, ht]
      have HVV := Lib.hid hv
      clear hV hk hv ht hl hh
      go_enter Tryd.func60, Tryd.ntmps60
      go_wp2_with fail
      have c0 := cell_list (cs := [.int .i64 p.k, .string (bs p.t), .int .i64 p.n]) hrow 0
      have c1 := cell_list (cs := [.int .i64 p.k, .string (bs p.t), .int .i64 p.n]) hrow 1
      have c2 := cell_list (cs := [.int .i64 p.k, .string (bs p.t), .int .i64 p.n]) hrow 2
      simp only [List.getElem?_cons_zero, List.getElem?_cons_succ] at c0 c1 c2
      go_region_held3 (fun W => W.cell? ⟨w.heap.size, 0, none⟩ = some (.int .i64 p.k) ∧ W.cell? ⟨w.heap.size, 1, none⟩ = some (.string (bs p.t)) ∧ W.cell? ⟨w.heap.size, 2, none⟩ = some (.int .i64 p.n))
        (first
          | go_keep
          | exact ⟨by rw [World.cell?_of_block (h2.block _ (lt_of_cells hrow))]; assumption, by rw [World.cell?_of_block (h2.block _ (lt_of_cells hrow))]; assumption, by rw [World.cell?_of_block (h2.block _ (lt_of_cells hrow))]; assumption⟩)
        ((go_at_call 61; refine (hlit _).mono ?_; rintro e w2 ⟨rfl, h2⟩))
      go_wp2_with fail
      go_ret
      exact ⟨by rw [HVV.out]; rfl, hb0.drew.trans (h2.mono hb0.size)⟩
  by_cases h2 : p.k = 2
  · have hk := h2
    have hkb : ∀ c : Int, c ≠ 2 → (p.k == c) = false := fun c hc => by rw [beq_eq_false_iff_ne, hk]; exact hc.symm
    have b1 : (p.k == 1) = false := by exact hkb 1 (by omega)
    have b2 : (p.k == 2) = true := by rw [hk]; rfl
    have b3 : (p.k == 3) = false := by exact hkb 3 (by omega)
    have b4 : (p.k == 4) = false := by exact hkb 4 (by omega)
    rw [b1] at hlit
    clear hkb h2
    by_cases hlo : p.n < 0
    · have hv : V = 2 := by rw [← hV]; unfold oneE; rw [if_neg (by omega), if_pos (.inl (by rw [show lowR p.k = 0 from by rw [hk]; rfl]; exact hlo))]
      clear hV hk
      go_enter Tryd.func60, Tryd.ntmps60
      go_wp2_with fail
      go_ret
      first | exact ⟨rfl, hb0⟩ | exact ⟨by rw [hv]; rfl, hb0⟩
    by_cases hhi : 9 < p.n
    · have hv : V = 2 := by rw [← hV]; unfold oneE; rw [if_neg (by omega), if_pos (.inr (by rw [show highR p.k = 9 from by rw [hk]; rfl]; exact hhi))]
      clear hV hk
      go_enter Tryd.func60, Tryd.ntmps60
      go_wp2_with fail
      go_ret
      first | exact ⟨rfl, hb0⟩ | exact ⟨by rw [hv]; rfl, hb0⟩
    have hl : lowR p.k = 0 := by rw [hk]; rfl
    have hh : highR p.k = 9 := by rw [hk]; rfl
    by_cases ht : p.t = []
    · have he : (bs p.t).toList = [] := by rw [toList_data, data_bs]; exact ht
      have he2 : p.t.isEmpty = true := by rw [ht]; rfl
      have he3 : (!p.t.isEmpty) = false := by rw [he2]; rfl
      have hv : V = 0 := by rw [← hV]; unfold oneE; rw [if_neg (by omega), if_neg (by rw [hl, hh]; omega)]; simp [hk, ht]
      have HVV := Lib.hid hv
      clear hV hk hv ht hl hh
      go_enter Tryd.func60, Tryd.ntmps60
      go_wp2_with fail
      have c0 := cell_list (cs := [.int .i64 p.k, .string (bs p.t), .int .i64 p.n]) hrow 0
      have c1 := cell_list (cs := [.int .i64 p.k, .string (bs p.t), .int .i64 p.n]) hrow 1
      have c2 := cell_list (cs := [.int .i64 p.k, .string (bs p.t), .int .i64 p.n]) hrow 2
      simp only [List.getElem?_cons_zero, List.getElem?_cons_succ] at c0 c1 c2
      go_region_held3 (fun W => W.cell? ⟨w.heap.size, 0, none⟩ = some (.int .i64 p.k) ∧ W.cell? ⟨w.heap.size, 1, none⟩ = some (.string (bs p.t)) ∧ W.cell? ⟨w.heap.size, 2, none⟩ = some (.int .i64 p.n))
        (first
          | go_keep
          | exact ⟨by rw [World.cell?_of_block (h2.block _ (lt_of_cells hrow))]; assumption, by rw [World.cell?_of_block (h2.block _ (lt_of_cells hrow))]; assumption, by rw [World.cell?_of_block (h2.block _ (lt_of_cells hrow))]; assumption⟩)
        ((go_at_call 61; refine (hlit _).mono ?_; rintro e w2 ⟨rfl, h2⟩))
      go_wp2_with fail
      go_ret
      exact ⟨by rw [HVV.out]; rfl, hb0.drew.trans (h2.mono hb0.size)⟩
    · have he : (bs p.t).toList.isEmpty = false := by rw [toList_data, data_bs]; simpa using ht
      have he2 : p.t.isEmpty = false := by simpa using ht
      have he3 : (!p.t.isEmpty) = true := by rw [he2]; rfl
      have hv : V = 3 := by rw [← hV]; unfold oneE; rw [if_neg (by omega), if_neg (by rw [hl, hh]; omega)]; simp [hk, ht]
      have HVV := Lib.hid hv
      clear hV hk hv ht hl hh
      go_enter Tryd.func60, Tryd.ntmps60
      go_wp2_with fail
      have c0 := cell_list (cs := [.int .i64 p.k, .string (bs p.t), .int .i64 p.n]) hrow 0
      have c1 := cell_list (cs := [.int .i64 p.k, .string (bs p.t), .int .i64 p.n]) hrow 1
      have c2 := cell_list (cs := [.int .i64 p.k, .string (bs p.t), .int .i64 p.n]) hrow 2
      simp only [List.getElem?_cons_zero, List.getElem?_cons_succ] at c0 c1 c2
      go_region_held3 (fun W => W.cell? ⟨w.heap.size, 0, none⟩ = some (.int .i64 p.k) ∧ W.cell? ⟨w.heap.size, 1, none⟩ = some (.string (bs p.t)) ∧ W.cell? ⟨w.heap.size, 2, none⟩ = some (.int .i64 p.n))
        (first
          | go_keep
          | exact ⟨by rw [World.cell?_of_block (h2.block _ (lt_of_cells hrow))]; assumption, by rw [World.cell?_of_block (h2.block _ (lt_of_cells hrow))]; assumption, by rw [World.cell?_of_block (h2.block _ (lt_of_cells hrow))]; assumption⟩)
        ((go_at_call 61; refine (hlit _).mono ?_; rintro e w2 ⟨rfl, h2⟩))
      go_wp2_with fail
      go_ret
      exact ⟨by rw [HVV.out]; rfl, hb0.drew.trans (h2.mono hb0.size)⟩
  by_cases h3 : p.k = 3
  · have hk := h3
    have hkb : ∀ c : Int, c ≠ 3 → (p.k == c) = false := fun c hc => by rw [beq_eq_false_iff_ne, hk]; exact hc.symm
    have b1 : (p.k == 1) = false := by exact hkb 1 (by omega)
    have b2 : (p.k == 2) = false := by exact hkb 2 (by omega)
    have b3 : (p.k == 3) = true := by rw [hk]; rfl
    have b4 : (p.k == 4) = false := by exact hkb 4 (by omega)
    rw [b1] at hlit
    clear hkb h3
    by_cases hlo : p.n < 0
    · have hv : V = 2 := by rw [← hV]; unfold oneE; rw [if_neg (by omega), if_pos (.inl (by rw [show lowR p.k = 0 from by rw [hk]; rfl]; exact hlo))]
      clear hV hk
      go_enter Tryd.func60, Tryd.ntmps60
      go_wp2_with fail
      go_ret
      first | exact ⟨rfl, hb0⟩ | exact ⟨by rw [hv]; rfl, hb0⟩
    by_cases hhi : 9 < p.n
    · have hv : V = 2 := by rw [← hV]; unfold oneE; rw [if_neg (by omega), if_pos (.inr (by rw [show highR p.k = 9 from by rw [hk]; rfl]; exact hhi))]
      clear hV hk
      go_enter Tryd.func60, Tryd.ntmps60
      go_wp2_with fail
      go_ret
      first | exact ⟨rfl, hb0⟩ | exact ⟨by rw [hv]; rfl, hb0⟩
    have hl : lowR p.k = 0 := by rw [hk]; rfl
    have hh : highR p.k = 9 := by rw [hk]; rfl
    by_cases ht : p.t = []
    · have he : (bs p.t).toList = [] := by rw [toList_data, data_bs]; exact ht
      have he2 : p.t.isEmpty = true := by rw [ht]; rfl
      have he3 : (!p.t.isEmpty) = false := by rw [he2]; rfl
      have hv : V = 0 := by rw [← hV]; unfold oneE; rw [if_neg (by omega), if_neg (by rw [hl, hh]; omega)]; simp [hk, ht]
      have HVV := Lib.hid hv
      clear hV hk hv ht hl hh
      go_enter Tryd.func60, Tryd.ntmps60
      go_wp2_with fail
      have c0 := cell_list (cs := [.int .i64 p.k, .string (bs p.t), .int .i64 p.n]) hrow 0
      have c1 := cell_list (cs := [.int .i64 p.k, .string (bs p.t), .int .i64 p.n]) hrow 1
      have c2 := cell_list (cs := [.int .i64 p.k, .string (bs p.t), .int .i64 p.n]) hrow 2
      simp only [List.getElem?_cons_zero, List.getElem?_cons_succ] at c0 c1 c2
      go_region_held3 (fun W => W.cell? ⟨w.heap.size, 0, none⟩ = some (.int .i64 p.k) ∧ W.cell? ⟨w.heap.size, 1, none⟩ = some (.string (bs p.t)) ∧ W.cell? ⟨w.heap.size, 2, none⟩ = some (.int .i64 p.n))
        (first
          | go_keep
          | exact ⟨by rw [World.cell?_of_block (h2.block _ (lt_of_cells hrow))]; assumption, by rw [World.cell?_of_block (h2.block _ (lt_of_cells hrow))]; assumption, by rw [World.cell?_of_block (h2.block _ (lt_of_cells hrow))]; assumption⟩)
        ((go_at_call 61; refine (hlit _).mono ?_; rintro e w2 ⟨rfl, h2⟩))
      go_wp2_with fail
      go_ret
      exact ⟨by rw [HVV.out]; rfl, hb0.drew.trans (h2.mono hb0.size)⟩
    · have he : (bs p.t).toList.isEmpty = false := by rw [toList_data, data_bs]; simpa using ht
      have he2 : p.t.isEmpty = false := by simpa using ht
      have he3 : (!p.t.isEmpty) = true := by rw [he2]; rfl
      have hv : V = 3 := by rw [← hV]; unfold oneE; rw [if_neg (by omega), if_neg (by rw [hl, hh]; omega)]; simp [hk, ht]
      have HVV := Lib.hid hv
      clear hV hk hv ht hl hh
      go_enter Tryd.func60, Tryd.ntmps60
      go_wp2_with fail
      have c0 := cell_list (cs := [.int .i64 p.k, .string (bs p.t), .int .i64 p.n]) hrow 0
      have c1 := cell_list (cs := [.int .i64 p.k, .string (bs p.t), .int .i64 p.n]) hrow 1
      have c2 := cell_list (cs := [.int .i64 p.k, .string (bs p.t), .int .i64 p.n]) hrow 2
      simp only [List.getElem?_cons_zero, List.getElem?_cons_succ] at c0 c1 c2
      go_region_held3 (fun W => W.cell? ⟨w.heap.size, 0, none⟩ = some (.int .i64 p.k) ∧ W.cell? ⟨w.heap.size, 1, none⟩ = some (.string (bs p.t)) ∧ W.cell? ⟨w.heap.size, 2, none⟩ = some (.int .i64 p.n))
        (first
          | go_keep
          | exact ⟨by rw [World.cell?_of_block (h2.block _ (lt_of_cells hrow))]; assumption, by rw [World.cell?_of_block (h2.block _ (lt_of_cells hrow))]; assumption, by rw [World.cell?_of_block (h2.block _ (lt_of_cells hrow))]; assumption⟩)
        ((go_at_call 61; refine (hlit _).mono ?_; rintro e w2 ⟨rfl, h2⟩))
      go_wp2_with fail
      go_ret
      exact ⟨by rw [HVV.out]; rfl, hb0.drew.trans (h2.mono hb0.size)⟩
  · have b1 : (p.k == 1) = false := by simpa using h1
    have b2 : (p.k == 2) = false := by simpa using h2
    have b3 : (p.k == 3) = false := by simpa using h3
    have b4 : (p.k == 4) = false := by simpa using h4
    have hv : V = 10 := by rw [← hV]; unfold oneE; rw [if_pos (by omega)]
    clear hV h1 h2 h3 h4
    go_enter Tryd.func60, Tryd.ntmps60
    go_wp2_with fail
    go_ret
    first | exact ⟨rfl, hb0⟩ | exact ⟨by rw [hv]; rfl, hb0⟩
end Go.Proofs.YtllklgalghmnfaaDoor
