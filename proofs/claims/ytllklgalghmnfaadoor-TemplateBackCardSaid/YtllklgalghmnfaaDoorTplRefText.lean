/- The reference's text. -/
import Derived.Test.YtllklgalghmnfaaDoorTplCheck
import Derived.RegionTactic
import Derived.Test.YtllklgalghmnfaaDoorReg
import Derived.Deep.LoopGhost
namespace Go.Proofs.YtllklgalghmnfaaDoor
open Go.RowKit Str Mem Tp
set_option linter.unusedVariables false
set_option linter.unusedSimpArgs false

/-- A part that can be written by the reference. -/
def fitX (p : Part) : Prop := p.t.length ≤ 100000 ∧ ((p.k = 2 ∨ p.k = 3) → 0 ≤ p.n ∧ p.n ≤ 9) ∧ (p.k = 4 → 1 ≤ p.n ∧ p.n ≤ 4)
theorem one_fitX (p : Part) (h : oneE p = 0) (ht : p.t.length ≤ 100000) : fitX p := by
  unfold oneE at h
  split at h
  · cases h
  · split at h
    · cases h
    · rename_i h1 h2
      refine ⟨ht, fun hk => ?_, fun hk => ?_⟩
      · rcases hk with hk | hk <;> simp [lowR, highR, hk] at h2 <;> omega
      · simp [lowR, highR, hk] at h2; omega
theorem fitX.w {p : Part} (h : fitX p) : fitW p := ⟨h.1, h.2.1, fun hk => by have := h.2.2 hk; omega⟩
theorem digit_cut : ∀ m : Nat, m ≤ 9 → (ByteArray.mk #[48, 49, 50, 51, 52, 53, 54, 55, 56, 57]).extract m (m + 1) = bs [(48 + (m : Int)).toNat.toUInt8] := by
  intro m hm
  have : ∀ j : Fin 10, (ByteArray.mk #[48, 49, 50, 51, 52, 53, 54, 55, 56, 57]).extract j.1 (j.1 + 1) = bs [(48 + (j.1 : Int)).toNat.toUInt8] := by decide
  exact this ⟨m, by omega⟩

set_option maxRecDepth 100000 in
set_option maxHeartbeats 4000000 in
theorem refText_any (a : Option Addr) (c : Nat) (L : List Part) (w : World) (hP : Parts w a L.length L) (hn : L.length ≤ 100000) (hf : ∀ p ∈ L, fitX p) :
    Calls Tryd.prog 59 #[.slice a L.length c] w fun e w' => e = .returned (.string (bs (textP L))) ∧ Below w.heap.size w w' := by
  have HF := Lib.hid hf
  clear hf
  go_enter Tryd.func59, Tryd.ntmps59
  go_wp2_with fail
  go_loopg [3, 4] L.length (fun g s i wr => ∃ k : Nat, i = .int .i64 k ∧ k + g = L.length ∧ s = .string (bs (textP (L.take k))) ∧ Below w.heap.size w wr)
  case atStart => exact ⟨0, rfl, by omega, rfl, Below.refl _ _⟩
  case round =>
    obtain ⟨k, rfl, hk, rfl, hbl⟩ := hrel
    by_cases hlt : k < L.length
    · obtain ⟨g', rfl⟩ : ∃ g', gk = g' + 1 := ⟨gk - 1, by omega⟩
      obtain ⟨x, hx⟩ : ∃ x, L[k]? = some x := ⟨_, List.getElem?_eq_getElem hlt⟩
      have hfx := HF.out x (List.mem_of_getElem? hx)
      obtain ⟨ad, rfl, had, g0, g1, g2⟩ := Parts.get (L := L) (Rd.keep hP hbl.size (fun _ _ _ h => hbl.block _ h)) k x hx
      have hnx := Lib.hid (textP_next L k x hx)
      have hl1 := textP_len (L.take k) (fun p hp => (HF.out p (List.mem_of_mem_take hp)).1)
      have hl2 := writeP_len x hfx.1
      have hl3 : (L.take k).length ≤ k := List.length_take_le _ _
      have hrow := World.alloc_heap_new wr (.cells #[.int .i64 x.k, .string (bs x.t), .int .i64 x.n] 59)
      have hba := (Below.refl wr.heap.size wr).alloc (Nat.le_refl _) (.cells #[.int .i64 x.k, .string (bs x.t), .int .i64 x.n] 59)
      have i0 : (0 : Int) ≤ (k : Int) := by omega
      have i1 : (k : Int) < (L.length : Int) := by omega
      obtain ⟨A, hA⟩ : ∃ A, A = bs (textP (L.take k)) := ⟨_, rfl⟩
      have hadd2 : A.size ≤ 20000000000 := by rw [hA, size_bs]; omega
      rw [← hA]
      have HFx := Lib.hid hfx
      have HA := Lib.hid hA
      have hb0 := hbl.trans (hba.mono hbl.size)
      clear hx hfx hA
      by_cases h2 : x.k = 2
      · have b2 : (x.k == 2) = true := by simpa using h2
        obtain ⟨n0, n9⟩ := HFx.out.2.1 (.inl h2)
        obtain ⟨m, hm⟩ : ∃ m : Nat, x.n = (m : Int) := ⟨x.n.toNat, by omega⟩
        have hw : writeP x = [36, (48 + (m : Int)).toNat.toUInt8] := by unfold writeP; rw [if_pos h2, hm]
        have HW := Lib.hid hw
        have hm9 : m ≤ 9 := by omega
        rw [hm] at g2 hb0
        have hcut := Lib.hid (digit_cut m hm9)
        have hcat : A ++ ⟨#[36]⟩ ++ (ByteArray.mk #[48, 49, 50, 51, 52, 53, 54, 55, 56, 57]).extract m (m + 1) = bs (textP (L.take (k + 1))) := by
          rw [hnx.out, HW.out, HA.out, hcut.out, show (⟨#[36]⟩ : ByteArray) = bs [36] from rfl, bs_append, bs_append, List.append_assoc]
          rfl
        have HCAT := Lib.hid hcat
        clear h2 n0 n9 hm hw hcut hcat
        go_wp2_with fail
        go_roundg g'
        case measure => omega
        case rel => exact ⟨k + 1, by go_num, by omega, by rw [HCAT.out], hb0⟩
      by_cases h3 : x.k = 3
      · have b20 : (x.k == 2) = false := by simpa using h2
        have b2 : (x.k == 3) = true := by simpa using h3
        obtain ⟨n0, n9⟩ := HFx.out.2.1 (.inr h3)
        obtain ⟨m, hm⟩ : ∃ m : Nat, x.n = (m : Int) := ⟨x.n.toNat, by omega⟩
        have hw : writeP x = [37, (48 + (m : Int)).toNat.toUInt8] := by unfold writeP; rw [if_neg h2, if_pos h3, hm]
        have HW := Lib.hid hw
        have hm9 : m ≤ 9 := by omega
        rw [hm] at g2 hb0
        have hcut := Lib.hid (digit_cut m hm9)
        have hcat : A ++ ⟨#[37]⟩ ++ (ByteArray.mk #[48, 49, 50, 51, 52, 53, 54, 55, 56, 57]).extract m (m + 1) = bs (textP (L.take (k + 1))) := by
          rw [hnx.out, HW.out, HA.out, hcut.out, show (⟨#[37]⟩ : ByteArray) = bs [37] from rfl, bs_append, bs_append, List.append_assoc]
          rfl
        have HCAT := Lib.hid hcat
        clear h2 h3 n0 n9 hm hw hcut hcat
        go_wp2_with fail
        go_roundg g'
        case measure => omega
        case rel => exact ⟨k + 1, by go_num, by omega, by rw [HCAT.out], hb0⟩
      have b20 : (x.k == 2) = false := by simpa using h2
      have b30 : (x.k == 3) = false := by simpa using h3
      by_cases h4 : x.k = 4
      · have b4 : (x.k == 4) = true := by simpa using h4
        obtain ⟨n1, n4⟩ := HFx.out.2.2 h4
        obtain hm | hm | hm | hm : x.n = 1 ∨ x.n = 2 ∨ x.n = 3 ∨ x.n = 4 := by omega
        · have hw : writeP x = [37, 123] ++ [80, 65, 84, 72] ++ [125] := by unfold writeP; rw [if_neg h2, if_neg h3, if_pos h4, hm]; rfl
          rw [hm] at g2 hb0 hrow
          have c2 := cell_list (cs := [.int .i64 x.k, .string (bs x.t), .int .i64 1]) hrow 2
          simp only [List.getElem?_cons_zero, List.getElem?_cons_succ] at c2
          have lr := lt_of_cells hrow
          have hcat : A ++ ⟨#[37, 123]⟩ ++ bs [80, 65, 84, 72] ++ ⟨#[125]⟩ = bs (textP (L.take (k + 1))) := by
            rw [hnx.out, hw, HA.out, show (⟨#[37, 123]⟩ : ByteArray) = bs [37, 123] from rfl, show (⟨#[125]⟩ : ByteArray) = bs [125] from rfl, bs_append, bs_append, bs_append, List.append_assoc, List.append_assoc, List.append_assoc]
          have HCAT := Lib.hid hcat
          have hn0 := fun W => refNames_any W
          have hs6 : (bs [80, 65, 84, 72]).size ≤ 6 := by decide
          have q1 : ¬ 9223372036854775807 < A.size + 2 := by omega
          have q2 : ¬ 9223372036854775807 < A.size + 2 + 4 := by omega
          have q3 : ¬ 9223372036854775807 < A.size + 2 + 4 + 1 := by omega
          have q4 : (bs [80, 65, 84, 72]).size = 4 := rfl
          have q5 : IntKind.i64.wrap 0 = 0 := by kernel_rfl
          clear h2 h3 h4 hm hw hcat hrow hnx
          go_wp2_with fail
          refine wp_region_noPanic ?_
          refine wp_region_held_drew (S := fun w' => w'.cell? ⟨wr.heap.size, 2, none⟩ = some (.int .i64 1)) (by kernel_rfl) ?_ (fun hH => ?_)
          · first | exact c2 | (intro W hW; exact hW) | trace_state
          refine Reg.take (i := 0) (u := ?b1_v0) rfl rfl rfl (by kernel_rfl) (by kernel_rfl) (by kernel_rfl) hH ?b1_y0 ?b1_r0
          case b1_y0 => (intro w hSw; (try dsimp only at hSw); go_simp; try (with_reducible rfl))
          case' b1_r0 => simp only [List.setIfInBounds_toArray, List.set_cons_zero, List.set_cons_succ]
          refine Reg.take (i := 1) (u := ?b1_v1) rfl rfl rfl (by kernel_rfl) (by kernel_rfl) (by kernel_rfl) hH ?b1_y1 ?b1_r1
          case b1_y1 => (intro w hSw; (try dsimp only at hSw); go_simp; try (with_reducible rfl))
          case' b1_r1 => simp only [List.setIfInBounds_toArray, List.set_cons_zero, List.set_cons_succ]
          refine Reg.take (i := 3) (u := ?b1_v3) rfl rfl rfl (by kernel_rfl) (by kernel_rfl) (by kernel_rfl) hH ?b1_y3 ?b1_r3
          case b1_y3 => (intro w hSw; (try dsimp only at hSw); go_simp; try (with_reducible rfl))
          case' b1_r3 => simp only [List.setIfInBounds_toArray, List.set_cons_zero, List.set_cons_succ]
          refine Reg.take (i := 4) (u := ?b1_v4) rfl rfl rfl (by kernel_rfl) (by kernel_rfl) (by kernel_rfl) hH ?b1_y4 ?b1_r4
          case b1_y4 => (intro w hSw; (try dsimp only at hSw); go_simp; try (with_reducible rfl))
          case' b1_r4 => simp only [List.setIfInBounds_toArray, List.set_cons_zero, List.set_cons_succ]
          refine Reg.take (i := 5) (u := ?b1_v5) rfl rfl rfl (by kernel_rfl) (by kernel_rfl) (by kernel_rfl) hH ?b1_y5 ?b1_r5
          case b1_y5 => (intro w hSw; (try dsimp only at hSw); go_simp; try (with_reducible rfl))
          case' b1_r5 => simp only [List.setIfInBounds_toArray, List.set_cons_zero, List.set_cons_succ]
          refine Reg.only (i := 2) rfl (Reg.wanted_free rfl) (by kernel_rfl) (fun K hK => ?_)
          go_simp
          go_at_call 84
          refine (hn0 _).mono ?_
          rintro e w2 ⟨rfl, rfl⟩
          refine hK.out _ _ ?_ (fun hH2 => ?_)
          · exact (World.cell?_of_block (Below.heap_alloc _ _ _ (World.block_lt_of_cell? _ _ hH))).trans hH
          clear hK hH
          have hH := hH2; clear hH2
          try simp only [Act.put, List.setIfInBounds_toArray, List.set_cons_zero, List.set_cons_succ]
          refine Reg.under (S' := fun w' => w'.cell? ⟨wr.heap.size, 2, none⟩ = some (.int .i64 1) ∧ w'.cell? ⟨wr.heap.size + 1, 0, none⟩ = some (.string (bs [80, 65, 84, 72]))) (fun _ h => h.1) _ _ _ _ ?_
          have hnew := cell_list (World.alloc_heap_new (wr.alloc (.cells #[.int .i64 x.k, .string (bs x.t), .int .i64 1] 59)).drew (.cells [.string (bs [80, 65, 84, 72]), .string (bs [81, 85, 69, 82, 89]), .string (bs [72, 79, 83, 84]), .string (bs [77, 69, 84, 72, 79, 68])].toArray 9)) 0
          simp only [List.getElem?_cons_zero, List.getElem?_cons_succ] at hnew
          have hz : (wr.alloc (.cells #[.int .i64 x.k, .string (bs x.t), .int .i64 1] 59)).drew.heap.size = wr.heap.size + 1 := by show (wr.alloc _).heap.size = _; simp
          rw [hz] at hnew
          have hH := And.intro hH hnew
          refine Reg.take (i := 6) (u := ?b1_v6) rfl rfl rfl (by kernel_rfl) (by kernel_rfl) (by kernel_rfl) hH ?b1_y6 ?b1_r6
          case b1_y6 => (intro w hSw; (try dsimp only at hSw); go_simp; try (with_reducible rfl))
          case' b1_r6 => simp only [List.setIfInBounds_toArray, List.set_cons_zero, List.set_cons_succ]
          refine Reg.take (i := 7) (u := ?b1_v7) rfl rfl rfl (by kernel_rfl) (by kernel_rfl) (by kernel_rfl) hH ?b1_y7 ?b1_r7
          case b1_y7 => (intro w hSw; (try dsimp only at hSw); go_simp; try (with_reducible rfl))
          case' b1_r7 => simp only [List.setIfInBounds_toArray, List.set_cons_zero, List.set_cons_succ]
          refine Reg.take (i := 8) (u := ?b1_v8) rfl rfl rfl (by kernel_rfl) (by kernel_rfl) (by kernel_rfl) hH ?b1_y8 ?b1_r8
          case b1_y8 => (intro w hSw; (try dsimp only at hSw); go_simp; try (with_reducible rfl))
          case' b1_r8 => simp only [List.setIfInBounds_toArray, List.set_cons_zero, List.set_cons_succ]
          refine Reg.take (i := 9) (u := ?b1_v9) rfl rfl rfl (by kernel_rfl) (by kernel_rfl) (by kernel_rfl) hH ?b1_y9 ?b1_r9
          case b1_y9 => (intro w hSw; (try dsimp only at hSw); go_simp; try (with_reducible rfl))
          case' b1_r9 => simp only [List.setIfInBounds_toArray, List.set_cons_zero, List.set_cons_succ]
          refine Reg.take (i := 10) (u := ?b1_v10) rfl rfl rfl (by kernel_rfl) (by kernel_rfl) (by kernel_rfl) hH ?b1_y10 ?b1_r10
          case b1_y10 => (intro w hSw; (try dsimp only at hSw); go_simp; try (with_reducible rfl))
          case' b1_r10 => simp only [List.setIfInBounds_toArray, List.set_cons_zero, List.set_cons_succ]
          refine wpAnyH_done (by kernel_rfl) ?_ _
          refine NoPanic.normal ?_
          go_wp2_with fail
          go_roundg g'
          case measure => omega
          case rel => exact ⟨k + 1, by go_num, by omega, by rw [HCAT.out], (hb0.alloc hb0.size _).drew⟩
        · have hw : writeP x = [37, 123] ++ [81, 85, 69, 82, 89] ++ [125] := by unfold writeP; rw [if_neg h2, if_neg h3, if_pos h4, hm]; rfl
          rw [hm] at g2 hb0 hrow
          have c2 := cell_list (cs := [.int .i64 x.k, .string (bs x.t), .int .i64 2]) hrow 2
          simp only [List.getElem?_cons_zero, List.getElem?_cons_succ] at c2
          have lr := lt_of_cells hrow
          have hcat : A ++ ⟨#[37, 123]⟩ ++ bs [81, 85, 69, 82, 89] ++ ⟨#[125]⟩ = bs (textP (L.take (k + 1))) := by
            rw [hnx.out, hw, HA.out, show (⟨#[37, 123]⟩ : ByteArray) = bs [37, 123] from rfl, show (⟨#[125]⟩ : ByteArray) = bs [125] from rfl, bs_append, bs_append, bs_append, List.append_assoc, List.append_assoc, List.append_assoc]
          have HCAT := Lib.hid hcat
          have hn0 := fun W => refNames_any W
          have hs6 : (bs [81, 85, 69, 82, 89]).size ≤ 6 := by decide
          have q1 : ¬ 9223372036854775807 < A.size + 2 := by omega
          have q2 : ¬ 9223372036854775807 < A.size + 2 + 5 := by omega
          have q3 : ¬ 9223372036854775807 < A.size + 2 + 5 + 1 := by omega
          have q4 : (bs [81, 85, 69, 82, 89]).size = 5 := rfl
          have q5 : IntKind.i64.wrap 1 = 1 := by kernel_rfl
          clear h2 h3 h4 hm hw hcat hrow hnx
          go_wp2_with fail
          refine wp_region_noPanic ?_
          refine wp_region_held_drew (S := fun w' => w'.cell? ⟨wr.heap.size, 2, none⟩ = some (.int .i64 2)) (by kernel_rfl) ?_ (fun hH => ?_)
          · first | exact c2 | (intro W hW; exact hW) | trace_state
          refine Reg.take (i := 0) (u := ?b2_v0) rfl rfl rfl (by kernel_rfl) (by kernel_rfl) (by kernel_rfl) hH ?b2_y0 ?b2_r0
          case b2_y0 => (intro w hSw; (try dsimp only at hSw); go_simp; try (with_reducible rfl))
          case' b2_r0 => simp only [List.setIfInBounds_toArray, List.set_cons_zero, List.set_cons_succ]
          refine Reg.take (i := 1) (u := ?b2_v1) rfl rfl rfl (by kernel_rfl) (by kernel_rfl) (by kernel_rfl) hH ?b2_y1 ?b2_r1
          case b2_y1 => (intro w hSw; (try dsimp only at hSw); go_simp; try (with_reducible rfl))
          case' b2_r1 => simp only [List.setIfInBounds_toArray, List.set_cons_zero, List.set_cons_succ]
          refine Reg.take (i := 3) (u := ?b2_v3) rfl rfl rfl (by kernel_rfl) (by kernel_rfl) (by kernel_rfl) hH ?b2_y3 ?b2_r3
          case b2_y3 => (intro w hSw; (try dsimp only at hSw); go_simp; try (with_reducible rfl))
          case' b2_r3 => simp only [List.setIfInBounds_toArray, List.set_cons_zero, List.set_cons_succ]
          refine Reg.take (i := 4) (u := ?b2_v4) rfl rfl rfl (by kernel_rfl) (by kernel_rfl) (by kernel_rfl) hH ?b2_y4 ?b2_r4
          case b2_y4 => (intro w hSw; (try dsimp only at hSw); go_simp; try (with_reducible rfl))
          case' b2_r4 => simp only [List.setIfInBounds_toArray, List.set_cons_zero, List.set_cons_succ]
          refine Reg.take (i := 5) (u := ?b2_v5) rfl rfl rfl (by kernel_rfl) (by kernel_rfl) (by kernel_rfl) hH ?b2_y5 ?b2_r5
          case b2_y5 => (intro w hSw; (try dsimp only at hSw); go_simp; try (with_reducible rfl))
          case' b2_r5 => simp only [List.setIfInBounds_toArray, List.set_cons_zero, List.set_cons_succ]
          refine Reg.only (i := 2) rfl (Reg.wanted_free rfl) (by kernel_rfl) (fun K hK => ?_)
          go_simp
          go_at_call 84
          refine (hn0 _).mono ?_
          rintro e w2 ⟨rfl, rfl⟩
          refine hK.out _ _ ?_ (fun hH2 => ?_)
          · exact (World.cell?_of_block (Below.heap_alloc _ _ _ (World.block_lt_of_cell? _ _ hH))).trans hH
          clear hK hH
          have hH := hH2; clear hH2
          try simp only [Act.put, List.setIfInBounds_toArray, List.set_cons_zero, List.set_cons_succ]
          refine Reg.under (S' := fun w' => w'.cell? ⟨wr.heap.size, 2, none⟩ = some (.int .i64 2) ∧ w'.cell? ⟨wr.heap.size + 1, 1, none⟩ = some (.string (bs [81, 85, 69, 82, 89]))) (fun _ h => h.1) _ _ _ _ ?_
          have hnew := cell_list (World.alloc_heap_new (wr.alloc (.cells #[.int .i64 x.k, .string (bs x.t), .int .i64 2] 59)).drew (.cells [.string (bs [80, 65, 84, 72]), .string (bs [81, 85, 69, 82, 89]), .string (bs [72, 79, 83, 84]), .string (bs [77, 69, 84, 72, 79, 68])].toArray 9)) 1
          simp only [List.getElem?_cons_zero, List.getElem?_cons_succ] at hnew
          have hz : (wr.alloc (.cells #[.int .i64 x.k, .string (bs x.t), .int .i64 2] 59)).drew.heap.size = wr.heap.size + 1 := by show (wr.alloc _).heap.size = _; simp
          rw [hz] at hnew
          have hH := And.intro hH hnew
          refine Reg.take (i := 6) (u := ?b2_v6) rfl rfl rfl (by kernel_rfl) (by kernel_rfl) (by kernel_rfl) hH ?b2_y6 ?b2_r6
          case b2_y6 => (intro w hSw; (try dsimp only at hSw); go_simp; try (with_reducible rfl))
          case' b2_r6 => simp only [List.setIfInBounds_toArray, List.set_cons_zero, List.set_cons_succ]
          refine Reg.take (i := 7) (u := ?b2_v7) rfl rfl rfl (by kernel_rfl) (by kernel_rfl) (by kernel_rfl) hH ?b2_y7 ?b2_r7
          case b2_y7 => (intro w hSw; (try dsimp only at hSw); go_simp; try (with_reducible rfl))
          case' b2_r7 => simp only [List.setIfInBounds_toArray, List.set_cons_zero, List.set_cons_succ]
          refine Reg.take (i := 8) (u := ?b2_v8) rfl rfl rfl (by kernel_rfl) (by kernel_rfl) (by kernel_rfl) hH ?b2_y8 ?b2_r8
          case b2_y8 => (intro w hSw; (try dsimp only at hSw); go_simp; try (with_reducible rfl))
          case' b2_r8 => simp only [List.setIfInBounds_toArray, List.set_cons_zero, List.set_cons_succ]
          refine Reg.take (i := 9) (u := ?b2_v9) rfl rfl rfl (by kernel_rfl) (by kernel_rfl) (by kernel_rfl) hH ?b2_y9 ?b2_r9
          case b2_y9 => (intro w hSw; (try dsimp only at hSw); go_simp; try (with_reducible rfl))
          case' b2_r9 => simp only [List.setIfInBounds_toArray, List.set_cons_zero, List.set_cons_succ]
          refine Reg.take (i := 10) (u := ?b2_v10) rfl rfl rfl (by kernel_rfl) (by kernel_rfl) (by kernel_rfl) hH ?b2_y10 ?b2_r10
          case b2_y10 => (intro w hSw; (try dsimp only at hSw); go_simp; try (with_reducible rfl))
          case' b2_r10 => simp only [List.setIfInBounds_toArray, List.set_cons_zero, List.set_cons_succ]
          refine wpAnyH_done (by kernel_rfl) ?_ _
          refine NoPanic.normal ?_
          go_wp2_with fail
          go_roundg g'
          case measure => omega
          case rel => exact ⟨k + 1, by go_num, by omega, by rw [HCAT.out], (hb0.alloc hb0.size _).drew⟩
        · have hw : writeP x = [37, 123] ++ [72, 79, 83, 84] ++ [125] := by unfold writeP; rw [if_neg h2, if_neg h3, if_pos h4, hm]; rfl
          rw [hm] at g2 hb0 hrow
          have c2 := cell_list (cs := [.int .i64 x.k, .string (bs x.t), .int .i64 3]) hrow 2
          simp only [List.getElem?_cons_zero, List.getElem?_cons_succ] at c2
          have lr := lt_of_cells hrow
          have hcat : A ++ ⟨#[37, 123]⟩ ++ bs [72, 79, 83, 84] ++ ⟨#[125]⟩ = bs (textP (L.take (k + 1))) := by
            rw [hnx.out, hw, HA.out, show (⟨#[37, 123]⟩ : ByteArray) = bs [37, 123] from rfl, show (⟨#[125]⟩ : ByteArray) = bs [125] from rfl, bs_append, bs_append, bs_append, List.append_assoc, List.append_assoc, List.append_assoc]
          have HCAT := Lib.hid hcat
          have hn0 := fun W => refNames_any W
          have hs6 : (bs [72, 79, 83, 84]).size ≤ 6 := by decide
          have q1 : ¬ 9223372036854775807 < A.size + 2 := by omega
          have q2 : ¬ 9223372036854775807 < A.size + 2 + 4 := by omega
          have q3 : ¬ 9223372036854775807 < A.size + 2 + 4 + 1 := by omega
          have q4 : (bs [72, 79, 83, 84]).size = 4 := rfl
          have q5 : IntKind.i64.wrap 2 = 2 := by kernel_rfl
          clear h2 h3 h4 hm hw hcat hrow hnx
          go_wp2_with fail
          refine wp_region_noPanic ?_
          refine wp_region_held_drew (S := fun w' => w'.cell? ⟨wr.heap.size, 2, none⟩ = some (.int .i64 3)) (by kernel_rfl) ?_ (fun hH => ?_)
          · first | exact c2 | (intro W hW; exact hW) | trace_state
          refine Reg.take (i := 0) (u := ?b3_v0) rfl rfl rfl (by kernel_rfl) (by kernel_rfl) (by kernel_rfl) hH ?b3_y0 ?b3_r0
          case b3_y0 => (intro w hSw; (try dsimp only at hSw); go_simp; try (with_reducible rfl))
          case' b3_r0 => simp only [List.setIfInBounds_toArray, List.set_cons_zero, List.set_cons_succ]
          refine Reg.take (i := 1) (u := ?b3_v1) rfl rfl rfl (by kernel_rfl) (by kernel_rfl) (by kernel_rfl) hH ?b3_y1 ?b3_r1
          case b3_y1 => (intro w hSw; (try dsimp only at hSw); go_simp; try (with_reducible rfl))
          case' b3_r1 => simp only [List.setIfInBounds_toArray, List.set_cons_zero, List.set_cons_succ]
          refine Reg.take (i := 3) (u := ?b3_v3) rfl rfl rfl (by kernel_rfl) (by kernel_rfl) (by kernel_rfl) hH ?b3_y3 ?b3_r3
          case b3_y3 => (intro w hSw; (try dsimp only at hSw); go_simp; try (with_reducible rfl))
          case' b3_r3 => simp only [List.setIfInBounds_toArray, List.set_cons_zero, List.set_cons_succ]
          refine Reg.take (i := 4) (u := ?b3_v4) rfl rfl rfl (by kernel_rfl) (by kernel_rfl) (by kernel_rfl) hH ?b3_y4 ?b3_r4
          case b3_y4 => (intro w hSw; (try dsimp only at hSw); go_simp; try (with_reducible rfl))
          case' b3_r4 => simp only [List.setIfInBounds_toArray, List.set_cons_zero, List.set_cons_succ]
          refine Reg.take (i := 5) (u := ?b3_v5) rfl rfl rfl (by kernel_rfl) (by kernel_rfl) (by kernel_rfl) hH ?b3_y5 ?b3_r5
          case b3_y5 => (intro w hSw; (try dsimp only at hSw); go_simp; try (with_reducible rfl))
          case' b3_r5 => simp only [List.setIfInBounds_toArray, List.set_cons_zero, List.set_cons_succ]
          refine Reg.only (i := 2) rfl (Reg.wanted_free rfl) (by kernel_rfl) (fun K hK => ?_)
          go_simp
          go_at_call 84
          refine (hn0 _).mono ?_
          rintro e w2 ⟨rfl, rfl⟩
          refine hK.out _ _ ?_ (fun hH2 => ?_)
          · exact (World.cell?_of_block (Below.heap_alloc _ _ _ (World.block_lt_of_cell? _ _ hH))).trans hH
          clear hK hH
          have hH := hH2; clear hH2
          try simp only [Act.put, List.setIfInBounds_toArray, List.set_cons_zero, List.set_cons_succ]
          refine Reg.under (S' := fun w' => w'.cell? ⟨wr.heap.size, 2, none⟩ = some (.int .i64 3) ∧ w'.cell? ⟨wr.heap.size + 1, 2, none⟩ = some (.string (bs [72, 79, 83, 84]))) (fun _ h => h.1) _ _ _ _ ?_
          have hnew := cell_list (World.alloc_heap_new (wr.alloc (.cells #[.int .i64 x.k, .string (bs x.t), .int .i64 3] 59)).drew (.cells [.string (bs [80, 65, 84, 72]), .string (bs [81, 85, 69, 82, 89]), .string (bs [72, 79, 83, 84]), .string (bs [77, 69, 84, 72, 79, 68])].toArray 9)) 2
          simp only [List.getElem?_cons_zero, List.getElem?_cons_succ] at hnew
          have hz : (wr.alloc (.cells #[.int .i64 x.k, .string (bs x.t), .int .i64 3] 59)).drew.heap.size = wr.heap.size + 1 := by show (wr.alloc _).heap.size = _; simp
          rw [hz] at hnew
          have hH := And.intro hH hnew
          refine Reg.take (i := 6) (u := ?b3_v6) rfl rfl rfl (by kernel_rfl) (by kernel_rfl) (by kernel_rfl) hH ?b3_y6 ?b3_r6
          case b3_y6 => (intro w hSw; (try dsimp only at hSw); go_simp; try (with_reducible rfl))
          case' b3_r6 => simp only [List.setIfInBounds_toArray, List.set_cons_zero, List.set_cons_succ]
          refine Reg.take (i := 7) (u := ?b3_v7) rfl rfl rfl (by kernel_rfl) (by kernel_rfl) (by kernel_rfl) hH ?b3_y7 ?b3_r7
          case b3_y7 => (intro w hSw; (try dsimp only at hSw); go_simp; try (with_reducible rfl))
          case' b3_r7 => simp only [List.setIfInBounds_toArray, List.set_cons_zero, List.set_cons_succ]
          refine Reg.take (i := 8) (u := ?b3_v8) rfl rfl rfl (by kernel_rfl) (by kernel_rfl) (by kernel_rfl) hH ?b3_y8 ?b3_r8
          case b3_y8 => (intro w hSw; (try dsimp only at hSw); go_simp; try (with_reducible rfl))
          case' b3_r8 => simp only [List.setIfInBounds_toArray, List.set_cons_zero, List.set_cons_succ]
          refine Reg.take (i := 9) (u := ?b3_v9) rfl rfl rfl (by kernel_rfl) (by kernel_rfl) (by kernel_rfl) hH ?b3_y9 ?b3_r9
          case b3_y9 => (intro w hSw; (try dsimp only at hSw); go_simp; try (with_reducible rfl))
          case' b3_r9 => simp only [List.setIfInBounds_toArray, List.set_cons_zero, List.set_cons_succ]
          refine Reg.take (i := 10) (u := ?b3_v10) rfl rfl rfl (by kernel_rfl) (by kernel_rfl) (by kernel_rfl) hH ?b3_y10 ?b3_r10
          case b3_y10 => (intro w hSw; (try dsimp only at hSw); go_simp; try (with_reducible rfl))
          case' b3_r10 => simp only [List.setIfInBounds_toArray, List.set_cons_zero, List.set_cons_succ]
          refine wpAnyH_done (by kernel_rfl) ?_ _
          refine NoPanic.normal ?_
          go_wp2_with fail
          go_roundg g'
          case measure => omega
          case rel => exact ⟨k + 1, by go_num, by omega, by rw [HCAT.out], (hb0.alloc hb0.size _).drew⟩
        · have hw : writeP x = [37, 123] ++ [77, 69, 84, 72, 79, 68] ++ [125] := by unfold writeP; rw [if_neg h2, if_neg h3, if_pos h4, hm]; rfl
          rw [hm] at g2 hb0 hrow
          have c2 := cell_list (cs := [.int .i64 x.k, .string (bs x.t), .int .i64 4]) hrow 2
          simp only [List.getElem?_cons_zero, List.getElem?_cons_succ] at c2
          have lr := lt_of_cells hrow
          have hcat : A ++ ⟨#[37, 123]⟩ ++ bs [77, 69, 84, 72, 79, 68] ++ ⟨#[125]⟩ = bs (textP (L.take (k + 1))) := by
            rw [hnx.out, hw, HA.out, show (⟨#[37, 123]⟩ : ByteArray) = bs [37, 123] from rfl, show (⟨#[125]⟩ : ByteArray) = bs [125] from rfl, bs_append, bs_append, bs_append, List.append_assoc, List.append_assoc, List.append_assoc]
          have HCAT := Lib.hid hcat
          have hn0 := fun W => refNames_any W
          have hs6 : (bs [77, 69, 84, 72, 79, 68]).size ≤ 6 := by decide
          have q1 : ¬ 9223372036854775807 < A.size + 2 := by omega
          have q2 : ¬ 9223372036854775807 < A.size + 2 + 6 := by omega
          have q3 : ¬ 9223372036854775807 < A.size + 2 + 6 + 1 := by omega
          have q4 : (bs [77, 69, 84, 72, 79, 68]).size = 6 := rfl
          have q5 : IntKind.i64.wrap 3 = 3 := by kernel_rfl
          clear h2 h3 h4 hm hw hcat hrow hnx
          go_wp2_with fail
          refine wp_region_noPanic ?_
          refine wp_region_held_drew (S := fun w' => w'.cell? ⟨wr.heap.size, 2, none⟩ = some (.int .i64 4)) (by kernel_rfl) ?_ (fun hH => ?_)
          · first | exact c2 | (intro W hW; exact hW) | trace_state
          refine Reg.take (i := 0) (u := ?b4_v0) rfl rfl rfl (by kernel_rfl) (by kernel_rfl) (by kernel_rfl) hH ?b4_y0 ?b4_r0
          case b4_y0 => (intro w hSw; (try dsimp only at hSw); go_simp; try (with_reducible rfl))
          case' b4_r0 => simp only [List.setIfInBounds_toArray, List.set_cons_zero, List.set_cons_succ]
          refine Reg.take (i := 1) (u := ?b4_v1) rfl rfl rfl (by kernel_rfl) (by kernel_rfl) (by kernel_rfl) hH ?b4_y1 ?b4_r1
          case b4_y1 => (intro w hSw; (try dsimp only at hSw); go_simp; try (with_reducible rfl))
          case' b4_r1 => simp only [List.setIfInBounds_toArray, List.set_cons_zero, List.set_cons_succ]
          refine Reg.take (i := 3) (u := ?b4_v3) rfl rfl rfl (by kernel_rfl) (by kernel_rfl) (by kernel_rfl) hH ?b4_y3 ?b4_r3
          case b4_y3 => (intro w hSw; (try dsimp only at hSw); go_simp; try (with_reducible rfl))
          case' b4_r3 => simp only [List.setIfInBounds_toArray, List.set_cons_zero, List.set_cons_succ]
          refine Reg.take (i := 4) (u := ?b4_v4) rfl rfl rfl (by kernel_rfl) (by kernel_rfl) (by kernel_rfl) hH ?b4_y4 ?b4_r4
          case b4_y4 => (intro w hSw; (try dsimp only at hSw); go_simp; try (with_reducible rfl))
          case' b4_r4 => simp only [List.setIfInBounds_toArray, List.set_cons_zero, List.set_cons_succ]
          refine Reg.take (i := 5) (u := ?b4_v5) rfl rfl rfl (by kernel_rfl) (by kernel_rfl) (by kernel_rfl) hH ?b4_y5 ?b4_r5
          case b4_y5 => (intro w hSw; (try dsimp only at hSw); go_simp; try (with_reducible rfl))
          case' b4_r5 => simp only [List.setIfInBounds_toArray, List.set_cons_zero, List.set_cons_succ]
          refine Reg.only (i := 2) rfl (Reg.wanted_free rfl) (by kernel_rfl) (fun K hK => ?_)
          go_simp
          go_at_call 84
          refine (hn0 _).mono ?_
          rintro e w2 ⟨rfl, rfl⟩
          refine hK.out _ _ ?_ (fun hH2 => ?_)
          · exact (World.cell?_of_block (Below.heap_alloc _ _ _ (World.block_lt_of_cell? _ _ hH))).trans hH
          clear hK hH
          have hH := hH2; clear hH2
          try simp only [Act.put, List.setIfInBounds_toArray, List.set_cons_zero, List.set_cons_succ]
          refine Reg.under (S' := fun w' => w'.cell? ⟨wr.heap.size, 2, none⟩ = some (.int .i64 4) ∧ w'.cell? ⟨wr.heap.size + 1, 3, none⟩ = some (.string (bs [77, 69, 84, 72, 79, 68]))) (fun _ h => h.1) _ _ _ _ ?_
          have hnew := cell_list (World.alloc_heap_new (wr.alloc (.cells #[.int .i64 x.k, .string (bs x.t), .int .i64 4] 59)).drew (.cells [.string (bs [80, 65, 84, 72]), .string (bs [81, 85, 69, 82, 89]), .string (bs [72, 79, 83, 84]), .string (bs [77, 69, 84, 72, 79, 68])].toArray 9)) 3
          simp only [List.getElem?_cons_zero, List.getElem?_cons_succ] at hnew
          have hz : (wr.alloc (.cells #[.int .i64 x.k, .string (bs x.t), .int .i64 4] 59)).drew.heap.size = wr.heap.size + 1 := by show (wr.alloc _).heap.size = _; simp
          rw [hz] at hnew
          have hH := And.intro hH hnew
          refine Reg.take (i := 6) (u := ?b4_v6) rfl rfl rfl (by kernel_rfl) (by kernel_rfl) (by kernel_rfl) hH ?b4_y6 ?b4_r6
          case b4_y6 => (intro w hSw; (try dsimp only at hSw); go_simp; try (with_reducible rfl))
          case' b4_r6 => simp only [List.setIfInBounds_toArray, List.set_cons_zero, List.set_cons_succ]
          refine Reg.take (i := 7) (u := ?b4_v7) rfl rfl rfl (by kernel_rfl) (by kernel_rfl) (by kernel_rfl) hH ?b4_y7 ?b4_r7
          case b4_y7 => (intro w hSw; (try dsimp only at hSw); go_simp; try (with_reducible rfl))
          case' b4_r7 => simp only [List.setIfInBounds_toArray, List.set_cons_zero, List.set_cons_succ]
          refine Reg.take (i := 8) (u := ?b4_v8) rfl rfl rfl (by kernel_rfl) (by kernel_rfl) (by kernel_rfl) hH ?b4_y8 ?b4_r8
          case b4_y8 => (intro w hSw; (try dsimp only at hSw); go_simp; try (with_reducible rfl))
          case' b4_r8 => simp only [List.setIfInBounds_toArray, List.set_cons_zero, List.set_cons_succ]
          refine Reg.take (i := 9) (u := ?b4_v9) rfl rfl rfl (by kernel_rfl) (by kernel_rfl) (by kernel_rfl) hH ?b4_y9 ?b4_r9
          case b4_y9 => (intro w hSw; (try dsimp only at hSw); go_simp; try (with_reducible rfl))
          case' b4_r9 => simp only [List.setIfInBounds_toArray, List.set_cons_zero, List.set_cons_succ]
          refine Reg.take (i := 10) (u := ?b4_v10) rfl rfl rfl (by kernel_rfl) (by kernel_rfl) (by kernel_rfl) hH ?b4_y10 ?b4_r10
          case b4_y10 => (intro w hSw; (try dsimp only at hSw); go_simp; try (with_reducible rfl))
          case' b4_r10 => simp only [List.setIfInBounds_toArray, List.set_cons_zero, List.set_cons_succ]
          refine wpAnyH_done (by kernel_rfl) ?_ _
          refine NoPanic.normal ?_
          go_wp2_with fail
          go_roundg g'
          case measure => omega
          case rel => exact ⟨k + 1, by go_num, by omega, by rw [HCAT.out], (hb0.alloc hb0.size _).drew⟩
      have b40 : (x.k == 4) = false := by simpa using h4
      have hw : writeP x = esc x.t := by unfold writeP; rw [if_neg h2, if_neg h3, if_neg h4]
      have HW := Lib.hid hw
      clear h2 h3 h4 hw
      obtain ⟨T, hT⟩ : ∃ T, T = bs x.t := ⟨_, rfl⟩
      have hTz : T.size = x.t.length := by rw [hT, size_bs]
      have HTz := Lib.hid hTz
      have hT6 : T.size ≤ 100000 := by rw [hTz]; exact HFx.out.1
      have hTget : ∀ (j : Nat) (h : j < T.size) (h2 : j < x.t.length), T[j] = x.t[j] := fun j h h2 => by
        subst hT
        rw [get_data _ j h]
      have HTG := Lib.hid hTget
      have hTc : ∀ (j : Nat) (h2 : j < x.t.length), T.extract j (j + 1) = bs [x.t[j]] := fun j h2 => eq_of_data (by
        rw [extract_data, hT, data_bs, data_bs]
        have e1 : j + 1 - j = 1 := by omega
        rw [e1, List.drop_eq_getElem_cons h2]
        rfl)
      have HTC := Lib.hid hTc
      rw [← hT] at g1 hb0 hrow
      have c1 := cell_list (cs := [.int .i64 x.k, .string T, .int .i64 x.n]) hrow 1
      simp only [List.getElem?_cons_zero, List.getElem?_cons_succ] at c1
      have HC1 := Lib.hid c1
      clear hTz hT hTget hTc hrow c1 hba
      go_wp2_with fail
      obtain ⟨W0, hW0⟩ : ∃ W, W = wr.alloc (.cells #[.int .i64 x.k, .string T, .int .i64 x.n] 59) := ⟨_, rfl⟩
      obtain ⟨n0, hn0⟩ : ∃ n, n = wr.heap.size := ⟨_, rfl⟩
      rw [← hW0] at HC1 hb0 ⊢
      rw [← hn0] at HC1 ⊢
      clear hW0 hn0
      go_loopg [3, 7] x.t.length (fun g s j wr2 => ∃ q : Nat, j = .int .i64 q ∧ q + g = x.t.length ∧ s = .string (bs (textP (L.take k) ++ esc (x.t.take q))) ∧ wr2 = W0)
      case atStart => exact ⟨0, rfl, by omega, by rw [HA.out]; simp [esc], rfl⟩
      case round =>
        obtain ⟨q, rfl, hqg, rfl, rfl⟩ := hrel
        by_cases hq : q < x.t.length
        · obtain ⟨g2, rfl⟩ : ∃ g2, gk = g2 + 1 := ⟨gk - 1, by omega⟩
          have hq2 : q < T.size := by have := HTz.out; omega
          have hTq := HTG.out q hq2 hq
          have hE := esc_next x.t q hq
          have HE := Lib.hid hE
          have hz1 := esc_len (x.t.take q)
          have hz2 : (x.t.take q).length ≤ 100000 := by rw [List.length_take]; have := HFx.out.1; omega
          obtain ⟨A2, hA2⟩ : ∃ A2, A2 = bs (textP (L.take k) ++ esc (x.t.take q)) := ⟨_, rfl⟩
          have hA2z : A2.size ≤ 30000000000 := by rw [hA2, size_bs, List.length_append]; omega
          rw [← hA2]
          have HA2 := Lib.hid hA2
          have j0 : (0 : Int) ≤ (q : Int) := by omega
          have j1 : (q : Int) < (T.size : Int) := by omega
          have j2 : (q : Int) + 1 ≤ (T.size : Int) := by omega
          have c1 := HC1.out
          clear hE hA2 hz1 hz2
          by_cases hn36 : x.t[q] = 36
          · have hb := hn36
            clear hn36
            have e36 : ((T[q].toNat : Int) == 36) = true := by rw [hTq, hb]; rfl
            have hcat : A2 ++ ⟨#[92]⟩ ++ T.extract q (q + 1) = bs (textP (L.take k) ++ esc (x.t.take (q + 1))) := by rw [HE.out, show spec x.t[q] = true from by rw [hb]; rfl, if_pos rfl, HA2.out, HTC.out q hq, show (⟨#[92]⟩ : ByteArray) = bs [92] from rfl, bs_append, bs_append, List.append_assoc, List.append_assoc]; rfl
            have HCAT := Lib.hid hcat
            clear hcat hTq hb
            go_wp2_with fail
            go_roundg g2
            case measure => omega
            case rel => exact ⟨q + 1, by go_num, by omega, by rw [HCAT.out], rfl⟩
          by_cases hn37 : x.t[q] = 37
          · have hb := hn37
            clear hn37
            have e36 : ((T[q].toNat : Int) == 36) = false := by rw [hTq, hb]; rfl
            have e37 : ((T[q].toNat : Int) == 37) = true := by rw [hTq, hb]; rfl
            have hcat : A2 ++ ⟨#[92]⟩ ++ T.extract q (q + 1) = bs (textP (L.take k) ++ esc (x.t.take (q + 1))) := by rw [HE.out, show spec x.t[q] = true from by rw [hb]; rfl, if_pos rfl, HA2.out, HTC.out q hq, show (⟨#[92]⟩ : ByteArray) = bs [92] from rfl, bs_append, bs_append, List.append_assoc, List.append_assoc]; rfl
            have HCAT := Lib.hid hcat
            clear hcat hTq hb
            go_wp2_with fail
            go_roundg g2
            case measure => omega
            case rel => exact ⟨q + 1, by go_num, by omega, by rw [HCAT.out], rfl⟩
          by_cases hn92 : x.t[q] = 92
          · have hb := hn92
            clear hn92
            have e36 : ((T[q].toNat : Int) == 36) = false := by rw [hTq, hb]; rfl
            have e37 : ((T[q].toNat : Int) == 37) = false := by rw [hTq, hb]; rfl
            have e92 : ((T[q].toNat : Int) == 92) = true := by rw [hTq, hb]; rfl
            have hcat : A2 ++ ⟨#[92]⟩ ++ T.extract q (q + 1) = bs (textP (L.take k) ++ esc (x.t.take (q + 1))) := by rw [HE.out, show spec x.t[q] = true from by rw [hb]; rfl, if_pos rfl, HA2.out, HTC.out q hq, show (⟨#[92]⟩ : ByteArray) = bs [92] from rfl, bs_append, bs_append, List.append_assoc, List.append_assoc]; rfl
            have HCAT := Lib.hid hcat
            clear hcat hTq hb
            go_wp2_with fail
            go_roundg g2
            case measure => omega
            case rel => exact ⟨q + 1, by go_num, by omega, by rw [HCAT.out], rfl⟩
          by_cases hn63 : x.t[q] = 63
          · have hb := hn63
            clear hn63
            have e36 : ((T[q].toNat : Int) == 36) = false := by rw [hTq, hb]; rfl
            have e37 : ((T[q].toNat : Int) == 37) = false := by rw [hTq, hb]; rfl
            have e92 : ((T[q].toNat : Int) == 92) = false := by rw [hTq, hb]; rfl
            have e63 : ((T[q].toNat : Int) == 63) = true := by rw [hTq, hb]; rfl
            have hcat : A2 ++ ⟨#[92]⟩ ++ T.extract q (q + 1) = bs (textP (L.take k) ++ esc (x.t.take (q + 1))) := by rw [HE.out, show spec x.t[q] = true from by rw [hb]; rfl, if_pos rfl, HA2.out, HTC.out q hq, show (⟨#[92]⟩ : ByteArray) = bs [92] from rfl, bs_append, bs_append, List.append_assoc, List.append_assoc]; rfl
            have HCAT := Lib.hid hcat
            clear hcat hTq hb
            go_wp2_with fail
            go_roundg g2
            case measure => omega
            case rel => exact ⟨q + 1, by go_num, by omega, by rw [HCAT.out], rfl⟩
          have e36 : ((T[q].toNat : Int) == 36) = false := by
            rw [hTq, beq_eq_false_iff_ne]
            exact fun h => hn36 (UInt8.toNat.inj (by simpa using (by omega : x.t[q].toNat = 36)))
          have e37 : ((T[q].toNat : Int) == 37) = false := by
            rw [hTq, beq_eq_false_iff_ne]
            exact fun h => hn37 (UInt8.toNat.inj (by simpa using (by omega : x.t[q].toNat = 37)))
          have e92 : ((T[q].toNat : Int) == 92) = false := by
            rw [hTq, beq_eq_false_iff_ne]
            exact fun h => hn92 (UInt8.toNat.inj (by simpa using (by omega : x.t[q].toNat = 92)))
          have e63 : ((T[q].toNat : Int) == 63) = false := by
            rw [hTq, beq_eq_false_iff_ne]
            exact fun h => hn63 (UInt8.toNat.inj (by simpa using (by omega : x.t[q].toNat = 63)))
          have hcat : A2 ++ T.extract q (q + 1) = bs (textP (L.take k) ++ esc (x.t.take (q + 1))) := by rw [HE.out, show spec x.t[q] = false from by unfold spec; simp [hn36, hn37, hn92, hn63], if_neg (by simp), HA2.out, HTC.out q hq, bs_append, List.append_assoc]
          have HCAT := Lib.hid hcat
          clear hcat hTq hn36 hn37 hn92 hn63
          go_wp2_with fail
          go_roundg g2
          case measure => omega
          case rel => exact ⟨q + 1, by go_num, by omega, by rw [HCAT.out], rfl⟩
        · obtain rfl : q = x.t.length := by omega
          have hnq : ¬ (x.t.length : Int) < (T.size : Int) := by have := HTz.out; omega
          have c1 := HC1.out
          have hcat : bs (textP (L.take k) ++ esc (x.t.take x.t.length)) = bs (textP (L.take (k + 1))) := by rw [List.take_length, hnx.out, HW.out]
          rw [hcat]
          have HCAT := Lib.hid hcat
          clear hcat
          go_wp2_with fail
          go_roundg g'
          case measure => omega
          case rel => exact ⟨k + 1, by go_num, by omega, rfl, hb0⟩
    · obtain rfl : k = L.length := by omega
      go_wp2_with fail
      go_ret
      exact ⟨by rw [List.take_length]; rfl, hbl⟩
end Go.Proofs.YtllklgalghmnfaaDoor
