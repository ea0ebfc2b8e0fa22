/- The law's awake. -/
import Derived.Test.YtllklgalghmnfaaDoorTplTarget
import Derived.Test.YtllklgalghmnfaaDoorTplExpandAll
namespace Go.Proofs.YtllklgalghmnfaaDoor
open Go.RowKit Str Mem Tp
set_option linter.unusedVariables false
set_option linter.unusedSimpArgs false

theorem Rd.fresh25 (w : World) (t : TypeId) (cs : List Value) (sz n N : Nat) (hN : N = w.heap.size) (h : cs.length = n * sz) : Rd (w.alloc (.cells cs.toArray t)) sz (some ⟨N, 0, none⟩) n cs := by
  subst hN
  refine ⟨h, fun _ => ⟨_, rfl, by simp, fun j u hu => ?_⟩⟩
  rw [add_flat, cell_of_row _ w.heap.size _ cs.toArray t (0, 0) (heap_alloc_new w _)]
  simpa using hu
def awL : List Part := [⟨1, [47, 97, 47], 0⟩, ⟨2, [], 1⟩]
def awM : List Part := [⟨1, [47, 97, 47], 0⟩, ⟨2, [], 1⟩, ⟨1, [63, 120, 61], 0⟩, ⟨3, [], 2⟩]

set_option maxRecDepth 100000 in
set_option maxHeartbeats 4000000 in
theorem awake25_any (w : World) (hN : Nm w) : Calls Tryd.prog 11 #[] w fun e w' => e = .returned (.bool true) ∧ Below w.heap.size w w' := by
  have p1 := fun W h => parse_any [47, 97, 47, 36, 49] W (by simp) h
  rw [show parseR [47, 97, 47, 36, 49] = ⟨awL, 0, 0⟩ from by kernel_rfl] at p1
  have t1 := fun W h => target_any [45] W (by simp) h
  rw [show targetR [45] = ⟨true, false, [], [], false, [], 0, 0⟩ from by kernel_rfl] at t1
  have l1 := fun W => law_literal_any [47, 97, 47] W
  have l2 := fun W => law_group_any 1 W
  have l3 := fun W => law_literal_any [63, 120, 61] W
  have l4 := fun W => law_cond_any 2 W
  have y1 := fun a c W h hP => parses_yes [47, 97, 47, 36, 49, 63, 120, 61, 37, 50] awM a c W (by simp) h hP (by decide) (by kernel_rfl)
  have y2 := fun W h => fails_yes [97, 37] 3 1 W (by simp) h (by kernel_rfl)
  have hx := fun a ca b c W h1 h2 h3 h4 h5 h6 => Expand_any 10 a b none ca c 0 awL [[119], [98, 47, 99]] [] [] [] [] [] W h1 (by decide) h2 h3 (by decide) h4 h5 h6 (by decide)
  rw [show expandR id [[119], [98, 47, 99]] [] [] [] [] [] 10 awL = ([47, 97, 47, 98, 47, 99], 0) from by kernel_rfl] at hx
  unfold pv at *
  unfold valsV at hx
  unfold TargetPost tgtV at t1
  go_enter Tryd.func11, Tryd.ntmps11
  go_wp2_with fail
  refine (p1 _ hN).mono ?_
  rintro e w1 ⟨v, rfl, hO, h1⟩
  obtain ⟨a, c, rfl, hLc, hcm, hP⟩ := OwnParts.form hO
  have hN1 := hN.below h1 hN.lt
  have b1 := h1.alloc h1.size (.cells #[.int .i64 0, .int .i64 0] 26)
  have f1 := World.alloc_heap_new w1 (.cells #[.int .i64 0, .int .i64 0] 26)
  have HP := Lib.hid (Rd.alloc hP (.cells #[.int .i64 0, .int .i64 0] 26))
  clear hP hO h1 p1
  obtain ⟨W1, hW1⟩ : ∃ W, W = w1.alloc (.cells #[.int .i64 0, .int .i64 0] 26) := ⟨_, rfl⟩
  have hz1 : W1.heap.size = w1.heap.size + 1 := by rw [hW1]; simp
  rw [← hW1] at HP b1 f1
  have b2 := b1.alloc b1.size (.cells #[.string (bs [119]), .string (bs [98, 47, 99])] 9)
  have hS := Rd.fresh25 W1 9 [.string (bs [119]), .string (bs [98, 47, 99])] 1 2 (w1.heap.size + 1) hz1.symm rfl
  have HP2 := Rd.alloc HP.out (.cells #[.string (bs [119]), .string (bs [98, 47, 99])] 9)
  have f2 := (Below.heap_alloc W1 (.cells #[.string (bs [119]), .string (bs [98, 47, 99])] 9) _ (lt_of_cells f1)).trans f1
  rw [hW1] at HP2 hS b2 f2
  have HX := Lib.hid (hx a c _ 2 _ HP2 hLc hcm (hN.below b2 hN.lt) hS (Rd.nil _ _ _))
  have HF2 := Lib.hid f2
  have HB2 := Lib.hid b2
  clear HP HP2 hS b1 f1 hz1 hW1 W1 hx hN1 b2 f2
  go_wp2_with fail
  refine HX.out.mono ?_
  rintro e w2 ⟨rfl, h2⟩
  have b3 := HB2.out.trans (h2.mono HB2.out.size)
  have f3 := (h2.block _ (lt_of_cells HF2.out)).trans HF2.out
  have hN3 := hN.below b3 hN.lt
  clear HX HF2 HB2 h2
  go_wp2_with fail
  refine (t1 _ hN3).mono ?_
  rintro e w3 ⟨pa, pc, qa, qc, rfl, -, -, h3⟩
  have b4 := b3.trans (h3.mono b3.size)
  have f4 := (h3.block _ (lt_of_cells f3)).trans f3
  have l4 := lt_of_cells f4
  have b5 := b4.alloc b4.size (.cells #[.bool true, .bool false, .string (bs []), .slice pa 0 pc, .bool false, .slice qa 0 qc] 30)
  have b6 := b5.alloc b5.size (.cells #[.int .i64 0, .int .i64 0] 26)
  have g5 := World.alloc_heap_new w3 (.cells #[.bool true, .bool false, .string (bs []), .slice pa 0 pc, .bool false, .slice qa 0 qc] 30)
  have f5 := (Below.heap_alloc w3 (.cells #[.bool true, .bool false, .string (bs []), .slice pa 0 pc, .bool false, .slice qa 0 qc] 30) _ l4).trans f4
  obtain ⟨W5, hW5⟩ : ∃ W, W = w3.alloc (.cells #[.bool true, .bool false, .string (bs []), .slice pa 0 pc, .bool false, .slice qa 0 qc] 30) := ⟨_, rfl⟩
  have hz5 : W5.heap.size = w3.heap.size + 1 := by rw [hW5]; simp
  rw [← hW5] at b6 g5 f5
  have k6 := World.alloc_heap_new W5 (.cells #[.int .i64 0, .int .i64 0] 26)
  rw [hz5] at k6
  have g6 := (Below.heap_alloc W5 (.cells #[.int .i64 0, .int .i64 0] 26) _ (lt_of_cells g5)).trans g5
  have f6 := (Below.heap_alloc W5 (.cells #[.int .i64 0, .int .i64 0] 26) _ (lt_of_cells f5)).trans f5
  obtain ⟨W6, hW6⟩ : ∃ W, W = W5.alloc (.cells #[.int .i64 0, .int .i64 0] 26) := ⟨_, rfl⟩
  rw [← hW6] at b6 g6 f6 k6
  rw [hW5] at hW6
  clear b3 f3 hN3 h3 t1 b4 f4 l4 b5 g5 f5 hW5 hz5
  go_wp2_with fail
  rw [← hW6]
  clear hW6
  refine (l1 _).mono ?_
  rintro e w7 ⟨rfl, h7⟩
  go_wp2_with fail
  refine (l2 _).mono ?_
  rintro e w8 ⟨rfl, h8⟩
  go_wp2_with fail
  refine (l3 _).mono ?_
  rintro e w9 ⟨rfl, h9⟩
  go_wp2_with fail
  refine (l4 _).mono ?_
  rintro e w10 ⟨rfl, h10⟩
  have h78 := h7.trans ((h8.trans ((h9.trans (h10.mono h9.size)).mono h8.size)).mono h7.size)
  have b10 := b6.trans (h78.mono b6.size)
  have k10 := (h78.block _ (lt_of_cells k6)).trans k6
  have g10 := (h78.block _ (lt_of_cells g6)).trans g6
  have f10 := (h78.block _ (lt_of_cells f6)).trans f6
  have b11 := b10.alloc b10.size (.cells (partCells awM).toArray 59)
  have k11 := (Below.heap_alloc w10 (.cells (partCells awM).toArray 59) _ (lt_of_cells k10)).trans k10
  have g11 := (Below.heap_alloc w10 (.cells (partCells awM).toArray 59) _ (lt_of_cells g10)).trans g10
  have f11 := (Below.heap_alloc w10 (.cells (partCells awM).toArray 59) _ (lt_of_cells f10)).trans f10
  have HM := Lib.hid (y1 (some ⟨w10.heap.size, 0, none⟩) 4 _ (hN.below b11 hN.lt) (Rd.fresh25 w10 59 (partCells awM) 3 4 w10.heap.size rfl rfl))
  clear h7 h8 h9 h10 h78 k6 g6 f6 b6 k10 g10 f10 b10 l1 l2 l3 l4 y1
  have HB11 := Lib.hid b11
  have HK11 := Lib.hid k11
  have HG11 := Lib.hid g11
  have HF11 := Lib.hid f11
  clear b11 k11 g11 f11
  go_wp2_with fail
  refine HM.out.mono ?_
  rintro e w12 ⟨rfl, h12⟩
  have b12 := HB11.out.trans (h12.mono HB11.out.size)
  have k12 := (h12.block _ (lt_of_cells HK11.out)).trans HK11.out
  have g12 := (h12.block _ (lt_of_cells HG11.out)).trans HG11.out
  have f12 := (h12.block _ (lt_of_cells HF11.out)).trans HF11.out
  have HY2 := Lib.hid (y2 _ (hN.below b12 hN.lt))
  clear HM HB11 HK11 HG11 HF11 h12 y2
  go_wp2_with fail
  refine HY2.out.mono ?_
  rintro e w13 ⟨rfl, h13⟩
  have b13 := b12.trans (h13.mono b12.size)
  have k13 := (h13.block _ (lt_of_cells k12)).trans k12
  have g13 := (h13.block _ (lt_of_cells g12)).trans g12
  have f13 := (h13.block _ (lt_of_cells f12)).trans f12
  have k0 := cell_list (cs := [.int .i64 0, .int .i64 0]) k13 0
  have k1 := cell_list (cs := [.int .i64 0, .int .i64 0]) k13 1
  have f0 := cell_list (cs := [.int .i64 0, .int .i64 0]) f13 0
  have f1 := cell_list (cs := [.int .i64 0, .int .i64 0]) f13 1
  have g0 := cell_list (cs := [.bool true, .bool false, .string (bs []), .slice pa 0 pc, .bool false, .slice qa 0 qc]) g13 0
  simp only [List.getElem?_cons_zero, List.getElem?_cons_succ] at k0 k1 f0 f1 g0
  clear HY2 b12 k12 g12 f12 k13 g13 f13 h13
  go_wp2_with fail
  go_ret
  exact ⟨rfl, b13⟩
end Go.Proofs.YtllklgalghmnfaaDoor
