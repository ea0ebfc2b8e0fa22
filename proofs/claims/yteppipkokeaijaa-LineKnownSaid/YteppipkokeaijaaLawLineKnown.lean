/- The law LineKnown, walked. -/
import Derived.Test.YteppipkokeaijaaLawLineSplits
import Derived.Test.YteppipkokeaijaaReg
namespace Go.Proofs.Yteppipkokeaijaa
open Go.RowKit Str Mem
set_option linter.unusedVariables false
set_option linter.unusedSimpArgs false

/-- A block of two cells: a line. -/
def R2 (W : World) (g : Nat) (x0 x1 : Value) : Prop := W.heap[g]? = some (.cells [x0, x1].toArray 36 (0, 0))
section
variable {W W' : World} {g : Nat} {x0 x1 : Value}
theorem R2.c0 (h : R2 W g x0 x1) : W.cell? ⟨g, 0, none⟩ = some x0 := by rw [cell_list h]; rfl
theorem R2.c1 (h : R2 W g x0 x1) : W.cell? ⟨g, 1, none⟩ = some x1 := by rw [cell_list h]; rfl
theorem R2.lt (h : R2 W g x0 x1) : g < W.heap.size := lt_of_cells h
theorem R2.below (h : R2 W g x0 x1) (hb : Below W.heap.size W W') : R2 W' g x0 x1 := (hb.block _ h.lt).trans h
theorem R2.alloc (h : R2 W g x0 x1) (o : Obj) : R2 (W.alloc o) g x0 x1 := (Below.heap_alloc _ _ _ h.lt).trans h
theorem R2.drew (h : R2 W g x0 x1) : R2 W.drew g x0 x1 := h
theorem R2.drewN (h : R2 W g x0 x1) (n : Nat) : R2 (W.drewN n) g x0 x1 := h
theorem R2.new (W : World) (x0 x1 : Value) : R2 (W.alloc (.cells #[x0, x1] 36)) W.heap.size x0 x1 := World.alloc_heap_new W _
end

set_option maxRecDepth 100000 in
set_option maxHeartbeats 8000000 in
theorem lawKnown_any (w : World) : Calls Try.prog 8 #[] w fun e w' => e = .returned (.bool true) ∧ Below w.heap.size w w' := by
  have k0 := fun W => four_any [] W
  have k1 := fun W => four_any [99] W
  have f0 := fun a c W hL => feeds_yes 4 [99] [13, 10] [] false [([99], true)] a c W (by simp [maxLen]) (by simp) hL (by simp) (by kernel_rfl) (by kernel_rfl)
  have f1 := fun a c W hL => feeds_yes 4 [] [97, 98, 99, 13, 10] [] false [([97, 98, 99], true)] a c W (by simp [maxLen]) (by simp) hL (by simp) (by kernel_rfl) (by kernel_rfl)
  have f2 := fun a c W hL => feeds_yes 4 [] [97, 13, 98, 10] [] false [([97, 13, 98], false)] a c W (by simp [maxLen]) (by simp) hL (by simp) (by kernel_rfl) (by kernel_rfl)
  have f3 := fun a c W hL => feeds_yes 4 [] [97, 98, 13, 13, 10] [] false [([97, 98, 13], false)] a c W (by simp [maxLen]) (by simp) hL (by simp) (by kernel_rfl) (by kernel_rfl)
  have f4 := fun a c W hL => feeds_yes 4 [] [13, 10] [] false [([], true)] a c W (by simp [maxLen]) (by simp) hL (by simp) (by kernel_rfl) (by kernel_rfl)
  have o1 := fun W => one_any 4 [] [97, 98, 13, 10, 99, 13, 10] false W (by simp) (by simp)
  rw [show OneVal 4 [] [97, 98, 13, 10, 99, 13, 10] false = .tuple #[.agg #[.int .i64 4, .string (bs []), .bool false], .agg #[.string (bs [97, 98]), .bool true], .string (bs [99, 13, 10]), .bool true, .int .i64 0] from by kernel_rfl] at o1
  have d1 := fun W => (feed_any 4 [] [97] true W (by simp) (by simp)).mono (fun e w' h => feed_u h)
  rw [show feedR 4 [] [97] true = ⟨0, [], false, [], 9⟩ from by kernel_rfl] at d1
  have s1 := fun W => (split_any [97, 98, 99, 100, 101] 4 W (by simp)).mono (fun e w' h => split_u h)
  rw [show splitR 4 [97, 98, 99, 100, 101] = ⟨[], ⟨#[]⟩, 4⟩ from by kernel_rfl] at s1
  have s2 := fun W => (split_any [97, 98, 13, 10, 99, 100] 4 W (by simp)).mono (fun e w' h => split_u h)
  rw [show splitR 4 [97, 98, 13, 10, 99, 100] = ⟨[([97, 98], true)], bs [99, 100], 0⟩ from by kernel_rfl] at s2
  have j1 := fun a c W h => join_any a c [([97, 98], true)] W h (by simp) (by simp)
  rw [show joinV [([97, 98], true)] = .tuple #[.string (bs [97, 98, 13, 10]), .int .i64 0] from by kernel_rfl] at j1
  have j2 := fun a c W h => join_any a c [([97, 98], false)] W h (by simp) (by simp)
  rw [show joinV [([97, 98], false)] = .tuple #[.string ⟨#[]⟩, .int .i64 3] from by kernel_rfl] at j2
  have sl := fun a b c d W hA hB => sameLines_any a b c d [([97, 98], true)] W hA hB (by simp)
  have g0 := fun W => good_any [99] W
  have g1 := fun W => good_any [97, 98, 99] W
  have g2 := fun W => bad_any [97, 13, 98] W
  have g3 := fun W => bad_any [97, 98, 13] W
  have g4 := fun W => good_any [] W
  have g5 := fun W => good_any [97, 98] W
  have g6 := fun W => bad_any [97, 98] W
  unfold linesV lineV at *
  go_enter Try.func8, Try.ntmps8
  go_wp2_with fail
  refine (k1 _).mono ?_
  rintro e w1 ⟨rfl, h1⟩
  have b1 := h1
  go_wp2_with fail
  refine (k0 _).mono ?_
  rintro e w2 ⟨rfl, h2⟩
  have b2 := b1.trans (h2.mono b1.size)
  go_wp2_with fail
  refine (g0 _).mono ?_
  rintro e w3 ⟨rfl, h3⟩
  have b3 := b2.trans (h3.mono b2.size)
  have b4 := b3.alloc b3.size (.cells #[.string (bs [99]), .bool true] 36)
  go_wp2_with fail
  refine (f0 _ _ _ (ownLine w3 ([99], true) _ rfl)).mono ?_
  rintro e w5 ⟨rfl, h5⟩
  have b5 := b4.trans (h5.mono b4.size)
  go_wp2_with fail
  refine (k0 _).mono ?_
  rintro e w6 ⟨rfl, h6⟩
  have b6 := b5.trans (h6.mono b5.size)
  go_wp2_with fail
  refine (k0 _).mono ?_
  rintro e w7 ⟨rfl, h7⟩
  have b7 := b6.trans (h7.mono b6.size)
  go_wp2_with fail
  refine (g1 _).mono ?_
  rintro e w8 ⟨rfl, h8⟩
  have b8 := b7.trans (h8.mono b7.size)
  have b9 := b8.alloc b8.size (.cells #[.string (bs [97, 98, 99]), .bool true] 36)
  go_wp2_with fail
  refine (f1 _ _ _ (ownLine w8 ([97, 98, 99], true) _ rfl)).mono ?_
  rintro e w10 ⟨rfl, h10⟩
  have b10 := b9.trans (h10.mono b9.size)
  go_wp2_with fail
  refine (k0 _).mono ?_
  rintro e w11 ⟨rfl, h11⟩
  have b11 := b10.trans (h11.mono b10.size)
  go_wp2_with fail
  refine (k0 _).mono ?_
  rintro e w12 ⟨rfl, h12⟩
  have b12 := b11.trans (h12.mono b11.size)
  go_wp2_with fail
  refine (g2 _).mono ?_
  rintro e w13 ⟨rfl, h13⟩
  have b13 := b12.trans (h13.mono b12.size)
  have b14 := b13.alloc b13.size (.cells #[.string (bs [97, 13, 98]), .bool false] 36)
  go_wp2_with fail
  refine (f2 _ _ _ (ownLine w13 ([97, 13, 98], false) _ rfl)).mono ?_
  rintro e w15 ⟨rfl, h15⟩
  have b15 := b14.trans (h15.mono b14.size)
  go_wp2_with fail
  refine (k0 _).mono ?_
  rintro e w16 ⟨rfl, h16⟩
  have b16 := b15.trans (h16.mono b15.size)
  go_wp2_with fail
  refine (k0 _).mono ?_
  rintro e w17 ⟨rfl, h17⟩
  have b17 := b16.trans (h17.mono b16.size)
  go_wp2_with fail
  refine (g3 _).mono ?_
  rintro e w18 ⟨rfl, h18⟩
  have b18 := b17.trans (h18.mono b17.size)
  have b19 := b18.alloc b18.size (.cells #[.string (bs [97, 98, 13]), .bool false] 36)
  go_wp2_with fail
  refine (f3 _ _ _ (ownLine w18 ([97, 98, 13], false) _ rfl)).mono ?_
  rintro e w20 ⟨rfl, h20⟩
  have b20 := b19.trans (h20.mono b19.size)
  go_wp2_with fail
  refine (k0 _).mono ?_
  rintro e w21 ⟨rfl, h21⟩
  have b21 := b20.trans (h21.mono b20.size)
  go_wp2_with fail
  refine (k0 _).mono ?_
  rintro e w22 ⟨rfl, h22⟩
  have b22 := b21.trans (h22.mono b21.size)
  go_wp2_with fail
  refine (g4 _).mono ?_
  rintro e w23 ⟨rfl, h23⟩
  have b23 := b22.trans (h23.mono b22.size)
  have b24 := b23.alloc b23.size (.cells #[.string (bs []), .bool true] 36)
  go_wp2_with fail
  refine (f4 _ _ _ (ownLine w23 ([], true) _ rfl)).mono ?_
  rintro e w25 ⟨rfl, h25⟩
  have b25 := b24.trans (h25.mono b24.size)
  go_wp2_with fail
  refine (k0 _).mono ?_
  rintro e w26 ⟨rfl, h26⟩
  have b26 := b25.trans (h26.mono b25.size)
  go_wp2_with fail
  refine (o1 _).mono ?_
  rintro e w27 ⟨rfl, h27⟩
  have b27 := b26.trans (h27.mono b26.size)
  have b28 := b27.alloc b27.size (.cells #[.int .i64 4, .string (bs []), .bool false] 25)
  have r1 := R3.new w27 (.int .i64 4) (.string (bs [])) (.bool false)
  have r1 := r1.alloc (.cells #[.string (bs [97, 98]), .bool true] 36)
  have r2 := R2.new (w27.alloc (.cells #[.int .i64 4, .string (bs []), .bool false] 25)) (.string (bs [97, 98])) (.bool true)
  have b29 := b28.alloc b28.size (.cells #[.string (bs [97, 98]), .bool true] 36)
  go_wp2_with fail
  refine (d1 _).mono ?_
  rintro e w30 ⟨a30, c30, rfl, -, h30, -⟩
  have b30 := b29.trans (h30.mono b29.size)
  have r1 := r1.below h30
  have r2 := r2.below h30
  have b31 := b30.alloc b30.size (.cells #[.int .i64 0, .string (bs []), .bool false] 25)
  have r1 := r1.alloc (.cells #[.int .i64 0, .string (bs []), .bool false] 25)
  have r2 := r2.alloc (.cells #[.int .i64 0, .string (bs []), .bool false] 25)
  go_wp2_with fail
  refine (s1 _).mono ?_
  rintro e w32 ⟨a32, c32, rfl, -, h32⟩
  have b32 := b31.trans (h32.mono b31.size)
  have r1 := r1.below h32
  have r2 := r2.below h32
  go_wp2_with fail
  refine (s2 _).mono ?_
  rintro e w33 ⟨al, cl, rfl, hl, h33⟩
  have b33 := b32.trans (h33.mono b32.size)
  have r1 := r1.below h33
  have r2 := r2.below h33
  have hl : Lines w33 al 1 [([97, 98], true)] := hl
  go_wp2_with fail
  refine (g5 _).mono ?_
  rintro e w34 ⟨rfl, h34⟩
  have b34 := b33.trans (h34.mono b33.size)
  have r1 := r1.below h34
  have r2 := r2.below h34
  have hl := Rd.below hl h34
  have b35 := b34.alloc b34.size (.cells #[.string (bs [97, 98]), .bool true] 36)
  have r1 := r1.alloc (.cells #[.string (bs [97, 98]), .bool true] 36)
  have r2 := r2.alloc (.cells #[.string (bs [97, 98]), .bool true] 36)
  have hl := Rd.alloc hl (.cells #[.string (bs [97, 98]), .bool true] 36)
  go_wp2_with fail
  refine (j1 _ _ _ (ownLine w34 ([97, 98], true) _ rfl)).mono ?_
  rintro e w36 ⟨rfl, h36⟩
  have b36 := b35.trans (h36.mono b35.size)
  have r1 := r1.below h36
  have r2 := r2.below h36
  have hl := Rd.below hl h36
  go_wp2_with fail
  refine (g6 _).mono ?_
  rintro e w37 ⟨rfl, h37⟩
  have b37 := b36.trans (h37.mono b36.size)
  have r1 := r1.below h37
  have r2 := r2.below h37
  have hl := Rd.below hl h37
  have b38 := b37.alloc b37.size (.cells #[.string (bs [97, 98]), .bool false] 36)
  have r1 := r1.alloc (.cells #[.string (bs [97, 98]), .bool false] 36)
  have r2 := r2.alloc (.cells #[.string (bs [97, 98]), .bool false] 36)
  have hl := Rd.alloc hl (.cells #[.string (bs [97, 98]), .bool false] 36)
  go_wp2_with fail
  refine (j2 _ _ _ (ownLine w37 ([97, 98], false) _ rfl)).mono ?_
  rintro e w39 ⟨rfl, h39⟩
  have b39 := b38.trans (h39.mono b38.size)
  have r1 := r1.below h39
  have r2 := r2.below h39
  have hl := Rd.below hl h39
  have n1 : w27.heap.size < w39.heap.size := r1.lt
  go_wp2_with fail
  rw [World.size_alloc] at r2
  have r1 := r1.drew
  have r2 := r2.drew
  have hl := Rd.drew hl
  have bd := b39.drew
  refine wp_region_noPanic ?_
  refine wp_region_held_drew (S := fun W => W.cell? ⟨w27.heap.size, 0, none⟩ = some (.int .i64 4) ∧ W.cell? ⟨w27.heap.size, 1, none⟩ = some (.string (bs [])) ∧ W.cell? ⟨w27.heap.size, 2, none⟩ = some (.bool false) ∧ W.cell? ⟨w27.heap.size + 1, 0, none⟩ = some (.string (bs [97, 98])) ∧ W.cell? ⟨w27.heap.size + 1, 1, none⟩ = some (.bool true)) (by kernel_rfl) ?_ (fun hH => ?_)
  · exact ⟨r1.c0, r1.c1, r1.c2, r2.c0, r2.c1⟩
  refine Reg.take (i := 0) (u := ?b1_v0) rfl rfl rfl (by kernel_rfl) (by kernel_rfl) (by kernel_rfl) hH ?b1_y0 ?b1_r0
  case b1_y0 => (intro w hSw; (try dsimp only at hSw); go_simp; try (with_reducible rfl))
  case' b1_r0 => simp only [List.setIfInBounds_toArray, List.set_cons_zero, List.set_cons_succ]
  refine Reg.only (i := 1) rfl (Reg.wanted_free rfl) (by kernel_rfl) (fun K hK => ?_)
  go_simp
  go_at_call 29
  refine (k0 _).mono ?_
  rintro e w40 ⟨rfl, h40⟩
  have b40 := bd.trans (h40.mono bd.size)
  have r1 := r1.below h40
  have r2 := r2.below h40
  have hl := Rd.below hl h40
  refine hK.out _ _ ?_ (fun hH2 => ?_)
  · exact ⟨r1.c0, r1.c1, r1.c2, r2.c0, r2.c1⟩
  clear hK hH
  have hH := hH2; clear hH2
  try simp only [Act.put, List.setIfInBounds_toArray, List.set_cons_zero, List.set_cons_succ]
  refine Reg.take (i := 2) (u := ?b1_v2) rfl rfl rfl (by kernel_rfl) (by kernel_rfl) (by kernel_rfl) hH ?b1_y2 ?b1_r2
  case b1_y2 => (intro w hSw; (try dsimp only at hSw); go_simp; try (with_reducible rfl))
  case' b1_r2 => simp only [List.setIfInBounds_toArray, List.set_cons_zero, List.set_cons_succ]
  refine Reg.take (i := 3) (u := ?b1_v3) rfl rfl rfl (by kernel_rfl) (by kernel_rfl) (by kernel_rfl) hH ?b1_y3 ?b1_r3
  case b1_y3 => (intro w hSw; (try dsimp only at hSw); go_simp; try (with_reducible rfl))
  case' b1_r3 => simp only [List.setIfInBounds_toArray, List.set_cons_zero, List.set_cons_succ]
  refine Reg.takeIf (i := 4) (u := ?b1_v4) rfl rfl rfl rfl rfl (by kernel_rfl) (by kernel_rfl) (by kernel_rfl) hH ?b1_y4 ?b1_r4
  case b1_y4 => (intro w hSw; (try dsimp only at hSw); go_simp; try (with_reducible rfl))
  case' b1_r4 => simp only [List.setIfInBounds_toArray, List.set_cons_zero, List.set_cons_succ]
  refine Reg.only (i := 5) rfl (Reg.wanted_hit rfl rfl rfl) (by kernel_rfl) (fun K hK => ?_)
  go_simp
  go_at_call 30
  refine (g5 _).mono ?_
  rintro e w41 ⟨rfl, h41⟩
  have b41 := b40.trans (h41.mono b40.size)
  have r1 := r1.below h41
  have r2 := r2.below h41
  have hl := Rd.below hl h41
  refine hK.out _ _ ?_ (fun hH2 => ?_)
  · exact ⟨r1.c0, r1.c1, r1.c2, r2.c0, r2.c1⟩
  clear hK hH
  have hH := hH2; clear hH2
  try simp only [Act.put, List.setIfInBounds_toArray, List.set_cons_zero, List.set_cons_succ]
  refine Reg.takeIf (i := 6) (u := ?b1_v6) rfl rfl rfl rfl rfl (by kernel_rfl) (by kernel_rfl) (by kernel_rfl) hH ?b1_y6 ?b1_r6
  case b1_y6 => (intro w hSw; (try dsimp only at hSw); go_simp; try (with_reducible rfl))
  case' b1_r6 => simp only [List.setIfInBounds_toArray, List.set_cons_zero, List.set_cons_succ]
  refine Reg.take (i := 7) (u := ?b1_v7) rfl rfl rfl (by kernel_rfl) (by kernel_rfl) (by kernel_rfl) hH ?b1_y7 ?b1_r7
  case b1_y7 => (intro w hSw; (try dsimp only at hSw); go_simp; try (with_reducible rfl))
  case' b1_r7 => simp only [List.setIfInBounds_toArray, List.set_cons_zero, List.set_cons_succ]
  refine Reg.take (i := 8) (u := ?b1_v8) rfl rfl rfl (by kernel_rfl) (by kernel_rfl) (by kernel_rfl) hH ?b1_y8 ?b1_r8
  case b1_y8 => (intro w hSw; (try dsimp only at hSw); go_simp; try (with_reducible rfl))
  case' b1_r8 => simp only [List.setIfInBounds_toArray, List.set_cons_zero, List.set_cons_succ]
  refine Reg.takeIf (i := 9) (u := ?b1_v9) rfl rfl rfl rfl rfl (by kernel_rfl) (by kernel_rfl) (by kernel_rfl) hH ?b1_y9 ?b1_r9
  case b1_y9 => (intro w hSw; (try dsimp only at hSw); go_simp; try (with_reducible rfl))
  case' b1_r9 => simp only [List.setIfInBounds_toArray, List.set_cons_zero, List.set_cons_succ]
  refine Reg.takeIf (i := 10) (u := ?b1_v10) rfl rfl rfl rfl rfl (by kernel_rfl) (by kernel_rfl) (by kernel_rfl) hH ?b1_y10 ?b1_r10
  case b1_y10 => (intro w hSw; (try dsimp only at hSw); go_simp; try (with_reducible rfl))
  case' b1_r10 => simp only [List.setIfInBounds_toArray, List.set_cons_zero, List.set_cons_succ]
  refine Reg.take (i := 11) (u := ?b1_v11) rfl rfl rfl (by kernel_rfl) (by kernel_rfl) (by kernel_rfl) hH ?b1_y11 ?b1_r11
  case b1_y11 => (intro w hSw; (try dsimp only at hSw); go_simp; try (with_reducible rfl))
  case' b1_r11 => simp only [List.setIfInBounds_toArray, List.set_cons_zero, List.set_cons_succ]
  refine Reg.take (i := 12) (u := ?b1_v12) rfl rfl rfl (by kernel_rfl) (by kernel_rfl) (by kernel_rfl) hH ?b1_y12 ?b1_r12
  case b1_y12 => (intro w hSw; (try dsimp only at hSw); go_simp; try (with_reducible rfl))
  case' b1_r12 => simp only [List.setIfInBounds_toArray, List.set_cons_zero, List.set_cons_succ]
  refine Reg.takeIf (i := 13) (u := ?b1_v13) rfl rfl rfl rfl rfl (by kernel_rfl) (by kernel_rfl) (by kernel_rfl) hH ?b1_y13 ?b1_r13
  case b1_y13 => (intro w hSw; (try dsimp only at hSw); go_simp; try (with_reducible rfl))
  case' b1_r13 => simp only [List.setIfInBounds_toArray, List.set_cons_zero, List.set_cons_succ]
  refine Reg.take (i := 14) (u := ?b1_v14) rfl rfl rfl (by kernel_rfl) (by kernel_rfl) (by kernel_rfl) hH ?b1_y14 ?b1_r14
  case b1_y14 => (intro w hSw; (try dsimp only at hSw); go_simp; try (with_reducible rfl))
  case' b1_r14 => simp only [List.setIfInBounds_toArray, List.set_cons_zero, List.set_cons_succ]
  refine Reg.take (i := 15) (u := ?b1_v15) rfl rfl rfl (by kernel_rfl) (by kernel_rfl) (by kernel_rfl) hH ?b1_y15 ?b1_r15
  case b1_y15 => (intro w hSw; (try dsimp only at hSw); go_simp; try (with_reducible rfl))
  case' b1_r15 => simp only [List.setIfInBounds_toArray, List.set_cons_zero, List.set_cons_succ]
  refine Reg.takeIf (i := 16) (u := ?b1_v16) rfl rfl rfl rfl rfl (by kernel_rfl) (by kernel_rfl) (by kernel_rfl) hH ?b1_y16 ?b1_r16
  case b1_y16 => (intro w hSw; (try dsimp only at hSw); go_simp; try (with_reducible rfl))
  case' b1_r16 => simp only [List.setIfInBounds_toArray, List.set_cons_zero, List.set_cons_succ]
  refine Reg.takeIf (i := 17) (u := ?b1_v17) rfl rfl rfl rfl rfl (by kernel_rfl) (by kernel_rfl) (by kernel_rfl) hH ?b1_y17 ?b1_r17
  case b1_y17 => (intro w hSw; (try dsimp only at hSw); go_simp; try (with_reducible rfl))
  case' b1_r17 => simp only [List.setIfInBounds_toArray, List.set_cons_zero, List.set_cons_succ]
  refine Reg.take (i := 18) (u := ?b1_v18) rfl rfl rfl (by kernel_rfl) (by kernel_rfl) (by kernel_rfl) hH ?b1_y18 ?b1_r18
  case b1_y18 => (intro w hSw; (try dsimp only at hSw); go_simp; try (with_reducible rfl))
  case' b1_r18 => simp only [List.setIfInBounds_toArray, List.set_cons_zero, List.set_cons_succ]
  refine Reg.take (i := 19) (u := ?b1_v19) rfl rfl rfl (by kernel_rfl) (by kernel_rfl) (by kernel_rfl) hH ?b1_y19 ?b1_r19
  case b1_y19 => (intro w hSw; (try dsimp only at hSw); go_simp; try (with_reducible rfl))
  case' b1_r19 => simp only [List.setIfInBounds_toArray, List.set_cons_zero, List.set_cons_succ]
  refine Reg.takeIf (i := 20) (u := ?b1_v20) rfl rfl rfl rfl rfl (by kernel_rfl) (by kernel_rfl) (by kernel_rfl) hH ?b1_y20 ?b1_r20
  case b1_y20 => (intro w hSw; (try dsimp only at hSw); go_simp; try (with_reducible rfl))
  case' b1_r20 => simp only [List.setIfInBounds_toArray, List.set_cons_zero, List.set_cons_succ]
  refine Reg.takeIf (i := 21) (u := ?b1_v21) rfl rfl rfl rfl rfl (by kernel_rfl) (by kernel_rfl) (by kernel_rfl) hH ?b1_y21 ?b1_r21
  case b1_y21 => (intro w hSw; (try dsimp only at hSw); go_simp; try (with_reducible rfl))
  case' b1_r21 => simp only [List.setIfInBounds_toArray, List.set_cons_zero, List.set_cons_succ]
  refine Reg.take (i := 22) (u := ?b1_v22) rfl rfl rfl (by kernel_rfl) (by kernel_rfl) (by kernel_rfl) hH ?b1_y22 ?b1_r22
  case b1_y22 => (intro w hSw; (try dsimp only at hSw); go_simp; try (with_reducible rfl))
  case' b1_r22 => simp only [List.setIfInBounds_toArray, List.set_cons_zero, List.set_cons_succ]
  refine Reg.take (i := 23) (u := ?b1_v23) rfl rfl rfl (by kernel_rfl) (by kernel_rfl) (by kernel_rfl) hH ?b1_y23 ?b1_r23
  case b1_y23 => (intro w hSw; (try dsimp only at hSw); go_simp; try (with_reducible rfl))
  case' b1_r23 => simp only [List.setIfInBounds_toArray, List.set_cons_zero, List.set_cons_succ]
  refine Reg.takeIf (i := 24) (u := ?b1_v24) rfl rfl rfl rfl rfl (by kernel_rfl) (by kernel_rfl) (by kernel_rfl) hH ?b1_y24 ?b1_r24
  case b1_y24 => (intro w hSw; (try dsimp only at hSw); go_simp; try (with_reducible rfl))
  case' b1_r24 => simp only [List.setIfInBounds_toArray, List.set_cons_zero, List.set_cons_succ]
  refine Reg.takeIf (i := 25) (u := ?b1_v25) rfl rfl rfl rfl rfl (by kernel_rfl) (by kernel_rfl) (by kernel_rfl) hH ?b1_y25 ?b1_r25
  case b1_y25 => (intro w hSw; (try dsimp only at hSw); go_simp; try (with_reducible rfl))
  case' b1_r25 => simp only [List.setIfInBounds_toArray, List.set_cons_zero, List.set_cons_succ]
  refine Reg.take (i := 26) (u := ?b1_v26) rfl rfl rfl (by kernel_rfl) (by kernel_rfl) (by kernel_rfl) hH ?b1_y26 ?b1_r26
  case b1_y26 => (intro w hSw; (try dsimp only at hSw); go_simp; try (with_reducible rfl))
  case' b1_r26 => simp only [List.setIfInBounds_toArray, List.set_cons_zero, List.set_cons_succ]
  refine Reg.take (i := 27) (u := ?b1_v27) rfl rfl rfl (by kernel_rfl) (by kernel_rfl) (by kernel_rfl) hH ?b1_y27 ?b1_r27
  case b1_y27 => (intro w hSw; (try dsimp only at hSw); go_simp; try (with_reducible rfl))
  case' b1_r27 => simp only [List.setIfInBounds_toArray, List.set_cons_zero, List.set_cons_succ]
  refine Reg.takeIf (i := 28) (u := ?b1_v28) rfl rfl rfl rfl rfl (by kernel_rfl) (by kernel_rfl) (by kernel_rfl) hH ?b1_y28 ?b1_r28
  case b1_y28 => (intro w hSw; (try dsimp only at hSw); go_simp; try (with_reducible rfl))
  case' b1_r28 => simp only [List.setIfInBounds_toArray, List.set_cons_zero, List.set_cons_succ]
  refine Reg.only (i := 29) rfl (Reg.wanted_hit rfl rfl rfl) (by kernel_rfl) (fun K hK => ?_)
  go_simp
  go_at_call 30
  refine (g5 _).mono ?_
  rintro e w42 ⟨rfl, h42⟩
  have b42 := b41.trans (h42.mono b41.size)
  have r1 := r1.below h42
  have r2 := r2.below h42
  have hl := Rd.below hl h42
  refine hK.out _ _ ?_ (fun hH2 => ?_)
  · exact ⟨r1.c0, r1.c1, r1.c2, r2.c0, r2.c1⟩
  clear hK hH
  have hH := hH2; clear hH2
  try simp only [Act.put, List.setIfInBounds_toArray, List.set_cons_zero, List.set_cons_succ]
  refine Reg.only (i := 30) rfl (Reg.wanted_hit rfl rfl rfl) (by kernel_rfl) (fun K hK => ?_)
  go_simp
  refine hK.out _ _ ?_ (fun hH2 => ?_)
  · exact ⟨(r1.alloc (.cells #[.string (bs [97, 98]), .bool true] 36)).c0, (r1.alloc (.cells #[.string (bs [97, 98]), .bool true] 36)).c1, (r1.alloc (.cells #[.string (bs [97, 98]), .bool true] 36)).c2, (r2.alloc (.cells #[.string (bs [97, 98]), .bool true] 36)).c0, (r2.alloc (.cells #[.string (bs [97, 98]), .bool true] 36)).c1⟩
  clear hK hH
  have hH := hH2; clear hH2
  try simp only [Act.put, List.setIfInBounds_toArray, List.set_cons_zero, List.set_cons_succ]
  refine Reg.only (i := 31) rfl (Reg.wanted_hit rfl rfl rfl) (by kernel_rfl) (fun K hK => ?_)
  go_simp
  go_at_call 14
  refine (sl _ _ _ _ _ (Rd.alloc hl (.cells #[.string (bs [97, 98]), .bool true] 36)) (ownLine w42 ([97, 98], true) _ rfl)).mono ?_
  rintro e w43 ⟨rfl, nq, rfl⟩
  have b43 := below_drewN (b42.alloc b42.size (.cells #[.string (bs [97, 98]), .bool true] 36)) nq
  have r1 := (r1.alloc (.cells #[.string (bs [97, 98]), .bool true] 36)).drewN nq
  have r2 := (r2.alloc (.cells #[.string (bs [97, 98]), .bool true] 36)).drewN nq
  have hl := (Rd.alloc hl (.cells #[.string (bs [97, 98]), .bool true] 36)).drewN nq
  refine hK.out _ _ ?_ (fun hH2 => ?_)
  · exact ⟨r1.c0, r1.c1, r1.c2, r2.c0, r2.c1⟩
  clear hK hH
  have hH := hH2; clear hH2
  try simp only [Act.put, List.setIfInBounds_toArray, List.set_cons_zero, List.set_cons_succ]
  refine Reg.take (i := 32) (u := ?b1_v32) rfl rfl rfl (by kernel_rfl) (by kernel_rfl) (by kernel_rfl) hH ?b1_y32 ?b1_r32
  case b1_y32 => (intro w hSw; (try dsimp only at hSw); go_simp; try (with_reducible rfl))
  case' b1_r32 => simp only [List.setIfInBounds_toArray, List.set_cons_zero, List.set_cons_succ]
  refine Reg.take (i := 33) (u := ?b1_v33) rfl rfl rfl (by kernel_rfl) (by kernel_rfl) (by kernel_rfl) hH ?b1_y33 ?b1_r33
  case b1_y33 => (intro w hSw; (try dsimp only at hSw); go_simp; try (with_reducible rfl))
  case' b1_r33 => simp only [List.setIfInBounds_toArray, List.set_cons_zero, List.set_cons_succ]
  refine Reg.takeIf (i := 34) (u := ?b1_v34) rfl rfl rfl rfl rfl (by kernel_rfl) (by kernel_rfl) (by kernel_rfl) hH ?b1_y34 ?b1_r34
  case b1_y34 => (intro w hSw; (try dsimp only at hSw); go_simp; try (with_reducible rfl))
  case' b1_r34 => simp only [List.setIfInBounds_toArray, List.set_cons_zero, List.set_cons_succ]
  refine Reg.takeIf (i := 35) (u := ?b1_v35) rfl rfl rfl rfl rfl (by kernel_rfl) (by kernel_rfl) (by kernel_rfl) hH ?b1_y35 ?b1_r35
  case b1_y35 => (intro w hSw; (try dsimp only at hSw); go_simp; try (with_reducible rfl))
  case' b1_r35 => simp only [List.setIfInBounds_toArray, List.set_cons_zero, List.set_cons_succ]
  refine Reg.take (i := 36) (u := ?b1_v36) rfl rfl rfl (by kernel_rfl) (by kernel_rfl) (by kernel_rfl) hH ?b1_y36 ?b1_r36
  case b1_y36 => (intro w hSw; (try dsimp only at hSw); go_simp; try (with_reducible rfl))
  case' b1_r36 => simp only [List.setIfInBounds_toArray, List.set_cons_zero, List.set_cons_succ]
  refine Reg.take (i := 37) (u := ?b1_v37) rfl rfl rfl (by kernel_rfl) (by kernel_rfl) (by kernel_rfl) hH ?b1_y37 ?b1_r37
  case b1_y37 => (intro w hSw; (try dsimp only at hSw); go_simp; try (with_reducible rfl))
  case' b1_r37 => simp only [List.setIfInBounds_toArray, List.set_cons_zero, List.set_cons_succ]
  refine Reg.takeIf (i := 38) (u := ?b1_v38) rfl rfl rfl rfl rfl (by kernel_rfl) (by kernel_rfl) (by kernel_rfl) hH ?b1_y38 ?b1_r38
  case b1_y38 => (intro w hSw; (try dsimp only at hSw); go_simp; try (with_reducible rfl))
  case' b1_r38 => simp only [List.setIfInBounds_toArray, List.set_cons_zero, List.set_cons_succ]
  refine Reg.takeIf (i := 39) (u := ?b1_v39) rfl rfl rfl rfl rfl (by kernel_rfl) (by kernel_rfl) (by kernel_rfl) hH ?b1_y39 ?b1_r39
  case b1_y39 => (intro w hSw; (try dsimp only at hSw); go_simp; try (with_reducible rfl))
  case' b1_r39 => simp only [List.setIfInBounds_toArray, List.set_cons_zero, List.set_cons_succ]
  refine Reg.take (i := 40) (u := ?b1_v40) rfl rfl rfl (by kernel_rfl) (by kernel_rfl) (by kernel_rfl) hH ?b1_y40 ?b1_r40
  case b1_y40 => (intro w hSw; (try dsimp only at hSw); go_simp; try (with_reducible rfl))
  case' b1_r40 => simp only [List.setIfInBounds_toArray, List.set_cons_zero, List.set_cons_succ]
  refine Reg.take (i := 41) (u := ?b1_v41) rfl rfl rfl (by kernel_rfl) (by kernel_rfl) (by kernel_rfl) hH ?b1_y41 ?b1_r41
  case b1_y41 => (intro w hSw; (try dsimp only at hSw); go_simp; try (with_reducible rfl))
  case' b1_r41 => simp only [List.setIfInBounds_toArray, List.set_cons_zero, List.set_cons_succ]
  refine Reg.takeIf (i := 42) (u := ?b1_v42) rfl rfl rfl rfl rfl (by kernel_rfl) (by kernel_rfl) (by kernel_rfl) hH ?b1_y42 ?b1_r42
  case b1_y42 => (intro w hSw; (try dsimp only at hSw); go_simp; try (with_reducible rfl))
  case' b1_r42 => simp only [List.setIfInBounds_toArray, List.set_cons_zero, List.set_cons_succ]
  refine Reg.takeIf (i := 43) (u := ?b1_v43) rfl rfl rfl rfl rfl (by kernel_rfl) (by kernel_rfl) (by kernel_rfl) hH ?b1_y43 ?b1_r43
  case b1_y43 => (intro w hSw; (try dsimp only at hSw); go_simp; try (with_reducible rfl))
  case' b1_r43 => simp only [List.setIfInBounds_toArray, List.set_cons_zero, List.set_cons_succ]
  refine Reg.take (i := 44) (u := ?b1_v44) rfl rfl rfl (by kernel_rfl) (by kernel_rfl) (by kernel_rfl) hH ?b1_y44 ?b1_r44
  case b1_y44 => (intro w hSw; (try dsimp only at hSw); go_simp; try (with_reducible rfl))
  case' b1_r44 => simp only [List.setIfInBounds_toArray, List.set_cons_zero, List.set_cons_succ]
  refine Reg.take (i := 45) (u := ?b1_v45) rfl rfl rfl (by kernel_rfl) (by kernel_rfl) (by kernel_rfl) hH ?b1_y45 ?b1_r45
  case b1_y45 => (intro w hSw; (try dsimp only at hSw); go_simp; try (with_reducible rfl))
  case' b1_r45 => simp only [List.setIfInBounds_toArray, List.set_cons_zero, List.set_cons_succ]
  refine Reg.takeIf (i := 46) (u := ?b1_v46) rfl rfl rfl rfl rfl (by kernel_rfl) (by kernel_rfl) (by kernel_rfl) hH ?b1_y46 ?b1_r46
  case b1_y46 => (intro w hSw; (try dsimp only at hSw); go_simp; try (with_reducible rfl))
  case' b1_r46 => simp only [List.setIfInBounds_toArray, List.set_cons_zero, List.set_cons_succ]
  refine Reg.takeIf (i := 47) (u := ?b1_v47) rfl rfl rfl rfl rfl (by kernel_rfl) (by kernel_rfl) (by kernel_rfl) hH ?b1_y47 ?b1_r47
  case b1_y47 => (intro w hSw; (try dsimp only at hSw); go_simp; try (with_reducible rfl))
  case' b1_r47 => simp only [List.setIfInBounds_toArray, List.set_cons_zero, List.set_cons_succ]
  refine Reg.take (i := 48) (u := ?b1_v48) rfl rfl rfl (by kernel_rfl) (by kernel_rfl) (by kernel_rfl) hH ?b1_y48 ?b1_r48
  case b1_y48 => (intro w hSw; (try dsimp only at hSw); go_simp; try (with_reducible rfl))
  case' b1_r48 => simp only [List.setIfInBounds_toArray, List.set_cons_zero, List.set_cons_succ]
  refine Reg.take (i := 49) (u := ?b1_v49) rfl rfl rfl (by kernel_rfl) (by kernel_rfl) (by kernel_rfl) hH ?b1_y49 ?b1_r49
  case b1_y49 => (intro w hSw; (try dsimp only at hSw); go_simp; try (with_reducible rfl))
  case' b1_r49 => simp only [List.setIfInBounds_toArray, List.set_cons_zero, List.set_cons_succ]
  refine Reg.takeIf (i := 50) (u := ?b1_v50) rfl rfl rfl rfl rfl (by kernel_rfl) (by kernel_rfl) (by kernel_rfl) hH ?b1_y50 ?b1_r50
  case b1_y50 => (intro w hSw; (try dsimp only at hSw); go_simp; try (with_reducible rfl))
  case' b1_r50 => simp only [List.setIfInBounds_toArray, List.set_cons_zero, List.set_cons_succ]
  refine Reg.takeIf (i := 51) (u := ?b1_v51) rfl rfl rfl rfl rfl (by kernel_rfl) (by kernel_rfl) (by kernel_rfl) hH ?b1_y51 ?b1_r51
  case b1_y51 => (intro w hSw; (try dsimp only at hSw); go_simp; try (with_reducible rfl))
  case' b1_r51 => simp only [List.setIfInBounds_toArray, List.set_cons_zero, List.set_cons_succ]
  refine Reg.take (i := 52) (u := ?b1_v52) rfl rfl rfl (by kernel_rfl) (by kernel_rfl) (by kernel_rfl) hH ?b1_y52 ?b1_r52
  case b1_y52 => (intro w hSw; (try dsimp only at hSw); go_simp; try (with_reducible rfl))
  case' b1_r52 => simp only [List.setIfInBounds_toArray, List.set_cons_zero, List.set_cons_succ]
  refine Reg.take (i := 53) (u := ?b1_v53) rfl rfl rfl (by kernel_rfl) (by kernel_rfl) (by kernel_rfl) hH ?b1_y53 ?b1_r53
  case b1_y53 => (intro w hSw; (try dsimp only at hSw); go_simp; try (with_reducible rfl))
  case' b1_r53 => simp only [List.setIfInBounds_toArray, List.set_cons_zero, List.set_cons_succ]
  refine Reg.only (i := 54) rfl (Reg.wanted_hit rfl rfl rfl) (by kernel_rfl) (fun K hK => ?_)
  go_simp
  go_at_call 9
  refine (awake07_any _).mono ?_
  rintro e w44 ⟨rfl, h44⟩
  have b44 := b43.trans (h44.mono b43.size)
  have r1 := r1.below h44
  have r2 := r2.below h44
  have hl := Rd.below hl h44
  refine hK.out _ _ ?_ (fun hH2 => ?_)
  · exact ⟨r1.c0, r1.c1, r1.c2, r2.c0, r2.c1⟩
  clear hK hH
  have hH := hH2; clear hH2
  try simp only [Act.put, List.setIfInBounds_toArray, List.set_cons_zero, List.set_cons_succ]
  refine Reg.take (i := 55) (u := ?b1_v55) rfl rfl rfl (by kernel_rfl) (by kernel_rfl) (by kernel_rfl) hH ?b1_y55 ?b1_r55
  case b1_y55 => (intro w hSw; (try dsimp only at hSw); go_simp; try (with_reducible rfl))
  case' b1_r55 => simp only [List.setIfInBounds_toArray, List.set_cons_zero, List.set_cons_succ]
  refine Reg.take (i := 56) (u := ?b1_v56) rfl rfl rfl (by kernel_rfl) (by kernel_rfl) (by kernel_rfl) hH ?b1_y56 ?b1_r56
  case b1_y56 => (intro w hSw; (try dsimp only at hSw); go_simp; try (with_reducible rfl))
  case' b1_r56 => simp only [List.setIfInBounds_toArray, List.set_cons_zero, List.set_cons_succ]
  refine wpAnyH_done (by kernel_rfl) ?_ _
  refine NoPanic.normal ?_
  go_wp2_with fail
  go_ret
  exact ⟨rfl, b44⟩
end Go.Proofs.Yteppipkokeaijaa
