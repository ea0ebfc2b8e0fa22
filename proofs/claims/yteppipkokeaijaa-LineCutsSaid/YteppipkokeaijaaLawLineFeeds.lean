/- The law LineFeeds, walked. -/
import Derived.Test.YteppipkokeaijaaLineAwake
import Derived.Test.YteppipkokeaijaaReg
namespace Go.Proofs.Yteppipkokeaijaa
open Go.RowKit Str Mem
set_option linter.unusedVariables false
set_option linter.unusedSimpArgs false

/-- A block of three cells: a splitter. -/
def R3 (W : World) (g : Nat) (x0 x1 x2 : Value) : Prop := W.heap[g]? = some (.cells [x0, x1, x2].toArray 25 (0, 0))
section
variable {W W' : World} {g : Nat} {x0 x1 x2 : Value}
theorem R3.c0 (h : R3 W g x0 x1 x2) : W.cell? ⟨g, 0, none⟩ = some x0 := by rw [cell_list h]; rfl
theorem R3.c1 (h : R3 W g x0 x1 x2) : W.cell? ⟨g, 1, none⟩ = some x1 := by rw [cell_list h]; rfl
theorem R3.c2 (h : R3 W g x0 x1 x2) : W.cell? ⟨g, 2, none⟩ = some x2 := by rw [cell_list h]; rfl
theorem R3.fz (h : R3 W g x0 x1 x2) (j : Nat) : W.frozen? ⟨g, j, none⟩ = false := frozen_list h j
theorem R3.lt (h : R3 W g x0 x1 x2) : g < W.heap.size := lt_of_cells h
theorem R3.below (h : R3 W g x0 x1 x2) (hb : Below W.heap.size W W') : R3 W' g x0 x1 x2 := (hb.block _ h.lt).trans h
theorem R3.alloc (h : R3 W g x0 x1 x2) (o : Obj) : R3 (W.alloc o) g x0 x1 x2 := (Below.heap_alloc _ _ _ h.lt).trans h
theorem R3.new (W : World) (x0 x1 x2 : Value) : R3 (W.alloc (.cells #[x0, x1, x2] 25)) W.heap.size x0 x1 x2 := World.alloc_heap_new W _
theorem R3.set (h : R3 W g x0 x1 x2) (y0 y1 y2 : Value) : R3 (set3 W g y0 y1 y2) g y0 y1 y2 := set3_row h y0 y1 y2
theorem R3.other {k : Nat} (h : R3 W g x0 x1 x2) (hk : g ≠ k) (y0 y1 y2 : Value) : R3 (set3 W k y0 y1 y2) g x0 x1 x2 := (set3_other hk y0 y1 y2).trans h
theorem R3.drew (h : R3 W g x0 x1 x2) : R3 W.drew g x0 x1 x2 := h
theorem R3.drewN (h : R3 W g x0 x1 x2) (n : Nat) : R3 (W.drewN n) g x0 x1 x2 := h
end

/-- What Feed returns, in one form. -/
structure FR where
  lim : Int
  U : List UInt8
  g : Bool
  L : List (List UInt8 × Bool)
  er : Int
def feedR (lim : Int) (T chunk : List UInt8) (lg : Bool) : FR := if refuse lim T lg = 0 then ⟨lim, (Ln.feed lim.toNat T chunk).1.1, (Ln.feed lim.toNat T chunk).1.2, (Ln.feed lim.toNat T chunk).2, 0⟩ else ⟨0, [], false, [], refuse lim T lg⟩
def FeedU (r : FR) (w : World) (e : Ending) (w' : World) : Prop := ∃ a c, e = .returned (.tuple #[.agg #[.int .i64 r.lim, .string (bs r.U), .bool r.g], .slice a r.L.length c, .int .i64 r.er]) ∧ Lines w' a r.L.length r.L ∧ Below w.heap.size w w' ∧ ∀ ad : Addr, a = some ad → w.heap.size ≤ ad.block
theorem OwnLines.base {w : World} {B : Nat} {a : Option Addr} {n c : Nat} {L : List (List UInt8 × Bool)} (h : OwnLines w B (.slice a n c) L) : ∀ ad : Addr, a = some ad → B ≤ ad.block := by
  rintro ad rfl
  rcases h.2 with ⟨h0, _⟩ | ⟨g, cap, cur, h0, hb, _⟩
  · cases h0
  · cases h0; exact hb
theorem Lines.set3 {W : World} {a : Option Addr} {n g : Nat} {L : List (List UInt8 × Bool)} (h : Lines W a n L) (hg : ∀ ad : Addr, a = some ad → ad.block ≠ g) (x0 x1 x2 : Value) : Lines (set3 W g x0 x1 x2) a n L :=
  Rd.setCell (Rd.setCell (Rd.setCell h (p := ⟨g, 0, none⟩) hg x0) (p := ⟨g, 1, none⟩) hg x1) (p := ⟨g, 2, none⟩) hg x2
theorem feed_u {lim : Int} {T chunk : List UInt8} {lg : Bool} {w w' : World} {e : Ending} (h : FeedPost lim T chunk lg w e w') : FeedU (feedR lim T chunk lg) w e w' := by
  obtain ⟨hb, h⟩ := h
  unfold feedR
  split at h
  · rename_i h0
    obtain ⟨v, rfl, hO⟩ := h
    obtain ⟨a, c, rfl, _, _, hL⟩ := hO.form
    rw [if_pos h0]
    exact ⟨a, c, rfl, hL, hb, hO.base⟩
  · rename_i h0
    rw [if_neg h0]
    exact ⟨none, 0, h, Rd.nil _ _ _, hb, by simp⟩
theorem feedR_count (lim : Int) (T chunk : List UInt8) (lg : Bool) : (feedR lim T chunk lg).L.length ≤ chunk.length := by
  unfold feedR
  split
  · exact Ln.feed_count _ _
  · simp
theorem oneVal_form (lim : Int) (T chunk : List UInt8) (lg : Bool) : ∃ (a0 : Int) (a1 : List UInt8) (a2 : Bool) (x0 : List UInt8) (x1 : Bool) (r : ByteArray) (i : Bool) (er : Int), OneVal lim T chunk lg = .tuple #[.agg #[.int .i64 a0, .string (bs a1), .bool a2], .agg #[.string (bs x0), .bool x1], .string r, .bool i, .int .i64 er] := by
  unfold OneVal
  split
  · exact ⟨_, _, _, _, _, _, _, _, rfl⟩
  · exact ⟨_, _, _, _, _, _, _, _, rfl⟩

set_option maxRecDepth 100000 in
set_option maxHeartbeats 4000000 in
theorem lawFeeds_any (lim : Int) (T : List UInt8) (lg : Bool) (limit : Int) (chunk : List UInt8) (w : World) (hT : T.length ≤ maxLen) (hcm : chunk.length ≤ maxLen) :
    Calls Try.prog 5 #[linesV lim T lg, .int .i64 limit, .string (bs chunk)] w fun e w' => e = .returned (.bool true) ∧ Below w.heap.size w w' := by
  have hTz : (bs T).size = T.length := size_bs T
  have hcz : (bs chunk).size = chunk.length := size_bs chunk
  have hb0 : Below w.heap.size w (w.alloc (.cells #[.int .i64 lim, .string (bs T), .bool lg] 25)) := (Below.refl _ w).alloc (Nat.le_refl _) _
  by_cases h1 : 2000 < T.length
  · have k1 : (2000 : Int) < ((bs T).size : Int) := by omega
    unfold linesV
    go_enter Try.func5, Try.ntmps5
    go_wp2_with fail
    refine (awake07_any _).mono ?_
    rintro e w1 ⟨rfl, g1⟩
    go_wp2_with fail
    go_ret
    exact ⟨rfl, hb0.trans (g1.mono hb0.size)⟩
  have k1 : ¬ (2000 : Int) < ((bs T).size : Int) := by omega
  by_cases h2 : 2000 < chunk.length
  · have k2 : (2000 : Int) < ((bs chunk).size : Int) := by omega
    unfold linesV
    go_enter Try.func5, Try.ntmps5
    go_wp2_with fail
    refine (awake07_any _).mono ?_
    rintro e w1 ⟨rfl, g1⟩
    go_wp2_with fail
    go_ret
    exact ⟨rfl, hb0.trans (g1.mono hb0.size)⟩
  have k2 : ¬ (2000 : Int) < ((bs chunk).size : Int) := by omega
  have hck1 := fun W => check_any lim T lg W hT
  have hck2 := fun W => refCheck_any lim T lg W hT
  have hn1 := fun W => new_any limit W
  have hn2 := fun W => refNew_any limit W
  obtain ⟨K, hK⟩ : ∃ K, Ln.check lim T lg = K := ⟨_, rfl⟩
  rw [hK] at hck1 hck2
  have HK := Lib.hid hK
  clear hK hTz hcz
  unfold linesV at *
  go_enter Try.func5, Try.ntmps5
  go_wp2_with fail
  refine (hn1 _).mono ?_
  rintro e w1 ⟨rfl, g1⟩
  go_wp2_with fail
  refine (hn2 _).mono ?_
  rintro e w2 ⟨rfl, g2⟩
  have b1 := hb0.trans (g1.mono hb0.size)
  have b1' := b1.alloc b1.size (.cells #[.int .i64 (newR limit).1, .string (bs []), .bool false] 25)
  have b2 := b1'.trans (g2.mono b1'.size)
  have b2' := b2.alloc b2.size (.cells #[.int .i64 (newR limit).1, .string (bs []), .bool false] 25)
  have r3 := ((((R3.new w (.int .i64 lim) (.string (bs T)) (.bool lg)).below g1).alloc (.cells #[.int .i64 (newR limit).1, .string (bs []), .bool false] 25)).below g2).alloc (.cells #[.int .i64 (newR limit).1, .string (bs []), .bool false] 25)
  have r7 := ((R3.new w1 (.int .i64 (newR limit).1) (.string (bs [])) (.bool false)).below g2).alloc (.cells #[.int .i64 (newR limit).1, .string (bs []), .bool false] 25)
  have r9 := R3.new w2 (.int .i64 (newR limit).1) (.string (bs [])) (.bool false)
  obtain ⟨z, hz⟩ : ∃ z, z = (newR limit).2 := ⟨_, rfl⟩
  rw [← hz]
  clear hn1 hn2 hz
  go_wp2_with fail
  refine wp_region_noPanic ?_
  refine wp_region_held_drew (S := fun W => W.cell? ⟨w.heap.size, 0, none⟩ = some (.int .i64 lim) ∧ W.cell? ⟨w.heap.size, 1, none⟩ = some (.string (bs T)) ∧ W.cell? ⟨w.heap.size, 2, none⟩ = some (.bool lg) ∧ W.cell? ⟨w1.heap.size, 0, none⟩ = some (.int .i64 (newR limit).1) ∧ W.cell? ⟨w1.heap.size, 1, none⟩ = some (.string (bs [])) ∧ W.cell? ⟨w1.heap.size, 2, none⟩ = some (.bool false) ∧ W.cell? ⟨w2.heap.size, 0, none⟩ = some (.int .i64 (newR limit).1) ∧ W.cell? ⟨w2.heap.size, 1, none⟩ = some (.string (bs [])) ∧ W.cell? ⟨w2.heap.size, 2, none⟩ = some (.bool false)) (by kernel_rfl) ?_ (fun hH => ?_)
  · exact ⟨r3.c0, r3.c1, r3.c2, r7.c0, r7.c1, r7.c2, r9.c0, r9.c1, r9.c2⟩
  refine Reg.take (i := 0) (u := ?b1_v0) rfl rfl rfl (by kernel_rfl) (by kernel_rfl) (by kernel_rfl) hH ?b1_y0 ?b1_r0
  case b1_y0 => (intro w hSw; (try dsimp only at hSw); go_simp; try (with_reducible rfl))
  case' b1_r0 => simp only [List.setIfInBounds_toArray, List.set_cons_zero, List.set_cons_succ]
  refine Reg.take (i := 1) (u := ?b1_v1) rfl rfl rfl (by kernel_rfl) (by kernel_rfl) (by kernel_rfl) hH ?b1_y1 ?b1_r1
  case b1_y1 => (intro w hSw; (try dsimp only at hSw); go_simp; try (with_reducible rfl))
  case' b1_r1 => simp only [List.setIfInBounds_toArray, List.set_cons_zero, List.set_cons_succ]
  refine Reg.take (i := 2) (u := ?b1_v2) rfl rfl rfl (by kernel_rfl) (by kernel_rfl) (by kernel_rfl) hH ?b1_y2 ?b1_r2
  case b1_y2 => (intro w hSw; (try dsimp only at hSw); go_simp; try (with_reducible rfl))
  case' b1_r2 => simp only [List.setIfInBounds_toArray, List.set_cons_zero, List.set_cons_succ]
  refine Reg.take (i := 3) (u := ?b1_v3) rfl rfl rfl (by kernel_rfl) (by kernel_rfl) (by kernel_rfl) hH ?b1_y3 ?b1_r3
  case b1_y3 => (intro w hSw; (try dsimp only at hSw); go_simp; try (with_reducible rfl))
  case' b1_r3 => simp only [List.setIfInBounds_toArray, List.set_cons_zero, List.set_cons_succ]
  refine Reg.takeIf (i := 4) (u := ?b1_v4) rfl rfl rfl rfl rfl (by kernel_rfl) (by kernel_rfl) (by kernel_rfl) hH ?b1_y4 ?b1_r4
  case b1_y4 => (intro w hSw; (try dsimp only at hSw); go_simp; try (with_reducible rfl))
  case' b1_r4 => simp only [List.setIfInBounds_toArray, List.set_cons_zero, List.set_cons_succ]
  refine Reg.takeIf (i := 5) (u := ?b1_v5) rfl rfl rfl rfl rfl (by kernel_rfl) (by kernel_rfl) (by kernel_rfl) hH ?b1_y5 ?b1_r5
  case b1_y5 => (intro w hSw; (try dsimp only at hSw); go_simp; try (with_reducible rfl))
  case' b1_r5 => simp only [List.setIfInBounds_toArray, List.set_cons_zero, List.set_cons_succ]
  refine Reg.takeIf (i := 6) (u := ?b1_v6) rfl rfl rfl rfl rfl (by kernel_rfl) (by kernel_rfl) (by kernel_rfl) hH ?b1_y6 ?b1_r6
  case b1_y6 => (intro w hSw; (try dsimp only at hSw); go_simp; try (with_reducible rfl))
  case' b1_r6 => simp only [List.setIfInBounds_toArray, List.set_cons_zero, List.set_cons_succ]
  refine Reg.take (i := 7) (u := ?b1_v7) rfl rfl rfl (by kernel_rfl) (by kernel_rfl) (by kernel_rfl) hH ?b1_y7 ?b1_r7
  case b1_y7 => (intro w hSw; (try dsimp only at hSw); go_simp; try (with_reducible rfl))
  case' b1_r7 => simp only [List.setIfInBounds_toArray, List.set_cons_zero, List.set_cons_succ]
  refine Reg.take (i := 8) (u := ?b1_v8) rfl rfl rfl (by kernel_rfl) (by kernel_rfl) (by kernel_rfl) hH ?b1_y8 ?b1_r8
  case b1_y8 => (intro w hSw; (try dsimp only at hSw); go_simp; try (with_reducible rfl))
  case' b1_r8 => simp only [List.setIfInBounds_toArray, List.set_cons_zero, List.set_cons_succ]
  refine Reg.takeIf (i := 9) (u := ?b1_v9) rfl rfl rfl rfl rfl (by kernel_rfl) (by kernel_rfl) (by kernel_rfl) hH ?b1_y9 ?b1_r9
  case b1_y9 => (intro w hSw; (try dsimp only at hSw); go_simp; try (with_reducible rfl))
  case' b1_r9 => simp only [List.setIfInBounds_toArray, List.set_cons_zero, List.set_cons_succ]
  refine Reg.takeIf (i := 11) (u := ?b1_v11) rfl rfl rfl rfl rfl (by kernel_rfl) (by kernel_rfl) (by kernel_rfl) hH ?b1_y11 ?b1_r11
  case b1_y11 => (intro w hSw; (try dsimp only at hSw); go_simp; try (with_reducible rfl))
  case' b1_r11 => simp only [List.setIfInBounds_toArray, List.set_cons_zero, List.set_cons_succ]
  refine Reg.only (i := 10) rfl (Reg.wanted_hit rfl rfl rfl) (by kernel_rfl) (fun K hK => ?_)
  go_simp
  go_at_call 18
  refine (hck1 _).mono ?_
  rintro e w3 ⟨rfl, h3⟩
  refine hK.out _ _ ?_ (fun hH2 => ?_)
  · exact ⟨(r3.drew.below h3).c0, (r3.drew.below h3).c1, (r3.drew.below h3).c2, (r7.drew.below h3).c0, (r7.drew.below h3).c1, (r7.drew.below h3).c2, (r9.drew.below h3).c0, (r9.drew.below h3).c1, (r9.drew.below h3).c2⟩
  clear hK hH
  have hH := hH2; clear hH2
  try simp only [Act.put, List.setIfInBounds_toArray, List.set_cons_zero, List.set_cons_succ]
  refine Reg.only (i := 12) rfl (Reg.wanted_hit rfl rfl rfl) (by kernel_rfl) (fun K hK => ?_)
  go_simp
  go_at_call 19
  refine (hck2 _).mono ?_
  rintro e w4 ⟨rfl, h4⟩
  refine hK.out _ _ ?_ (fun hH2 => ?_)
  · exact ⟨((r3.drew.below h3).below h4).c0, ((r3.drew.below h3).below h4).c1, ((r3.drew.below h3).below h4).c2, ((r7.drew.below h3).below h4).c0, ((r7.drew.below h3).below h4).c1, ((r7.drew.below h3).below h4).c2, ((r9.drew.below h3).below h4).c0, ((r9.drew.below h3).below h4).c1, ((r9.drew.below h3).below h4).c2⟩
  clear hK hH
  have hH := hH2; clear hH2
  try simp only [Act.put, List.setIfInBounds_toArray, List.set_cons_zero, List.set_cons_succ]
  refine Reg.takeIf (i := 13) (u := ?b1_v13) rfl rfl rfl rfl rfl (by kernel_rfl) (by kernel_rfl) (by kernel_rfl) hH ?b1_y13 ?b1_r13
  case b1_y13 => (intro w hSw; (try dsimp only at hSw); go_simp; try (with_reducible rfl))
  case' b1_r13 => simp only [List.setIfInBounds_toArray, List.set_cons_zero, List.set_cons_succ]
  refine Reg.take (i := 14) (u := ?b1_v14) rfl rfl rfl (by kernel_rfl) (by kernel_rfl) (by kernel_rfl) hH ?b1_y14 ?b1_r14
  case b1_y14 => (intro w hSw; (try dsimp only at hSw); go_simp; try (with_reducible rfl))
  case' b1_r14 => simp only [List.setIfInBounds_toArray, List.set_cons_zero, List.set_cons_succ]
  refine wpAnyH_done (by kernel_rfl) ?_ _
  refine NoPanic.normal ?_

  have b4 := b2'.drew.trans ((h3.trans (h4.mono h3.size)).mono b2'.size)
  have r3 := (r3.drew.below h3).below h4
  have r7 := (r7.drew.below h3).below h4
  have r9 := (r9.drew.below h3).below h4
  have n7 : w.heap.size < w1.heap.size := by have := g1.size; simp at this; omega
  have n9 : w1.heap.size < w2.heap.size := by have := g2.size; simp at this; omega
  clear h3 h4 g1 g2 b1 b1' b2 b2' hb0 hck1 hck2
  have hF1 := fun W => (feed_any lim T chunk lg W hT (by omega)).mono (fun e w' h => feed_u h)
  have hF2 := fun W => (refFeed_any lim T chunk lg W hT (by omega)).mono (fun e w' h => feed_u h)
  have hFc := feedR_count lim T chunk lg
  obtain ⟨F, hF⟩ : ∃ F, feedR lim T chunk lg = F := ⟨_, rfl⟩
  rw [hF] at hF1 hF2 hFc
  clear hF
  have p0 := r3.c0
  have p1 := r3.c1
  have p2 := r3.c2
  unfold linesV at hF1 hF2
  go_wp2_with fail
  refine (hF1 _).mono ?_
  rintro e w5 ⟨a5, c5, rfl, hL5, g5, o5⟩
  have l4 := r9.lt
  have s3 := r3.below g5
  have s7 := r7.below g5
  have s9 := r9.below g5
  have b5 := b4.trans (g5.mono b4.size)
  have e1 : ¬ w.heap.size = w1.heap.size := by omega
  have e2 : ¬ w.heap.size = w2.heap.size := by omega
  have e3 : ¬ w1.heap.size = w2.heap.size := by omega
  have e1' : ¬ w1.heap.size = w.heap.size := by omega
  have e2' : ¬ w2.heap.size = w.heap.size := by omega
  have e3' : ¬ w2.heap.size = w1.heap.size := by omega
  have p0 := s3.c0
  have p1 := s3.c1
  have p2 := s3.c2
  have m0 := s7.c0
  have m1 := s7.c1
  have m2 := s7.c2
  have mf := s7.fz
  clear r3 r7 r9 g5 b4 hF1
  go_wp2_with fail
  have t3 := s3.other (k := w1.heap.size) e1 (.int .i64 F.lim) (.string (bs F.U)) (.bool F.g)
  have t7 := s7.set (.int .i64 F.lim) (.string (bs F.U)) (.bool F.g)
  have t9 := s9.other (k := w1.heap.size) e3' (.int .i64 F.lim) (.string (bs F.U)) (.bool F.g)
  have c5 := set3_below b5 (show w.heap.size ≤ w1.heap.size by omega) (.int .i64 F.lim) (.string (bs F.U)) (.bool F.g)
  have hL5' : Lines (set3 w5 w1.heap.size (.int .i64 F.lim) (.string (bs F.U)) (.bool F.g)) a5 F.L.length F.L := hL5.set3 (fun ad h => by have := o5 ad h; omega) _ _ _
  unfold set3 at t3 t7 t9 c5 hL5'
  refine (hF2 _).mono ?_
  rintro e w6 ⟨a6, c6, rfl, hL6, g6, o6⟩
  have s3 := t3.below g6
  have s7 := t7.below g6
  have s9 := t9.below g6
  have b6 := c5.trans (g6.mono c5.size)
  have hL5 := Lib.hid (hL5'.below g6)
  have hL6 := Lib.hid hL6
  have l6 := R3.lt t9
  clear t3 t7 t9 c5 g6 hL5' hF2 p0 p1 p2 m0 m1 m2 mf
  have p0 := s3.c0
  have p1 := s3.c1
  have p2 := s3.c2
  have m0 := s7.c0
  have m1 := s7.c1
  have m2 := s7.c2
  have k0 := s9.c0
  have k1 := s9.c1
  have k2 := s9.c2
  have kf := s9.fz
  go_wp2_with fail
  have u3 := s3.other (k := w2.heap.size) e2 (.int .i64 F.lim) (.string (bs F.U)) (.bool F.g)
  have u7 := s7.other (k := w2.heap.size) e3 (.int .i64 F.lim) (.string (bs F.U)) (.bool F.g)
  have u9 := s9.set (.int .i64 F.lim) (.string (bs F.U)) (.bool F.g)
  have b7 := set3_below b6 (show w.heap.size ≤ w2.heap.size by omega) (.int .i64 F.lim) (.string (bs F.U)) (.bool F.g)
  have hs6 : (set3 w5 w1.heap.size (.int .i64 F.lim) (.string (bs F.U)) (.bool F.g)).heap.size = w5.heap.size := set3_size _ _ _ _ _
  unfold set3 at hs6
  have hL5 := Lines.set3 hL5.out (g := w2.heap.size) (fun ad h => by have := o5 ad h; omega) (.int .i64 F.lim) (.string (bs F.U)) (.bool F.g)
  have hL6 := Lines.set3 hL6.out (g := w2.heap.size) (fun ad h => by have := o6 ad h; rw [hs6] at this; rw [hs6] at l6; omega) (.int .i64 F.lim) (.string (bs F.U)) (.bool F.g)
  unfold set3 at u3 u7 u9 b7 hL5 hL6
  clear s3 s7 s9 p0 p1 p2 m0 m1 m2 k0 k1 k2 kf b6 hs6 l6 o5 o6
  refine (sameLines_any _ _ _ _ F.L _ hL5 hL6 (by omega)).mono ?_
  rintro e w7 ⟨rfl, nq, rfl⟩
  have u3 := u3.drewN nq
  have u7 := u7.drewN nq
  have u9 := u9.drewN nq
  have b7 := below_drewN b7 nq
  obtain ⟨a0, a1, a2, x0, x1, r, i, er, hov⟩ := oneVal_form lim T chunk lg
  have hO1 := fun W => one_any lim T chunk lg W hT (by omega)
  have hO2 := fun W => refOne_any lim T chunk lg W hT (by omega)
  rw [hov] at hO1 hO2
  unfold linesV at hO1 hO2
  clear hov hL5 hL6
  have p0 := u3.c0
  have p1 := u3.c1
  have p2 := u3.c2
  have m0 := u7.c0
  have m1 := u7.c1
  have m2 := u7.c2
  have k0 := u9.c0
  have k1 := u9.c1
  have k2 := u9.c2
  go_wp2_with fail
  refine (hO1 _).mono ?_
  rintro e w8 ⟨rfl, g8⟩
  have s3 := u3.below g8
  have s7 := u7.below g8
  have s9 := u9.below g8
  have b8 := b7.trans (g8.mono b7.size)
  clear u3 u7 u9 b7 g8 hO1 p0 p1 p2 m0 m1 m2 k0 k1 k2
  have p0 := s3.c0
  have p1 := s3.c1
  have p2 := s3.c2
  have m0 := s7.c0
  have m1 := s7.c1
  have m2 := s7.c2
  have mf := s7.fz
  have l7 := s7.lt
  have l3 := s3.lt
  have l9 := s9.lt
  go_wp2_with fail
  have u3 := (s3.other (k := w1.heap.size) e1 (.int .i64 a0) (.string (bs a1)) (.bool a2)).alloc (.cells #[.string (bs x0), .bool x1] 36)
  have u7 := (s7.set (.int .i64 a0) (.string (bs a1)) (.bool a2)).alloc (.cells #[.string (bs x0), .bool x1] 36)
  have u9 := (s9.other (k := w1.heap.size) e3' (.int .i64 a0) (.string (bs a1)) (.bool a2)).alloc (.cells #[.string (bs x0), .bool x1] 36)
  have hs8 : (set3 w8 w1.heap.size (.int .i64 a0) (.string (bs a1)) (.bool a2)).heap.size = w8.heap.size := set3_size _ _ _ _ _
  have v8 := World.alloc_heap_new (set3 w8 w1.heap.size (.int .i64 a0) (.string (bs a1)) (.bool a2)) (.cells #[.string (bs x0), .bool x1] 36)
  rw [hs8] at v8
  have b9 := (set3_below b8 (show w.heap.size ≤ w1.heap.size by omega) (.int .i64 a0) (.string (bs a1)) (.bool a2)).alloc (by rw [hs8]; omega) (.cells #[.string (bs x0), .bool x1] 36)
  unfold set3 at u3 u7 u9 v8 b9
  clear s3 s7 s9 p0 p1 p2 m0 m1 m2 mf b8 hs8
  refine (hO2 _).mono ?_
  rintro e w10 ⟨rfl, g10⟩
  have s3 := u3.below g10
  have s7 := u7.below g10
  have s9 := u9.below g10
  have b10 := b9.trans (g10.mono b9.size)
  have v10 := (g10.block _ (lt_of_cells v8)).trans v8
  have l8 := s9.lt
  clear u3 u7 u9 b9 v8 g10 hO2
  have p0 := s3.c0
  have p1 := s3.c1
  have p2 := s3.c2
  have m0 := s7.c0
  have m1 := s7.c1
  have m2 := s7.c2
  have kf := s9.fz
  have k0 := s9.c0
  have k1 := s9.c1
  have k2 := s9.c2
  have y0 := cell_list (cs := [.string (bs x0), .bool x1]) v10 0
  have y1 := cell_list (cs := [.string (bs x0), .bool x1]) v10 1
  simp only [List.getElem?_cons_zero, List.getElem?_cons_succ] at y0 y1
  have e4 : ¬ w8.heap.size = w2.heap.size := by omega
  have j3 := s3.lt
  have j7 := s7.lt
  have j9 := s9.lt
  have lv := lt_of_cells v10
  have hR1 := fun W => rest_any lim T lg W hT
  have hR2 := fun W => refRest_any lim T lg W hT
  obtain ⟨rt, hrt⟩ : ∃ rt, restR lim T lg = rt := ⟨_, rfl⟩
  rw [hrt, HK.out] at hR1 hR2
  unfold linesV at hR1 hR2
  clear hrt
  go_wp2_with fail
  have u3 := (s3.other (k := w2.heap.size) e2 (.int .i64 a0) (.string (bs a1)) (.bool a2)).alloc (.cells #[.string (bs x0), .bool x1] 36)
  have hs10 : (set3 w10 w2.heap.size (.int .i64 a0) (.string (bs a1)) (.bool a2)).heap.size = w10.heap.size := set3_size _ _ _ _ _
  have b11 := (set3_below b10 (show w.heap.size ≤ w2.heap.size by omega) (.int .i64 a0) (.string (bs a1)) (.bool a2)).alloc (by rw [hs10]; omega) (.cells #[.string (bs x0), .bool x1] 36)
  unfold set3 at u3 b11
  clear hs10
  refine (hR1 _).mono ?_
  rintro e w12 ⟨rfl, g12⟩
  have s3 := u3.below g12
  have b12 := b11.trans (g12.mono b11.size)
  clear u3 b11 g12 p0 p1 p2 m0 m1 m2 k0 k1 k2 kf y0 y1 hR1
  have p0 := s3.c0
  have p1 := s3.c1
  have p2 := s3.c2
  go_wp2_with fail
  refine (hR2 _).mono ?_
  rintro e w13 ⟨rfl, g13⟩
  have b13 := b12.trans (g13.mono b12.size)
  go_wp2_with fail
  refine (awake07_any _).mono ?_
  rintro e w14 ⟨rfl, g14⟩
  go_wp2_with fail
  go_ret
  exact ⟨rfl, b13.trans (g14.mono b13.size)⟩
end Go.Proofs.Yteppipkokeaijaa
