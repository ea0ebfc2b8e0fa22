/- The law's helpers: four, good, bad, feeds, awake. -/
import Derived.Test.YteppipkokeaijaaLineJoin
namespace Go.Proofs.Yteppipkokeaijaa
open Go.RowKit Str Mem
set_option linter.unusedVariables false
set_option linter.unusedSimpArgs false

theorem four_any (s : List UInt8) (w : World) : Calls Try.prog 29 #[.string (bs s)] w fun e w' => e = .returned (linesV 4 s false) ∧ Below w.heap.size w w' := by
  go_enter Try.func29, Try.ntmps29
  go_wp2_with fail
  refine bodyPost_ret (v := .agg #[.int .i64 4, .string (bs s), .bool false]) (by simp [results, Try.results29, go_sem]) rfl ⟨rfl, ?_⟩
  exact (Below.refl _ w).alloc (Nat.le_refl _) _
theorem good_any (s : List UInt8) (w : World) : Calls Try.prog 30 #[.string (bs s)] w fun e w' => e = .returned (lineV (s, true)) ∧ Below w.heap.size w w' := by
  go_enter Try.func30, Try.ntmps30
  go_wp2_with fail
  refine bodyPost_ret (v := .agg #[.string (bs s), .bool true]) (by simp [results, Try.results30, go_sem]) rfl ⟨rfl, ?_⟩
  exact (Below.refl _ w).alloc (Nat.le_refl _) _
theorem bad_any (s : List UInt8) (w : World) : Calls Try.prog 31 #[.string (bs s)] w fun e w' => e = .returned (lineV (s, false)) ∧ Below w.heap.size w w' := by
  go_enter Try.func31, Try.ntmps31
  go_wp2_with fail
  refine bodyPost_ret (v := .agg #[.string (bs s), .bool false]) (by simp [results, Try.results31, go_sem]) rfl ⟨rfl, ?_⟩
  exact (Below.refl _ w).alloc (Nat.le_refl _) _

set_option maxRecDepth 20000 in
set_option maxHeartbeats 1000000 in
theorem feeds_yes (n : Nat) (T chunk U : List UInt8) (g : Bool) (L : List (List UInt8 × Bool)) (a : Option Addr) (c : Nat) (w : World) (hT : T.length ≤ maxLen) (hc : chunk.length ≤ 1000000) (hL : Lines w a L.length L) (hn : L.length ≤ 1000000)
    (hr : refuse (n : Int) T false = 0) (hF : Ln.feed n T chunk = ((U, g), L)) :
    Calls Try.prog 28 #[linesV n T false, .string (bs chunk), linesV n U g, .slice a L.length c] w fun e w' => e = .returned (.bool true) ∧ Below w.heap.size w w' := by
  have hq := fun W => feed_any (n : Int) T chunk false W hT hc
  unfold FeedPost at hq
  rw [hr] at hq
  simp only [if_true, Int.toNat_natCast] at hq
  rw [hF] at hq
  unfold linesV at hq
  clear hF hr
  unfold linesV
  go_enter Try.func28, Try.ntmps28
  go_wp2_with fail
  refine (hq _).mono ?_
  rintro e w1 ⟨h1, v, rfl, hO⟩
  obtain ⟨a2, c2, rfl, _, _, hL2⟩ := hO.form
  have hb0 : Below w.heap.size w ((w.alloc (.cells #[.int .i64 (n : Int), .string (bs T), .bool false] 25)).alloc (.cells #[.int .i64 (n : Int), .string (bs U), .bool g] 25)) := ((Below.refl _ w).alloc (Nat.le_refl _) _).alloc (by simp) _
  have hb1 := hb0.trans (h1.mono hb0.size)
  have r1 := World.alloc_heap_new (w.alloc (.cells #[.int .i64 (n : Int), .string (bs T), .bool false] 25)) (.cells #[.int .i64 (n : Int), .string (bs U), .bool g] 25)
  rw [World.size_alloc] at r1
  have r2 := (h1.block _ (by simp)).trans r1
  have hL1 := (hL.below hb1)
  have c0 := cell_list (cs := [.int .i64 (n : Int), .string (bs U), .bool g]) r2 0
  have c1 := cell_list (cs := [.int .i64 (n : Int), .string (bs U), .bool g]) r2 1
  have c2 := cell_list (cs := [.int .i64 (n : Int), .string (bs U), .bool g]) r2 2
  simp only [List.getElem?_cons_zero, List.getElem?_cons_succ] at c0 c1 c2
  have hlt := lt_of_cells r2
  have HL1 := Lib.hid hL1
  have HL2 := Lib.hid hL2
  have HB1 := Lib.hid hb1
  clear hq hO h1 hb0 r1 r2 hL1 hL2 hb1
  go_wp2_with fail
  refine (sameLines_any _ _ _ _ L _ (HL2.out.alloc _) (HL1.out.alloc _) hn).mono ?_
  rintro e w2 ⟨rfl, n2, rfl⟩
  go_wp2_with fail
  go_ret
  exact ⟨rfl, below_drewN (HB1.out.alloc HB1.out.size _) _⟩
theorem ownLine (w : World) (x : List UInt8 × Bool) (N : Nat) (h : N = w.heap.size) : Lines (w.alloc (.cells #[.string (bs x.1), .bool x.2] 36)) (some ⟨N, 0, none⟩) 1 [x] := Rd.pair_at w _ _ _ N h

set_option maxRecDepth 20000 in
set_option maxHeartbeats 1000000 in
theorem awake07_any (w : World) : Calls Try.prog 9 #[] w fun e w' => e = .returned (.bool true) ∧ Below w.heap.size w w' := by
  have h0 := fun W => four_any [] W
  have h1 := fun W => four_any [99] W
  have h2 := fun W => good_any [97, 98] W
  have h3 := fun W => bad_any [99] W
  have f1 := fun a c W hL => feeds_yes 4 [] [97, 98, 13, 10, 99] [99] false [([97, 98], true)] a c W (by simp) (by simp) hL (by simp) (by kernel_rfl) (by kernel_rfl)
  have f2 := fun a c W hL => feeds_yes 4 [99] [10] [] false [([99], false)] a c W (by simp [maxLen]) (by simp) hL (by simp) (by kernel_rfl) (by kernel_rfl)
  have f3 := fun a c W hL => feeds_yes 4 [] [97, 98, 99, 100, 13, 10] [] true [] a c W (by simp) (by simp) hL (by simp) (by kernel_rfl) (by kernel_rfl)
  unfold linesV lineV at *
  go_enter Try.func9, Try.ntmps9
  go_wp2_with fail
  refine (h0 _).mono ?_
  rintro e w1 ⟨rfl, g1⟩
  go_wp2_with fail
  refine (h1 _).mono ?_
  rintro e w2 ⟨rfl, g2⟩
  go_wp2_with fail
  refine (h2 _).mono ?_
  rintro e w3 ⟨rfl, g3⟩
  have b3 := g1.trans ((g2.trans (g3.mono g2.size)).mono g1.size)
  clear g1 g2 g3
  go_wp2_with fail
  refine (f1 _ _ _ (ownLine w3 ([97, 98], true) _ rfl)).mono ?_
  rintro e w4 ⟨rfl, g4⟩
  have b3' := b3.alloc b3.size (.cells #[.string (bs [97, 98]), .bool true] 36)
  have b4 := b3'.trans (g4.mono b3'.size)
  clear b3 b3' g4
  go_wp2_with fail
  refine (h1 _).mono ?_
  rintro e w5 ⟨rfl, g5⟩
  go_wp2_with fail
  refine (h0 _).mono ?_
  rintro e w6 ⟨rfl, g6⟩
  go_wp2_with fail
  refine (h3 _).mono ?_
  rintro e w7 ⟨rfl, g7⟩
  have b7 := b4.trans ((g5.trans ((g6.trans (g7.mono g6.size)).mono g5.size)).mono b4.size)
  clear g5 g6 g7 b4
  go_wp2_with fail
  refine (f2 _ _ _ (ownLine w7 ([99], false) _ rfl)).mono ?_
  rintro e w8 ⟨rfl, g8⟩
  have b7' := b7.alloc b7.size (.cells #[.string (bs [99]), .bool false] 36)
  have b8 := b7'.trans (g8.mono b7'.size)
  clear b7 b7' g8
  go_wp2_with fail
  refine (h0 _).mono ?_
  rintro e w9 ⟨rfl, g9⟩
  have b9 := b8.trans (g9.mono b8.size)
  go_wp2_with fail
  refine (f3 none 0 _ (Rd.nil _ _ _)).mono ?_
  rintro e w10 ⟨rfl, g10⟩
  go_wp2_with fail
  go_ret
  exact ⟨rfl, b9.trans (g10.mono b9.size)⟩
end Go.Proofs.Yteppipkokeaijaa
