/- The examples that every statement of layer 30 asks; the statement InheritKnown, walked: it returns true. -/
import Derived.Test.YtajnkapnndhbaaaInhAwake
namespace Go.Proofs.Ytajnkapnndhbaaa
open Go.RowKit Str Mem
set_option linter.unusedVariables false
set_option linter.unusedSimpArgs false

/-- A new row. -/
theorem rd_new (w : World) (t : TypeId) (cs : Array Value) (sz : Nat) (l : List Value) (N n : Nat) (h : cs.toList = l) (hl : l.length = n * sz) (hN : N = w.heap.size) : Rd (w.alloc (.cells cs t)) sz (some ⟨N, 0, none⟩) n l := by
  subst hN
  refine ⟨hl, fun _ => ⟨_, rfl, by simp, fun j u hu => ?_⟩⟩
  rw [add_flat, cell_of_row _ w.heap.size _ cs t (0, 0) (heap_alloc_new w _), Nat.zero_add, ← hu, ← h, ← Array.getElem?_toList]
theorem ints_new (w : World) (t : TypeId) (cs : Array Value) (l : List Int) {N n : Nat} (h : cs.toList = l.map iv) (hN : N = w.heap.size) (hn : n = l.length := by rfl) : Ints (w.alloc (.cells cs t)) (some ⟨N, 0, none⟩) n l :=
  rd_new w t cs 1 _ N n h (by simp [hn]) hN

theorem dirs_any2 (w : World) : Calls Try.prog 31 #[] w fun e w' => ∃ a c r1 r2 r3, e = .returned (.slice a 3 c) ∧ Dirs w' a 3 (exDirs r1 r2 r3) ∧ 3 ≤ c ∧ Below w.heap.size w w' := dirs_any w

section
variable (a : Option Addr) (c : Nat) (r1 r2 r3 : Option Addr) (w : World)
theorem above_ex (d : Int) (res : (Int × Bool) × Int) (hD : Dirs w a 3 (exDirs r1 r2 r3)) (hc : 3 ≤ c) (h : ∀ r1 r2 r3, Inh.aboveR (exDirs r1 r2 r3) d = res) :
    Calls Try.prog 26 #[.slice a 3 c, .int .i64 d] w fun e w' => e = .returned (.tuple #[.int .i64 res.1.1, .bool res.1.2, .int .i64 res.2]) ∧ Below w.heap.size w w' := by
  have := inhAbove_any a c (exDirs r1 r2 r3) w d hD hc (exSmall r1 r2 r3)
  rwa [h] at this
theorem find_ex (p : List UInt8) (res : (Int × Bool) × Int) (hD : Dirs w a 3 (exDirs r1 r2 r3)) (hc : 3 ≤ c) (hp : p.length ≤ 200) (h : ∀ r1 r2 r3, Inh.findR (exDirs r1 r2 r3) p = res) :
    Calls Try.prog 24 #[.slice a 3 c, .string ⟨p.toArray⟩] w fun e w' => e = .returned (.tuple #[.int .i64 res.1.1, .bool res.1.2, .int .i64 res.2]) ∧ Below w.heap.size w w' := by
  have := inhFind_any a c (exDirs r1 r2 r3) w p hD hc (exSmall r1 r2 r3) hp
  rwa [h] at this
theorem number_ex (d r : Int) (res : Int × Int) (hD : Dirs w a 3 (exDirs r1 r2 r3)) (hc : 3 ≤ c) (h : ∀ r1 r2 r3, numberOf (Inh.allR (exDirs r1 r2 r3)) d r = res) :
    Calls Try.prog 19 #[.slice a 3 c, .agg #[.int .i64 d, .int .i64 r]] w fun e w' => e = .returned (.tuple #[.int .i64 res.1, .int .i64 res.2]) ∧ Below w.heap.size w w' := by
  have := inhNumber_any a c (exDirs r1 r2 r3) d r w hD hc (exSmall r1 r2 r3)
  rwa [h] at this
theorem chain_ex (d : Int) (C : List Nat) (n : Int) (hD : Dirs w a 3 (exDirs r1 r2 r3)) (hc : 3 ≤ c) (h : ∀ r1 r2 r3, chainR (exDirs r1 r2 r3) d = C) (h' : ∀ r1 r2 r3, Inh.asked (exDirs r1 r2 r3) d = n) :
    Calls Try.prog 28 #[.slice a 3 c, .int .i64 d] w fun e w' => ∃ a' c', e = .returned (.tuple #[.slice a' C.length c', .int .i64 n]) ∧ Ints w' a' C.length (nums C) ∧ Below w.heap.size w w' := by
  have := chain_any a c (exDirs r1 r2 r3) d w hD hc (exSmall r1 r2 r3)
  unfold ChainPost at this
  rw [h, h'] at this
  exact this.mono fun e w' ⟨a', c', h1, h2, _, _, h3⟩ => ⟨a', c', h1, h2, h3⟩
theorem check_ex (res : Int × Int) (hD : Dirs w a 3 (exDirs r1 r2 r3)) (hc : 3 ≤ c) (h : ∀ r1 r2 r3, Inh.check (exDirs r1 r2 r3) = res) :
    Calls Try.prog 22 #[.slice a 3 c] w fun e w' => e = .returned (.tuple #[.int .i64 res.1, .int .i64 res.2]) ∧ Below w.heap.size w w' := by
  have := check_any a c (exDirs r1 r2 r3) w hD hc (exSmall r1 r2 r3)
  rwa [h] at this
theorem all_ex (S : List Inh.Spot) (n : Int) (hD : Dirs w a 3 (exDirs r1 r2 r3)) (hc : 3 ≤ c) (h : ∀ r1 r2 r3, Inh.allR (exDirs r1 r2 r3) = (S, n)) :
    Calls Try.prog 17 #[.slice a 3 c] w fun e w' => ∃ a' c', e = .returned (.tuple #[.slice a' S.length c', .int .i64 n]) ∧ Rd w' 2 a' S.length (scells S) ∧ Below w.heap.size w w' := by
  have := inhAll_any a c (exDirs r1 r2 r3) w hD hc (exSmall r1 r2 r3)
  unfold SpotsPost at this
  rw [h] at this
  exact this.mono fun e w' ⟨a', c', h1, h2, _, _, h3⟩ => ⟨a', c', h1, h2, h3⟩
end
theorem sameInts_ex (a b : Option Addr) (c d : Nat) (l : List Int) (w : World) {n : Nat} (hl : Ints w a n l) (hm : Ints w b n l) (hn : l.length ≤ 100000) :
    Calls Try.prog 30 #[.slice a n c, .slice b n d] w fun e w' => e = .returned (.bool true) ∧ Below w.heap.size w w' := by
  obtain rfl := hl.length
  exact sameInts_any a b c d l w hl hm hn

def smallB (L : List DirV) : Bool := decide (L.length ≤ 12) && L.all fun d => decide (d.rn ≤ 80) && decide (d.path.length ≤ 200)
theorem small_of {L : List DirV} (h : smallB L = true) : Small L := by
  unfold smallB at h
  simp only [Bool.and_eq_true, decide_eq_true_eq, List.all_eq_true] at h
  exact h

theorem fails_yes (L : List DirV) (want at' : Int) (a : Option Addr) (c : Nat) (w : World) (hs : Small L) (hc : L.length ≤ c) (hD : Rd w 3 a L.length (L.flatMap DirV.cells)) (h : Inh.check L = (want, at')) :
    Calls Try.prog 34 #[.slice a L.length c, .int .i64 want, .int .i64 at'] w fun e w' => e = .returned (.bool true) ∧ Below w.heap.size w w' := by
  have hq := check_any a c L w hD hc hs
  rw [h] at hq
  clear h
  go_enter Try.func34, Try.ntmps34
  go_wp2_with (go_at_call 22; refine hq.mono ?_; rintro e w1 ⟨rfl, h1⟩)
  go_ret
  exact ⟨rfl, h1⟩

set_option maxRecDepth 20000 in
set_option maxHeartbeats 4000000 in
theorem awake30_any (w : World) : Calls Try.prog 10 #[] w fun e w' => e = .returned (.bool true) ∧ Below w.heap.size w w' := by
  have g0 : Below w.heap.size w w := Below.refl _ _
  go_enter Try.func10, Try.ntmps10
  go_wp2_with fail
  refine (dirs_any2 _).mono ?_
  rintro e w1 ⟨a1, c1, r1, s1, t1, rfl, hD1, hc1, h1⟩
  have g1 := g0.trans (h1.mono g0.size)
  go_wp2_with fail
  refine (number_ex _ _ _ _ _ _ 2 1 (4, 0) hD1 hc1 (fun _ _ _ => by kernel_rfl)).mono ?_
  rintro e w2 ⟨rfl, h2⟩
  have g2 := g1.trans (h2.mono g1.size)
  go_wp2_with fail
  refine (dirs_any2 _).mono ?_
  rintro e w3 ⟨a3, c3, r3, s3, t3, rfl, hD3, hc3, h3⟩
  have g3 := g2.trans (h3.mono g2.size)
  go_wp2_with fail
  refine (chain_ex _ _ _ _ _ _ 2 [2, 1, 0] 0 hD3 hc3 (fun _ _ _ => by kernel_rfl) (fun _ _ _ => by kernel_rfl)).mono ?_
  rintro e w4 ⟨ac, cc, rfl, hI, h4⟩
  have g4 := g3.trans (h4.mono g3.size)
  go_wp2_with fail
  refine (dirs_any2 _).mono ?_
  rintro e w5 ⟨a5, c5, r5, s5, t5, rfl, hD5, hc5, h5⟩
  have g5 := g4.trans (h5.mono g4.size)
  replace hI := hI.below h5
  go_wp2_with fail
  refine (check_ex _ _ _ _ _ _ (0, 0) hD5 hc5 (fun _ _ _ => by kernel_rfl)).mono ?_
  rintro e w6 ⟨rfl, h6⟩
  have g6 := g5.trans (h6.mono g5.size)
  replace hI := hI.below h6
  go_wp2_with fail
  refine (finds_yes [47, 97, 47, 98, 47, 99] 2 _ (by decide) (fun _ _ _ => by kernel_rfl)).mono ?_
  rintro e w7 ⟨rfl, h7⟩
  have g7 := g6.trans (h7.mono g6.size)
  replace hI := hI.below h7
  go_wp2_with fail
  refine (rules_yes [47, 97] [(0, 0), (0, 1), (1, 0)] _ _ _ (by decide) (fun _ _ _ => by kernel_rfl) (by decide) (ints_new _ _ _ _ (by rfl) (by simp))).mono ?_
  rintro e w8 ⟨rfl, h8⟩
  have g8 := (g7.alloc g7.size _).trans (h8.mono (by have := g7.size; simp; omega))
  replace hI := (hI.alloc _).below h8
  go_wp2_with fail
  refine (sameInts_ex _ _ _ _ (nums [2, 1, 0]) _ (hI.alloc _) (ints_new _ _ _ _ (by rfl) (by simp)) (by decide)).mono ?_
  rintro e w9 ⟨rfl, h9⟩
  have g9 := (g8.alloc g8.size _).trans (h9.mono (by have := g8.size; simp; omega))
  go_wp2_with fail
  go_ret
  exact ⟨rfl, g9⟩

set_option maxRecDepth 20000 in
set_option maxHeartbeats 8000000 in
theorem lawInhKnown_any (w : World) : Calls Try.prog 5 #[] w fun e w' => e = .returned (.bool true) ∧ Below w.heap.size w w' := by
  have g0 : Below w.heap.size w w := Below.refl _ _
  go_enter Try.func5, Try.ntmps5
  go_wp2_with fail
  refine (dirs_any2 _).mono ?_
  rintro e w1 ⟨a1, c1, r1, s1, t1, rfl, hD1, hc1, h1⟩
  have g1 := g0.trans (h1.mono g0.size)
  go_wp2_with fail
  refine (above_ex _ _ _ _ _ _ (0) ((0, false), 0) hD1 hc1 (fun _ _ _ => by kernel_rfl)).mono ?_
  rintro e w2 ⟨rfl, h2⟩
  have g2 := g1.trans (h2.mono g1.size)
  go_wp2_with fail
  refine (dirs_any2 _).mono ?_
  rintro e w3 ⟨a3, c3, r3, s3, t3, rfl, hD3, hc3, h3⟩
  have g3 := g2.trans (h3.mono g2.size)
  go_wp2_with fail
  refine (above_ex _ _ _ _ _ _ (1) ((0, true), 0) hD3 hc3 (fun _ _ _ => by kernel_rfl)).mono ?_
  rintro e w4 ⟨rfl, h4⟩
  have g4 := g3.trans (h4.mono g3.size)
  go_wp2_with fail
  refine (dirs_any2 _).mono ?_
  rintro e w5 ⟨a5, c5, r5, s5, t5, rfl, hD5, hc5, h5⟩
  have g5 := g4.trans (h5.mono g4.size)
  go_wp2_with fail
  refine (above_ex _ _ _ _ _ _ (2) ((1, true), 0) hD5 hc5 (fun _ _ _ => by kernel_rfl)).mono ?_
  rintro e w6 ⟨rfl, h6⟩
  have g6 := g5.trans (h6.mono g5.size)
  go_wp2_with fail
  refine (dirs_any2 _).mono ?_
  rintro e w7 ⟨a7, c7, r7, s7, t7, rfl, hD7, hc7, h7⟩
  have g7 := g6.trans (h7.mono g6.size)
  go_wp2_with fail
  refine (all_ex _ _ _ _ _ _ [(0, 0), (0, 1), (1, 0), (2, 0), (2, 1)] 0 hD7 hc7 (fun _ _ _ => by kernel_rfl)).mono ?_
  rintro e w8 ⟨al, cl, rfl, hl, h8⟩
  have g8 := g7.trans (h8.mono g7.size)
  go_wp2_with fail
  refine (dirs_any2 _).mono ?_
  rintro e w9 ⟨a9, c9, r9, s9, t9, rfl, hD9, hc9, h9⟩
  have g9 := g8.trans (h9.mono g8.size)
  go_wp2_with fail
  refine (number_ex _ _ _ _ _ _ 1 1 (0, 2) hD9 hc9 (fun _ _ _ => by kernel_rfl)).mono ?_
  rintro e w10 ⟨rfl, h10⟩
  have g10 := g9.trans (h10.mono g9.size)
  go_wp2_with fail
  refine (dirs_any2 _).mono ?_
  rintro e w11 ⟨a11, c11, r11, s11, t11, rfl, hD11, hc11, h11⟩
  have g11 := g10.trans (h11.mono g10.size)
  go_wp2_with fail
  refine (find_ex _ _ _ _ _ _ [120] ((0, false), 11) hD11 hc11 (by decide) (fun _ _ _ => by kernel_rfl)).mono ?_
  rintro e w12 ⟨rfl, h12⟩
  have g12 := g11.trans (h12.mono g11.size)
  go_wp2_with fail
  refine (dirs_any2 _).mono ?_
  rintro e w13 ⟨a13, c13, r13, s13, t13, rfl, hD13, hc13, h13⟩
  have g13 := g12.trans (h13.mono g12.size)
  go_wp2_with fail
  refine (above_ex _ _ _ _ _ _ (3) ((0, false), 2) hD13 hc13 (fun _ _ _ => by kernel_rfl)).mono ?_
  rintro e w14 ⟨rfl, h14⟩
  have g14 := g13.trans (h14.mono g13.size)
  go_wp2_with fail
  refine (finds_yes [47, 120] 0 _ (by decide) (fun _ _ _ => by kernel_rfl)).mono ?_
  rintro e w15 ⟨rfl, h15⟩
  have g15 := g14.trans (h15.mono g14.size)
  go_wp2_with fail
  refine (finds_yes [47, 97] 1 _ (by decide) (fun _ _ _ => by kernel_rfl)).mono ?_
  rintro e w16 ⟨rfl, h16⟩
  have g16 := g15.trans (h16.mono g15.size)
  go_wp2_with fail
  refine (finds_yes [47, 97, 47] 1 _ (by decide) (fun _ _ _ => by kernel_rfl)).mono ?_
  rintro e w17 ⟨rfl, h17⟩
  have g17 := g16.trans (h17.mono g16.size)
  go_wp2_with fail
  refine (finds_yes [47, 97, 98] 0 _ (by decide) (fun _ _ _ => by kernel_rfl)).mono ?_
  rintro e w18 ⟨rfl, h18⟩
  have g18 := g17.trans (h18.mono g17.size)
  go_wp2_with fail
  refine (rules_yes [47, 120] [(0, 0), (0, 1)] _ _ _ (by decide) (fun _ _ _ => by kernel_rfl) (by decide) (ints_new _ _ _ _ (by rfl) (by simp))).mono ?_
  rintro e w19 ⟨rfl, h19⟩
  have g19 := (g18.alloc g18.size _).trans (h19.mono (by have := g18.size; simp; omega))
  go_wp2_with fail
  refine (rules_yes [47, 97, 47, 98] [(2, 0), (2, 1), (0, 0), (0, 1), (1, 0)] _ _ _ (by decide) (fun _ _ _ => by kernel_rfl) (by decide) (ints_new _ _ _ _ (by rfl) (by simp))).mono ?_
  rintro e w20 ⟨rfl, h20⟩
  have g20 := (g19.alloc g19.size _).trans (h20.mono (by have := g19.size; simp; omega))
  go_wp2_with fail
  refine (fails_yes [⟨[47, 97, 47], 0, none, 0, 0⟩] 11 0 _ _ _ (small_of (by decide)) (by decide) (rd_new _ _ _ _ _ _ _ (by rfl) (by rfl) (by simp)) (by kernel_rfl)).mono ?_
  rintro e w21 ⟨rfl, h21⟩
  have g21 := (g20.alloc g20.size _).trans (h21.mono (by have := g20.size; simp; omega))
  go_wp2_with fail
  refine (fails_yes [⟨[47, 97], 0, none, 0, 0⟩, ⟨[47, 97], 0, none, 0, 0⟩] 7 1 _ _ _ (small_of (by decide)) (by decide) (rd_new _ _ _ _ _ _ _ (by rfl) (by rfl) (by simp)) (by kernel_rfl)).mono ?_
  rintro e w22 ⟨rfl, h22⟩
  have g22 := (g21.alloc g21.size _).trans (h22.mono (by have := g21.size; simp; omega))
  go_wp2_with fail
  refine (fails_yes [⟨[47, 97], 3, none, 0, 0⟩] 10 0 _ _ _ (small_of (by decide)) (by decide) (rd_new _ _ _ _ _ _ _ (by rfl) (by rfl) (by simp)) (by kernel_rfl)).mono ?_
  rintro e w23 ⟨rfl, h23⟩
  have g23 := (g22.alloc g22.size _).trans (h23.mono (by have := g22.size; simp; omega))
  go_wp2_with fail
  refine (awake30_any _).mono ?_
  rintro e w24 ⟨rfl, h24⟩
  have g24 := g23.trans (h24.mono g23.size)
  go_wp2_with fail
  go_ret
  exact ⟨rfl, g24⟩

end Go.Proofs.Ytajnkapnndhbaaa
