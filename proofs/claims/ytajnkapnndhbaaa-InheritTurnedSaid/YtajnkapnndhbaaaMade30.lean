/- made: directories made of numbers. -/
import Derived.Test.YtajnkapnndhbaaaKitNum
import Derived.Test.YtajnkapnndhbaaaInhOwnDirs
import Derived.Test.YtajnkapnndhbaaaInhAlike
namespace Go.Proofs.Ytajnkapnndhbaaa
open Go.RowKit Str Mem
set_option linter.unusedVariables false
set_option linter.unusedSimpArgs false

def mPaths : List (List UInt8) := [[47], [47, 97], [47, 97, 47, 98], [47, 97, 47, 98, 47, 99], [47, 97, 98], [47, 97, 47, 99], [47, 120, 47, 121]]
def mPath (k : Nat) : List UInt8 := mPaths.getD k []
def mB (l : List Int) : Nat := (l.getD 7 0 % 7).toNat
def mK (b i : Nat) : Nat := (i * 3 + b) % 7
def mN (l : List Int) (i : Nat) : Nat := (l.getD i 0 % 1048576).toNat
def madeK (l : List Int) : Nat → List (List UInt8 × Int × Nat)
  | 0 => []
  | k + 1 => madeK l k ++ (if mN l k % 4 = 3 then [] else [(mPath (mK (mB l) k), ((mN l k / 4 % 3 : Nat) : Int), mN l k / 12 % 4)])

/-- An empty rule. -/
def zr : RuleV := ⟨[], false, none, 0, [], [], false, false, false, false, false, false, false, false, 0, 0⟩
theorem infoRule3 : ∃ (i : TypeInfo) (z : Value), Try.prog.info? 89 = some i ∧ i.zero = some z ∧ i.size = 14 ∧ z.cells = zr.cells.toArray ∧ i.bytes ≤ 1000 := by
  have h : (Try.prog.info? 89).map (fun i => (i.zero, i.size, decide (i.bytes ≤ 1000))) = some (some zr.value, 14, true) := by kernel_rfl
  obtain ⟨i, hi, hx⟩ := Option.map_eq_some_iff.1 h
  simp only [Prod.mk.injEq, decide_eq_true_eq] at hx
  exact ⟨i, _, hi, hx.1, hx.2.1, rfl, hx.2.2⟩
/-- make([]Rule, n): n empty rules. -/
theorem makeRules3 (n : Nat) (w : World) (hn : n ≤ 1000) : (Instr.makeSlice 53 (.int .i64 n) (.int .i64 n)).run Try.prog w = .ok (.slice (some ⟨w.heap.size, 0, none⟩) n n) (w.alloc (.cells (madeCells zr.cells.toArray (n * 14)) 89)) := by
  obtain ⟨i, z, hi, hz, hs, hc, hb⟩ := infoRule3
  have hm : (i.bytes : Int) * (n : Int) ≤ 1000 * 1000 := Int.mul_le_mul (by omega) (by omega) (by omega) (by omega)
  have := run_make (P := Try.prog) w 53 89 i z Try.underlying53 hi hz .i64 .i64 n n (by omega) (Int.le_refl _) (by omega) (by omega)
  rw [hc, hs] at this
  simpa using this
theorem made_row0 : (madeCells zr.cells.toArray 0).toList = (List.replicate 0 zr).flatMap RuleV.cells := by kernel_rfl
theorem made_row1 : (madeCells zr.cells.toArray 14).toList = (List.replicate 1 zr).flatMap RuleV.cells := by kernel_rfl
theorem made_row2 : (madeCells zr.cells.toArray 28).toList = (List.replicate 2 zr).flatMap RuleV.cells := by kernel_rfl
theorem made_row3 : (madeCells zr.cells.toArray 42).toList = (List.replicate 3 zr).flatMap RuleV.cells := by kernel_rfl
theorem made_row (n : Nat) (hn : n < 4) : (madeCells zr.cells.toArray (n * 14)).toList = (List.replicate n zr).flatMap RuleV.cells := by
  have : n = 0 ∨ n = 1 ∨ n = 2 ∨ n = 3 := by omega
  rcases this with rfl | rfl | rfl | rfl
  · exact made_row0
  · exact made_row1
  · exact made_row2
  · exact made_row3
theorem wrap_small {n : Int} (h0 : 0 ≤ n) (h1 : n < 1048576) : IntKind.i64.wrap n = n := IntWalk.i64_in n (by omega)
theorem rulesOwn_new (w : World) (base n : Nat) (hn : n < 4) (hb : base ≤ w.heap.size) (N : Nat) (hN : N = w.heap.size) : RulesOwn (w.alloc (.cells (madeCells zr.cells.toArray (n * 14)) 89)) base (.slice (some ⟨N, 0, none⟩) n n) (List.replicate n zr) := by
  subst hN
  have hl : ((List.replicate n zr).flatMap RuleV.cells).length = n * 14 := by rw [flatM_length _ 14 RuleV.cells_length]; simp
  have hrow := made_row n hn
  refine ⟨⟨by simpa using hl, .inr ⟨w.heap.size, n, _, by simp, hb, heap_alloc_new w _, by simp, by simp only [maxLen]; omega, ?_, ?_⟩⟩, ?_⟩
  · have := congrArg List.length hrow
    rw [hl] at this
    simp at this ⊢
    omega
  · rw [hrow, List.take_of_length_le (by simpa using Nat.le_of_eq hl)]
  · intro s hs
    rw [List.eq_of_mem_replicate hs]
    exact Owns.nil _ _ _ _

theorem RulesOwn.drew {w : World} {base : Nat} {v : Value} {R : List RuleV} (h : RulesOwn w base v R) : RulesOwn w.drew base v R := ⟨Owns.drew h.1, fun s hs => Owns.drew (h.2 s hs)⟩

def MadeI (w : World) (l : List Int) (ad : Addr) (v i : Value) (wr : World) : Prop :=
  ∃ (k : Nat) (L : List DirV), i = .int .i64 k ∧ k ≤ 7 ∧ L.length ≤ k ∧ L.map Inh.key = madeK l k ∧ (∀ d ∈ L, RulesOwn wr (w.heap.size + 1) (.slice d.ra d.rn d.rc) (List.replicate d.rn zr)) ∧ Owns wr (w.heap.size + 1) 55 3 v L.length (L.flatMap DirV.cells) ∧ Below w.heap.size w wr ∧ (∀ x, x < 7 → wr.cell? (ad.add x) = some (.string ⟨(mPath x).toArray⟩)) ∧ w.heap.size < wr.heap.size

theorem seven {x : Nat} (h : x < 7) : x = 0 ∨ x = 1 ∨ x = 2 ∨ x = 3 ∨ x = 4 ∨ x = 5 ∨ x = 6 := by omega

set_option maxRecDepth 20000 in
set_option maxHeartbeats 2000000 in
theorem made30_any (a : Option Addr) (c : Nat) (l : List Int) (w : World) (h : Ints w a l.length l) :
    Calls Try.prog 35 #[.slice a l.length c] w fun e w' => ∃ a' c' L, e = .returned (.slice a' L.length c') ∧ L.map Inh.key = madeK l 7 ∧ L.length ≤ c' ∧ c' ≤ maxLen ∧ DeepDirs w' a' L (L.map fun d => List.replicate d.rn zr) ∧ Below w.heap.size w w' := by
  obtain ⟨i0, hi, hz0, hz1, hz2⟩ := info_parts infoDir
  obtain ⟨ad, had⟩ : ∃ ad : Addr, ad = ⟨w.heap.size, 0, none⟩ := ⟨_, rfl⟩
  have hadb : ad.block = w.heap.size := by rw [had]
  have hk7 := fun w h => kitAt_any a c l 7 w h
  have hm7 := fun w => kitMod_any (l.getD 7 0) 7 w (by omega) (by omega)
  have hb7 : (l.getD 7 0 % 7) = ((mB l : Nat) : Int) := by unfold mB; omega
  have hb70 : mB l < 7 := by unfold mB; omega
  rw [hb7] at hm7
  obtain ⟨g7, hg7⟩ : ∃ g, g = l.getD 7 0 := ⟨_, rfl⟩
  rw [← hg7] at hk7 hm7
  clear hb7 hg7
  go_enter Try.func35, Try.ntmps35
  go_wp2
  rw [← had]
  go_loopw [4, 5] (fun v i wr => MadeI w l ad v i wr) (fun _ i _ => 7 - (intOf i).toNat)
  case atStart =>
    refine ⟨0, [], rfl, by omega, by simp, rfl, by simp, Owns.nil _ _ _ _, (Below.refl _ w).alloc (Nat.le_refl _) _, fun x hx => ?_, by simp⟩
    rw [had, add_flat, cell_of_row _ w.heap.size _ _ _ (0, 0) (heap_alloc_new w _)]
    rcases seven hx with rfl | rfl | rfl | rfl | rfl | rfl | rfl <;> rfl
  case round =>
    obtain ⟨k, L, rfl, hk, hLk, hkey, hrl, hown, hbl, htab, hsz⟩ := hrel
    by_cases hlt : k < 7
    · have hm := fun w => kitMod_any (l.getD k 0) 1048576 w (by omega) (by omega)
      have hat := fun w h => kitAt_any a c l k w h
      have hNe : (l.getD k 0 % 1048576) = ((mN l k : Nat) : Int) := by unfold mN; omega
      have hNl : mN l k < 1048576 := by unfold mN; omega
      rw [hNe] at hm
      clear hNe
      obtain ⟨g, hg⟩ : ∃ g, g = l.getD k 0 := ⟨_, rfl⟩
      rw [← hg] at hm hat
      clear hg
      obtain ⟨x, hx⟩ : ∃ x, x = mK (mB l) k := ⟨_, rfl⟩
      have hx7 : x < 7 := by rw [hx]; unfold mK; omega
      have htx := htab x hx7
      have hxe : ((k : Int) * 3 + ((mB l : Nat) : Int)).tmod 7 = (x : Int) := by rw [hx]; unfold mK; rw [Int.tmod_eq_emod_of_nonneg (by omega)]; omega
      have hstep : madeK l (k + 1) = madeK l k ++ (if mN l k % 4 = 3 then [] else [(mPath x, ((mN l k / 4 % 3 : Nat) : Int), mN l k / 12 % 4)]) := by rw [hx]; rfl
      obtain ⟨b, hb⟩ : ∃ b, b = mB l := ⟨_, rfl⟩
      obtain ⟨n, hn⟩ : ∃ n, n = mN l k := ⟨_, rfl⟩
      rw [← hb] at hm7 hb70 hxe
      rw [← hn] at hm hNl hstep
      clear hb hn hx
      have hmk := fun w => makeRules3 (n / 12 % 4) w (by omega)
      have hmk1 : (((n / 12 % 4 : Nat)) : Int) = (IntKind.i64.wrap ((n : Int) / 12)).tmod 4 := by rw [wrap_small (by omega) (by omega), Int.tmod_eq_emod_of_nonneg (by omega)]; omega
      have hmd : (IntKind.i64.wrap ((n : Int) / 4)).tmod 3 = ((n / 4 % 3 : Nat) : Int) := by rw [wrap_small (by omega) (by omega), Int.tmod_eq_emod_of_nonneg (by omega)]; omega
      have hx0' : (0 : Int) ≤ (x : Int) := by omega
      have hx7' : (x : Int) < 7 := by omega
      have hq4 : n / 12 % 4 < 4 := by omega
      rw [hmk1] at hmk
      obtain ⟨q, hq⟩ : ∃ q, q = n / 12 % 4 := ⟨_, rfl⟩
      obtain ⟨m, hm9⟩ : ∃ m, m = n / 4 % 3 := ⟨_, rfl⟩
      rw [← hq] at hmk hq4 hstep
      rw [← hm9] at hmd hstep
      have HMR := Lib.hid (rulesOwn_new wr (w.heap.size + 1) q hq4 (by omega) _ rfl)
      clear hq hm9 hmk1 had
      have HS := Lib.hid hstep
      have HK := Lib.hid hkey
      have HT := Lib.hid htab
      clear hstep hkey htab
      by_cases h3 : n % 4 = 3
      · go_wp2_with fail
        refine (hk7 _ (h.below hbl)).mono ?_
        rintro e w4 ⟨rfl, rfl⟩
        go_wp2_with fail
        refine (hm7 _).mono ?_
        rintro e w4 ⟨rfl, rfl⟩
        go_wp2_with fail
        refine (hat _ (h.below hbl)).mono ?_
        rintro e w4 ⟨rfl, rfl⟩
        go_wp2_with fail
        refine (hm _).mono ?_
        rintro e w4 ⟨rfl, rfl⟩
        go_wp2_with fail
        go_roundw
        case rel => exact ⟨k + 1, L, by go_num, by omega, by omega, by rw [HS.out, if_pos h3, List.append_nil]; exact HK.out, hrl, hown, hbl, HT.out, hsz⟩
        case measure => simp [intOf]; omega
      · go_wp2_with fail
        refine (hk7 _ (h.below hbl)).mono ?_
        rintro e w4 ⟨rfl, rfl⟩
        go_wp2_with fail
        refine (hm7 _).mono ?_
        rintro e w4 ⟨rfl, rfl⟩
        go_wp2_with fail
        refine (hat _ (h.below hbl)).mono ?_
        rintro e w4 ⟨rfl, rfl⟩
        go_wp2_with fail
        refine (hm _).mono ?_
        rintro e w4 ⟨rfl, rfl⟩
        go_wp2_with fail
        have la : (ad.add x).block < wr.heap.size := by rw [add_block, hadb]; exact hsz
        refine wp_region_noPanic ?_
        refine wp_region_held_drew (S := fun w' => w'.cell? (ad.add x) = some (.string ⟨(mPath x).toArray⟩)) (by kernel_rfl) ?_ (fun hH => ?_)
        · exact htx
        refine Reg.take (i := 0) (u := ?b1_v0) rfl rfl rfl (by kernel_rfl) (by kernel_rfl) (by kernel_rfl) hH ?b1_y0 ?b1_r0
        case b1_y0 => (intro w hSw; (try dsimp only at hSw); go_simp; try (with_reducible rfl))
        case' b1_r0 => simp only [List.setIfInBounds_toArray, List.set_cons_zero, List.set_cons_succ]
        refine Reg.take (i := 1) (u := ?b1_v1) rfl rfl rfl (by kernel_rfl) (by kernel_rfl) (by kernel_rfl) hH ?b1_y1 ?b1_r1
        case b1_y1 => (intro w hSw; (try dsimp only at hSw); go_simp; try (with_reducible rfl))
        case' b1_r1 => simp only [List.setIfInBounds_toArray, List.set_cons_zero, List.set_cons_succ]
        refine Reg.take (i := 2) (u := ?b1_v2) rfl rfl rfl (by kernel_rfl) (by kernel_rfl) (by kernel_rfl) hH ?b1_y2 ?b1_r2
        case b1_y2 => (intro w hSw; (try dsimp only at hSw); go_simp; try (with_reducible rfl))
        case' b1_r2 => simp only [List.setIfInBounds_toArray, List.set_cons_zero, List.set_cons_succ]
        refine Reg.take (i := 3) (u := ?b1_v3) rfl rfl rfl (by kernel_rfl) (by kernel_rfl) (by kernel_rfl) hH ?b1_y3 ?b1_r3
        case b1_y3 => (intro w hSw; (try dsimp only at hSw); go_simp; try (with_reducible rfl))
        case' b1_r3 => simp only [List.setIfInBounds_toArray, List.set_cons_zero, List.set_cons_succ]
        refine Reg.take (i := 4) (u := ?b1_v4) rfl rfl rfl (by kernel_rfl) (by kernel_rfl) (by kernel_rfl) hH ?b1_y4 ?b1_r4
        case b1_y4 => (intro w hSw; (try dsimp only at hSw); go_simp; try (with_reducible rfl))
        case' b1_r4 => simp only [List.setIfInBounds_toArray, List.set_cons_zero, List.set_cons_succ]
        refine Reg.take (i := 5) (u := ?b1_v5) rfl rfl rfl (by kernel_rfl) (by kernel_rfl) (by kernel_rfl) hH ?b1_y5 ?b1_r5
        case b1_y5 => (intro w hSw; (try dsimp only at hSw); go_simp; try (with_reducible rfl))
        case' b1_r5 => simp only [List.setIfInBounds_toArray, List.set_cons_zero, List.set_cons_succ]
        refine Reg.take (i := 6) (u := ?b1_v6) rfl rfl rfl (by kernel_rfl) (by kernel_rfl) (by kernel_rfl) hH ?b1_y6 ?b1_r6
        case b1_y6 => (intro w hSw; (try dsimp only at hSw); go_simp; try (with_reducible rfl))
        case' b1_r6 => simp only [List.setIfInBounds_toArray, List.set_cons_zero, List.set_cons_succ]
        refine Reg.take (i := 7) (u := ?b1_v7) rfl rfl rfl (by kernel_rfl) (by kernel_rfl) (by kernel_rfl) hH ?b1_y7 ?b1_r7
        case b1_y7 => (intro w hSw; (try dsimp only at hSw); go_simp; try (with_reducible rfl))
        case' b1_r7 => simp only [List.setIfInBounds_toArray, List.set_cons_zero, List.set_cons_succ]
        refine Reg.take (i := 8) (u := ?b1_v8) rfl rfl rfl (by kernel_rfl) (by kernel_rfl) (by kernel_rfl) hH ?b1_y8 ?b1_r8
        case b1_y8 => (intro w hSw; (try dsimp only at hSw); go_simp; try (with_reducible rfl))
        case' b1_r8 => simp only [List.setIfInBounds_toArray, List.set_cons_zero, List.set_cons_succ]
        refine Reg.take (i := 9) (u := ?b1_v9) rfl rfl rfl (by kernel_rfl) (by kernel_rfl) (by kernel_rfl) hH ?b1_y9 ?b1_r9
        case b1_y9 => (intro w hSw; (try dsimp only at hSw); go_simp; try (with_reducible rfl))
        case' b1_r9 => simp only [List.setIfInBounds_toArray, List.set_cons_zero, List.set_cons_succ]
        refine Reg.take (i := 10) (u := ?b1_v10) rfl rfl rfl (by kernel_rfl) (by kernel_rfl) (by kernel_rfl) hH ?b1_y10 ?b1_r10
        case b1_y10 => (intro w hSw; (try dsimp only at hSw); go_simp; try (with_reducible rfl))
        case' b1_r10 => simp only [List.setIfInBounds_toArray, List.set_cons_zero, List.set_cons_succ]
        refine Reg.only (i := 11) rfl (Reg.wanted_free rfl) (by kernel_rfl) (fun K hK => ?_)
        go_simp
        refine hK.out _ _ ?_ (fun hH2 => ?_)
        · exact (World.cell?_of_block (w := wr) (Below.heap_alloc _ _ _ la)).trans htx
        clear hK hH
        have hH := hH2; clear hH2
        try simp only [Act.put, List.setIfInBounds_toArray, List.set_cons_zero, List.set_cons_succ]
        refine Reg.take (i := 12) (u := ?b1_v12) rfl rfl rfl (by kernel_rfl) (by kernel_rfl) (by kernel_rfl) hH ?b1_y12 ?b1_r12
        case b1_y12 => (intro w hSw; (try dsimp only at hSw); go_simp; try (with_reducible rfl))
        case' b1_r12 => simp only [List.setIfInBounds_toArray, List.set_cons_zero, List.set_cons_succ]
        refine Reg.only (i := 13) rfl (Reg.wanted_free rfl) (by kernel_rfl) (fun K hK => ?_)
        go_simp
        refine hK.out _ _ ?_ (fun hH2 => ?_)
        · exact (World.cell?_of_block (w := wr) ((Below.heap_alloc _ _ _ (by simp; omega)).trans (Below.heap_alloc _ _ _ la))).trans htx
        clear hK hH
        have hH := hH2; clear hH2
        try simp only [Act.put, List.setIfInBounds_toArray, List.set_cons_zero, List.set_cons_succ]
        have ho1 : Owns _ (w.heap.size + 1) 55 3 u4 L.length (L.flatMap DirV.cells) := Owns.drew ((hown.alloc (.cells (madeCells zr.cells.toArray (q * 14)) 89)).alloc (.cells #[.string ⟨(mPath x).toArray⟩, .int .i64 m, .slice (some ⟨wr.heap.size, 0, none⟩) q q] 55))
        refine Reg.only (i := 14) rfl (Reg.wanted_free rfl) (by kernel_rfl) (fun K hK => ?_)
        refine wp_append_owns (o := _) _ _ _ 22 rfl (w.heap.size + 1) 55 i0 (.agg #[.string ⟨#[]⟩, .int .i64 0, .slice none 0 0]) 3 48 Try.underlying22 hi hz0 hz1 hz2 rfl (by decide) _ L.length (L.flatMap DirV.cells) rfl ho1 _ 1 1 (DirV.cells ⟨mPath x, (m : Int), some ⟨wr.heap.size, 0, none⟩, q, q⟩) rfl (Rd.drew (rd_new _ _ _ 3 _ _ 1 (by rfl) (by rfl) (by simp))) (one_dir _) (by simp only [maxLen]; omega) (by omega) (by simp; omega) ?_
        intro v' w3 hown' hgrow
        have htab3 : ∀ y, y < 7 → w3.cell? (ad.add y) = some (.string ⟨(mPath y).toArray⟩) := fun y hy => by
          have lb : (ad.add y).block < wr.heap.size := by rw [add_block, hadb]; exact hsz
          have hne : some (ad.add y).block ≠ u4.ownBlock := fun e => by have := (hown.lt _ e.symm).1; rw [add_block, hadb] at this; omega
          have e3 : w3.heap[(ad.add y).block]? = wr.heap[(ad.add y).block]? := (hgrow.block _ (by simp; omega) hne).trans ((Below.heap_alloc _ _ _ (by simp; omega)).trans (Below.heap_alloc _ _ _ lb))
          exact (World.cell?_of_block (w := wr) e3).trans (HT.out y hy)
        refine hK.out _ _ (htab3 x hx7) (fun hH2 => ?_)
        clear hK hH
        have hH := hH2; clear hH2
        try simp only [Act.put, List.setIfInBounds_toArray, List.set_cons_zero, List.set_cons_succ]
        refine Reg.take (i := 15) (u := ?b1_v15) rfl rfl rfl (by kernel_rfl) (by kernel_rfl) (by kernel_rfl) hH ?b1_y15 ?b1_r15
        case b1_y15 => (intro w hSw; (try dsimp only at hSw); go_simp; try (with_reducible rfl))
        case' b1_r15 => simp only [List.setIfInBounds_toArray, List.set_cons_zero, List.set_cons_succ]
        refine wpAnyH_done (by kernel_rfl) ?_ _
        refine NoPanic.normal ?_
        go_wp2
        go_roundw
        case rel =>
          have key : ∀ (v : Value) (R2 : List RuleV), RulesOwn wr (w.heap.size + 1) v R2 → RulesOwn w3 (w.heap.size + 1) v R2 := fun v R2 hh => (RulesOwn.drew ((hh.alloc (.cells (madeCells zr.cells.toArray (q * 14)) 89)).alloc (.cells #[.string ⟨(mPath x).toArray⟩, .int .i64 m, .slice (some ⟨wr.heap.size, 0, none⟩) q q] 55))).kept ho1 hgrow
          have new : RulesOwn w3 (w.heap.size + 1) (.slice (some ⟨wr.heap.size, 0, none⟩) q q) (List.replicate q zr) := (RulesOwn.drew (HMR.out.alloc (.cells #[.string ⟨(mPath x).toArray⟩, .int .i64 m, .slice (some ⟨wr.heap.size, 0, none⟩) q q] 55))).kept ho1 hgrow
          have hg3 := ((hbl.alloc (by omega) (.cells (madeCells zr.cells.toArray (q * 14)) 89)).alloc (by simp; omega) (.cells #[.string ⟨(mPath x).toArray⟩, .int .i64 m, .slice (some ⟨wr.heap.size, 0, none⟩) q q] 55)).drew.grown hgrow (by simp; omega) (fun z e => by have := (hown.lt z e).1; omega)
          refine ⟨k + 1, L ++ [⟨mPath x, m, some ⟨wr.heap.size, 0, none⟩, q, q⟩], by go_num, by omega, by simp; omega, by rw [HS.out, if_neg h3, List.map_append, HK.out]; rfl, ?_, ?_, hg3, htab3, ?_⟩
          · intro d hd
            rcases List.mem_append.1 hd with hd | hd
            · exact key _ _ (hrl d hd)
            · simp only [List.mem_singleton] at hd
              subst hd
              exact new
          · rw [List.flatMap_append, List.length_append]
            simpa using hown'
          · have := hgrow.size
            simp at this
            omega
        case measure => simp [intOf]; omega
    · obtain rfl : k = 7 := by omega
      obtain ⟨a2, c2, e2, q1, q2, q3⟩ := id hown.form
      subst e2
      go_wp2
      go_ret
      exact ⟨a2, c2, L, rfl, hkey, q1, q2, ⟨q3, by simp, fun k d R h1 h2 => by
        rw [List.getElem?_map, h1] at h2
        simp only [Option.map_some, Option.some.injEq] at h2
        subst h2
        obtain ⟨a3, c3, e3, _, _, q4⟩ := id (hrl d (List.mem_of_getElem? h1)).rules
        simp only [List.length_replicate] at q4 e3
        cases e3
        exact ⟨by simp, q4⟩⟩, hbl⟩

end Go.Proofs.Ytajnkapnndhbaaa
