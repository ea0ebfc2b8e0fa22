/- RouteOrder: the best route, in any order. -/
import Derived.Test.YtefilalapkdegaaRouteFindG
namespace Go.Proofs.Ytefilalapkdegaa
open Go.RowKit Str Mem
set_option linter.unusedVariables false
set_option linter.unusedSimpArgs false

/-- The place of the other list's element. -/
def idxO (n m j : Nat) : Nat := (n - 1 - j + m) % n
theorem idxO_lt {n m j : Nat} (h : 0 < n) : idxO n m j < n := Nat.mod_lt _ h
theorem idxO_onto {n m x : Nat} (hm : m < n) (hx : x < n) : ∃ j, j < n ∧ idxO n m j = x := by
  rcases Nat.lt_or_ge (n - 1 + m - x) n with h | h
  · refine ⟨n - 1 + m - x, h, ?_⟩
    unfold idxO
    rw [show n - 1 - (n - 1 + m - x) + m = x by omega]
    exact Nat.mod_eq_of_lt hx
  · refine ⟨m - 1 - x, by omega, ?_⟩
    unfold idxO
    rw [show n - 1 - (m - 1 - x) + m = n + x by omega, Nat.add_mod_left]
    exact Nat.mod_eq_of_lt hx
theorem cell_below {W W' : World} (hb : Below W.heap.size W W') {a : Addr} {v : Value} (h : W.cell? a = some v) : W'.cell? a = some v := by
  have hlt : a.block < W.heap.size := by
    rcases Nat.lt_or_ge a.block W.heap.size with h1 | h1
    · exact h1
    · exfalso
      have hn : W.heap[a.block]? = none := Array.getElem?_eq_none h1
      unfold World.cell? at h
      rw [hn] at h
      cases h
  exact (World.cell?_of_block (hb.block _ hlt)).trans h
theorem cells_below {W W' : World} {ad ad2 : Addr} {k k1 j i : Nat} {rj r : RtV} (h : W.cell? (ad.add k) = some (.int .i64 j) ∧ W.cell? (ad.add k1) = some (.int .i64 i) ∧ W.cell? (ad2.add (j * 3)) = some (.slice rj.a rj.l.length rj.c) ∧ W.cell? ⟨(ad2.add (j * 3)).block, (ad2.add (j * 3)).off + 1, none⟩ = some (.int .i64 rj.kd) ∧ W.cell? ⟨(ad2.add (j * 3)).block, (ad2.add (j * 3)).off + 2, none⟩ = some (.string ⟨rj.t.toArray⟩) ∧ W.cell? (ad2.add (i * 3)) = some (.slice r.a r.l.length r.c) ∧ W.cell? ⟨(ad2.add (i * 3)).block, (ad2.add (i * 3)).off + 1, none⟩ = some (.int .i64 r.kd) ∧ W.cell? ⟨(ad2.add (i * 3)).block, (ad2.add (i * 3)).off + 2, none⟩ = some (.string ⟨r.t.toArray⟩)) (hb : Below W.heap.size W W') : W'.cell? (ad.add k) = some (.int .i64 j) ∧ W'.cell? (ad.add k1) = some (.int .i64 i) ∧ W'.cell? (ad2.add (j * 3)) = some (.slice rj.a rj.l.length rj.c) ∧ W'.cell? ⟨(ad2.add (j * 3)).block, (ad2.add (j * 3)).off + 1, none⟩ = some (.int .i64 rj.kd) ∧ W'.cell? ⟨(ad2.add (j * 3)).block, (ad2.add (j * 3)).off + 2, none⟩ = some (.string ⟨rj.t.toArray⟩) ∧ W'.cell? (ad2.add (i * 3)) = some (.slice r.a r.l.length r.c) ∧ W'.cell? ⟨(ad2.add (i * 3)).block, (ad2.add (i * 3)).off + 1, none⟩ = some (.int .i64 r.kd) ∧ W'.cell? ⟨(ad2.add (i * 3)).block, (ad2.add (i * 3)).off + 2, none⟩ = some (.string ⟨r.t.toArray⟩) := by
  obtain ⟨h1, h2, h3, h4, h5, h6, h7, h8⟩ := h
  exact ⟨cell_below hb h1, cell_below hb h2, cell_below hb h3, cell_below hb h4, cell_below hb h5, cell_below hb h6, cell_below hb h7, cell_below hb h8⟩
set_option maxRecDepth 100000 in
set_option maxHeartbeats 16000000 in
theorem lawRouteOrder_any (a : Option Addr) (c : Nat) (l : List Int) (pn by' : Int) (w : World) (hI : Ints w a l.length l) (hl : l.length ≤ maxLen) :
    Calls Try.prog 5 #[.slice a l.length c, .int .i64 pn, .int .i64 by'] w fun e w' => e = .returned (.bool true) ∧ Below w.heap.size w w' := by
  go_enter Try.func5, Try.ntmps5
  go_wp2_with fail
  refine (made_any a c l w hI hl).mono ?_
  rintro e1 w1 ⟨v1, L, rfl, hO1, hmk, h1⟩
  obtain ⟨ra, rc, rfl, hLc, hcm, hR1⟩ := hO1.rts
  clear hO1
  go_wp2_with fail
  refine (pathN_any pn w1).mono ?_
  rintro e2 w2 ⟨p, rfl, hp, h2⟩
  have hg := hmk.good
  have hv := hg.valid
  have hE := hv.allE hp
  have hl8 := hg.len
  have h20 := fitTo_length L p L.length
  have HR2 := Lib.hid (hR1.below h2)
  have HB2 := Lib.hid (h1.trans (h2.mono h1.size))
  have hal := vAll_any ra rc L (bs p) w2 HR2.out (by omega) (by rw [data_bs]; omega)
  unfold AllPost at hal
  rw [data_bs, hE] at hal
  have hfacts := allK_facts hE
  have hbet := fun m x y => all_better (m := m) (x := x) (y := y) hg hp
  have hfb := fdAt_b hv hp
  have hhn := fun i => head_facts (i := i) hE
  have hhz := head_none hE
  have hAl : (allK L p).length ≤ L.length := by
    unfold allK
    rw [if_pos hE, Route.sorted_length]
    exact h20
  have hfk : firstK L p = headK (allK L p) := by unfold firstK; rw [if_neg (by simp [hE])]
  obtain ⟨A, hA⟩ : ∃ A, allK L p = A := ⟨_, rfl⟩
  rw [hA] at hal hfacts hbet hhz hAl hfk
  obtain ⟨nd, pw, hrg, hin⟩ := hfacts
  have HRG := Lib.hid hrg
  have HBET := Lib.hid hbet
  have HG := Lib.hid hg
  have HV := Lib.hid hv
  have HP := Lib.hid hp
  clear hR1 h1 h2 hbet hg hA nd pw hin hmk hrg
  go_wp2_with fail
  refine hal.mono ?_
  rintro e3 w3 ⟨aa, ac, rfl, hI3, -, -, -, h3⟩
  clear hal
  have HR3 := Lib.hid (HR2.out.below h3)
  have HB3 := Lib.hid (HB2.out.trans (h3.mono HB2.out.size))
  have HI3 := Lib.hid hI3
  have hfi := find_good ra rc L p w3 HR3.out HV.out HP.out
  clear hI3 h3 HR2 HB2
  go_wp2_with fail
  refine hfi.mono ?_
  rintro e4 w4 ⟨v4, rfl, hF4, h4⟩
  have HR4 := Lib.hid (HR3.out.below h4)
  have HB4 := Lib.hid (HB3.out.trans (h4.mono HB3.out.size))
  have HI4 := Lib.hid (show Ints w4 aa A.length A from Rd.below HI3.out h4)
  have HF4 := Lib.hid hF4
  have hsmall := fdAt_small (p := p) HV.out
  obtain ⟨D, hD⟩ : ∃ D, fdAt L p = D := ⟨_, rfl⟩
  rw [hD] at hF4 HF4 hfb hsmall
  obtain ⟨al, cl, aN, cN, aV, cV, rfl, -, -, -⟩ := hF4
  have HSM := Lib.hid hsmall
  have HD := Lib.hid hD
  have hn : findN L p = headN A ∧ D.b = !A.isEmpty := by
    constructor
    · rcases A with _ | ⟨y, A⟩
      · exact (hhz (by rw [hfk]; rfl)).2.2
      · obtain ⟨i, rfl, hi, -⟩ := HRG.out y (by simp)
        have := (hhn i (by rw [hfk]; simp [headK])).2.2.2.1
        rw [this]
        rfl
    · rw [hfb, hfk]
      rcases A with _ | ⟨y, A⟩ <;> rfl
  obtain ⟨hn1, hn2⟩ := hn
  rw [hn1]
  have hrow := heap_alloc_new w4 (.cells #[.bool D.b, .slice al D.l.length cl, .int .i64 D.kd, .string ⟨D.t.toArray⟩, .slice aN D.N.length cN, .slice aV D.V.length cV, .string ⟨D.R.toArray⟩] 43)
  have hba := (Below.refl _ w4).alloc (Nat.le_refl _) (.cells #[.bool D.b, .slice al D.l.length cl, .int .i64 D.kd, .string ⟨D.t.toArray⟩, .slice aN D.N.length cN, .slice aV D.V.length cV, .string ⟨D.R.toArray⟩] 43)
  obtain ⟨W5, hW5⟩ : ∃ W, W = w4.alloc (.cells #[.bool D.b, .slice al D.l.length cl, .int .i64 D.kd, .string ⟨D.t.toArray⟩, .slice aN D.N.length cN, .slice aV D.V.length cV, .string ⟨D.R.toArray⟩] 43) := ⟨_, rfl⟩
  rw [← hW5] at hrow hba
  obtain ⟨⟨p0, p1, p2, p3, p4, p5, p6⟩, -⟩ := row7 (x0 := .bool D.b) (x1 := .slice al D.l.length cl) (x2 := .int .i64 D.kd) (x3 := .string ⟨D.t.toArray⟩) (x4 := .slice aN D.N.length cN) (x5 := .slice aV D.V.length cV) (x6 := .string ⟨D.R.toArray⟩) hrow
  have HROW := Lib.hid hrow
  have HR5 := Lib.hid (HR4.out.below hba)
  have HB5 := Lib.hid (HB4.out.trans (hba.mono HB4.out.size))
  have HI5 := Lib.hid (show Ints W5 aa A.length A from Rd.below HI4.out hba)
  have HF5 := Lib.hid (HF4.out.below hba)
  have HFB := Lib.hid hn2
  clear hrow hba HR4 HB4 HI4 HF4 HR3 HB3 HI3 h4 hfi hsmall hD hfb hhn hhz hfk hn1 hn2 p1 p2 p3 p4 p5 p6
  go_upto_region 4 with fail
  rw [← hW5]
  clear hW5
  have hAi : (A.length : Int) ≤ (L.length : Int) := by omega
  go_cut [79] from 21 (fun v wc => v = .bool false ∧ wc = W5)
  case first =>
    have hfb := HFB.out
    rcases A with _ | ⟨y, A⟩
    · have hb : D.b = false := hfb
      have hh : headN ([] : List Int) = -1 := rfl
      go_wp2_with fail
      go_meet
      case rel => exact ⟨rfl, rfl⟩
    · have hb : D.b = true := hfb
      obtain ⟨ad, x0, rfl, -, hx0, hcell⟩ := (show Ints W5 aa (y :: A).length (y :: A) from HI5.out).get (k := 0) (by simp)
      have hx : x0 = y := by simpa using hx0.symm
      subst hx
      have hh : headN (x0 :: A) = x0 := rfl
      have e0 : ad.add 0 = ad := by unfold Addr.add; simp
      rw [e0] at hcell
      have hl0 : (0 : Int) < (A.length : Int) + 1 := by omega
      have hAi3 : ¬ ((L.length : Int) < (A.length : Int) + 1) := by simp at hAi; omega
      go_wp2_with fail
      go_meet
      case rel => exact ⟨rfl, rfl⟩
  case rest =>
  obtain ⟨rfl, hww⟩ := hcut
  obtain rfl : W5 = wc := hww.symm
  clear p0
  go_wp2_with fail
  go_loopg [14] A.length (fun g i W => ∃ k : Nat, i = .int .i64 k ∧ k + g = A.length ∧ Below W5.heap.size W5 W)
  case atStart => exact ⟨0, rfl, by omega, Below.refl _ _⟩
  case round =>
    obtain ⟨k, rfl, hk, hbl⟩ := hrel
    have HBL := Lib.hid hbl
    clear hbl
    by_cases hlt : k < A.length
    · obtain ⟨g', rfl⟩ : ∃ g', gk = g' + 1 := ⟨gk - 1, by omega⟩
      obtain ⟨ad, x0, rfl, -, hx0, hcell⟩ := (show Ints wr aa A.length A from Rd.below HI5.out HBL.out).get hlt
      obtain ⟨i, rfl, hi, -⟩ := HRG.out x0 (List.mem_of_getElem? hx0)
      have j0 : (0 : Int) ≤ (k : Int) := by omega
      have j1 : (k : Int) < (A.length : Int) := by omega
      have j2 : ¬ ((i : Int) < 0) := by omega
      have j3 : ¬ ((L.length : Int) ≤ (i : Int)) := by omega
      rcases k with _ | k
      · have e0 : ad.add 0 = ad := by unfold Addr.add; simp
        rw [e0] at hcell
        go_wp2_with fail
        go_roundg g'
        case measure => omega
        case rel => exact ⟨1, by go_num, by omega, HBL.out⟩
      · obtain ⟨ad1, y0, e1, -, hy0, hcell1⟩ := (show Ints wr (some ad) A.length A from Rd.below HI5.out HBL.out).get (k := k) (by omega)
        cases e1
        obtain ⟨j, rfl, hj, -⟩ := HRG.out y0 (List.mem_of_getElem? hy0)
        have hbr := HBET.out k _ _ hy0 hx0
        rw [Int.toNat_natCast, Int.toNat_natCast] at hbr
        obtain ⟨ad2, r, e2, -, hr, hmem, c0, c1, c2⟩ := (HR5.out.below HBL.out).fields hi
        subst e2
        obtain ⟨ad3, rj, e3, -, hrj, hmemj, d0, d1, d2⟩ := (HR5.out.below HBL.out).fields hj
        cases e3
        obtain ⟨k1, hk1⟩ : ∃ k1, k + 1 = k1 := ⟨_, rfl⟩
        rw [hk1] at hcell j1 hlt ⊢
        have HK1 := Lib.hid hk1
        have HC8 := Lib.hid (show wr.cell? (ad.add k) = some (.int .i64 j) ∧ wr.cell? (ad.add k1) = some (.int .i64 i) ∧ wr.cell? (ad2.add (j * 3)) = some (.slice rj.a rj.l.length rj.c) ∧ wr.cell? ⟨(ad2.add (j * 3)).block, (ad2.add (j * 3)).off + 1, none⟩ = some (.int .i64 rj.kd) ∧ wr.cell? ⟨(ad2.add (j * 3)).block, (ad2.add (j * 3)).off + 2, none⟩ = some (.string ⟨rj.t.toArray⟩) ∧ wr.cell? (ad2.add (i * 3)) = some (.slice r.a r.l.length r.c) ∧ wr.cell? ⟨(ad2.add (i * 3)).block, (ad2.add (i * 3)).off + 1, none⟩ = some (.int .i64 r.kd) ∧ wr.cell? ⟨(ad2.add (i * 3)).block, (ad2.add (i * 3)).off + 2, none⟩ = some (.string ⟨r.t.toArray⟩) from ⟨hcell1, hcell, d0, d1, d2, c0, c1, c2⟩)
        rw [lAt_of hr, lAt_of hrj] at hbr
        have hbt := vBetter_any rj.a r.a rj.c r.c rj.l r.l rj.kd r.kd rj.t r.t wr.drew (((HR5.out.below HBL.out).each rj hmemj).below ((Below.refl _ wr).drew)) (((HR5.out.below HBL.out).each r hmem).below ((Below.refl _ wr).drew))
        have er1 : Route.err rj.l rj.kd rj.t = 0 := HV.out.ok rj hmemj
        have er2 : Route.err r.l r.kd r.t = 0 := HV.out.ok r hmem
        rw [er1, er2, hbr] at hbt
        unfold rtv at hbt
        have n1 : (j : Int) < (L.length : Int) := by omega
        have n2 : (i : Int) < (L.length : Int) := by omega
        have n3 : (0 : Int) ≤ (j : Int) := by omega
        have n4 : (0 : Int) ≤ (i : Int) := by omega
        have n5 : (k : Int) < (A.length : Int) := by omega
        have n6 : (0 : Int) ≤ (k : Int) := by omega
        have n7 : (0 : Int) ≤ (k1 : Int) := by omega
        have n8 : (0 : Int) < (k1 : Int) := by omega
        have w1' : wrap64 ((k1 : Int) - 1) = (k : Int) := by unfold wrap64; omega
        have w2' : IntKind.wrap .i64 ((k1 : Int) - 1) = (k : Int) := by rw [IntKind.wrap_i64]; omega
        clear c0 c1 c2 d0 d1 d2 hcell1 er1 er2 hbr hr hrj hx0 hy0 j0 hk1
        go_wp2_with fail
        refine wp_region_noPanic ?_
        refine wp_region_held_drew (S := (fun W => W.cell? (ad.add k) = some (.int .i64 j) ∧ W.cell? (ad.add k1) = some (.int .i64 i) ∧ W.cell? (ad2.add (j * 3)) = some (.slice rj.a rj.l.length rj.c) ∧ W.cell? ⟨(ad2.add (j * 3)).block, (ad2.add (j * 3)).off + 1, none⟩ = some (.int .i64 rj.kd) ∧ W.cell? ⟨(ad2.add (j * 3)).block, (ad2.add (j * 3)).off + 2, none⟩ = some (.string ⟨rj.t.toArray⟩) ∧ W.cell? (ad2.add (i * 3)) = some (.slice r.a r.l.length r.c) ∧ W.cell? ⟨(ad2.add (i * 3)).block, (ad2.add (i * 3)).off + 1, none⟩ = some (.int .i64 r.kd) ∧ W.cell? ⟨(ad2.add (i * 3)).block, (ad2.add (i * 3)).off + 2, none⟩ = some (.string ⟨r.t.toArray⟩))) (by kernel_rfl) ?_ (fun hH => ?_)
        · exact HC8.out
        refine Reg.take (i := 0) (u := ?b1_v0) rfl rfl rfl (by kernel_rfl) (by kernel_rfl) (by kernel_rfl) hH ?b1_y0 ?b1_r0
        case b1_y0 => (intro w hSw; (try dsimp only at hSw); go_simp; try (with_reducible rfl))
        case' b1_r0 => simp only [List.setIfInBounds_toArray, List.set_cons_zero, List.set_cons_succ]
        refine Reg.take (i := 1) (u := ?b1_v1) rfl rfl rfl (by kernel_rfl) (by kernel_rfl) (by kernel_rfl) hH ?b1_y1 ?b1_r1
        case b1_y1 => (intro w hSw; (try dsimp only at hSw); go_simp; try (with_reducible rfl))
        case' b1_r1 => simp only [List.setIfInBounds_toArray, List.set_cons_zero, List.set_cons_succ]
        refine Reg.take (i := 2) (u := ?b1_v2) rfl rfl rfl (by kernel_rfl) (by kernel_rfl) (by kernel_rfl) hH ?b1_y2 ?b1_r2
        case b1_y2 => (intro w hSw; (try dsimp only at hSw); go_simp; try (with_reducible rfl))
        case' b1_r2 => simp only [List.setIfInBounds_toArray, List.set_cons_zero, List.set_cons_succ]
        refine Reg.take (i := 3) (u := ?b1_v3) rfl rfl rfl (by kernel_rfl) (by kernel_rfl) (by kernel_rfl) hH ?b1_y3 ?b1_r3
        case b1_y3 => (intro w hSw; (try dsimp only at hSw); go_simp; try (with_reducible rfl))
        case' b1_r3 => simp only [List.setIfInBounds_toArray, List.set_cons_zero, List.set_cons_succ]
        refine Reg.take (i := 4) (u := ?b1_v4) rfl rfl rfl (by kernel_rfl) (by kernel_rfl) (by kernel_rfl) hH ?b1_y4 ?b1_r4
        case b1_y4 => (intro w hSw; (try dsimp only at hSw); go_simp; try (with_reducible rfl))
        case' b1_r4 => simp only [List.setIfInBounds_toArray, List.set_cons_zero, List.set_cons_succ]
        refine Reg.take (i := 5) (u := ?b1_v5) rfl rfl rfl (by kernel_rfl) (by kernel_rfl) (by kernel_rfl) hH ?b1_y5 ?b1_r5
        case b1_y5 => (intro w hSw; (try dsimp only at hSw); go_simp; try (with_reducible rfl))
        case' b1_r5 => simp only [List.setIfInBounds_toArray, List.set_cons_zero, List.set_cons_succ]
        refine Reg.take (i := 6) (u := ?b1_v6) rfl rfl rfl (by kernel_rfl) (by kernel_rfl) (by kernel_rfl) hH ?b1_y6 ?b1_r6
        case b1_y6 => (intro w hSw; (try dsimp only at hSw); go_simp; try (with_reducible rfl))
        case' b1_r6 => simp only [List.setIfInBounds_toArray, List.set_cons_zero, List.set_cons_succ]
        refine Reg.take (i := 7) (u := ?b1_v7) rfl rfl rfl (by kernel_rfl) (by kernel_rfl) (by kernel_rfl) hH ?b1_y7 ?b1_r7
        case b1_y7 => (intro w hSw; (try dsimp only at hSw); go_simp; try (with_reducible rfl))
        case' b1_r7 => simp only [List.setIfInBounds_toArray, List.set_cons_zero, List.set_cons_succ]
        refine Reg.take (i := 8) (u := ?b1_v8) rfl rfl rfl (by kernel_rfl) (by kernel_rfl) (by kernel_rfl) hH ?b1_y8 ?b1_r8
        case b1_y8 => (intro w hSw; (try dsimp only at hSw); go_simp; try (with_reducible rfl))
        case' b1_r8 => simp only [List.setIfInBounds_toArray, List.set_cons_zero, List.set_cons_succ]
        refine Reg.take (i := 9) (u := ?b1_v9) rfl rfl rfl (by kernel_rfl) (by kernel_rfl) (by kernel_rfl) hH ?b1_y9 ?b1_r9
        case b1_y9 => (intro w hSw; (try dsimp only at hSw); go_simp; try (with_reducible rfl))
        case' b1_r9 => simp only [List.setIfInBounds_toArray, List.set_cons_zero, List.set_cons_succ]
        refine Reg.take (i := 10) (u := ?b1_v10) rfl rfl rfl (by kernel_rfl) (by kernel_rfl) (by kernel_rfl) hH ?b1_y10 ?b1_r10
        case b1_y10 => (intro w hSw; (try dsimp only at hSw); go_simp; try (with_reducible rfl))
        case' b1_r10 => simp only [List.setIfInBounds_toArray, List.set_cons_zero, List.set_cons_succ]
        refine Reg.take (i := 11) (u := ?b1_v11) rfl rfl rfl (by kernel_rfl) (by kernel_rfl) (by kernel_rfl) hH ?b1_y11 ?b1_r11
        case b1_y11 => (intro w hSw; (try dsimp only at hSw); go_simp; try (with_reducible rfl))
        case' b1_r11 => simp only [List.setIfInBounds_toArray, List.set_cons_zero, List.set_cons_succ]
        refine Reg.take (i := 12) (u := ?b1_v12) rfl rfl rfl (by kernel_rfl) (by kernel_rfl) (by kernel_rfl) hH ?b1_y12 ?b1_r12
        case b1_y12 => (intro w hSw; (try dsimp only at hSw); go_simp; try (with_reducible rfl))
        case' b1_r12 => simp only [List.setIfInBounds_toArray, List.set_cons_zero, List.set_cons_succ]
        refine Reg.take (i := 13) (u := ?b1_v13) rfl rfl rfl (by kernel_rfl) (by kernel_rfl) (by kernel_rfl) hH ?b1_y13 ?b1_r13
        case b1_y13 => (intro w hSw; (try dsimp only at hSw); go_simp; try (with_reducible rfl))
        case' b1_r13 => simp only [List.setIfInBounds_toArray, List.set_cons_zero, List.set_cons_succ]
        refine Reg.take (i := 14) (u := ?b1_v14) rfl rfl rfl (by kernel_rfl) (by kernel_rfl) (by kernel_rfl) hH ?b1_y14 ?b1_r14
        case b1_y14 => (intro w hSw; (try dsimp only at hSw); go_simp; try (with_reducible rfl))
        case' b1_r14 => simp only [List.setIfInBounds_toArray, List.set_cons_zero, List.set_cons_succ]
        refine Reg.only (i := 15) rfl (Reg.wanted_free rfl) (by kernel_rfl) (fun K hK => ?_)
        go_simp
        go_at_call 24; refine hbt.mono ?_; rintro e w6 ⟨rfl, h6⟩; go_simp
        refine hK.out _ _ ?_ (fun hH2 => ?_)
        · exact cells_below HC8.out ((Below.refl _ wr).drew.trans h6)
        clear hK hH
        have hH := hH2; clear hH2
        try simp only [Act.put, List.setIfInBounds_toArray, List.set_cons_zero, List.set_cons_succ]
        refine Reg.take (i := 16) (u := ?b1_v16) rfl rfl rfl (by kernel_rfl) (by kernel_rfl) (by kernel_rfl) hH ?b1_y16 ?b1_r16
        case b1_y16 => (intro w hSw; (try dsimp only at hSw); go_simp; try (with_reducible rfl))
        case' b1_r16 => simp only [List.setIfInBounds_toArray, List.set_cons_zero, List.set_cons_succ]
        refine Reg.take (i := 17) (u := ?b1_v17) rfl rfl rfl (by kernel_rfl) (by kernel_rfl) (by kernel_rfl) hH ?b1_y17 ?b1_r17
        case b1_y17 => (intro w hSw; (try dsimp only at hSw); go_simp; try (with_reducible rfl))
        case' b1_r17 => simp only [List.setIfInBounds_toArray, List.set_cons_zero, List.set_cons_succ]
        refine Reg.take (i := 18) (u := ?b1_v18) rfl rfl rfl (by kernel_rfl) (by kernel_rfl) (by kernel_rfl) hH ?b1_y18 ?b1_r18
        case b1_y18 => (intro w hSw; (try dsimp only at hSw); go_simp; try (with_reducible rfl))
        case' b1_r18 => simp only [List.setIfInBounds_toArray, List.set_cons_zero, List.set_cons_succ]
        refine Reg.take (i := 19) (u := ?b1_v19) rfl rfl rfl (by kernel_rfl) (by kernel_rfl) (by kernel_rfl) hH ?b1_y19 ?b1_r19
        case b1_y19 => (intro w hSw; (try dsimp only at hSw); go_simp; try (with_reducible rfl))
        case' b1_r19 => simp only [List.setIfInBounds_toArray, List.set_cons_zero, List.set_cons_succ]
        refine Reg.take (i := 20) (u := ?b1_v20) rfl rfl rfl (by kernel_rfl) (by kernel_rfl) (by kernel_rfl) hH ?b1_y20 ?b1_r20
        case b1_y20 => (intro w hSw; (try dsimp only at hSw); go_simp; try (with_reducible rfl))
        case' b1_r20 => simp only [List.setIfInBounds_toArray, List.set_cons_zero, List.set_cons_succ]
        refine wpAnyH_done (by kernel_rfl) ?_ _
        refine NoPanic.normal ?_
        go_wp2_with fail
        go_roundg g'
        case measure => omega
        case rel => exact ⟨k1 + 1, by go_num, by have := HK1.out; omega, HBL.out.trans (((Below.refl _ wr).drew.trans h6).mono HBL.out.size)⟩
    · obtain rfl : k = A.length := by omega
      have HR6 := Lib.hid (HR5.out.below HBL.out)
      have HF6 := Lib.hid (HF5.out.below HBL.out)
      have HROW6 := Lib.hid ((HBL.out.block _ (Array.getElem?_eq_some_iff.1 HROW.out).1).trans HROW.out)
      have HB6 := Lib.hid (HB5.out.trans (HBL.out.mono HB5.out.size))
      obtain ⟨W6, rfl⟩ : ∃ W, W = wr := ⟨_, rfl⟩
      clear HR5 HF5 HB5 HI5 hk hlt HBET HRG HFB hAl hAi
      clear HROW HBL
      obtain ⟨i0, hi0, hz0, hz1, hz2⟩ := info_of infoRoute
      obtain ⟨m, hm, hmd⟩ : ∃ m : Nat, (0 < L.length → m < L.length) ∧ (0 < L.length → ∀ W, Calls Try.prog 25 #[.int .i64 by', .int .i64 (L.length : Nat)] W fun e w' => e = .returned (.int .i64 (m : Nat)) ∧ W = w') := by
        rcases Nat.eq_zero_or_pos L.length with h0 | h0
        · exact ⟨0, fun h => by omega, fun h => by omega⟩
        · have a1 := Int.emod_nonneg by' (show (L.length : Int) ≠ 0 by omega)
          have a2 := Int.emod_lt_of_pos by' (show (0 : Int) < (L.length : Int) by omega)
          refine ⟨(by' % (L.length : Int)).toNat, fun _ => by omega, fun _ W => ?_⟩
          have := kitMod_any by' (L.length : Int) W (by omega) (by omega)
          rwa [show by' % (L.length : Int) = (((by' % (L.length : Int)).toNat : Nat) : Int) by omega] at this
      have HM := Lib.hid hm
      have HMD := Lib.hid hmd
      clear hm hmd
      go_wp2_with fail
      go_loopg [17, 18] L.length (fun g out i W => ∃ (k : Nat) (O : List RtV), i = .int .i64 k ∧ k + g = L.length ∧ O.length = k ∧ (∀ j, j < k → O[j]? = L[idxO L.length m j]?) ∧ Owns W W6.heap.size 35 3 out k (O.flatMap RtV.cells) ∧ Below W6.heap.size W6 W)
      case atStart => exact ⟨0, [], rfl, by omega, rfl, fun j hj => by omega, Owns.nil _ _ _ _, Below.refl _ _⟩
      case round =>
        obtain ⟨k, O, rfl, hk, hOl, hOi, hown, hbl⟩ := hrel
        have HOI := Lib.hid hOi
        have HOWN := Lib.hid hown
        have HBL := Lib.hid hbl
        clear hOi hown hbl
        by_cases hlt : k < L.length
        · obtain ⟨g', rfl⟩ : ∃ g', gk = g' + 1 := ⟨gk - 1, by omega⟩
          have hpos : 0 < L.length := by omega
          have hmlt := HM.out hpos
          have hx := idxO_lt (m := m) (j := k) hpos
          obtain ⟨x, hxe⟩ : ∃ x, idxO L.length m k = x := ⟨_, rfl⟩
          rw [hxe] at hx
          obtain ⟨ad2, r, rfl, hadb, hr, hmem, c0, c1, c2⟩ := (HR6.out.below HBL.out).fields hx
          have hxe2 : x = (L.length - 1 - k + m) % L.length := hxe.symm
          have nb1 : 0 ≤ ((L.length : Int) - 1 - (k : Int) + (m : Int)) % (L.length : Int) := Int.emod_nonneg _ (by omega)
          have nb2 : ((L.length : Int) - 1 - (k : Int) + (m : Int)) % (L.length : Int) < (L.length : Int) := Int.emod_lt_of_pos _ (by omega)
          rw [hxe2] at c0 c1 c2
          have n1 : (k : Int) < (L.length : Int) := by omega
          have n4 : ¬ ((L.length : Int) = 0) := by omega
          have HR := Lib.hid hr
          have HXE := Lib.hid hxe
          have hsz := HBL.out.size
          clear hr hxe hxe2 hx
          go_wp2_with fail
          refine (HMD.out hpos _).mono ?_
          rintro e7 w7 ⟨rfl, rfl⟩
          go_wp2_with (at_builtin; go_must (refine wpList_append_owns _ rfl _ _ 26 rfl W6.heap.size 35 i0 (.agg #[.slice none 0 0, .int .i64 0, .string ⟨#[]⟩]) 3 48 Try.underlying26 hi0 hz0 hz1 hz2 rfl (by decide) _ k (O.flatMap RtV.cells) rfl (HOWN.out.alloc _) _ 1 1 [.slice r.a r.l.length r.c, .int .i64 r.kd, .string ⟨r.t.toArray⟩] rfl (box3_at _ _ _ _ _ _ (by simp)) (by simp [Value.oneCell']) (by simp only [maxLen]; omega) (by omega) (by simp; omega) ?_); intro v9 w9 hown9 hgrow9)
          go_roundg g'
          case measure => omega
          case rel =>
            refine ⟨k + 1, O ++ [r], by go_num, by omega, by simp [hOl], fun j hj => ?_, ?_, (HBL.out.alloc hsz _).grown hgrow9 (by simp; omega) (fun j e => (HOWN.out.lt j e).1)⟩
            · rcases Nat.lt_or_ge j k with h9 | h9
              · rw [List.getElem?_append_left (by omega)]; exact HOI.out j h9
              · rw [show j = k by omega, HXE.out, HR.out, List.getElem?_append_right (by omega), hOl]; simp
            · have h9 : [r].flatMap RtV.cells = r.cells := by simp
              rw [List.flatMap_append, h9]
              exact hown9
        · obtain rfl : k = L.length := by omega
          obtain ⟨oa, oc, rfl, ho1, ho2, hrd⟩ := HOWN.out.form
          have hOl2 : O.length = L.length := hOl
          have hmemO : ∀ r ∈ O, r ∈ L := fun r hr => by
            obtain ⟨j, hj, e⟩ := List.mem_iff_getElem.1 hr
            have h1 := HOI.out j (by omega)
            rw [List.getElem?_eq_getElem hj, e] at h1
            exact List.mem_of_getElem? h1.symm
          have hRo : Rts wr oa O := ⟨by rw [hOl2]; exact hrd, fun r hr => ((HR6.out.below HBL.out).each r (hmemO r hr))⟩
          have hVo : Valid O := ⟨by omega, fun r hr => HV.out.ok r (hmemO r hr), fun r hr => HV.out.plain r (hmemO r hr)⟩
          have hsame : fdAt L p = fdAt O p := fdAt_same HV.out hVo HP.out HG.out (fun r hr _ => by
            obtain ⟨x, hx, e⟩ := List.mem_iff_getElem.1 hr
            have hpos : 0 < L.length := by omega
            obtain ⟨j, hj, hje⟩ := idxO_onto (HM.out hpos) hx
            have h1 := HOI.out j hj
            rw [hje, List.getElem?_eq_getElem hx, e] at h1
            exact ⟨r, List.mem_of_getElem? h1, rfl⟩) (fun r hr _ => ⟨r, hmemO r hr, rfl⟩)
          rw [HD.out] at hsame
          have hfi := find_good oa oc O p wr hRo hVo HP.out
          rw [← hsame, hOl2] at hfi
          have HF7 := Lib.hid (HF6.out.below HBL.out)
          have HROW7 := Lib.hid ((HBL.out.block _ (Array.getElem?_eq_some_iff.1 HROW6.out).1).trans HROW6.out)
          have HB7 := Lib.hid (HB6.out.trans (HBL.out.mono HB6.out.size))
          clear hrd hRo hVo hsame hmemO HOWN HOI HR6 HF6 HROW6 HB6 HBL HM HMD
          go_wp2_with fail
          refine hfi.mono ?_
          rintro e8 w8 ⟨v8, rfl, hF8, h8⟩
          have HF8 := Lib.hid hF8
          obtain ⟨bl, dl, bN, dN, bV, dV, rfl, -, -, -⟩ := hF8
          have hrow := heap_alloc_new w8 (.cells #[.bool D.b, .slice bl D.l.length dl, .int .i64 D.kd, .string ⟨D.t.toArray⟩, .slice bN D.N.length dN, .slice bV D.V.length dV, .string ⟨D.R.toArray⟩] 43)
          have hba := (Below.refl _ w8).alloc (Nat.le_refl _) (.cells #[.bool D.b, .slice bl D.l.length dl, .int .i64 D.kd, .string ⟨D.t.toArray⟩, .slice bN D.N.length dN, .slice bV D.V.length dV, .string ⟨D.R.toArray⟩] 43)
          obtain ⟨W9, hW9⟩ : ∃ W, W = w8.alloc (.cells #[.bool D.b, .slice bl D.l.length dl, .int .i64 D.kd, .string ⟨D.t.toArray⟩, .slice bN D.N.length dN, .slice bV D.V.length dV, .string ⟨D.R.toArray⟩] 43) := ⟨_, rfl⟩
          rw [← hW9] at hrow hba
          have hb89 := h8.trans (hba.mono h8.size)
          obtain ⟨⟨p0, p1, p2, p3, p4, p5, p6⟩, -⟩ := row7 (x0 := .bool D.b) (x1 := .slice bl D.l.length dl) (x2 := .int .i64 D.kd) (x3 := .string ⟨D.t.toArray⟩) (x4 := .slice bN D.N.length dN) (x5 := .slice bV D.V.length dV) (x6 := .string ⟨D.R.toArray⟩) hrow
          have hrow2 := (hb89.block _ (Array.getElem?_eq_some_iff.1 HROW7.out).1).trans HROW7.out
          obtain ⟨⟨r0, r1, r2, r3, r4, r5, r6⟩, -⟩ := row7 (x0 := .bool D.b) (x1 := .slice al D.l.length cl) (x2 := .int .i64 D.kd) (x3 := .string ⟨D.t.toArray⟩) (x4 := .slice aN D.N.length cN) (x5 := .slice aV D.V.length cV) (x6 := .string ⟨D.R.toArray⟩) hrow2
          have hsf := sameFound_any D _ _ W9 (HF8.out.below hba) (HF7.out.below hb89) HSM.out.1 HSM.out.2.1 HSM.out.2.2
          have HB9 := Lib.hid (HB7.out.trans (hb89.mono HB7.out.size))
          clear hrow hrow2 hba hb89 h8 HF7 HF8 HROW7 HB7 hfi
          go_upto_region 21 with fail
          rw [← hW9]
          clear hW9
          go_wp2_with fail
          refine hsf.mono ?_
          rintro e10 w10 ⟨rfl, h10⟩
          go_wp2_with fail
          refine (awake41_any _).mono ?_
          rintro e11 w11 ⟨rfl, h11⟩
          go_wp2_with fail
          go_ret
          exact ⟨rfl, HB9.out.trans ((h10.trans (h11.mono h10.size)).mono HB9.out.size)⟩
end Go.Proofs.Ytefilalapkdegaa
