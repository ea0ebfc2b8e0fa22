/- What RouteFits asks of its routes, and how it compares what is found. -/
import Derived.Test.YtefilalapkdegaaRouteAwake
namespace Go.Proofs.Ytefilalapkdegaa
open Go.RowKit Str Mem
set_option linter.unusedVariables false
set_option linter.unusedSimpArgs false

theorem sameInts_any (a b : Option Addr) (c d : Nat) (l : List Int) (w : World) (hl : Ints w a l.length l) (hm : Ints w b l.length l) (hn : l.length ≤ 100000) :
    Calls Try.prog 11 #[.slice a l.length c, .slice b l.length d] w fun e w' => e = .returned (.bool true) ∧ Below w.heap.size w w' := by
  go_enter Try.func11, Try.ntmps11
  go_wp2
  go_loopw [5] (fun i wr => ∃ k : Nat, i = .int .i64 k ∧ k ≤ l.length ∧ ∃ n, wr = w.drewN n) (fun i _ => l.length - (intOf i).toNat)
  case atStart => exact ⟨0, rfl, Nat.zero_le _, 0, rfl⟩
  case round =>
    obtain ⟨k, rfl, hk, n, rfl⟩ := hrel
    by_cases hlt : k < l.length
    · obtain ⟨ad, x, rfl, _, hx, s0⟩ := hl.get hlt
      obtain ⟨bd, y, rfl, _, hy, t0⟩ := hm.get hlt
      rw [hx] at hy
      cases hy
      clear hx
      go_wp2
      go_quiet (fail)
      go_wp2
      go_roundw
      case rel => exact ⟨k + 1, by go_num, by omega, n + nq, by simp [World.drewN, Nat.add_assoc]⟩
      case measure => simp [intOf]; omega
    · obtain rfl : k = l.length := by omega
      go_wp2
      go_ret
      exact ⟨rfl, below_drewN (Below.refl _ _) _⟩

def shortP (m : Nat) (s : List UInt8) : Bool := decide (s.length ≤ m)
theorem short_any (a : Option Addr) (c m : Nat) (l : List (List UInt8)) (w : World) (hS : Strs w a l.length l) (hl : l.length ≤ 100000) :
    Calls Try.prog 48 #[.slice a l.length c, .int .i64 m] w fun e w' => e = .returned (.bool (l.all (shortP m))) ∧ w = w' := by
  go_enter Try.func48, Try.ntmps48
  go_wp2
  go_loopw [5] (fun i wr => wr = w ∧ ∃ k : Nat, i = .int .i64 k ∧ k ≤ l.length ∧ ∀ j s, j < k → l[j]? = some s → shortP m s = true) (fun i _ => l.length - (intOf i).toNat)
  case atStart => exact ⟨rfl, 0, rfl, Nat.zero_le _, by omega⟩
  case round =>
    obtain ⟨rfl, k, rfl, hk, hall⟩ := hrel
    by_cases hlt : k < l.length
    · obtain ⟨ad, s, rfl, _, hs, hcell⟩ := hS.get hlt
      have HA := Lib.hid (And.intro hall hs)
      clear hall hs
      by_cases hb : s.length ≤ m
      · have hb' : (s.length : Int) ≤ (m : Int) := by omega
        have HB := Lib.hid hb
        clear hb
        go_wp2
        refine ⟨⟨by first | rfl | trivial, k + 1, by go_num, by omega, fun j s' hj hs' => ?_⟩, by simp [intOf]; omega⟩
        rcases Nat.lt_or_ge j k with h2 | h2
        · exact HA.out.1 j s' h2 hs'
        · obtain rfl : j = k := by omega
          rw [HA.out.2] at hs'
          cases hs'
          exact decide_eq_true HB.out
      · have hb' : (m : Int) < (s.length : Int) := by omega
        have HX := Lib.hid (show l.all (shortP m) = false by rw [List.all_eq_false]; exact ⟨s, List.mem_of_getElem? HA.out.2, by simp [shortP, hb]⟩)
        clear hb
        go_wp2
        go_ret
        exact ⟨by rw [HX.out]; rfl, rfl⟩
    · obtain rfl : k = l.length := by omega
      have HX := Lib.hid (show l.all (shortP m) = true by
        rw [List.all_eq_true]
        intro s hs
        obtain ⟨j, hj, e⟩ := List.mem_iff_getElem.1 hs
        exact hall j s hj (by rw [List.getElem?_eq_getElem hj, e]))
      clear hall
      go_wp2
      go_ret
      exact ⟨by rw [HX.out]; rfl, rfl⟩

def okR (r : RtV) : Bool := decide (r.l.length ≤ 20) && decide (r.t.length ≤ 100) && r.l.all (shortP 100)
theorem row_fields {w : World} {a : Option Addr} {L : List RtV} (h : Rd w 3 a L.length (L.flatMap RtV.cells)) {k : Nat} (hk : k < L.length) : ∃ (ad : Addr) (r : RtV), a = some ad ∧ ad.block < w.heap.size ∧ L[k]? = some r ∧ r ∈ L ∧
    w.cell? (ad.add (k * 3)) = some (.slice r.a r.l.length r.c) ∧ w.cell? ⟨(ad.add (k * 3)).block, (ad.add (k * 3)).off + 1, none⟩ = some (.int .i64 r.kd) ∧ w.cell? ⟨(ad.add (k * 3)).block, (ad.add (k * 3)).off + 2, none⟩ = some (.string ⟨r.t.toArray⟩) := by
  obtain ⟨ad, e, hb, hc⟩ := h.get (by omega)
  have hl : L[k]? = some L[k] := List.getElem?_eq_getElem hk
  refine ⟨ad, L[k], e, hb, hl, List.mem_of_getElem? hl, hc _ _ (by rw [show k * 3 = k * 3 + 0 by omega, rflat_get L k 0 _ hl (by omega)]; rfl), ?_, ?_⟩
  · rw [rfield_addr _ _ _ (by omega)]; exact hc _ _ (by rw [rflat_get L k 1 _ hl (by omega)]; rfl)
  · rw [rfield_addr _ _ _ (by omega)]; exact hc _ _ (by rw [rflat_get L k 2 _ hl (by omega)]; rfl)

set_option maxRecDepth 20000 in
set_option maxHeartbeats 4000000 in
theorem light_any (a : Option Addr) (c : Nat) (L : List RtV) (w : World) (h : Rd w 3 a L.length (L.flatMap RtV.cells)) (hS : ∀ r ∈ L, Strs w r.a r.l.length r.l) (hl : L.length ≤ 40) :
    Calls Try.prog 26 #[.slice a L.length c] w fun e w' => e = .returned (.bool (L.all okR)) ∧ w = w' := by
  go_enter Try.func26, Try.ntmps26
  go_wp2
  go_loopw [3] (fun i wr => wr = w ∧ ∃ k : Nat, i = .int .i64 k ∧ k ≤ L.length ∧ ∀ j r, j < k → L[j]? = some r → okR r = true) (fun i _ => L.length - (intOf i).toNat)
  case atStart => exact ⟨rfl, 0, rfl, Nat.zero_le _, by omega⟩
  case round =>
    obtain ⟨rfl, k, rfl, hk, hall⟩ := hrel
    by_cases hlt : k < L.length
    · obtain ⟨ad, r, rfl, _, hr, hrm, c0, c1, c2⟩ := row_fields h hlt
      have hk40 : (k : Int) < 40 := by omega
      have hkL : (k : Int) < (L.length : Int) := by omega
      have HA := Lib.hid (And.intro hall hr)
      have HM := Lib.hid hrm
      clear hall hr hrm
      by_cases h1 : r.l.length ≤ 20
      · have h1' : (r.l.length : Int) ≤ 20 := by omega
        by_cases h2 : r.t.length ≤ 100
        · have h2' : (r.t.length : Int) ≤ 100 := by omega
          have hsh := short_any r.a r.c 100 r.l wr (hS r HM.out) (by omega)
          obtain ⟨b, hb⟩ : ∃ b, r.l.all (shortP 100) = b := ⟨_, rfl⟩
          rw [hb] at hsh
          have HO := Lib.hid (show okR r = b by unfold okR; rw [decide_eq_true h1, decide_eq_true h2, hb]; rfl)
          clear hb h1 h2
          rcases b with _ | _
          · have HX := Lib.hid (show L.all okR = false by rw [List.all_eq_false]; exact ⟨r, HM.out, by rw [HO.out]; simp⟩)
            go_wp2_with fail
            refine hsh.mono ?_
            rintro e w1 ⟨rfl, rfl⟩
            go_wp2
            go_ret
            exact ⟨by rw [HX.out]; rfl, rfl⟩
          · go_wp2_with fail
            refine hsh.mono ?_
            rintro e w1 ⟨rfl, rfl⟩
            go_wp2
            refine ⟨⟨by first | rfl | trivial, k + 1, by go_num, by omega, fun j r' hj hr' => ?_⟩, by simp [intOf]; omega⟩
            rcases Nat.lt_or_ge j k with h2 | h2
            · exact HA.out.1 j r' h2 hr'
            · obtain rfl : j = k := by omega
              rw [HA.out.2] at hr'
              cases hr'
              exact HO.out
        · have h2' : (100 : Int) < (r.t.length : Int) := by omega
          have HX := Lib.hid (show L.all okR = false by rw [List.all_eq_false]; exact ⟨r, HM.out, by simp [okR, h2]⟩)
          clear h1 h2
          go_wp2
          go_ret
          exact ⟨by rw [HX.out]; rfl, rfl⟩
      · have h1' : (20 : Int) < (r.l.length : Int) := by omega
        have HX := Lib.hid (show L.all okR = false by rw [List.all_eq_false]; exact ⟨r, HM.out, by simp [okR, h1]⟩)
        clear h1
        go_wp2
        go_ret
        exact ⟨by rw [HX.out]; rfl, rfl⟩
    · obtain rfl : k = L.length := by omega
      have HX := Lib.hid (show L.all okR = true by
        rw [List.all_eq_true]
        intro s hs
        obtain ⟨j, hj, e⟩ := List.mem_iff_getElem.1 hs
        exact hall j s hj (by rw [List.getElem?_eq_getElem hj, e]))
      have hl' : (L.length : Int) ≤ 40 := by omega
      clear hall
      go_wp2
      go_ret
      exact ⟨by rw [HX.out]; first | rfl | (simp; omega), rfl⟩

/-- Two lists of one route that read alike. -/
theorem one_route {w : World} {a : Option Addr} {a1 : Option Addr} {c1 : Nat} {l : List (List UInt8)} {kd : Int} {t : List UInt8} (h : Rd w 3 a 1 [.slice a1 l.length c1, .int .i64 kd, .string ⟨t.toArray⟩]) {k : Nat} (hk : k < 1) : ∃ ad : Addr, a = some ad ∧ ad.block < w.heap.size ∧
    w.cell? (ad.add (k * 3)) = some (.slice a1 l.length c1) ∧ w.cell? ⟨(ad.add (k * 3)).block, (ad.add (k * 3)).off + 1, none⟩ = some (.int .i64 kd) ∧ w.cell? ⟨(ad.add (k * 3)).block, (ad.add (k * 3)).off + 2, none⟩ = some (.string ⟨t.toArray⟩) := by
  obtain ⟨ad, r, e, hb, hr, _, c0, c1, c2⟩ := row_fields (L := [⟨a1, c1, l, kd, t⟩]) h hk
  obtain rfl : k = 0 := by omega
  simp at hr
  subst hr
  exact ⟨ad, e, hb, c0, c1, c2⟩
set_option maxRecDepth 20000 in
set_option maxHeartbeats 4000000 in
theorem sameRoute1_any (a b a1 b1 : Option Addr) (c d c1 d1 : Nat) (l : List (List UInt8)) (kd : Int) (t : List UInt8) (w : World) (ha : Rd w 3 a 1 [.slice a1 l.length c1, .int .i64 kd, .string ⟨t.toArray⟩]) (hb : Rd w 3 b 1 [.slice b1 l.length d1, .int .i64 kd, .string ⟨t.toArray⟩])
    (h1 : Strs w a1 l.length l) (h2 : Strs w b1 l.length l) (hl : l.length ≤ 100000) :
    Calls Try.prog 33 #[.slice a 1 c, .slice b 1 d] w fun e w' => e = .returned (.bool true) ∧ Below w.heap.size w w' := by
  go_enter Try.func33, Try.ntmps33
  go_wp2
  go_loopw [5] (fun i wr => ∃ k : Nat, i = .int .i64 k ∧ k ≤ 1 ∧ Below w.heap.size w wr) (fun i _ => 1 - (intOf i).toNat)
  case atStart => exact ⟨0, rfl, Nat.zero_le _, Below.refl _ _⟩
  case round =>
    obtain ⟨k, rfl, hk, hbl⟩ := hrel
    by_cases hlt : k < 1
    · obtain ⟨ad, rfl, hba, c0, c1', c2'⟩ := one_route (ha.below hbl) hlt
      obtain ⟨bd, rfl, hbb, x0, x1, x2⟩ := one_route (hb.below hbl) hlt
      have hq := fun w' (hb : Below wr.heap.size wr w') => sameTexts_any a1 b1 c1 d1 l l w' ((Strs.below h1 hbl).below hb) ((Strs.below h2 hbl).below hb) (by simp only [maxLen]; omega)
      rw [show (l == l) = true by simp] at hq
      have la : (ad.add (k * 3)).block < wr.heap.size := by rw [add_block]; exact hba
      have lb : (bd.add (k * 3)).block < wr.heap.size := by rw [add_block]; exact hbb
      have i0' : (0 : Int) ≤ (k : Int) := by omega
      have i1' : (k : Int) < 1 := by omega
      have hw1 : (t.toArray == t.toArray) = true := by simp
      have hsz := hbl.size
      go_wp2
      refine wp_region_noPanic ?_
      refine wp_region_held_drew (S := fun w' => w'.cell? (ad.add (k * 3)) = some (.slice a1 l.length c1) ∧ w'.cell? ⟨(ad.add (k * 3)).block, (ad.add (k * 3)).off + 1, none⟩ = some (.int .i64 kd) ∧ w'.cell? ⟨(ad.add (k * 3)).block, (ad.add (k * 3)).off + 2, none⟩ = some (.string ⟨t.toArray⟩) ∧ w'.cell? (bd.add (k * 3)) = some (.slice b1 l.length d1) ∧ w'.cell? ⟨(bd.add (k * 3)).block, (bd.add (k * 3)).off + 1, none⟩ = some (.int .i64 kd) ∧ w'.cell? ⟨(bd.add (k * 3)).block, (bd.add (k * 3)).off + 2, none⟩ = some (.string ⟨t.toArray⟩)) (by kernel_rfl) ?_ (fun hH => ?_)
      · exact ⟨c0, c1', c2', x0, x1, x2⟩
      refine Reg.take (i := 0) (u := ?b1_v0) rfl rfl rfl (by kernel_rfl) (by kernel_rfl) (by kernel_rfl) hH ?b1_y0 ?b1_r0
      case b1_y0 => (intro w hSw; (try dsimp only at hSw); go_simp; try (with_reducible rfl))
      case' b1_r0 => simp only [List.setIfInBounds_toArray, List.set_cons_zero, List.set_cons_succ]
      refine Reg.take (i := 1) (u := ?b1_v1) rfl rfl rfl (by kernel_rfl) (by kernel_rfl) (by kernel_rfl) hH ?b1_y1 ?b1_r1
      case b1_y1 => (intro w hSw; (try dsimp only at hSw); go_simp; try (with_reducible rfl))
      case' b1_r1 => simp only [List.setIfInBounds_toArray, List.set_cons_zero, List.set_cons_succ]
      refine Reg.take (i := 2) (u := ?b1_v2) rfl rfl rfl (by kernel_rfl) (by kernel_rfl) (by kernel_rfl) hH ?b1_y2 ?b1_r2
      case b1_y2 => (intro w hSw; (try dsimp only at hSw); go_simp; try (with_reducible rfl))
      case' b1_r2 => simp only [List.setIfInBounds_toArray, List.set_cons_zero, List.set_cons_succ]
      refine Reg.take (i := 3) (u := ?b1_v3) rfl rfl rfl (by kernel_rfl) (by kernel_rfl) (by kernel_rfl) hH ?b1_y3 ?b1_r3
      case b1_y3 => (intro w hSw; (try dsimp only at hSw); go_simp; try (with_reducible rfl))
      case' b1_r3 => simp only [List.setIfInBounds_toArray, List.set_cons_zero, List.set_cons_succ]
      refine Reg.take (i := 4) (u := ?b1_v4) rfl rfl rfl (by kernel_rfl) (by kernel_rfl) (by kernel_rfl) hH ?b1_y4 ?b1_r4
      case b1_y4 => (intro w hSw; (try dsimp only at hSw); go_simp; try (with_reducible rfl))
      case' b1_r4 => simp only [List.setIfInBounds_toArray, List.set_cons_zero, List.set_cons_succ]
      refine Reg.take (i := 5) (u := ?b1_v5) rfl rfl rfl (by kernel_rfl) (by kernel_rfl) (by kernel_rfl) hH ?b1_y5 ?b1_r5
      case b1_y5 => (intro w hSw; (try dsimp only at hSw); go_simp; try (with_reducible rfl))
      case' b1_r5 => simp only [List.setIfInBounds_toArray, List.set_cons_zero, List.set_cons_succ]
      refine Reg.take (i := 6) (u := ?b1_v6) rfl rfl rfl (by kernel_rfl) (by kernel_rfl) (by kernel_rfl) hH ?b1_y6 ?b1_r6
      case b1_y6 => (intro w hSw; (try dsimp only at hSw); go_simp; try (with_reducible rfl))
      case' b1_r6 => simp only [List.setIfInBounds_toArray, List.set_cons_zero, List.set_cons_succ]
      refine Reg.take (i := 7) (u := ?b1_v7) rfl rfl rfl (by kernel_rfl) (by kernel_rfl) (by kernel_rfl) hH ?b1_y7 ?b1_r7
      case b1_y7 => (intro w hSw; (try dsimp only at hSw); go_simp; try (with_reducible rfl))
      case' b1_r7 => simp only [List.setIfInBounds_toArray, List.set_cons_zero, List.set_cons_succ]
      refine Reg.take (i := 8) (u := ?b1_v8) rfl rfl rfl (by kernel_rfl) (by kernel_rfl) (by kernel_rfl) hH ?b1_y8 ?b1_r8
      case b1_y8 => (intro w hSw; (try dsimp only at hSw); go_simp; try (with_reducible rfl))
      case' b1_r8 => simp only [List.setIfInBounds_toArray, List.set_cons_zero, List.set_cons_succ]
      refine Reg.take (i := 9) (u := ?b1_v9) rfl rfl rfl (by kernel_rfl) (by kernel_rfl) (by kernel_rfl) hH ?b1_y9 ?b1_r9
      case b1_y9 => (intro w hSw; (try dsimp only at hSw); go_simp; try (with_reducible rfl))
      case' b1_r9 => simp only [List.setIfInBounds_toArray, List.set_cons_zero, List.set_cons_succ]
      refine Reg.take (i := 10) (u := ?b1_v10) rfl rfl rfl (by kernel_rfl) (by kernel_rfl) (by kernel_rfl) hH ?b1_y10 ?b1_r10
      case b1_y10 => (intro w hSw; (try dsimp only at hSw); go_simp; try (with_reducible rfl))
      case' b1_r10 => simp only [List.setIfInBounds_toArray, List.set_cons_zero, List.set_cons_succ]
      refine Reg.take (i := 11) (u := ?b1_v11) rfl rfl rfl (by kernel_rfl) (by kernel_rfl) (by kernel_rfl) hH ?b1_y11 ?b1_r11
      case b1_y11 => (intro w hSw; (try dsimp only at hSw); go_simp; try (with_reducible rfl))
      case' b1_r11 => simp only [List.setIfInBounds_toArray, List.set_cons_zero, List.set_cons_succ]
      refine Reg.takeIf (i := 12) (u := ?b1_v12) rfl rfl rfl rfl rfl (by kernel_rfl) (by kernel_rfl) (by kernel_rfl) hH ?b1_y12 ?b1_r12
      case b1_y12 => (intro w hSw; (try dsimp only at hSw); go_simp; try (with_reducible rfl))
      case' b1_r12 => simp only [List.setIfInBounds_toArray, List.set_cons_zero, List.set_cons_succ]
      refine Reg.takeIf (i := 13) (u := ?b1_v13) rfl rfl rfl rfl rfl (by kernel_rfl) (by kernel_rfl) (by kernel_rfl) hH ?b1_y13 ?b1_r13
      case b1_y13 => (intro w hSw; (try dsimp only at hSw); go_simp; try (with_reducible rfl))
      case' b1_r13 => simp only [List.setIfInBounds_toArray, List.set_cons_zero, List.set_cons_succ]
      refine Reg.takeIf (i := 14) (u := ?b1_v14) rfl rfl rfl rfl rfl (by kernel_rfl) (by kernel_rfl) (by kernel_rfl) hH ?b1_y14 ?b1_r14
      case b1_y14 => (intro w hSw; (try dsimp only at hSw); go_simp; try (with_reducible rfl))
      case' b1_r14 => simp only [List.setIfInBounds_toArray, List.set_cons_zero, List.set_cons_succ]
      refine Reg.takeIf (i := 15) (u := ?b1_v15) rfl rfl rfl rfl rfl (by kernel_rfl) (by kernel_rfl) (by kernel_rfl) hH ?b1_y15 ?b1_r15
      case b1_y15 => (intro w hSw; (try dsimp only at hSw); go_simp; try (with_reducible rfl))
      case' b1_r15 => simp only [List.setIfInBounds_toArray, List.set_cons_zero, List.set_cons_succ]
      refine Reg.takeIf (i := 16) (u := ?b1_v16) rfl rfl rfl rfl rfl (by kernel_rfl) (by kernel_rfl) (by kernel_rfl) hH ?b1_y16 ?b1_r16
      case b1_y16 => (intro w hSw; (try dsimp only at hSw); go_simp; try (with_reducible rfl))
      case' b1_r16 => simp only [List.setIfInBounds_toArray, List.set_cons_zero, List.set_cons_succ]
      refine Reg.takeIf (i := 17) (u := ?b1_v17) rfl rfl rfl rfl rfl (by kernel_rfl) (by kernel_rfl) (by kernel_rfl) hH ?b1_y17 ?b1_r17
      case b1_y17 => (intro w hSw; (try dsimp only at hSw); go_simp; try (with_reducible rfl))
      case' b1_r17 => simp only [List.setIfInBounds_toArray, List.set_cons_zero, List.set_cons_succ]
      refine Reg.takeIf (i := 18) (u := ?b1_v18) rfl rfl rfl rfl rfl (by kernel_rfl) (by kernel_rfl) (by kernel_rfl) hH ?b1_y18 ?b1_r18
      case b1_y18 => (intro w hSw; (try dsimp only at hSw); go_simp; try (with_reducible rfl))
      case' b1_r18 => simp only [List.setIfInBounds_toArray, List.set_cons_zero, List.set_cons_succ]
      refine Reg.takeIf (i := 19) (u := ?b1_v19) rfl rfl rfl rfl rfl (by kernel_rfl) (by kernel_rfl) (by kernel_rfl) hH ?b1_y19 ?b1_r19
      case b1_y19 => (intro w hSw; (try dsimp only at hSw); go_simp; try (with_reducible rfl))
      case' b1_r19 => simp only [List.setIfInBounds_toArray, List.set_cons_zero, List.set_cons_succ]
      refine Reg.takeIf (i := 20) (u := ?b1_v20) rfl rfl rfl rfl rfl (by kernel_rfl) (by kernel_rfl) (by kernel_rfl) hH ?b1_y20 ?b1_r20
      case b1_y20 => (intro w hSw; (try dsimp only at hSw); go_simp; try (with_reducible rfl))
      case' b1_r20 => simp only [List.setIfInBounds_toArray, List.set_cons_zero, List.set_cons_succ]
      refine Reg.takeIf (i := 21) (u := ?b1_v21) rfl rfl rfl rfl rfl (by kernel_rfl) (by kernel_rfl) (by kernel_rfl) hH ?b1_y21 ?b1_r21
      case b1_y21 => (intro w hSw; (try dsimp only at hSw); go_simp; try (with_reducible rfl))
      case' b1_r21 => simp only [List.setIfInBounds_toArray, List.set_cons_zero, List.set_cons_succ]
      refine Reg.takeIf (i := 22) (u := ?b1_v22) rfl rfl rfl rfl rfl (by kernel_rfl) (by kernel_rfl) (by kernel_rfl) hH ?b1_y22 ?b1_r22
      case b1_y22 => (intro w hSw; (try dsimp only at hSw); go_simp; try (with_reducible rfl))
      case' b1_r22 => simp only [List.setIfInBounds_toArray, List.set_cons_zero, List.set_cons_succ]
      refine Reg.take (i := 23) (u := ?b1_v23) rfl rfl rfl (by kernel_rfl) (by kernel_rfl) (by kernel_rfl) hH ?b1_y23 ?b1_r23
      case b1_y23 => (intro w hSw; (try dsimp only at hSw); go_simp; try (with_reducible rfl))
      case' b1_r23 => simp only [List.setIfInBounds_toArray, List.set_cons_zero, List.set_cons_succ]
      refine Reg.take (i := 24) (u := ?b1_v24) rfl rfl rfl (by kernel_rfl) (by kernel_rfl) (by kernel_rfl) hH ?b1_y24 ?b1_r24
      case b1_y24 => (intro w hSw; (try dsimp only at hSw); go_simp; try (with_reducible rfl))
      case' b1_r24 => simp only [List.setIfInBounds_toArray, List.set_cons_zero, List.set_cons_succ]
      refine Reg.takeIf (i := 25) (u := ?b1_v25) rfl rfl rfl rfl rfl (by kernel_rfl) (by kernel_rfl) (by kernel_rfl) hH ?b1_y25 ?b1_r25
      case b1_y25 => (intro w hSw; (try dsimp only at hSw); go_simp; try (with_reducible rfl))
      case' b1_r25 => simp only [List.setIfInBounds_toArray, List.set_cons_zero, List.set_cons_succ]
      refine Reg.takeIf (i := 26) (u := ?b1_v26) rfl rfl rfl rfl rfl (by kernel_rfl) (by kernel_rfl) (by kernel_rfl) hH ?b1_y26 ?b1_r26
      case b1_y26 => (intro w hSw; (try dsimp only at hSw); go_simp; try (with_reducible rfl))
      case' b1_r26 => simp only [List.setIfInBounds_toArray, List.set_cons_zero, List.set_cons_succ]
      refine Reg.takeIf (i := 27) (u := ?b1_v27) rfl rfl rfl rfl rfl (by kernel_rfl) (by kernel_rfl) (by kernel_rfl) hH ?b1_y27 ?b1_r27
      case b1_y27 => (intro w hSw; (try dsimp only at hSw); go_simp; try (with_reducible rfl))
      case' b1_r27 => simp only [List.setIfInBounds_toArray, List.set_cons_zero, List.set_cons_succ]
      refine Reg.takeIf (i := 28) (u := ?b1_v28) rfl rfl rfl rfl rfl (by kernel_rfl) (by kernel_rfl) (by kernel_rfl) hH ?b1_y28 ?b1_r28
      case b1_y28 => (intro w hSw; (try dsimp only at hSw); go_simp; try (with_reducible rfl))
      case' b1_r28 => simp only [List.setIfInBounds_toArray, List.set_cons_zero, List.set_cons_succ]
      refine Reg.takeIf (i := 29) (u := ?b1_v29) rfl rfl rfl rfl rfl (by kernel_rfl) (by kernel_rfl) (by kernel_rfl) hH ?b1_y29 ?b1_r29
      case b1_y29 => (intro w hSw; (try dsimp only at hSw); go_simp; try (with_reducible rfl))
      case' b1_r29 => simp only [List.setIfInBounds_toArray, List.set_cons_zero, List.set_cons_succ]
      refine Reg.takeIf (i := 30) (u := ?b1_v30) rfl rfl rfl rfl rfl (by kernel_rfl) (by kernel_rfl) (by kernel_rfl) hH ?b1_y30 ?b1_r30
      case b1_y30 => (intro w hSw; (try dsimp only at hSw); go_simp; try (with_reducible rfl))
      case' b1_r30 => simp only [List.setIfInBounds_toArray, List.set_cons_zero, List.set_cons_succ]
      refine Reg.takeIf (i := 31) (u := ?b1_v31) rfl rfl rfl rfl rfl (by kernel_rfl) (by kernel_rfl) (by kernel_rfl) hH ?b1_y31 ?b1_r31
      case b1_y31 => (intro w hSw; (try dsimp only at hSw); go_simp; try (with_reducible rfl))
      case' b1_r31 => simp only [List.setIfInBounds_toArray, List.set_cons_zero, List.set_cons_succ]
      refine Reg.takeIf (i := 32) (u := ?b1_v32) rfl rfl rfl rfl rfl (by kernel_rfl) (by kernel_rfl) (by kernel_rfl) hH ?b1_y32 ?b1_r32
      case b1_y32 => (intro w hSw; (try dsimp only at hSw); go_simp; try (with_reducible rfl))
      case' b1_r32 => simp only [List.setIfInBounds_toArray, List.set_cons_zero, List.set_cons_succ]
      refine Reg.takeIf (i := 33) (u := ?b1_v33) rfl rfl rfl rfl rfl (by kernel_rfl) (by kernel_rfl) (by kernel_rfl) hH ?b1_y33 ?b1_r33
      case b1_y33 => (intro w hSw; (try dsimp only at hSw); go_simp; try (with_reducible rfl))
      case' b1_r33 => simp only [List.setIfInBounds_toArray, List.set_cons_zero, List.set_cons_succ]
      refine Reg.takeIf (i := 34) (u := ?b1_v34) rfl rfl rfl rfl rfl (by kernel_rfl) (by kernel_rfl) (by kernel_rfl) hH ?b1_y34 ?b1_r34
      case b1_y34 => (intro w hSw; (try dsimp only at hSw); go_simp; try (with_reducible rfl))
      case' b1_r34 => simp only [List.setIfInBounds_toArray, List.set_cons_zero, List.set_cons_succ]
      refine Reg.only (i := 35) rfl (Reg.wanted_hit rfl rfl rfl) (by kernel_rfl) (fun K hK => ?_)
      go_simp
      go_at_call 34; refine (hq _ (Below.refl _ wr).drew).mono ?_; rintro e w2 ⟨rfl, h2'⟩; go_simp
      refine hK.out _ _ ?_ (fun hH2 => ?_)
      · exact ⟨(World.cell?_of_block (w := wr) (h2'.block _ la)).trans c0, (World.cell?_of_block (w := wr) (a := ⟨(ad.add (k * 3)).block, (ad.add (k * 3)).off + 1, none⟩) (h2'.block _ la)).trans c1', (World.cell?_of_block (w := wr) (a := ⟨(ad.add (k * 3)).block, (ad.add (k * 3)).off + 2, none⟩) (h2'.block _ la)).trans c2', (World.cell?_of_block (w := wr) (h2'.block _ lb)).trans x0, (World.cell?_of_block (w := wr) (a := ⟨(bd.add (k * 3)).block, (bd.add (k * 3)).off + 1, none⟩) (h2'.block _ lb)).trans x1, (World.cell?_of_block (w := wr) (a := ⟨(bd.add (k * 3)).block, (bd.add (k * 3)).off + 2, none⟩) (h2'.block _ lb)).trans x2⟩
      clear hK hH
      have hH := hH2; clear hH2
      try simp only [Act.put, List.setIfInBounds_toArray, List.set_cons_zero, List.set_cons_succ]
      refine Reg.takeIf (i := 36) (u := ?b1_v36) rfl rfl rfl rfl rfl (by kernel_rfl) (by kernel_rfl) (by kernel_rfl) hH ?b1_y36 ?b1_r36
      case b1_y36 => (intro w hSw; (try dsimp only at hSw); go_simp; try (with_reducible rfl))
      case' b1_r36 => simp only [List.setIfInBounds_toArray, List.set_cons_zero, List.set_cons_succ]
      refine Reg.take (i := 37) (u := ?b1_v37) rfl rfl rfl (by kernel_rfl) (by kernel_rfl) (by kernel_rfl) hH ?b1_y37 ?b1_r37
      case b1_y37 => (intro w hSw; (try dsimp only at hSw); go_simp; try (with_reducible rfl))
      case' b1_r37 => simp only [List.setIfInBounds_toArray, List.set_cons_zero, List.set_cons_succ]
      refine wpAnyH_done (by kernel_rfl) ?_ _
      refine NoPanic.normal ?_
      go_wp2
      refine ⟨⟨k + 1, by go_num, by omega, hbl.trans (⟨h2'.os, h2'.tape, h2'.output, h2'.size, fun j hj => h2'.block j (by show j < wr.heap.size; omega)⟩)⟩, by simp [intOf]; omega⟩
    · obtain rfl : k = 1 := by omega
      go_wp2
      go_ret
      exact ⟨rfl, hbl⟩

structure FD where
  b : Bool
  l : List (List UInt8)
  kd : Int
  t : List UInt8
  N : List (List UInt8)
  V : List (List UInt8)
  R : List UInt8
def fdOf (l : List (List UInt8)) (kd : Int) (t : List UInt8) : Option (List (List UInt8) × List (List UInt8) × List UInt8) → FD
  | none => ⟨false, [], 0, [], [], [], []⟩
  | some (N, V, R) => ⟨true, l, kd, t, N, V, R⟩
def FForm (w : World) (D : FD) (v : Value) : Prop :=
  ∃ al cl aN cN aV cV, v = .agg #[.bool D.b, .slice al D.l.length cl, .int .i64 D.kd, .string ⟨D.t.toArray⟩, .slice aN D.N.length cN, .slice aV D.V.length cV, .string ⟨D.R.toArray⟩] ∧ Strs w al D.l.length D.l ∧ Strs w aN D.N.length D.N ∧ Strs w aV D.V.length D.V
theorem FoundIs.form {w : World} {B : Nat} {l : List (List UInt8)} {kd : Int} {t : List UInt8} {o : Option (List (List UInt8) × List (List UInt8) × List UInt8)} {v : Value} (h : FoundIs w B l kd t o v) : FForm w (fdOf l kd t o) v := by
  rcases o with _ | ⟨N, V, R⟩
  · exact ⟨none, 0, none, 0, none, 0, h, Rd.nil _ _ _, Rd.nil _ _ _, Rd.nil _ _ _⟩
  · obtain ⟨vl, vN, vV, rfl, ⟨a1, d1, rfl, _, _, h1, _⟩, ⟨a2, d2, rfl, _, _, h2, _⟩, ⟨a3, d3, rfl, _, _, h3, _⟩⟩ := h
    exact ⟨a1, d1, a2, d2, a3, d3, rfl, h1, h2, h3⟩
theorem FForm.below {w w' : World} {D : FD} {v : Value} (h : FForm w D v) (hb : Below w.heap.size w w') : FForm w' D v := by
  obtain ⟨al, cl, aN, cN, aV, cV, e, h1, h2, h3⟩ := h
  exact ⟨al, cl, aN, cN, aV, cV, e, h1.below hb, h2.below hb, h3.below hb⟩

set_option maxRecDepth 20000 in
set_option maxHeartbeats 4000000 in
theorem sameFound_any (D : FD) (v v2 : Value) (w : World) (h : FForm w D v) (h2 : FForm w D v2) (hl : D.l.length ≤ 100000) (hN : D.N.length ≤ 100000) (hV : D.V.length ≤ 100000) :
    Calls Try.prog 22 #[v, v2] w fun e w' => e = .returned (.bool true) ∧ Below w.heap.size w w' := by
  obtain ⟨al, cl, aN, cN, aV, cV, rfl, s1, s2, s3⟩ := h
  obtain ⟨bl, dl, bN, dN, bV, dV, rfl, t1, t2, t3⟩ := h2
  obtain ⟨b, l, kd, t, N, V, R⟩ := D
  dsimp only at *
  obtain ⟨W0, hW0⟩ : ∃ W0, W0 = (w.alloc (.cells #[.bool b, .slice al l.length cl, .int .i64 kd, .string ⟨t.toArray⟩, .slice aN N.length cN, .slice aV V.length cV, .string ⟨R.toArray⟩] 43)).alloc (.cells #[.bool b, .slice bl l.length dl, .int .i64 kd, .string ⟨t.toArray⟩, .slice bN N.length dN, .slice bV V.length dV, .string ⟨R.toArray⟩] 43) := ⟨_, rfl⟩
  have hb0 : Below w.heap.size w W0 := by rw [hW0]; exact ((Below.refl _ w).alloc (Nat.le_refl _) _).alloc (by simp) _
  have hsz0 : W0.heap.size = w.heap.size + 2 := by rw [hW0]; simp
  have ra0 : W0.heap[w.heap.size]? = some (.cells [.bool b, .slice al l.length cl, .int .i64 kd, .string ⟨t.toArray⟩, .slice aN N.length cN, .slice aV V.length cV, .string ⟨R.toArray⟩].toArray 43 (0, 0)) := by
    rw [hW0]; exact (Below.heap_alloc _ _ _ (by simp)).trans (heap_alloc_new w _)
  have rb0 : W0.heap[w.heap.size + 1]? = some (.cells [.bool b, .slice bl l.length dl, .int .i64 kd, .string ⟨t.toArray⟩, .slice bN N.length dN, .slice bV V.length dV, .string ⟨R.toArray⟩].toArray 43 (0, 0)) := by
    rw [hW0]
    have := heap_alloc_new (w.alloc (.cells #[.bool b, .slice al l.length cl, .int .i64 kd, .string ⟨t.toArray⟩, .slice aN N.length cN, .slice aV V.length cV, .string ⟨R.toArray⟩] 43)) (.cells #[.bool b, .slice bl l.length dl, .int .i64 kd, .string ⟨t.toArray⟩, .slice bN N.length dN, .slice bV V.length dV, .string ⟨R.toArray⟩] 43)
    rw [World.size_alloc] at this
    exact this
  have HW := Lib.hid hW0
  have m1 := sameTexts_any aN bN cN dN N N W0 (Strs.below s2 hb0) (Strs.below t2 hb0) (by simp only [maxLen]; omega)
  have m2 := fun W (hb : Below w.heap.size w W) => sameTexts_any aV bV cV dV V V W (Strs.below s3 hb) (Strs.below t3 hb) (by simp only [maxLen]; omega)
  rw [show (N == N) = true by simp] at m1
  rw [show (V == V) = true by simp] at m2
  have hRR : (R.toArray == R.toArray) = true := by simp
  have hRb : (b == b) = true := by simp
  obtain ⟨⟨d0, d1, d2, d3, d4, d5, d6⟩, _⟩ := row7 ra0
  obtain ⟨⟨e0, e1, e2, e3, e4, e5, e6⟩, _⟩ := row7 rb0
  rw [hW0] at d0 d1 d2 d3 d4 d5 d6 e0 e1 e2 e3 e4 e5 e6
  clear hW0
  go_enter Try.func22, Try.ntmps22
  go_wp2_with fail
  rw [← HW.out]
  refine m1.mono ?_
  rintro e w1 ⟨rfl, g1⟩
  have hb1 := hb0.trans (g1.mono hb0.size)
  have ra1 := (g1.block _ (by omega)).trans ra0
  have rb1 := (g1.block _ (by omega)).trans rb0
  clear d0 d1 d2 d3 d4 d5 d6 e0 e1 e2 e3 e4 e5 e6
  obtain ⟨⟨d0, d1, d2, d3, d4, d5, d6⟩, _⟩ := row7 ra1
  obtain ⟨⟨e0, e1, e2, e3, e4, e5, e6⟩, _⟩ := row7 rb1
  go_wp2_with fail
  refine (m2 _ hb1).mono ?_
  rintro e w2 ⟨rfl, g2⟩
  have hb2 := hb1.trans (g2.mono hb1.size)
  have hs1 := g1.size
  have ra2 := (g2.block w.heap.size (by omega)).trans ra1
  have rb2 := (g2.block (w.heap.size + 1) (by omega)).trans rb1
  clear d0 d1 d2 d3 d4 d5 d6 e0 e1 e2 e3 e4 e5 e6
  obtain ⟨⟨d0, d1, d2, d3, d4, d5, d6⟩, _⟩ := row7 ra2
  obtain ⟨⟨e0, e1, e2, e3, e4, e5, e6⟩, _⟩ := row7 rb2
  have hs2 := g2.size
  have ea : ∀ o, (w2.alloc o).cell? ⟨w.heap.size + 1, 1, none⟩ = some (.slice bl l.length dl) ∧ (w2.alloc o).cell? ⟨w.heap.size + 1, 2, none⟩ = some (.int .i64 kd) ∧ (w2.alloc o).cell? ⟨w.heap.size + 1, 3, none⟩ = some (.string ⟨t.toArray⟩) := fun o =>
    ⟨(World.cell?_of_block (w := w2) (a := ⟨w.heap.size + 1, 1, none⟩) (Below.heap_alloc w2 o _ (by show w.heap.size + 1 < w2.heap.size; omega))).trans e1, (World.cell?_of_block (w := w2) (a := ⟨w.heap.size + 1, 2, none⟩) (Below.heap_alloc w2 o _ (by show w.heap.size + 1 < w2.heap.size; omega))).trans e2, (World.cell?_of_block (w := w2) (a := ⟨w.heap.size + 1, 3, none⟩) (Below.heap_alloc w2 o _ (by show w.heap.size + 1 < w2.heap.size; omega))).trans e3⟩
  have q0 := Rd.fresh w2 35 [.slice al l.length cl, .int .i64 kd, .string ⟨t.toArray⟩] 3 1 w2.heap.size rfl rfl
  have q1 := Rd.fresh (w2.alloc (.cells #[.slice al l.length cl, .int .i64 kd, .string ⟨t.toArray⟩] 35)) 35 [.slice bl l.length dl, .int .i64 kd, .string ⟨t.toArray⟩] 3 1 (w2.heap.size + 1) (by simp) rfl
  have hb3 := (hb2.alloc hb2.size (.cells #[.slice al l.length cl, .int .i64 kd, .string ⟨t.toArray⟩] 35)).alloc (by simp; have := hb2.size; omega) (.cells #[.slice bl l.length dl, .int .i64 kd, .string ⟨t.toArray⟩] 35)
  have m3 := sameRoute1_any _ _ al bl 1 1 cl dl l kd t _ (q0.alloc _) q1 (Strs.below s1 hb3) (Strs.below t1 hb3) hl
  go_wp2_with fail
  refine m3.mono ?_
  rintro e w3 ⟨rfl, g3⟩
  go_wp2
  go_ret
  exact ⟨rfl, hb3.trans (g3.mono hb3.size)⟩
end Go.Proofs.Ytefilalapkdegaa
