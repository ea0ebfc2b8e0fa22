/- The reference's Check, alike and Hidden. -/
import Derived.Test.YtefilalapkdegaaRouteList
import Derived.Test.YtefilalapkdegaaRouteRRoute
import Derived.Test.YtefilalapkdegaaRouteOrderP
import Derived.Test.YtefilalapkdegaaReg
import Derived.Deep.LoopGhost
import Derived.Deep.Cut
import Derived.Deep.RegionWith
import Derived.Deep.QuietTactic
import Derived.BigQuiet
import Derived.Test.YtefilalapkdegaaRouteFind
import Derived.Test.YtefilalapkdegaaMake
import Derived.Test.YtefilalapkdegaaDotsMore
namespace Go.Proofs.Ytefilalapkdegaa
open Go.RowKit Str Mem
set_option linter.unusedVariables false
set_option linter.unusedSimpArgs false

set_option maxRecDepth 20000 in
set_option maxHeartbeats 4000000 in
theorem rCheck_any (a : Option Addr) (c : Nat) (L : List RtV) (w : World) (h : Rts w a L) (hl : L.length ≤ 100000) :
    Calls Try.prog 29 #[.slice a L.length c] w fun e w' => e = .returned (.tuple #[.int .i64 (checkR L).1, .int .i64 (checkR L).2]) ∧ Below w.heap.size w w' := by
  by_cases hfull : 32 < L.length
  · have Hx := Lib.hid (show checkR L = (5, 0) by unfold checkR; rw [if_pos hfull])
    have hf' : (32 : Int) < (L.length : Int) := by omega
    go_enter Try.func29, Try.ntmps29
    go_wp2
    go_ret2
    exact ⟨by rw [Hx.out]; rfl, Below.refl _ _⟩
  · have Hx := Lib.hid (show checkR L = firstBad L L.length by unfold checkR; rw [if_neg hfull])
    have hf' : ¬ (32 : Int) < (L.length : Int) := by omega
    go_enter Try.func29, Try.ntmps29
    go_wp2
    go_loopg [4] L.length (fun g i W => ∃ k : Nat, i = .int .i64 k ∧ k + g = L.length ∧ firstBad L k = (0, 0) ∧ Below w.heap.size w W)
    case atStart => exact ⟨0, rfl, by omega, rfl, Below.refl _ _⟩
    case round =>
      obtain ⟨k, rfl, hk, h0, hbl⟩ := hrel
      have hsz := hbl.size
      by_cases hlt : k < L.length
      · obtain ⟨g', rfl⟩ : ∃ g', gk = g' + 1 := ⟨gk - 1, by omega⟩
        obtain ⟨ad, r, rfl, hbb, hr, hmem, c0, c1, c2⟩ := (h.below hbl).fields hlt
        have hv := rroute_any r.a r.c r.l r.kd r.t wr ((h.each r hmem).below hbl)
        unfold rtv at hv
        have i0 : (0 : Int) ≤ (k : Int) := by omega
        have i1 : (k : Int) < (L.length : Int) := by omega
        obtain ⟨e1, he1⟩ : ∃ e, r.err = e := ⟨_, rfl⟩
        have he2 : Route.err r.l r.kd r.t = e1 := he1
        rw [he2] at hv
        have HR := Lib.hid (And.intro hr he1)
        have H0 := Lib.hid h0
        clear hr he1 he2 h0
        by_cases hz : e1 = 0
        · have hz1 : (e1 != 0) = false := by rw [hz]; rfl
          have HZ := Lib.hid hz
          clear hz
          go_wp2_with fail
          refine hv.mono ?_
          rintro e w1 ⟨rfl, g1⟩
          go_wp2_with fail
          go_roundg g'
          case measure => omega
          case rel => exact ⟨k + 1, by go_num, by omega, firstBad_next H0.out HR.out.1 (by rw [HR.out.2, HZ.out]), hbl.trans (g1.mono hbl.size)⟩
        · have hz1 : (e1 != 0) = true := by simpa using hz
          have Hy := Lib.hid (show checkR L = (e1, (k : Int)) by rw [Hx.out, firstBad_hit H0.out HR.out.1 (by rw [HR.out.2]; exact hz) hlt, HR.out.2])
          clear hz
          go_wp2_with fail
          refine hv.mono ?_
          rintro e w1 ⟨rfl, g1⟩
          go_wp2_with fail
          go_ret2
          exact ⟨by rw [Hy.out]; rfl, hbl.trans (g1.mono hbl.size)⟩
      · obtain rfl : k = L.length := by omega
        have Hy := Lib.hid (show checkR L = (0, 0) by rw [Hx.out, h0])
        clear h0
        go_wp2_with fail
        go_ret2
        exact ⟨by rw [Hy.out]; rfl, hbl⟩

namespace Route
theorem alike_false {a b : List Bs} (hl : a.length = b.length) {i : Nat} (hi : i < a.length) (h : alikeAt a b i = false) : alike a b = false := by
  unfold alike
  rw [Bool.and_eq_false_iff]
  right
  rw [List.all_eq_false]
  exact ⟨i, by simpa using hi, by rw [h]; simp⟩
theorem alike_true {a b : List Bs} (hl : a.length = b.length) (h : ∀ i, i < a.length → alikeAt a b i = true) : alike a b = true := by
  unfold alike
  rw [Bool.and_eq_true]
  refine ⟨by simpa using hl, ?_⟩
  rw [List.all_eq_true]
  exact fun i hi => h i (by simpa using hi)
theorem alike_ne {a b : List Bs} (hl : a.length ≠ b.length) : alike a b = false := by
  unfold alike
  simp [hl]
end Route
set_option maxRecDepth 20000 in
set_option maxHeartbeats 4000000 in
theorem alike_any (a a2 : Option Addr) (c c2 : Nat) (l m : List (List UInt8)) (kd kd2 : Int) (t t2 : List UInt8) (w : World) (h : RtOk w a l.length c l t) (h2 : RtOk w a2 m.length c2 m t2) (hf : Route.Fine l) (hf2 : Route.Fine m) (hl : l.length ≤ 16) :
    Calls Try.prog 54 #[rtv a l.length c kd t, rtv a2 m.length c2 kd2 t2] w fun e w' => e = .returned (.bool (Route.alike l m)) ∧ Below w.heap.size w w' := by
  unfold rtv
  obtain ⟨hb0, hx0, hy0⟩ := two_boxes w 35 (.slice a l.length c) (.int .i64 kd) (.string ⟨t.toArray⟩) (.slice a2 m.length c2) (.int .i64 kd2) (.string ⟨t2.toArray⟩)
  obtain ⟨p0, p1, p2⟩ := box3 hx0
  obtain ⟨q0, q1, q2⟩ := box3 hy0
  by_cases hlm : l.length = m.length
  · have hlm1 : ((l.length : Int) != (m.length : Int)) = false := by rw [hlm]; simp
    have HLM := Lib.hid hlm
    clear hlm
    go_enter Try.func54, Try.ntmps54
    go_wp2_with fail
    go_loopg [5] l.length (fun g i W => ∃ k : Nat, i = .int .i64 k ∧ k + g = l.length ∧ (∀ j, j < k → Route.alikeAt l m j = true) ∧ Below w.heap.size w W ∧ Rd W 3 (some ⟨w.heap.size, 0, none⟩) 1 [.slice a l.length c, .int .i64 kd, .string ⟨t.toArray⟩] ∧ Rd W 3 (some ⟨w.heap.size + 1, 0, none⟩) 1 [.slice a2 m.length c2, .int .i64 kd2, .string ⟨t2.toArray⟩])
    case atStart => exact ⟨0, rfl, by omega, (fun j hj => by omega), hb0, hx0, hy0⟩
    case round =>
      clear p0 p1 p2 q0 q1 q2 hx0 hy0
      obtain ⟨k, rfl, hk, hall, hbl, hbx, hby⟩ := hrel
      obtain ⟨p0, p1, p2⟩ := box3 hbx
      obtain ⟨q0, q1, q2⟩ := box3 hby
      have HALL := Lib.hid hall
      clear hall
      by_cases hlt : k < l.length
      · obtain ⟨g', rfl⟩ : ∃ g', gk = g' + 1 := ⟨gk - 1, by omega⟩
        have hlt2 : k < m.length := by have := HLM.out; omega
        obtain ⟨ad, rfl, -, -, hcell, -⟩ := (h.below hbl).get hlt
        obtain ⟨ad2, rfl, -, -, hcell2, -⟩ := (h2.below hbl).get hlt2
        have hs1 : 0 < (bs (Route.nth l k)).size := by rw [size_bs]; exact List.length_pos_iff.2 (hf.at hlt).1
        have hs2 : 0 < (bs (Route.nth m k)).size := by rw [size_bs]; exact List.length_pos_iff.2 (hf2.at hlt2).1
        have hk1 := fun w => rkind_any (bs (Route.nth l k)) hs1 (by rw [data_bs]; exact (hf.at hlt).2) w
        have hk2 := fun w => rkind_any (bs (Route.nth m k)) hs2 (by rw [data_bs]; exact (hf2.at hlt2).2) w
        rw [data_bs] at hk1 hk2
        have hat : Route.alikeAt l m k = (decide (Route.kind (Route.nth l k) = Route.kind (Route.nth m k)) && (!decide (Route.kind (Route.nth l k) = 1) || Route.nth l k == Route.nth m k)) := rfl
        have hsq : ((bs (Route.nth l k)).toList == (bs (Route.nth m k)).toList) = (Route.nth l k == Route.nth m k) := by rw [show (bs (Route.nth l k)).toList = (bs (Route.nth l k)).data.toList from by simp, show (bs (Route.nth m k)).toList = (bs (Route.nth m k)).data.toList from by simp, data_bs, data_bs]
        change wr.cell? (ad.add k) = some (.string (bs (Route.nth l k))) at hcell
        change wr.cell? (ad2.add k) = some (.string (bs (Route.nth m k))) at hcell2
        obtain ⟨b1, hb1⟩ : ∃ b, (Route.nth l k == Route.nth m k) = b := ⟨_, rfl⟩
        rw [hb1] at hsq hat
        obtain ⟨k1, hk1e⟩ : ∃ q, Route.kind (Route.nth l k) = q := ⟨_, rfl⟩
        obtain ⟨k2, hk2e⟩ : ∃ q, Route.kind (Route.nth m k) = q := ⟨_, rfl⟩
        rw [hk1e] at hk1 hat
        rw [hk2e] at hk2 hat
        have HAT := Lib.hid hat
        clear hat hb1 hk1e hk2e hs1 hs2
        obtain ⟨B1, hB1⟩ : ∃ B, bs (Route.nth l k) = B := ⟨_, rfl⟩
        obtain ⟨B2, hB2⟩ : ∃ B, bs (Route.nth m k) = B := ⟨_, rfl⟩
        rw [hB1] at hk1 hsq hcell
        rw [hB2] at hk2 hsq hcell2
        clear hB1 hB2
        have i0 : (0 : Int) ≤ (k : Int) := by omega
        have i1 : (k : Int) < (l.length : Int) := by omega
        have i2 : (k : Int) < (m.length : Int) := by omega
        go_wp2_with fail
        refine wp_region_noPanic ?_
        refine wp_region_held_drew (S := (fun w' => w'.cell? ⟨w.heap.size, 0, none⟩ = some (.slice (some ad) l.length c) ∧ w'.cell? ⟨w.heap.size + 1, 0, none⟩ = some (.slice (some ad2) m.length c2) ∧ w'.cell? (ad.add k) = some (.string B1) ∧ w'.cell? (ad2.add k) = some (.string B2))) (by kernel_rfl) ?_ (fun hH => ?_)
        · exact ⟨p0, q0, hcell, hcell2⟩
        refine Reg.take (i := 0) (u := ?b1_v0) rfl rfl rfl (by kernel_rfl) (by kernel_rfl) (by kernel_rfl) hH ?b1_y0 ?b1_r0
        case b1_y0 => (intro w hSw; (try dsimp only at hSw); go_simp; try (with_reducible rfl))
        case' b1_r0 => simp only [List.setIfInBounds_toArray, List.set_cons_zero, List.set_cons_succ]
        refine Reg.take (i := 1) (u := ?b1_v1) rfl rfl rfl (by kernel_rfl) (by kernel_rfl) (by kernel_rfl) hH ?b1_y1 ?b1_r1
        case b1_y1 => (intro w hSw; (try dsimp only at hSw); go_simp; try (with_reducible rfl))
        case' b1_r1 => simp only [List.setIfInBounds_toArray, List.set_cons_zero, List.set_cons_succ]
        refine Reg.take (i := 2) (u := ?b1_v2) rfl rfl rfl (by kernel_rfl) (by kernel_rfl) (by kernel_rfl) hH ?b1_y2 ?b1_r2
        case b1_y2 => (intro w hSw; (try dsimp only at hSw); go_simp; try (with_reducible rfl))
        case' b1_r2 => simp only [List.setIfInBounds_toArray, List.set_cons_zero, List.set_cons_succ]
        refine Reg.take (i := 3) (u := ?b1_v3) rfl rfl rfl (by kernel_rfl) (by kernel_rfl) (by kernel_rfl) hH ?b1_y3 ?b1_r3
        case b1_y3 => (intro w hSw; (try dsimp only at hSw); go_simp; try (with_reducible rfl))
        case' b1_r3 => simp only [List.setIfInBounds_toArray, List.set_cons_zero, List.set_cons_succ]
        refine Reg.take (i := 4) (u := ?b1_v4) rfl rfl rfl (by kernel_rfl) (by kernel_rfl) (by kernel_rfl) hH ?b1_y4 ?b1_r4
        case b1_y4 => (intro w hSw; (try dsimp only at hSw); go_simp; try (with_reducible rfl))
        case' b1_r4 => simp only [List.setIfInBounds_toArray, List.set_cons_zero, List.set_cons_succ]
        refine Reg.take (i := 6) (u := ?b1_v6) rfl rfl rfl (by kernel_rfl) (by kernel_rfl) (by kernel_rfl) hH ?b1_y6 ?b1_r6
        case b1_y6 => (intro w hSw; (try dsimp only at hSw); go_simp; try (with_reducible rfl))
        case' b1_r6 => simp only [List.setIfInBounds_toArray, List.set_cons_zero, List.set_cons_succ]
        refine Reg.take (i := 7) (u := ?b1_v7) rfl rfl rfl (by kernel_rfl) (by kernel_rfl) (by kernel_rfl) hH ?b1_y7 ?b1_r7
        case b1_y7 => (intro w hSw; (try dsimp only at hSw); go_simp; try (with_reducible rfl))
        case' b1_r7 => simp only [List.setIfInBounds_toArray, List.set_cons_zero, List.set_cons_succ]
        refine Reg.take (i := 8) (u := ?b1_v8) rfl rfl rfl (by kernel_rfl) (by kernel_rfl) (by kernel_rfl) hH ?b1_y8 ?b1_r8
        case b1_y8 => (intro w hSw; (try dsimp only at hSw); go_simp; try (with_reducible rfl))
        case' b1_r8 => simp only [List.setIfInBounds_toArray, List.set_cons_zero, List.set_cons_succ]
        refine Reg.take (i := 9) (u := ?b1_v9) rfl rfl rfl (by kernel_rfl) (by kernel_rfl) (by kernel_rfl) hH ?b1_y9 ?b1_r9
        case b1_y9 => (intro w hSw; (try dsimp only at hSw); go_simp; try (with_reducible rfl))
        case' b1_r9 => simp only [List.setIfInBounds_toArray, List.set_cons_zero, List.set_cons_succ]
        refine Reg.take (i := 10) (u := ?b1_v10) rfl rfl rfl (by kernel_rfl) (by kernel_rfl) (by kernel_rfl) hH ?b1_y10 ?b1_r10
        case b1_y10 => (intro w hSw; (try dsimp only at hSw); go_simp; try (with_reducible rfl))
        case' b1_r10 => simp only [List.setIfInBounds_toArray, List.set_cons_zero, List.set_cons_succ]
        refine Reg.only (i := 5) rfl (Reg.wanted_free rfl) (by kernel_rfl) (fun K hK => ?_)
        go_simp
        go_at_call 80; refine (hk1 _).mono ?_; rintro e w1 ⟨rfl, rfl⟩; go_simp
        refine hK.out _ _ ?_ (fun hH2 => ?_)
        · exact hH
        clear hK hH
        have hH := hH2; clear hH2
        try simp only [Act.put, List.setIfInBounds_toArray, List.set_cons_zero, List.set_cons_succ]
        refine Reg.only (i := 11) rfl (Reg.wanted_free rfl) (by kernel_rfl) (fun K hK => ?_)
        go_simp
        go_at_call 80; refine (hk2 _).mono ?_; rintro e w1 ⟨rfl, rfl⟩; go_simp
        refine hK.out _ _ ?_ (fun hH2 => ?_)
        · exact hH
        clear hK hH
        have hH := hH2; clear hH2
        try simp only [Act.put, List.setIfInBounds_toArray, List.set_cons_zero, List.set_cons_succ]
        refine Reg.take (i := 12) (u := ?b1_v12) rfl rfl rfl (by kernel_rfl) (by kernel_rfl) (by kernel_rfl) hH ?b1_y12 ?b1_r12
        case b1_y12 => (intro w hSw; (try dsimp only at hSw); go_simp; try (with_reducible rfl))
        case' b1_r12 => simp only [List.setIfInBounds_toArray, List.set_cons_zero, List.set_cons_succ]
        refine Reg.take (i := 13) (u := ?b1_v13) rfl rfl rfl (by kernel_rfl) (by kernel_rfl) (by kernel_rfl) hH ?b1_y13 ?b1_r13
        case b1_y13 => (intro w hSw; (try dsimp only at hSw); go_simp; try (with_reducible rfl))
        case' b1_r13 => simp only [List.setIfInBounds_toArray, List.set_cons_zero, List.set_cons_succ]
        refine wpAnyH_done (by kernel_rfl) ?_ _
        refine NoPanic.normal ?_
        have d0 := p0
        have d1 := q0
        have d2 := hcell
        have d3 := hcell2
        by_cases hkk : k1 = k2
        · have e1 : ((k1 : Int) != (k2 : Int)) = false := by rw [hkk]; simp
          have HKK := Lib.hid hkk
          clear hkk
          by_cases hk1' : k1 = 1
          · have e2 : ((k1 : Int) == 1) = true := by rw [hk1']; rfl
            have HK1 := Lib.hid hk1'
            clear hk1'
            rcases b1 with _ | _
            · have Hz := Lib.hid (show Route.alikeAt l m k = false by rw [HAT.out, HK1.out]; simp)
              go_wp2_with fail
              go_quiet (fail)
              go_wp2_with fail
              go_ret
              exact ⟨by rw [Route.alike_false HLM.out hlt Hz.out]; rfl, below_drewN hbl.drew _⟩
            · have Hz := Lib.hid (show Route.alikeAt l m k = true by rw [HAT.out, HKK.out]; simp)
              go_wp2_with fail
              go_quiet (fail)
              go_wp2_with fail
              go_roundg g'
              case measure => omega
              case rel =>
                refine ⟨k + 1, by go_num, by omega, (fun j hj => ?_), below_drewN hbl _, Rd.drewN hbx _, Rd.drewN hby _⟩
                rcases Nat.lt_or_ge j k with h9 | h9
                · exact HALL.out j h9
                · rw [show j = k by omega]; exact Hz.out
          · have e2 : ((k1 : Int) == 1) = false := by rw [beq_eq_false_iff_ne]; omega
            have Hz := Lib.hid (show Route.alikeAt l m k = true by rw [HAT.out, HKK.out]; rw [HKK.out] at hk1'; simp [hk1'])
            clear hk1'
            go_wp2_with fail
            go_quiet (fail)
            go_wp2_with fail
            go_roundg g'
            case measure => omega
            case rel =>
              refine ⟨k + 1, by go_num, by omega, (fun j hj => ?_), below_drewN hbl _, Rd.drewN hbx _, Rd.drewN hby _⟩
              rcases Nat.lt_or_ge j k with h9 | h9
              · exact HALL.out j h9
              · rw [show j = k by omega]; exact Hz.out
        · have e1 : ((k1 : Int) != (k2 : Int)) = true := by rw [bne_iff_ne]; omega
          have Hz := Lib.hid (show Route.alikeAt l m k = false by rw [HAT.out]; simp [hkk])
          clear hkk
          go_wp2_with fail
          go_quiet (fail)
          go_wp2_with fail
          go_ret
          exact ⟨by rw [Route.alike_false HLM.out hlt Hz.out]; rfl, below_drewN hbl.drew _⟩
      · obtain rfl : k = l.length := by omega
        go_wp2_with fail
        go_ret
        exact ⟨by rw [Route.alike_true HLM.out (fun i hi => HALL.out i hi)]; rfl, hbl⟩
  · have hlm1 : ((l.length : Int) != (m.length : Int)) = true := by rw [bne_iff_ne]; omega
    have Hy := Lib.hid (Route.alike_ne hlm)
    clear hlm
    go_enter Try.func54, Try.ntmps54
    go_wp2_with fail
    go_ret
    exact ⟨by rw [Hy.out]; rfl, hb0⟩
end Go.Proofs.Ytefilalapkdegaa
namespace Go.Proofs.Ytefilalapkdegaa
open Go.RowKit Str Mem
set_option linter.unusedVariables false
set_option linter.unusedSimpArgs false

def rhAny (L : List RtV) (i m : Nat) : Bool := (List.range m).any fun j => Route.alike (lAt L i) (lAt L j)
def rhTo (L : List RtV) (k : Nat) : List Int := ((List.range k).filter fun i => rhAny L i i).map fun (i : Nat) => (i : Int)
def rhK (L : List RtV) : List Int := if (checkR L).1 = 0 then rhTo L L.length else []
theorem rhAny_succ (L : List RtV) (i m : Nat) : rhAny L i (m + 1) = (rhAny L i m || Route.alike (lAt L i) (lAt L m)) := by
  unfold rhAny
  rw [List.range_succ, List.any_append]
  simp
theorem rhTo_succ (L : List RtV) (k : Nat) : rhTo L (k + 1) = rhTo L k ++ if rhAny L k k = true then [(k : Int)] else [] := by
  unfold rhTo
  rw [List.range_succ, List.filter_append, List.map_append]
  congr 1
  by_cases h : rhAny L k k = true <;> simp [List.filter, h]
theorem rhTo_length (L : List RtV) (k : Nat) : (rhTo L k).length ≤ k := by
  unfold rhTo
  rw [List.length_map]
  exact Nat.le_trans (List.length_filter_le _ _) (by simp)
theorem checkR_good {L : List RtV} (h : (checkR L).1 = 0) : L.length ≤ 32 ∧ ∀ r ∈ L, r.err = 0 := by
  unfold checkR at h
  split at h
  · cases h
  · rename_i h32
    refine ⟨by omega, fun r hr => ?_⟩
    obtain ⟨j, hj, e⟩ := List.mem_iff_getElem.1 hr
    have hz : firstBad L L.length = (0, 0) := by
      rcases Decidable.em (firstBad L L.length = (0, 0)) with h2 | h2
      · exact h2
      · exact absurd h (firstBad_nz L.length h2)
    exact firstBad_all L.length (Nat.le_refl _) hz j r hj (by rw [List.getElem?_eq_getElem hj, e])
def RHidPost (w : World) (L : List RtV) (e : Ending) (w' : World) : Prop :=
  ∃ a c, e = .returned (.tuple #[.slice a (rhK L).length c, .int .i64 (checkR L).1]) ∧ Ints w' a (rhK L).length (rhK L) ∧ (rhK L).length ≤ c ∧ c ≤ maxLen ∧ Below w.heap.size w w'

set_option maxRecDepth 20000 in
set_option maxHeartbeats 8000000 in
theorem rHidden_any (a : Option Addr) (c : Nat) (L : List RtV) (w : World) (h : Rts w a L) (hl : L.length ≤ 100000) :
    Calls Try.prog 32 #[.slice a L.length c] w fun e w' => RHidPost w L e w' := by
  obtain ⟨i0, hi, hz0, hz1, hz2⟩ := info_of infoInt
  have hck := rCheck_any a c L w h hl
  unfold RHidPost
  obtain ⟨ck, hckv⟩ : ∃ x, checkR L = x := ⟨_, rfl⟩
  rw [hckv] at hck ⊢
  by_cases hc0 : ck.1 = 0
  · have hc0c : (ck.1 != 0) = false := by rw [hc0]; rfl
    have Hk := Lib.hid (show rhK L = rhTo L L.length by unfold rhK; rw [hckv, if_pos hc0])
    have hgood := checkR_good (L := L) (by rw [hckv]; exact hc0)
    obtain ⟨hl32, hgood⟩ := hgood
    have HG := Lib.hid hgood
    have HC := Lib.hid hc0
    clear hc0 hckv hgood
    go_enter Try.func32, Try.ntmps32
    go_wp2_with fail
    refine hck.mono ?_
    rintro e w1 ⟨rfl, g1⟩
    clear hck
    go_wp2_with fail
    go_loopg [6, 7] L.length (fun g out i W => ∃ k : Nat, i = .int .i64 k ∧ k + g = L.length ∧ Owns W w1.heap.size 3 1 out (rhTo L k).length ((rhTo L k).map iv) ∧ Below w1.heap.size w1 W)
    case atStart => exact ⟨0, rfl, by omega, Owns.nil _ _ _ _, Below.refl _ _⟩
    case round =>
      obtain ⟨k, rfl, hk, hown, hbo⟩ := hrel
      obtain ⟨Wo, rfl⟩ : ∃ W, W = wr := ⟨_, rfl⟩
      obtain ⟨vo, rfl⟩ : ∃ v, v = u6 := ⟨_, rfl⟩
      have HOWN := Lib.hid hown
      clear hown
      by_cases hlt : k < L.length
      · obtain ⟨g', rfl⟩ : ∃ g', gk = g' + 1 := ⟨gk - 1, by omega⟩
        have j0 : (0 : Int) ≤ (k : Int) := by omega
        have j1 : (k : Int) < (L.length : Int) := by omega
        obtain ⟨ad, r, rfl, -, hr, hmem, -, -, -⟩ := h.fields hlt
        have HR := Lib.hid hr
        have her := HG.out r hmem
        have hlA : lAt L k = r.l := lAt_of hr
        clear hr
        go_wp2_with fail
        go_loopg [8, 9] k (fun g b j W => ∃ m : Nat, j = .int .i64 m ∧ m + g = k ∧ b = .bool (rhAny L k m) ∧ Below Wo.heap.size Wo W)
        case atStart => exact ⟨0, rfl, by omega, rfl, Below.refl _ _⟩
        case round =>
          obtain ⟨m, rfl, hm, rfl, hbi⟩ := hrel
          obtain ⟨WI, rfl⟩ : ∃ W, W = wr := ⟨_, rfl⟩
          by_cases hmk : m < k
          · obtain ⟨g2, rfl⟩ : ∃ g2, gk = g2 + 1 := ⟨gk - 1, by omega⟩
            have hml : m < L.length := by omega
            have n0 : (0 : Int) ≤ (m : Int) := by omega
            have n1 : (m : Int) < (L.length : Int) := by omega
            have n2 : (m : Int) < (k : Int) := by omega
            have hall := h.below ((g1.trans (hbo.mono g1.size)).trans (hbi.mono (g1.trans (hbo.mono g1.size)).size))
            obtain ⟨ad9, r9, e9, -, hr9, -, c0, c1, c2⟩ := hall.fields hlt
            cases e9
            rw [HR.out] at hr9
            cases hr9
            obtain ⟨ad9, rm, e9, -, hrm, hmm, m0, m1, m2⟩ := hall.fields hml
            cases e9
            have HRM := Lib.hid hrm
            have hlM : lAt L m = rm.l := lAt_of hrm
            have hsu := rhAny_succ L k m
            rw [hlA, hlM] at hsu
            clear hrm
            have hf1 := Route.fine_of her
            have hf2 := Route.fine_of (HG.out rm hmm)
            have hl16 := (Route.err_ok her).1
            have hal := fun W (hb : Below WI.heap.size WI W) => alike_any r.a rm.a r.c rm.c r.l rm.l r.kd rm.kd r.t rm.t W ((hall.each r hmem).below hb) ((hall.each rm hmm).below hb) hf1 hf2 hl16
            unfold rtv at hal
            obtain ⟨b, hb⟩ : ∃ b, rhAny L k m = b := ⟨_, rfl⟩
            obtain ⟨q, hq⟩ : ∃ q, Route.alike r.l rm.l = q := ⟨_, rfl⟩
            rw [hb, hq] at hsu
            rw [hb]
            rw [hq] at hal
            have HSU := Lib.hid hsu
            clear hsu hb hq hlM hf1 hf2 hall
            rcases b with _ | _
            · go_wp2_with fail
              refine wp_region_noPanic ?_
              refine wp_region_held_drew (S := (fun W => W.cell? (ad.add (k * 3)) = some (.slice r.a r.l.length r.c) ∧ W.cell? ⟨(ad.add (k * 3)).block, (ad.add (k * 3)).off + 1, none⟩ = some (.int .i64 r.kd) ∧ W.cell? ⟨(ad.add (k * 3)).block, (ad.add (k * 3)).off + 2, none⟩ = some (.string ⟨r.t.toArray⟩) ∧ W.cell? (ad.add (m * 3)) = some (.slice rm.a rm.l.length rm.c) ∧ W.cell? ⟨(ad.add (m * 3)).block, (ad.add (m * 3)).off + 1, none⟩ = some (.int .i64 rm.kd) ∧ W.cell? ⟨(ad.add (m * 3)).block, (ad.add (m * 3)).off + 2, none⟩ = some (.string ⟨rm.t.toArray⟩))) (by kernel_rfl) ?_ (fun hH => ?_)
              · exact ⟨c0, c1, c2, m0, m1, m2⟩
              refine Reg.take (i := 0) (u := ?b2_v0) rfl rfl rfl (by kernel_rfl) (by kernel_rfl) (by kernel_rfl) hH ?b2_y0 ?b2_r0
              case b2_y0 => (intro w hSw; (try dsimp only at hSw); go_simp; try (with_reducible rfl))
              case' b2_r0 => simp only [List.setIfInBounds_toArray, List.set_cons_zero, List.set_cons_succ]
              refine Reg.take (i := 1) (u := ?b2_v1) rfl rfl rfl (by kernel_rfl) (by kernel_rfl) (by kernel_rfl) hH ?b2_y1 ?b2_r1
              case b2_y1 => (intro w hSw; (try dsimp only at hSw); go_simp; try (with_reducible rfl))
              case' b2_r1 => simp only [List.setIfInBounds_toArray, List.set_cons_zero, List.set_cons_succ]
              refine Reg.takeIf (i := 2) (u := ?b2_v2) rfl rfl rfl rfl rfl (by kernel_rfl) (by kernel_rfl) (by kernel_rfl) hH ?b2_y2 ?b2_r2
              case b2_y2 => (intro w hSw; (try dsimp only at hSw); go_simp; try (with_reducible rfl))
              case' b2_r2 => simp only [List.setIfInBounds_toArray, List.set_cons_zero, List.set_cons_succ]
              refine Reg.takeIf (i := 3) (u := ?b2_v3) rfl rfl rfl rfl rfl (by kernel_rfl) (by kernel_rfl) (by kernel_rfl) hH ?b2_y3 ?b2_r3
              case b2_y3 => (intro w hSw; (try dsimp only at hSw); go_simp; try (with_reducible rfl))
              case' b2_r3 => simp only [List.setIfInBounds_toArray, List.set_cons_zero, List.set_cons_succ]
              refine Reg.takeIf (i := 4) (u := ?b2_v4) rfl rfl rfl rfl rfl (by kernel_rfl) (by kernel_rfl) (by kernel_rfl) hH ?b2_y4 ?b2_r4
              case b2_y4 => (intro w hSw; (try dsimp only at hSw); go_simp; try (with_reducible rfl))
              case' b2_r4 => simp only [List.setIfInBounds_toArray, List.set_cons_zero, List.set_cons_succ]
              refine Reg.takeIf (i := 5) (u := ?b2_v5) rfl rfl rfl rfl rfl (by kernel_rfl) (by kernel_rfl) (by kernel_rfl) hH ?b2_y5 ?b2_r5
              case b2_y5 => (intro w hSw; (try dsimp only at hSw); go_simp; try (with_reducible rfl))
              case' b2_r5 => simp only [List.setIfInBounds_toArray, List.set_cons_zero, List.set_cons_succ]
              refine Reg.takeIf (i := 6) (u := ?b2_v6) rfl rfl rfl rfl rfl (by kernel_rfl) (by kernel_rfl) (by kernel_rfl) hH ?b2_y6 ?b2_r6
              case b2_y6 => (intro w hSw; (try dsimp only at hSw); go_simp; try (with_reducible rfl))
              case' b2_r6 => simp only [List.setIfInBounds_toArray, List.set_cons_zero, List.set_cons_succ]
              refine Reg.takeIf (i := 7) (u := ?b2_v7) rfl rfl rfl rfl rfl (by kernel_rfl) (by kernel_rfl) (by kernel_rfl) hH ?b2_y7 ?b2_r7
              case b2_y7 => (intro w hSw; (try dsimp only at hSw); go_simp; try (with_reducible rfl))
              case' b2_r7 => simp only [List.setIfInBounds_toArray, List.set_cons_zero, List.set_cons_succ]
              refine Reg.takeIf (i := 8) (u := ?b2_v8) rfl rfl rfl rfl rfl (by kernel_rfl) (by kernel_rfl) (by kernel_rfl) hH ?b2_y8 ?b2_r8
              case b2_y8 => (intro w hSw; (try dsimp only at hSw); go_simp; try (with_reducible rfl))
              case' b2_r8 => simp only [List.setIfInBounds_toArray, List.set_cons_zero, List.set_cons_succ]
              refine Reg.takeIf (i := 9) (u := ?b2_v9) rfl rfl rfl rfl rfl (by kernel_rfl) (by kernel_rfl) (by kernel_rfl) hH ?b2_y9 ?b2_r9
              case b2_y9 => (intro w hSw; (try dsimp only at hSw); go_simp; try (with_reducible rfl))
              case' b2_r9 => simp only [List.setIfInBounds_toArray, List.set_cons_zero, List.set_cons_succ]
              refine Reg.only (i := 10) rfl (Reg.wanted_hit rfl rfl rfl) (by kernel_rfl) (fun K hK => ?_)
              go_simp
              go_at_call 54; refine (hal _ (Below.refl _ _).drew).mono ?_; rintro e w3 ⟨rfl, g3⟩; go_simp
              refine hK.out _ _ ?_ (fun hH2 => ?_)
              · (obtain ⟨ad9, r9, e9, -, hr9, -, a0, a1, a2⟩ := (h.below ((g1.trans (hbo.mono g1.size)).trans ((hbi.drew.trans (g3.mono hbi.size)).mono (g1.trans (hbo.mono g1.size)).size))).fields hlt; cases e9; rw [HR.out] at hr9; cases hr9; obtain ⟨ad9, r9, e9, -, hr9, -, d0, d1, d2⟩ := (h.below ((g1.trans (hbo.mono g1.size)).trans ((hbi.drew.trans (g3.mono hbi.size)).mono (g1.trans (hbo.mono g1.size)).size))).fields hml; cases e9; rw [HRM.out] at hr9; cases hr9; exact ⟨a0, a1, a2, d0, d1, d2⟩)
              clear hK hH
              have hH := hH2; clear hH2
              try simp only [Act.put, List.setIfInBounds_toArray, List.set_cons_zero, List.set_cons_succ]
              refine Reg.take (i := 11) (u := ?b2_v11) rfl rfl rfl (by kernel_rfl) (by kernel_rfl) (by kernel_rfl) hH ?b2_y11 ?b2_r11
              case b2_y11 => (intro w hSw; (try dsimp only at hSw); go_simp; try (with_reducible rfl))
              case' b2_r11 => simp only [List.setIfInBounds_toArray, List.set_cons_zero, List.set_cons_succ]
              refine Reg.take (i := 12) (u := ?b2_v12) rfl rfl rfl (by kernel_rfl) (by kernel_rfl) (by kernel_rfl) hH ?b2_y12 ?b2_r12
              case b2_y12 => (intro w hSw; (try dsimp only at hSw); go_simp; try (with_reducible rfl))
              case' b2_r12 => simp only [List.setIfInBounds_toArray, List.set_cons_zero, List.set_cons_succ]
              refine wpAnyH_done (by kernel_rfl) ?_ _
              refine NoPanic.normal ?_
              go_wp2_with fail
              go_roundg g2
              case measure => omega
              case rel => exact ⟨m + 1, by go_num, by omega, by rw [HSU.out]; simp, hbi.drew.trans (g3.mono hbi.size)⟩
            · go_wp2_with fail
              refine wp_region_noPanic ?_
              refine wp_region_held_drew (S := (fun W => True)) (by kernel_rfl) ?_ (fun hH => ?_)
              · trivial
              refine Reg.take (i := 0) (u := ?b1_v0) rfl rfl rfl (by kernel_rfl) (by kernel_rfl) (by kernel_rfl) hH ?b1_y0 ?b1_r0
              case b1_y0 => (intro w hSw; (try dsimp only at hSw); go_simp; try (with_reducible rfl))
              case' b1_r0 => simp only [List.setIfInBounds_toArray, List.set_cons_zero, List.set_cons_succ]
              refine Reg.take (i := 1) (u := ?b1_v1) rfl rfl rfl (by kernel_rfl) (by kernel_rfl) (by kernel_rfl) hH ?b1_y1 ?b1_r1
              case b1_y1 => (intro w hSw; (try dsimp only at hSw); go_simp; try (with_reducible rfl))
              case' b1_r1 => simp only [List.setIfInBounds_toArray, List.set_cons_zero, List.set_cons_succ]
              refine Reg.skip (i := 2) rfl rfl rfl rfl rfl (by first | exact Value.noConfusion | (intro h; cases h)) (by kernel_rfl) (by kernel_rfl) (by kernel_rfl) hH ?_
              simp only [List.setIfInBounds_toArray, List.set_cons_zero, List.set_cons_succ]
              refine Reg.skip (i := 3) rfl rfl rfl rfl rfl (by first | exact Value.noConfusion | (intro h; cases h)) (by kernel_rfl) (by kernel_rfl) (by kernel_rfl) hH ?_
              simp only [List.setIfInBounds_toArray, List.set_cons_zero, List.set_cons_succ]
              refine Reg.skip (i := 4) rfl rfl rfl rfl rfl (by first | exact Value.noConfusion | (intro h; cases h)) (by kernel_rfl) (by kernel_rfl) (by kernel_rfl) hH ?_
              simp only [List.setIfInBounds_toArray, List.set_cons_zero, List.set_cons_succ]
              refine Reg.skip (i := 5) rfl rfl rfl rfl rfl (by first | exact Value.noConfusion | (intro h; cases h)) (by kernel_rfl) (by kernel_rfl) (by kernel_rfl) hH ?_
              simp only [List.setIfInBounds_toArray, List.set_cons_zero, List.set_cons_succ]
              refine Reg.skip (i := 6) rfl rfl rfl rfl rfl (by first | exact Value.noConfusion | (intro h; cases h)) (by kernel_rfl) (by kernel_rfl) (by kernel_rfl) hH ?_
              simp only [List.setIfInBounds_toArray, List.set_cons_zero, List.set_cons_succ]
              refine Reg.skip (i := 7) rfl rfl rfl rfl rfl (by first | exact Value.noConfusion | (intro h; cases h)) (by kernel_rfl) (by kernel_rfl) (by kernel_rfl) hH ?_
              simp only [List.setIfInBounds_toArray, List.set_cons_zero, List.set_cons_succ]
              refine Reg.skip (i := 8) rfl rfl rfl rfl rfl (by first | exact Value.noConfusion | (intro h; cases h)) (by kernel_rfl) (by kernel_rfl) (by kernel_rfl) hH ?_
              simp only [List.setIfInBounds_toArray, List.set_cons_zero, List.set_cons_succ]
              refine Reg.skip (i := 9) rfl rfl rfl rfl rfl (by first | exact Value.noConfusion | (intro h; cases h)) (by kernel_rfl) (by kernel_rfl) (by kernel_rfl) hH ?_
              simp only [List.setIfInBounds_toArray, List.set_cons_zero, List.set_cons_succ]
              refine Reg.onlySkip (i := 10) rfl rfl rfl rfl rfl (by first | exact Value.noConfusion | (intro h; cases h)) (by kernel_rfl) hH ?_
              simp only [List.setIfInBounds_toArray, List.set_cons_zero, List.set_cons_succ]
              refine Reg.take (i := 11) (u := ?b1_v11) rfl rfl rfl (by kernel_rfl) (by kernel_rfl) (by kernel_rfl) hH ?b1_y11 ?b1_r11
              case b1_y11 => (intro w hSw; (try dsimp only at hSw); go_simp; try (with_reducible rfl))
              case' b1_r11 => simp only [List.setIfInBounds_toArray, List.set_cons_zero, List.set_cons_succ]
              refine Reg.take (i := 12) (u := ?b1_v12) rfl rfl rfl (by kernel_rfl) (by kernel_rfl) (by kernel_rfl) hH ?b1_y12 ?b1_r12
              case b1_y12 => (intro w hSw; (try dsimp only at hSw); go_simp; try (with_reducible rfl))
              case' b1_r12 => simp only [List.setIfInBounds_toArray, List.set_cons_zero, List.set_cons_succ]
              refine wpAnyH_done (by kernel_rfl) ?_ _
              refine NoPanic.normal ?_
              go_wp2_with fail
              go_roundg g2
              case measure => omega
              case rel => exact ⟨m + 1, by go_num, by omega, by rw [HSU.out]; simp, hbi.drew⟩
          · obtain rfl : m = k := by omega
            have HT := Lib.hid (rhTo_succ L m)
            obtain ⟨X, hX⟩ : ∃ X, X = rhTo L m := ⟨_, rfl⟩
            have hxl := rhTo_length L m
            rw [← hX] at HOWN HT hxl
            have HOW2 := Lib.hid (HOWN.out.below hbi (Nat.le_refl _))
            have hol : ∀ j, vo.ownBlock = some j → w1.heap.size ≤ j := fun j hj => (HOWN.out.lt j hj).1
            have hbb := hbo.trans (hbi.mono hbo.size)
            clear hX
            obtain ⟨b, hb⟩ : ∃ b, rhAny L m m = b := ⟨_, rfl⟩
            rw [hb] at HT ⊢
            clear hb
            rcases b with _ | _
            · go_wp2_with fail
              go_roundg g'
              case measure => omega
              case rel =>
                refine ⟨m + 1, by go_num, by omega, ?_, hbb⟩
                rw [HT.out]
                simpa using HOW2.out
            · go_wp2_with (at_builtin; go_must (refine wpList_append_owns _ rfl _ _ 22 rfl w1.heap.size 3 i0 (.int .i64 0) 1 8 Try.underlying22 hi hz0 hz1 hz2 rfl (by decide) _ X.length (X.map iv) rfl (HOW2.out.alloc _) _ 1 1 [.int .i64 m] rfl (Rd.one _ 3 _) (by simp [Value.oneCell']) (by simp only [maxLen]; omega) (by omega) (by have := hbb.size; simp; omega) ?_); intro v9 w9 hown9 hgrow)
              go_roundg g'
              case measure => omega
              case rel =>
                refine ⟨m + 1, by go_num, by omega, ?_, (hbb.alloc hbb.size _).grown hgrow (by have := hbb.size; simp; omega) (by rintro j e; exact hol j e)⟩
                rw [HT.out]
                simp only [if_true, List.length_append, List.map_append]
                exact hown9
      · obtain rfl : k = L.length := by omega
        have HL := Lib.hid (show (rhK L).length = (rhTo L L.length).length by rw [Hk.out])
        obtain ⟨a', c', rfl, h1, h2, h3⟩ := HOWN.out.form
        go_wp2_with fail
        go_ret2
        rw [HL.out, HC.out]
        exact ⟨_, _, rfl, by rw [Hk.out]; exact h3, h1, h2, g1.trans (hbo.mono g1.size)⟩
  · have hc0c : (ck.1 != 0) = true := by simpa using hc0
    have Hk := Lib.hid (show rhK L = [] by unfold rhK; rw [hckv, if_neg hc0])
    clear hc0 hckv
    go_enter Try.func32, Try.ntmps32
    go_wp2_with fail
    refine hck.mono ?_
    rintro e w1 ⟨rfl, g1⟩
    go_wp2_with fail
    go_ret2
    rw [Hk.out]
    exact ⟨none, 0, rfl, Rd.nil _ _ _, Nat.le_refl _, by simp [maxLen], g1⟩
end Go.Proofs.Ytefilalapkdegaa
namespace Go.Proofs.Ytefilalapkdegaa
open Go.RowKit Str Mem
set_option linter.unusedVariables false
set_option linter.unusedSimpArgs false

theorem infoRoute : (Try.prog.info? 35).map (fun i => (i.zero, i.size, i.bytes)) = some (some (.agg #[.slice none 0 0, .int .i64 0, .string ⟨#[]⟩]), 3, 48) := by kernel_rfl
theorem own_apart41 {w : World} {b1 b2 : Nat} {e1 e2 : TypeId} {s1 s2 n1 n2 : Nat} {v1 v2 : Value} {x1 x2 : List Value} (h1 : Owns w b1 e1 s1 v1 n1 x1) (h2 : Owns w b2 e2 s2 v2 n2 x2) (hne : e1 ≠ e2) : ∀ k, v1.ownBlock = some k → v2.ownBlock ≠ some k := by
  intro k h3 h4
  rcases h1.2 with ⟨rfl, _⟩ | ⟨g, cap, cur, rfl, _, hg, _⟩
  · simp [Value.ownBlock] at h3
  · rcases h2.2 with ⟨rfl, _⟩ | ⟨g', cap', cur', rfl, _, hg', _⟩
    · simp [Value.ownBlock] at h4
    · simp [Value.ownBlock] at h3 h4
      subst h3 h4
      rw [hg] at hg'
      injection hg' with e
      injection e with _ e2
      exact hne e2
theorem Owns.setOther {w : World} {base sz n : Nat} {e : TypeId} {v : Value} {xs : List Value} {p : Addr} (h : Owns w base e sz v n xs) (hne : ∀ k, v.ownBlock = some k → k ≠ p.block) (x : Value) : Owns (w.setCell p x) base e sz v n xs := by
  refine ⟨h.1, ?_⟩
  rcases h.2 with hn | ⟨g, cap, cur, rfl, hb, hg, rest⟩
  · exact .inl hn
  · exact .inr ⟨g, cap, cur, rfl, hb, (Below.heap_setCell w p x g (hne g (by simp [Value.ownBlock]))).trans hg, rest⟩
/-- A route whose segments lie in memory of its own. -/
structure ROwn (w : World) (base : Nat) (r : RtV) : Prop where
  own : Owns w base 9 1 (.slice r.a r.l.length r.c) r.l.length (r.l.map sv)
  short : ∀ s ∈ r.l, s.length ≤ 100000
  text : r.t.length ≤ 100000
theorem ROwn.ok {w : World} {base : Nat} {r : RtV} (h : ROwn w base r) : RtOk w r.a r.l.length r.c r.l r.t := by
  obtain ⟨a, c, e, h1, h2, h3⟩ := h.own.form
  injection e with e1 e2 e3
  subst e1 e3
  exact ⟨h3, h1, h2, h.short, h.text⟩
theorem ROwn.below {w w' : World} {base B : Nat} {r : RtV} (h : ROwn w base r) (hb : Below B w w') (hB : w.heap.size ≤ B) : ROwn w' base r := ⟨h.own.below hb hB, h.short, h.text⟩
/-- Routes in a row of their own, each with segments of its own. -/
structure RtsOwn (w : World) (base : Nat) (v : Value) (L : List RtV) : Prop where
  row : Owns w base 35 3 v L.length (L.flatMap RtV.cells)
  each : ∀ r ∈ L, ROwn w base r
theorem RtsOwn.below {w w' : World} {base B : Nat} {v : Value} {L : List RtV} (h : RtsOwn w base v L) (hb : Below B w w') (hB : w.heap.size ≤ B) : RtsOwn w' base v L := ⟨h.row.below hb hB, fun r hr => (h.each r hr).below hb hB⟩
theorem RtsOwn.nil (w : World) (base : Nat) : RtsOwn w base (.slice none 0 0) [] := ⟨Owns.nil _ _ _ _, fun r hr => by simp at hr⟩
theorem RtsOwn.rts {w : World} {base : Nat} {v : Value} {L : List RtV} (h : RtsOwn w base v L) : ∃ a c, v = .slice a L.length c ∧ L.length ≤ c ∧ c ≤ maxLen ∧ Rts w a L := by
  obtain ⟨a, c, e, h1, h2, h3⟩ := h.row.form
  exact ⟨a, c, e, h1, h2, h3, fun r hr => (h.each r hr).ok⟩
theorem RtsOwn.setAt {w w' : World} {base : Nat} {v : Value} {L : List RtV} {p : Addr} (h0 : RtsOwn w base v L) (h : RtsOwn w' base v L) (hp : w.heap.size ≤ p.block) (x : Value) : RtsOwn (w'.setCell p x) base v L :=
  ⟨Owns.setOther h.row (fun k e => by have := (h0.row.lt k e).2; omega) x, fun r hr => ⟨Owns.setOther (h.each r hr).own (fun k e => by have := ((h0.each r hr).own.lt k e).2; omega) x, (h.each r hr).short, (h.each r hr).text⟩⟩
/-- One route more. -/
theorem RtsOwn.grow {w w' : World} {base : Nat} {v v' : Value} {L : List RtV} {r : RtV} (h : RtsOwn w base v L) (hr : ROwn w base r) (ho : Owns w' base 35 3 v' (L.length + 1) (L.flatMap RtV.cells ++ r.cells)) (hg : w.grownBy w' v.ownBlock) : RtsOwn w' base v' (L ++ [r]) := by
  have hk : ∀ q, ROwn w base q → ROwn w' base q := fun q hq => ⟨hq.own.kept hg (fun k e e2 => own_apart41 hq.own h.row (by decide) k e e2), hq.short, hq.text⟩
  refine ⟨?_, fun q hq => ?_⟩
  · rw [List.flatMap_append, List.length_append]
    simpa using ho
  · rcases List.mem_append.1 hq with hq | hq
    · exact hk q (h.each q hq)
    · rw [List.mem_singleton.1 hq]; exact hk r hr
def core (r : RtV) : List (List UInt8) × Int × List UInt8 := (r.l, r.kd, r.t)
/-- The same routes, wherever they lie. -/
def SameR (A B : List RtV) : Prop := A.map core = B.map core
theorem ownTexts_own (a : Option Addr) (c : Nat) (l : List (List UInt8)) (w : World) (hS : Strs w a l.length l) (hn : l.length ≤ 100000) :
    Calls Try.prog 49 #[.slice a l.length c] w fun e w' => ∃ v, e = .returned v ∧ Owns w' w.heap.size 9 1 v l.length (l.map sv) ∧ Below w.heap.size w w' := by
  obtain ⟨i0, hi, hz0, hz1, hz2⟩ := info_parts infoStr
  go_enter Try.func49, Try.ntmps49
  go_wp2_with (at_builtin; go_must (refine wpList_append_owns _ rfl _ _ 33 rfl w.heap.size 9 i0 (.string ⟨#[]⟩) 1 16 Try.underlying33 hi hz0 hz1 hz2 rfl (by decide) _ 0 [] rfl (Owns.fresh w _ 1) a l.length c (l.map sv) rfl (Rd.alloc hS _) (by simp [sv, Value.oneCell']) (by simp only [maxLen]; omega) (by omega) (by simp) ?_); intro v' w3 hown hgrow)
  go_ret
  exact ⟨_, rfl, by simpa using hown, ((Below.refl _ w).alloc (Nat.le_refl _) _).grown hgrow (by simp) (by rintro k hk; change some w.heap.size = some k at hk; cases hk; exact Nat.le_refl _)⟩

set_option maxRecDepth 20000 in
set_option maxHeartbeats 4000000 in
theorem own_any (a : Option Addr) (c : Nat) (L : List RtV) (w : World) (h : Rts w a L) (hn : L.length ≤ 100) (hs : ∀ r ∈ L, r.l.length ≤ 100) :
    Calls Try.prog 27 #[.slice a L.length c] w fun e w' => ∃ v L', e = .returned v ∧ RtsOwn w' w.heap.size v L' ∧ SameR L' L ∧ Below w.heap.size w w' := by
  obtain ⟨i0, hi, hz0, hz1, hz2⟩ := info_of infoRoute
  go_enter Try.func27, Try.ntmps27
  go_wp2_with fail
  go_loopg [3, 4] L.length (fun g out i W => ∃ (k : Nat) (L' : List RtV), i = .int .i64 k ∧ k + g = L.length ∧ RtsOwn W w.heap.size out L' ∧ L'.length = k ∧ SameR L' (L.take k) ∧ Below w.heap.size w W)
  case atStart => exact ⟨0, [], rfl, by omega, RtsOwn.nil _ _, rfl, rfl, Below.refl _ _⟩
  case round =>
    obtain ⟨k, L', rfl, hk, hO, hl', hsm, hbl⟩ := hrel
    have HO := Lib.hid hO
    have HSM := Lib.hid hsm
    clear hO hsm
    have hsz := hbl.size
    by_cases hlt : k < L.length
    · obtain ⟨g', rfl⟩ : ∃ g', gk = g' + 1 := ⟨gk - 1, by omega⟩
      obtain ⟨ad, r, rfl, hbb, hr, hmem, c0, c1, c2⟩ := (h.below hbl).fields hlt
      have i0' : (0 : Int) ≤ (k : Int) := by omega
      have i1 : (k : Int) < (L.length : Int) := by omega
      have hok := h.each r hmem
      have hba := hbl.alloc hsz (.cells #[.slice r.a r.l.length r.c, .int .i64 r.kd, .string ⟨r.t.toArray⟩] 35)
      have hO1 := HO.out.below ((Below.refl _ wr).alloc (Nat.le_refl _) (.cells #[.slice r.a r.l.length r.c, .int .i64 r.kd, .string ⟨r.t.toArray⟩] 35)) (Nat.le_refl _)
      have hrow := heap_alloc_new wr (.cells #[.slice r.a r.l.length r.c, .int .i64 r.kd, .string ⟨r.t.toArray⟩] 35)
      have hot := ownTexts_own r.a r.c r.l _ (hok.strs.below hba) (by have := hs r hmem; omega)
      obtain ⟨W1, hW1⟩ : ∃ W, W = wr.alloc (.cells #[.slice r.a r.l.length r.c, .int .i64 r.kd, .string ⟨r.t.toArray⟩] 35) := ⟨_, rfl⟩
      have hz1' : W1.heap.size = wr.heap.size + 1 := by rw [hW1]; simp
      have b0 : W1.cell? ⟨wr.heap.size, 0, none⟩ = some (.slice r.a r.l.length r.c) := by rw [hW1]; exact row_cell (cs := [_, _, _]) hrow 0
      rw [← hW1] at hba hO1 hot hrow
      have HR := Lib.hid hr
      have HRow := Lib.hid hrow
      have HO1 := Lib.hid hO1
      have HZ := Lib.hid hz1'
      clear hr hrow hO1 hz1'
      go_wp2_with fail
      rw [← hW1]
      refine hot.mono ?_
      rintro e w2 ⟨v2, rfl, hO2, h2⟩
      obtain ⟨sa, sc, rfl, hs1, hs2, hs3⟩ := hO2.form
      have hb2 := hba.trans (h2.mono hba.size)
      have hrow2 := (h2.block _ (by rw [HZ.out]; omega)).trans HRow.out
      have hO2' := HO1.out.below h2 (Nat.le_refl _)
      have hrow3 := set_row (cs := [.slice r.a r.l.length r.c, .int .i64 r.kd, .string ⟨r.t.toArray⟩]) hrow2 0 (.slice sa r.l.length sc)
      change (w2.setCell ⟨wr.heap.size, 0, none⟩ (.slice sa r.l.length sc)).heap[wr.heap.size]? = some (.cells [.slice sa r.l.length sc, .int .i64 r.kd, .string ⟨r.t.toArray⟩].toArray _ (0, 0)) at hrow3
      have p0 := row_cell hrow3 0
      have p1 := row_cell hrow3 1
      have p2 := row_cell hrow3 2
      have f0 := row_frozen (cs := [.slice r.a r.l.length r.c, .int .i64 r.kd, .string ⟨r.t.toArray⟩]) hrow2 0
      have r0 := row_cell (cs := [.slice r.a r.l.length r.c, .int .i64 r.kd, .string ⟨r.t.toArray⟩]) hrow2 0
      simp only [List.getElem?_cons_zero, List.getElem?_cons_succ] at p0 p1 p2 r0
      have hb3 := hb2.setCell (p := ⟨wr.heap.size, 0, none⟩) (by show w.heap.size ≤ wr.heap.size; omega) (.slice sa r.l.length sc)
      have hO3 := RtsOwn.setAt HO.out hO2' (p := ⟨wr.heap.size, 0, none⟩) (Nat.le_refl _) (.slice sa r.l.length sc)
      have hR3 : ROwn (w2.setCell ⟨wr.heap.size, 0, none⟩ (.slice sa r.l.length sc)) w.heap.size ⟨sa, sc, r.l, r.kd, r.t⟩ :=
        ⟨Owns.setOther (hO2.mono (by rw [HZ.out]; omega)) (fun j e => by have := (hO2.lt j e).1; rw [HZ.out] at this; show j ≠ wr.heap.size; omega) _, hok.short, hok.text⟩
      have hl9 : L'.length = k := hl'
      have hn9 := hb3.size
      have HO3 := Lib.hid hO3
      have HR3 := Lib.hid hR3
      have HB3 := Lib.hid hb3
      clear hrow3 hO3 hR3 hb3 hO2 hO2' hrow2 hb2 hot hs3 h2 hbl
      go_wp2_with (at_builtin; go_must (refine wpList_append_owns _ rfl _ _ 26 rfl w.heap.size 35 i0 (.agg #[.slice none 0 0, .int .i64 0, .string ⟨#[]⟩]) 3 48 Try.underlying26 hi hz0 hz1 hz2 rfl (by decide) _ L'.length (L'.flatMap RtV.cells) rfl (HO3.out.row.alloc _) _ 1 1 [.slice sa r.l.length sc, .int .i64 r.kd, .string ⟨r.t.toArray⟩] rfl (box3_at _ _ _ _ _ _ (by simp)) (by simp [Value.oneCell']) (by simp only [maxLen]; omega) (by omega) (by have := HB3.out.size; simp at this ⊢; omega) ?_); intro v9 w9 hown hgrow)
      go_roundg g'
      case measure => omega
      case rel =>
        have hR4 : ROwn ((w2.setCell ⟨wr.heap.size, 0, none⟩ (.slice sa r.l.length sc)).alloc (.cells #[.slice sa r.l.length sc, .int .i64 r.kd, .string ⟨r.t.toArray⟩] 35)) w.heap.size ⟨sa, sc, r.l, r.kd, r.t⟩ := ⟨HR3.out.own.alloc _, HR3.out.short, HR3.out.text⟩
        have hO4 : RtsOwn ((w2.setCell ⟨wr.heap.size, 0, none⟩ (.slice sa r.l.length sc)).alloc (.cells #[.slice sa r.l.length sc, .int .i64 r.kd, .string ⟨r.t.toArray⟩] 35)) w.heap.size u3 L' := ⟨HO3.out.row.alloc _, fun q hq => ⟨(HO3.out.each q hq).own.alloc _, (HO3.out.each q hq).short, (HO3.out.each q hq).text⟩⟩
        refine ⟨k + 1, L' ++ [⟨sa, sc, r.l, r.kd, r.t⟩], by go_num, by omega, RtsOwn.grow (r := ⟨sa, sc, r.l, r.kd, r.t⟩) hO4 hR4 hown hgrow, by simp [hl9], ?_, (HB3.out.alloc HB3.out.size _).grown hgrow (by have := HB3.out.size; simp at this ⊢; omega) (fun j e => (HO.out.row.lt j e).1)⟩
        have hsm := HSM.out
        unfold SameR at hsm ⊢
        rw [← List.take_append_getElem hlt, List.map_append, List.map_append, hsm, show L[k] = r from by have := HR.out; rw [List.getElem?_eq_getElem hlt] at this; injection this]
        rfl
    · obtain rfl : k = L.length := by omega
      go_wp2_with fail
      go_ret
      have := HSM.out
      rw [List.take_length] at this
      exact ⟨_, L', rfl, HO.out, this, hbl⟩
end Go.Proofs.Ytefilalapkdegaa
namespace Go.Proofs.Ytefilalapkdegaa
open Go.RowKit Str Mem
set_option linter.unusedVariables false
set_option linter.unusedSimpArgs false

theorem tmod_cases (n m : Int) (hm : 0 < m) : (n.tmod m = n % m ∨ n.tmod m = n % m - m ∧ n % m ≠ 0) ∧ 0 ≤ n % m ∧ n % m < m := by
  have h1 := Int.emod_nonneg n (show m ≠ 0 by omega)
  have h2 := Int.emod_lt_of_pos n hm
  refine ⟨?_, h1, h2⟩
  have h := Int.tmod_eq_emod (a := n) (b := m)
  rw [h]
  by_cases hz : 0 ≤ n ∨ m ∣ n
  · rw [if_pos hz]; left; simp
  · rw [if_neg hz]; right
    refine ⟨by rw [Int.natAbs_of_nonneg (by omega)], fun e => hz (.inr (Int.dvd_of_emod_eq_zero e))⟩
theorem ret_int2 {a b : Int} (h : a = b) : Ending.returned (Value.int .i64 a) = .returned (.int .i64 b) := by rw [h]
set_option maxHeartbeats 1000000 in
theorem kitMod_any (n m : Int) (w : World) (hm : 1 ≤ m) (hm2 : m ≤ 4294967296) : Calls Try.prog 25 #[.int .i64 n, .int .i64 m] w fun e w' => e = .returned (.int .i64 (n % m)) ∧ w = w' := by
  obtain ⟨hc, h1, h2⟩ := tmod_cases n m (by omega)
  obtain ⟨t, ht⟩ : ∃ t, t = n.tmod m := ⟨_, rfl⟩
  obtain ⟨r, hr⟩ : ∃ r, r = n % m := ⟨_, rfl⟩
  rw [← ht, ← hr] at hc
  rw [← hr] at h1 h2 ⊢
  have HT := Lib.hid ht
  clear ht hr
  have hm0 : ¬ m = 0 := by omega
  have hm1 : ¬ m < 1 := by omega
  go_enter Try.func25, Try.ntmps25
  go_wp2
  all_goals rw [← HT.out] at *
  · have e : wrap64 (t + m) = r := by
      unfold wrap64
      omega
    go_ret
    exact ⟨ret_int2 e, rfl⟩
  · have e : t = r := by omega
    go_ret
    exact ⟨ret_int2 e, rfl⟩
theorem tm6 (D : Nat) (h : D ≤ 1073741824) : (wrap64 (D : Int)).tmod 6 = ((D % 6 : Nat) : Int) := by
  have : wrap64 (D : Int) = (D : Int) := by unfold wrap64; omega
  rw [this, Int.tmod_eq_emod_of_nonneg (by omega)]
  omega
theorem box_cells {W : World} {n T : Nat} {x y z : Value} (h : W.heap[n]? = some (.cells #[x, y, z] T (0, 0))) : W.cell? ⟨n, 0, none⟩ = some x ∧ W.cell? ⟨n, 1, none⟩ = some y ∧ W.cell? ⟨n, 2, none⟩ = some z := ⟨row_cell (cs := [_, _, _]) h 0, row_cell (cs := [_, _, _]) h 1, row_cell (cs := [_, _, _]) h 2⟩
theorem RtsOwn.mono {w : World} {base base' : Nat} {v : Value} {L : List RtV} (h : RtsOwn w base v L) (hb : base' ≤ base) : RtsOwn w base' v L := ⟨h.row.mono hb, fun r hr => ⟨(h.each r hr).own.mono hb, (h.each r hr).short, (h.each r hr).text⟩⟩
theorem RtsOwn.alloc {w : World} {base : Nat} {v : Value} {L : List RtV} (h : RtsOwn w base v L) (o : Obj) : RtsOwn (w.alloc o) base v L := ⟨h.row.alloc o, fun r hr => ⟨(h.each r hr).own.alloc o, (h.each r hr).short, (h.each r hr).text⟩⟩
/-- The segments that are used. -/
def segSet : List (List UInt8) := [[97], [98], [42], [99], [123, 112, 48, 125], [123, 112, 49, 125], [123, 112, 50, 125]]
def Segs (l : List (List UInt8)) : Prop := l.length ≤ 3 ∧ ∀ s ∈ l, s ∈ segSet
def nmL : List (List UInt8) := [[97], [98], [123, 120, 125], [123, 121, 125], [42], [99]]
/-- What Made returns. -/
structure Mk (L : List RtV) : Prop where
  good : Good L
  segs : ∀ r ∈ L, Segs r.l
theorem SameR.len {A B : List RtV} (h : SameR A B) : A.length = B.length := by have := congrArg List.length h; simpa using this
theorem lAt_map (L : List RtV) (i : Nat) : lAt L i = ((L.map core)[i]?.map (·.1)).getD [] := by
  unfold lAt
  rw [List.getElem?_map]
  cases L[i]? <;> rfl
theorem mk_next {L LX : List RtV} {R : RtV} (h : Mk L) (hs : SameR LX L) (h8 : L.length < 8) (hR : Segs R.l) (hk : R.kd = 1) (ht : R.t = []) (hc : (checkR (LX ++ [R])).1 = 0) (hr : (rhK (LX ++ [R])).length = 0) : Mk (L ++ [R]) := by
  obtain ⟨_, hok⟩ := checkR_good hc
  have hl := hs.len
  have hrk : rhTo (LX ++ [R]) (LX ++ [R]).length = [] := by
    have := List.eq_nil_of_length_eq_zero hr
    unfold rhK at this
    rwa [if_pos hc] at this
  have hla : ∀ i, lAt (LX ++ [R]) i = lAt (L ++ [R]) i := fun i => by
    rw [lAt_map, lAt_map, List.map_append, List.map_append, hs]
  refine ⟨⟨by simp; omega, fun r hr => ?_, fun r hr => ?_, fun i j hij hj => ?_⟩, fun r hr => ?_⟩
  · rcases List.mem_append.1 hr with hr | hr
    · exact h.good.ok r hr
    · rw [List.mem_singleton.1 hr]; exact hok R (by simp)
  · rcases List.mem_append.1 hr with hr | hr
    · exact h.good.plain r hr
    · rw [List.mem_singleton.1 hr]; exact ⟨hk, ht⟩
  · rw [← hla, ← hla]
    have hj2 : j < (LX ++ [R]).length := by simp at hj ⊢; omega
    have hn : rhAny (LX ++ [R]) j j = false := by
      rcases hx : rhAny (LX ++ [R]) j j with _ | _
      · rfl
      · exfalso
        have : (j : Int) ∈ rhTo (LX ++ [R]) (LX ++ [R]).length := List.mem_map.2 ⟨j, List.mem_filter.2 ⟨by simpa using hj2, hx⟩, rfl⟩
        rw [hrk] at this
        simp at this
    unfold rhAny at hn
    rw [List.any_eq_false] at hn
    simpa using hn i (by simpa using hij)
  · rcases List.mem_append.1 hr with hr | hr
    · exact h.segs r hr
    · rw [List.mem_singleton.1 hr]; exact hR
/-- A row of routes is no block of strings. -/
theorem own_not_names {w : World} {base g : Nat} {v : Value} {L : List RtV} {cs : Array Value} (h : RtsOwn w base v L) (hn : w.heap[g]? = some (.cells cs 9 (0, 0))) : v.ownBlock ≠ some g := by
  intro e
  rcases h.row.2 with ⟨rfl, _⟩ | ⟨g', cap, cur, rfl, _, hg, _⟩
  · simp [Value.ownBlock] at e
  · simp [Value.ownBlock] at e
    subst e
    rw [hn] at hg
    injection hg with e
    injection e with _ e2
    exact absurd e2 (by decide)
set_option maxRecDepth 100000 in
set_option maxHeartbeats 8000000 in
theorem made_any (a : Option Addr) (c : Nat) (l : List Int) (w : World) (hI : Ints w a l.length l) (hl : l.length ≤ maxLen) :
    Calls Try.prog 17 #[.slice a l.length c] w fun e w' => ∃ v L, e = .returned v ∧ RtsOwn w' w.heap.size v L ∧ Mk L ∧ Below w.heap.size w w' := by
  have hmx : l.length ≤ 9223372036854775807 := by have := hl; simp only [maxLen] at this; omega
  obtain ⟨i0, hi, hz0, hz1, hz2⟩ := info_of infoRoute
  obtain ⟨j0, hj, hy0, hy1, hy2⟩ := info_of infoTxt
  have hnew := heap_alloc_new w (.cells (nmL.map sv).toArray 9)
  have hb0 := (Below.refl _ w).alloc (Nat.le_refl _) (.cells (nmL.map sv).toArray 9)
  obtain ⟨P, hPe⟩ : ∃ P : Ending → World → Prop, P = fun e w' => ∃ v L, e = .returned v ∧ RtsOwn w' w.heap.size v L ∧ Mk L ∧ Below w.heap.size w w' := ⟨_, rfl⟩
  have HPe := Lib.hid hPe
  rw [← hPe]
  clear hPe
  go_enter Try.func17, Try.ntmps17
  go_wp2_with fail
  go_loopg [4, 5] l.length (fun g out i W => ∃ (k : Nat) (L : List RtV), i = .int .i64 k ∧ k + g = l.length ∧ RtsOwn W w.heap.size out L ∧ Mk L ∧ Below w.heap.size w W ∧ W.heap[w.heap.size]? = some (.cells (nmL.map sv).toArray 9 (0, 0)))
  case atStart => exact ⟨0, [], rfl, by omega, RtsOwn.nil _ _, ⟨⟨by simp, by simp, by simp, fun i j _ h => by simp at h⟩, by simp⟩, hb0, hnew⟩
  case round =>
    obtain ⟨k, L, rfl, hk, hO, hmk, hbl, hnm⟩ := hrel
    have hnmO := hnm
    obtain ⟨Wo, rfl⟩ : ∃ W, W = wr := ⟨_, rfl⟩
    obtain ⟨vo, rfl⟩ : ∃ v, v = u4 := ⟨_, rfl⟩
    obtain ⟨va, vc, rfl, hLc, hcm, hRts⟩ := hO.rts
    have HO := Lib.hid hO
    have HRts := Lib.hid hRts
    clear hO hRts
    by_cases hlt : k < l.length
    · by_cases h8 : L.length < 8
      · obtain ⟨g', rfl⟩ : ∃ g', gk = g' + 1 := ⟨gk - 1, by omega⟩
        obtain ⟨ad, n, rfl, hbk, hn, hcell⟩ := (show Ints Wo a l.length l from Rd.below hI hbl).get hlt
        have i0' : (0 : Int) ≤ (k : Int) := by omega
        have i1 : (k : Int) < (l.length : Int) := by omega
        have i8 : (L.length : Int) < 8 := by omega
        have hmd := fun W => kitMod_any n 1073741824 W (by omega) (by omega)
        have hr1 := Int.emod_nonneg n (show (1073741824 : Int) ≠ 0 by omega)
        have hr2 := Int.emod_lt_of_pos n (show (0 : Int) < 1073741824 by omega)
        obtain ⟨K, hK⟩ : ∃ K : Nat, n % 1073741824 = (K : Int) := ⟨(n % 1073741824).toNat, by omega⟩
        rw [hK] at hmd hr2
        clear hK hr1 hn
        go_wp2_with fail
        refine (hmd _).mono ?_
        rintro e1 w1 ⟨rfl, rfl⟩
        clear hmd
        have hbx := hbl.alloc hbl.size (.cells #[.slice none 0 0, .int .i64 1, .string ⟨#[]⟩] 35)
        have hrow := heap_alloc_new Wo (.cells #[.slice none 0 0, .int .i64 1, .string ⟨#[]⟩] 35)
        have hbo := (Below.refl Wo.heap.size Wo).alloc (Nat.le_refl _) (.cells #[.slice none 0 0, .int .i64 1, .string ⟨#[]⟩] 35)
        have hOwn : Owns (Wo.alloc (.cells #[.slice none 0 0, .int .i64 1, .string ⟨#[]⟩] 35)) (Wo.heap.size + 1) 9 1 (.slice none ([] : List (List UInt8)).length 0) ([] : List (List UInt8)).length (([] : List (List UInt8)).map sv) := Owns.nil _ _ _ _
        obtain ⟨Wb, hWb⟩ : ∃ W, W = Wo.alloc (.cells #[.slice none 0 0, .int .i64 1, .string ⟨#[]⟩] 35) := ⟨_, rfl⟩
        rw [← hWb] at hbx hrow hbo hOwn
        have HBX := Lib.hid hbx
        have HROW := Lib.hid hrow
        have HBO := Lib.hid hbo
        have HOWN := Lib.hid hOwn
        clear hbx hrow hbo hOwn
        go_upto_region 8 with fail
        rw [← hWb]
        clear hWb
        obtain ⟨m0, hm0⟩ : ∃ m : Nat, (K : Int) % 4 = (m : Int) := ⟨K % 4, by omega⟩
        have hm3 : m0 ≤ 3 := by omega
        go_cut [8] from 81 (fun nv wc => nv = .int .i64 m0 ∧ wc = Wb)
        case first =>
          go_wp2_with fail
          go_meet
          case rel => exact ⟨by rw [hm0], rfl⟩
        case rest =>
        obtain ⟨rfl, rfl⟩ := hcut
        clear hm0
        refine (show ∀ a w, Code.wp _ (Code.block 2 _) _ a w → _ from by assumption) _ _ ?_
        go_cut [] from 81 (fun wc => ∃ (S : List (List UInt8)) (sa : Option Addr) (sc : Nat), Segs S ∧ wc.heap[Wo.heap.size]? = some (.cells #[.slice sa S.length sc, .int .i64 1, .string ⟨#[]⟩] 35 (0, 0)) ∧ Owns wc (Wo.heap.size + 1) 9 1 (.slice sa S.length sc) S.length (S.map sv) ∧ Below Wo.heap.size Wo wc)
        case first =>
          go_wp2_with fail
          go_loopg [6, 8] m0 (fun g kv nv W => ∃ (q : Nat) (S : List (List UInt8)) (sa : Option Addr) (sc : Nat), kv = .int .i64 q ∧ q ≤ 1073741824 ∧ nv = .int .i64 g ∧ S.length + g ≤ 3 ∧ (∀ s ∈ S, s ∈ segSet) ∧ W.heap[Wo.heap.size]? = some (.cells #[.slice sa S.length sc, .int .i64 1, .string ⟨#[]⟩] 35 (0, 0)) ∧ Owns W (Wo.heap.size + 1) 9 1 (.slice sa S.length sc) S.length (S.map sv) ∧ Below Wo.heap.size Wo W)
          case atStart => exact ⟨K, [], none, 0, rfl, by omega, rfl, by simp; omega, by simp, HROW.out, HOWN.out, HBO.out⟩
          case round =>
            obtain ⟨q, S, sa, sc, rfl, hq, rfl, hsg, hseg, hrw, how, hbw⟩ := hrel
            obtain ⟨Wi, rfl⟩ : ∃ W, W = wr := ⟨_, rfl⟩
            have HRW := Lib.hid hrw
            have HOW := Lib.hid how
            have HSEG := Lib.hid hseg
            have p0 : Wi.cell? ⟨Wo.heap.size, 0, none⟩ = some (.slice sa S.length sc) := row_cell (cs := [_, _, _]) hrw 0
            have p1 : Wi.cell? ⟨Wo.heap.size, 1, none⟩ = some (.int .i64 1) := row_cell (cs := [_, _, _]) hrw 1
            have p2 : Wi.cell? ⟨Wo.heap.size, 2, none⟩ = some (.string ⟨#[]⟩) := row_cell (cs := [_, _, _]) hrw 2
            have hnm2 := (hbw.block _ (by have := (Array.getElem?_eq_some_iff.1 hnm).1; omega)).trans hnm
            clear hrw how hseg
            by_cases hg0 : gk = 0
            · subst hg0
              go_wp2_with fail
              go_meet
              case rel => exact ⟨S, sa, sc, ⟨by omega, HSEG.out⟩, HRW.out, HOW.out, hbw⟩
            · obtain ⟨g2, rfl⟩ : ∃ g2, gk = g2 + 1 := ⟨gk - 1, by omega⟩
              obtain ⟨D, hD⟩ : ∃ D : Nat, q / 4 = D := ⟨_, rfl⟩
              have eD : (q : Int) / 4 = (D : Int) := by omega
              have hDq : D ≤ 1073741824 := by omega
              have d0 : (0 : Int) ≤ (D : Int) := by omega
              have e6 := tm6 D hDq
              obtain ⟨j, hj⟩ : ∃ j : Nat, D % 6 = j := ⟨_, rfl⟩
              rw [hj] at e6
              have hj6 : j < 6 := by omega
              have hg1 : (0 : Int) < (g2 : Int) + 1 := by omega
              clear hD hj
              have hwD : wrap64 (D : Int) = (D : Int) := by unfold wrap64; omega
              have HWD := Lib.hid hwD
              have HDQ := Lib.hid hDq
              clear hwD hq hDq hr2 hm3
              go_upto_region 12 with fail
              go_cut [9] from 81 (fun v wc => ∃ nm, nm ∈ nmL ∧ v = .string (bs nm) ∧ Wi = wc)
              case first =>
                rcases (by omega : j = 0 ∨ j = 1 ∨ j = 2 ∨ j = 3 ∨ j = 4 ∨ j = 5) with rfl | rfl | rfl | rfl | rfl | rfl
                · have n0 : Wi.cell? ⟨w.heap.size, 0, none⟩ = some (.string ⟨#[97]⟩) := row_cell (cs := nmL.map sv) hnm2 0
                  have e6 : (wrap64 (D : Int)).tmod 6 = 0 := e6
                  clear hnm2
                  go_wp2_with fail
                  go_meet
                  case rel => exact ⟨[97], by decide, rfl, rfl⟩
                · have n0 : Wi.cell? ⟨w.heap.size, 1, none⟩ = some (.string ⟨#[98]⟩) := row_cell (cs := nmL.map sv) hnm2 1
                  have e6 : (wrap64 (D : Int)).tmod 6 = 1 := e6
                  clear hnm2
                  go_wp2_with fail
                  go_meet
                  case rel => exact ⟨[98], by decide, rfl, rfl⟩
                · have n0 : Wi.cell? ⟨w.heap.size, 2, none⟩ = some (.string ⟨#[123, 120, 125]⟩) := row_cell (cs := nmL.map sv) hnm2 2
                  have e6 : (wrap64 (D : Int)).tmod 6 = 2 := e6
                  clear hnm2
                  go_wp2_with fail
                  go_meet
                  case rel => exact ⟨[123, 120, 125], by decide, rfl, rfl⟩
                · have n0 : Wi.cell? ⟨w.heap.size, 3, none⟩ = some (.string ⟨#[123, 121, 125]⟩) := row_cell (cs := nmL.map sv) hnm2 3
                  have e6 : (wrap64 (D : Int)).tmod 6 = 3 := e6
                  clear hnm2
                  go_wp2_with fail
                  go_meet
                  case rel => exact ⟨[123, 121, 125], by decide, rfl, rfl⟩
                · have n0 : Wi.cell? ⟨w.heap.size, 4, none⟩ = some (.string ⟨#[42]⟩) := row_cell (cs := nmL.map sv) hnm2 4
                  have e6 : (wrap64 (D : Int)).tmod 6 = 4 := e6
                  clear hnm2
                  go_wp2_with fail
                  go_meet
                  case rel => exact ⟨[42], by decide, rfl, rfl⟩
                · have n0 : Wi.cell? ⟨w.heap.size, 5, none⟩ = some (.string ⟨#[99]⟩) := row_cell (cs := nmL.map sv) hnm2 5
                  have e6 : (wrap64 (D : Int)).tmod 6 = 5 := e6
                  clear hnm2
                  go_wp2_with fail
                  go_meet
                  case rel => exact ⟨[99], by decide, rfl, rfl⟩
              case rest =>
              obtain ⟨nm, hnmm, rfl, rfl⟩ := hcut
              have hs0 : 0 < (bs nm).size := by
                have : ∀ x ∈ nmL, 0 < (bs x).size := by decide
                exact this nm hnmm
              obtain ⟨b, hb⟩ : ∃ b, (((bs nm)[0].toNat : Int) == 123) = b := ⟨_, rfl⟩
              go_upto_if 45 with fail
              go_cut [9] from 81 (fun v wc => ∃ s, s ∈ segSet ∧ v = .string (bs s) ∧ Below Wi.heap.size Wi wc)
              case first =>
                rcases b with _ | _
                · go_wp2_with fail
                  go_meet
                  case rel =>
                    refine ⟨nm, ?_, rfl, Below.refl _ _⟩
                    simp only [nmL, List.mem_cons, List.not_mem_nil, or_false] at hnmm
                    rcases hnmm with rfl | rfl | rfl | rfl | rfl | rfl
                    · decide
                    · decide
                    · exact absurd (show ((123 : Int) == 123) = false from hb) (by decide)
                    · exact absurd (show ((123 : Int) == 123) = false from hb) (by decide)
                    · decide
                    · decide
                · have hal := heap_alloc_new Wi (.cells #[.string ⟨#[123, 112, 48, 125]⟩, .string ⟨#[123, 112, 49, 125]⟩, .string ⟨#[123, 112, 50, 125]⟩] 9)
                  have hrwA := (Below.heap_alloc Wi (.cells #[.string ⟨#[123, 112, 48, 125]⟩, .string ⟨#[123, 112, 49, 125]⟩, .string ⟨#[123, 112, 50, 125]⟩] 9) _ (Array.getElem?_eq_some_iff.1 HRW.out).1).trans HRW.out
                  have a0 := row_cell (cs := [.string ⟨#[123, 112, 48, 125]⟩, .string ⟨#[123, 112, 49, 125]⟩, .string ⟨#[123, 112, 50, 125]⟩]) hal 0
                  have a1 := row_cell (cs := [.string ⟨#[123, 112, 48, 125]⟩, .string ⟨#[123, 112, 49, 125]⟩, .string ⟨#[123, 112, 50, 125]⟩]) hal 1
                  have a2 := row_cell (cs := [.string ⟨#[123, 112, 48, 125]⟩, .string ⟨#[123, 112, 49, 125]⟩, .string ⟨#[123, 112, 50, 125]⟩]) hal 2
                  simp only [List.getElem?_cons_zero, List.getElem?_cons_succ] at a0 a1 a2
                  have p0 := row_cell (cs := [_, _, _]) hrwA 0
                  simp only [List.getElem?_cons_zero] at p0
                  obtain ⟨n, hn⟩ : ∃ n, S.length = n := ⟨_, rfl⟩
                  rw [hn] at p0
                  have hn2 : n = 0 ∨ n = 1 ∨ n = 2 := by omega
                  clear hal hrwA p1 p2 hn
                  rcases hn2 with rfl | rfl | rfl
                  all_goals
                    go_wp2_with fail
                    go_meet
                    case rel => exact ⟨_, by decide, rfl, (Below.refl _ _).alloc (Nat.le_refl _) _⟩
              case rest =>
                obtain ⟨s, hss, rfl, hbs⟩ := hcut
                have hrw2 := (hbs.block _ (Array.getElem?_eq_some_iff.1 HRW.out).1).trans HRW.out
                have how2 := HOW.out.below hbs (Nat.le_refl _)
                have p0 := row_cell (cs := [_, _, _]) hrw2 0
                simp only [List.getElem?_cons_zero] at p0
                have HRW2 := Lib.hid hrw2
                have HOW2 := Lib.hid how2
                have hbw2 := hbw.trans (hbs.mono hbw.size)
                have hzz : Wo.heap.size + 1 ≤ wc.heap.size := (Array.getElem?_eq_some_iff.1 hrw2).1
                obtain ⟨sb, hsb⟩ : ∃ sb, ((bs s).toList == [42]) = sb := ⟨_, rfl⟩
                clear hrw2 how2 p1 p2 hb hs0
                go_wp2_with (at_builtin; go_must (refine wpList_append_owns _ rfl _ _ 33 rfl (Wo.heap.size + 1) 9 j0 (.string ⟨#[]⟩) 1 16 Try.underlying33 hj hy0 hy1 hy2 rfl (by decide) _ S.length (S.map sv) rfl (HOW2.out.alloc _) _ 1 1 [sv s] rfl (Rd.one _ 9 _) (by simp [sv, Value.oneCell']) (by simp only [maxLen]; omega) (by omega) (by simp; omega) ?_); intro v9 w9 hown hgrow; obtain ⟨sa9, sc9, rfl, _, _, _⟩ := hown.form; have hlt9 := HRW2.out; have hrw9 := (hgrow.block _ (by simp; omega) (fun e => by have := (HOW2.out.lt _ e.symm).1; omega)).trans ((Below.heap_alloc wc (.cells #[.string (bs s)] 9) _ (by omega)).trans HRW2.out); have r0 := row_cell (cs := [.slice sa S.length sc, .int .i64 1, .string ⟨#[]⟩]) hrw9 0; have f0 := row_frozen (cs := [.slice sa S.length sc, .int .i64 1, .string ⟨#[]⟩]) hrw9 0; simp only [List.getElem?_cons_zero] at r0; have HRW9 := Lib.hid hrw9; clear hrw9 hlt9)
                all_goals
                  have hset := set_row (cs := [.slice sa S.length sc, .int .i64 1, .string ⟨#[]⟩]) HRW9.out 0 (.slice sa9 (S.length + 1) sc9)
                  have hownS := Owns.setOther hown (p := ⟨Wo.heap.size, 0, none⟩) (fun k e => by have := (hown.lt k e).1; show k ≠ Wo.heap.size; omega) (.slice sa9 (S.length + 1) sc9)
                  have hbS := (((hbw2.alloc hbw2.size (.cells #[.string (bs s)] 9)).grown hgrow (by have := hbw2.size; simp; omega) (fun k e => by have := (HOW2.out.lt k e).1; omega)).setCell (p := ⟨Wo.heap.size, 0, none⟩) (Nat.le_refl _) (.slice sa9 (S.length + 1) sc9))
                  have hlS : (S ++ [s]).length = S.length + 1 := by simp
                  have hsS : ∀ x ∈ S ++ [s], x ∈ segSet := fun x hx => by
                    rcases List.mem_append.1 hx with hx | hx
                    · exact HSEG.out x hx
                    · rw [List.mem_singleton.1 hx]; exact hss
                · go_meet
                  case rel =>
                    refine ⟨S ++ [s], sa9, sc9, ⟨by rw [hlS]; omega, hsS⟩, ?_, ?_, hbS⟩
                    · rw [hlS]; exact hset
                    · rw [hlS, List.map_append]; exact hownS
                · go_roundg g2
                  case measure => omega
                  case rel =>
                    refine ⟨D, S ++ [s], sa9, sc9, by rw [HWD.out], HDQ.out, by go_num, by rw [hlS]; omega, hsS, ?_, ?_, hbS⟩
                    · rw [hlS]; exact hset
                    · rw [hlS, List.map_append]; exact hownS
        case rest =>
          obtain ⟨S, sa, sc, hS, hrow, hown, hbw⟩ := hcut
          obtain ⟨Wc, rfl⟩ : ∃ W, W = wc := ⟨_, rfl⟩
          have hbC := hbl.trans (hbw.mono hbl.size)
          have hsl := hbl.size
          have hsc : Wo.heap.size + 1 ≤ Wc.heap.size := (Array.getElem?_eq_some_iff.1 hrow).1
          have hrowC := hrow
          have hltC : Wo.heap.size < Wc.heap.size := by omega
          have hownC := hown
          have hOC := HO.out.below hbw (Nat.le_refl _)
          have hRtC := HRts.out.below hbw
          have hLs : ∀ r ∈ L, r.l.length ≤ 100 := fun r hr => by have := (hmk.segs r hr).1; omega
          have hshort : ∀ s ∈ S, s.length ≤ 100000 := fun s hs => by
            have := hS.2 s hs
            have hall : ∀ x ∈ segSet, x.length ≤ 100000 := by decide
            exact hall s this
          clear HROW HBO HOWN HBX
          go_upto_region 17 with fail
          go_cut [10, 11] from 81 (fun x y wN => ∃ (LX : List RtV) (a' : Option Addr) (c' : Nat), SameR LX L ∧ x = .slice a' (rhK (LX ++ [⟨sa, sc, S, 1, []⟩])).length c' ∧ y = .int .i64 (checkR (LX ++ [⟨sa, sc, S, 1, []⟩])).1 ∧ Below Wc.heap.size Wc wN)
          case first =>
            refine wp_region_noPanic ?_
            refine wp_region_held_drew (S := (fun W => W.cell? ⟨Wo.heap.size, 0, none⟩ = some (.slice sa S.length sc) ∧ W.cell? ⟨Wo.heap.size, 1, none⟩ = some (.int .i64 1) ∧ W.cell? ⟨Wo.heap.size, 2, none⟩ = some (.string ⟨#[]⟩))) (by kernel_rfl) ?_ (fun hH => ?_)
            · exact box_cells hrowC
            refine Reg.take (i := 0) (u := ?z1v) rfl rfl rfl (by kernel_rfl) (by kernel_rfl) (by kernel_rfl) hH ?z1y ?z1r
            case z1y => (intro w hSw; (try dsimp only at hSw); go_simp; try (with_reducible rfl))
            case' z1r => simp only [List.setIfInBounds_toArray, List.set_cons_zero, List.set_cons_succ]
            refine Reg.take (i := 2) (u := ?z2v) rfl rfl rfl (by kernel_rfl) (by kernel_rfl) (by kernel_rfl) hH ?z2y ?z2r
            case z2y => (intro w hSw; (try dsimp only at hSw); go_simp; try (with_reducible rfl))
            case' z2r => simp only [List.setIfInBounds_toArray, List.set_cons_zero, List.set_cons_succ]
            refine Reg.either (i := 1) (j := 3) rfl rfl (Reg.wanted_free rfl) (Reg.wanted_free rfl) (by kernel_rfl) (fun K hK => ?A) (fun K hK => ?B)
            case A =>
              have hdz : Wc.drew.heap.size = Wc.heap.size := rfl
              go_simp
              go_at_call 27
              refine (own_any va vc L _ (hRtC.below ((Below.refl _ Wc).drew)) (by omega) hLs).mono ?_
              rintro e w5 ⟨v5, L5, rfl, hO5, hsm5, h5⟩
              go_simp
              have hl5 : L5.length = L.length := by have := congrArg List.length hsm5; simpa using this
              have h5s : Wc.heap.size ≤ w5.heap.size := h5.size
              have hrow5 := (h5.block _ hltC).trans hrowC
              refine hK.out _ _ ?_ (fun hH2 => ?_)
              · exact box_cells hrow5
              clear hK hH
              have hH := hH2; clear hH2
              try simp only [Act.put, List.setIfInBounds_toArray, List.set_cons_zero, List.set_cons_succ]
              refine Reg.only (i := 3) rfl (Reg.wanted_free rfl) (by kernel_rfl) (fun K hK => ?_)
              go_simp
              refine hK.out _ _ ?_ (fun hH2 => ?_)
              · exact box_cells ((Below.heap_alloc w5 (.cells #[.slice sa S.length sc, .int .i64 1, .string ⟨#[]⟩] 35) _ (by omega)).trans hrow5)
              clear hK hH
              have hH := hH2; clear hH2
              try simp only [Act.put, List.setIfInBounds_toArray, List.set_cons_zero, List.set_cons_succ]
              have hOW5 := RtsOwn.alloc hO5 (.cells #[.slice sa S.length sc, .int .i64 1, .string ⟨#[]⟩] 35)
              have hOA := hOW5.mono (base' := w.heap.size) (by show w.heap.size ≤ Wc.heap.size; omega)
              have hRA : ROwn (w5.alloc (.cells #[.slice sa S.length sc, .int .i64 1, .string ⟨#[]⟩] 35)) w.heap.size ⟨sa, sc, S, 1, []⟩ := ⟨(((Owns.drew hownC).below h5 (Nat.le_refl _)).alloc _).mono (by omega), hshort, by simp⟩
              have hrowA := (Below.heap_alloc w5 (.cells #[.slice sa S.length sc, .int .i64 1, .string ⟨#[]⟩] 35) _ (by omega)).trans hrow5
              have hRdA : Rd (w5.alloc (.cells #[.slice sa S.length sc, .int .i64 1, .string ⟨#[]⟩] 35)) 3 (some ⟨w5.heap.size, 0, none⟩) 1 [.slice sa S.length sc, .int .i64 1, .string ⟨#[]⟩] := box3_new _ _ _ _ _
              have hbA : Below Wc.heap.size Wc (w5.alloc (.cells #[.slice sa S.length sc, .int .i64 1, .string ⟨#[]⟩] 35)) := ((Below.refl _ Wc).drew.trans h5).alloc h5s _
              have hzA : w5.heap.size < (w5.alloc (.cells #[.slice sa S.length sc, .int .i64 1, .string ⟨#[]⟩] 35)).heap.size := by simp
              obtain ⟨WA, hWA⟩ : ∃ W, W = w5.alloc (.cells #[.slice sa S.length sc, .int .i64 1, .string ⟨#[]⟩] 35) := ⟨_, rfl⟩
              rw [← hWA] at hOW5 hOA hRA hrowA hRdA hbA hzA ⊢
              clear hWA
              refine Reg.only (i := 4) rfl (Reg.wanted_free rfl) (by kernel_rfl) (fun K hK => ?_)
              refine wp_append_owns (o := _) _ _ _ 26 rfl w.heap.size 35 i0 (.agg #[.slice none 0 0, .int .i64 0, .string ⟨#[]⟩]) 3 48 Try.underlying26 hi hz0 hz1 hz2 rfl (by decide) _ L5.length (L5.flatMap RtV.cells) rfl hOA.row _ 1 1 [.slice sa S.length sc, .int .i64 1, .string ⟨#[]⟩] rfl hRdA (by simp [Value.oneCell']) (by simp only [maxLen]; omega) (by omega) (by omega) ?_
              intro v6 w6 hown6 hgrow6
              have hrow6 := (hgrow6.block _ (by omega) (fun e => by have := (hOW5.row.lt _ e.symm).1; omega)).trans hrowA
              have hRO := RtsOwn.grow (r := ⟨sa, sc, S, 1, []⟩) hOA hRA hown6 hgrow6
              have hbA6 := hbA.grown hgrow6 (by omega) (fun k e => by have := (hOW5.row.lt k e).1; omega)
              obtain ⟨a6, c6, e6, -, -, hR6⟩ := hRO.rts
              subst e6
              refine hK.out _ _ ?_ (fun hH2 => ?_)
              · exact box_cells hrow6
              clear hK hH
              have hH := hH2; clear hH2
              try simp only [Act.put, List.setIfInBounds_toArray, List.set_cons_zero, List.set_cons_succ]
              refine Reg.only (i := 5) rfl (Reg.wanted_free rfl) (by kernel_rfl) (fun K hK => ?_)
              go_simp
              have hlen6 : (L5 ++ [⟨sa, sc, S, 1, []⟩] : List RtV).length = L5.length + 1 := by simp
              have hrh := rHidden_any a6 c6 (L5 ++ [⟨sa, sc, S, 1, []⟩] : List RtV) w6 hR6 (by rw [hlen6]; omega)
              rw [hlen6, hl5] at hrh
              go_at_call 32
              refine hrh.mono ?_
              rintro e w7 ⟨a7, c7, rfl, -, -, -, h7⟩
              go_simp
              have hrow7 := (h7.block _ (Array.getElem?_eq_some_iff.1 hrow6).1).trans hrow6
              refine hK.out _ _ ?_ (fun hH2 => ?_)
              · exact box_cells hrow7
              clear hK hH
              have hH := hH2; clear hH2
              try simp only [Act.put, List.setIfInBounds_toArray, List.set_cons_zero, List.set_cons_succ]
              refine Reg.take (i := 6) (u := ?z3v) rfl rfl rfl (by kernel_rfl) (by kernel_rfl) (by kernel_rfl) hH ?z3y ?z3r
              case z3y => (intro w hSw; (try dsimp only at hSw); go_simp; try (with_reducible rfl))
              case' z3r => simp only [List.setIfInBounds_toArray, List.set_cons_zero, List.set_cons_succ]
              refine Reg.take (i := 7) (u := ?z4v) rfl rfl rfl (by kernel_rfl) (by kernel_rfl) (by kernel_rfl) hH ?z4y ?z4r
              case z4y => (intro w hSw; (try dsimp only at hSw); go_simp; try (with_reducible rfl))
              case' z4r => simp only [List.setIfInBounds_toArray, List.set_cons_zero, List.set_cons_succ]
              refine Reg.take (i := 8) (u := ?z5v) rfl rfl rfl (by kernel_rfl) (by kernel_rfl) (by kernel_rfl) hH ?z5y ?z5r
              case z5y => (intro w hSw; (try dsimp only at hSw); go_simp; try (with_reducible rfl))
              case' z5r => simp only [List.setIfInBounds_toArray, List.set_cons_zero, List.set_cons_succ]
              refine Reg.take (i := 9) (u := ?z6v) rfl rfl rfl (by kernel_rfl) (by kernel_rfl) (by kernel_rfl) hH ?z6y ?z6r
              case z6y => (intro w hSw; (try dsimp only at hSw); go_simp; try (with_reducible rfl))
              case' z6r => simp only [List.setIfInBounds_toArray, List.set_cons_zero, List.set_cons_succ]
              refine Reg.take (i := 10) (u := ?z7v) rfl rfl rfl (by kernel_rfl) (by kernel_rfl) (by kernel_rfl) hH ?z7y ?z7r
              case z7y => (intro w hSw; (try dsimp only at hSw); go_simp; try (with_reducible rfl))
              case' z7r => simp only [List.setIfInBounds_toArray, List.set_cons_zero, List.set_cons_succ]
              refine wpAnyH_done (by kernel_rfl) ?_ _
              refine NoPanic.normal ?_
              go_wp2_with fail
              go_meet
              case rel => exact ⟨L5, a7, c7, hsm5, rfl, rfl, hbA6.trans (h7.mono hbA6.size)⟩
            case B =>
              go_simp
              refine hK.out _ _ ?_ (fun hH2 => ?_)
              · exact box_cells ((Below.heap_alloc Wc.drew (.cells #[.slice sa S.length sc, .int .i64 1, .string ⟨#[]⟩] 35) _ hltC).trans hrowC)
              clear hK hH
              have hH := hH2; clear hH2
              try simp only [Act.put, List.setIfInBounds_toArray, List.set_cons_zero, List.set_cons_succ]
              have hbB : Below Wc.heap.size Wc (Wc.alloc (.cells #[.slice sa S.length sc, .int .i64 1, .string ⟨#[]⟩] 35)).drew := ((Below.refl _ Wc).alloc (Nat.le_refl _) _).drew
              have hrowB : (Wc.alloc (.cells #[.slice sa S.length sc, .int .i64 1, .string ⟨#[]⟩] 35)).drew.heap[Wo.heap.size]? = _ := (Below.heap_alloc Wc (.cells #[.slice sa S.length sc, .int .i64 1, .string ⟨#[]⟩] 35) _ hltC).trans hrowC
              have hRdB : Rd (Wc.alloc (.cells #[.slice sa S.length sc, .int .i64 1, .string ⟨#[]⟩] 35)).drew 3 (some ⟨Wc.heap.size, 0, none⟩) 1 [.slice sa S.length sc, .int .i64 1, .string ⟨#[]⟩] := Rd.drew (box3_new Wc _ _ _ _)
              have hownB : Owns (Wc.alloc (.cells #[.slice sa S.length sc, .int .i64 1, .string ⟨#[]⟩] 35)).drew (Wo.heap.size + 1) 9 1 (.slice sa S.length sc) S.length (S.map sv) := Owns.drew (hownC.alloc _)
              have hzB : (Wc.alloc (.cells #[.slice sa S.length sc, .int .i64 1, .string ⟨#[]⟩] 35)).drew.heap.size = Wc.heap.size + 1 := by show (Wc.alloc _).heap.size = _; simp
              obtain ⟨WB, hWB⟩ : ∃ W, W = (Wc.alloc (.cells #[.slice sa S.length sc, .int .i64 1, .string ⟨#[]⟩] 35)).drew := ⟨_, rfl⟩
              rw [← hWB] at hbB hrowB hRdB hownB hzB hH ⊢
              clear hWB
              refine Reg.only (i := 1) rfl (Reg.wanted_free rfl) (by kernel_rfl) (fun K hK => ?_)
              go_simp
              go_at_call 27
              refine (own_any va vc L _ (hRtC.below hbB) (by omega) hLs).mono ?_
              rintro e w5 ⟨v5, L5, rfl, hO5, hsm5, h5⟩
              go_simp
              have hl5 : L5.length = L.length := by have := congrArg List.length hsm5; simpa using this
              have h5s : WB.heap.size ≤ w5.heap.size := h5.size
              have hrow5 := (h5.block _ (by omega)).trans hrowB
              refine hK.out _ _ ?_ (fun hH2 => ?_)
              · exact box_cells hrow5
              clear hK hH
              have hH := hH2; clear hH2
              try simp only [Act.put, List.setIfInBounds_toArray, List.set_cons_zero, List.set_cons_succ]
              have hOW5 := hO5
              have hOA := hOW5.mono (base' := w.heap.size) (by omega)
              have hRA : ROwn w5 w.heap.size ⟨sa, sc, S, 1, []⟩ := ⟨(hownB.below h5 (Nat.le_refl _)).mono (by omega), hshort, by simp⟩
              have hrowA := hrow5
              have hRdA := Rd.below hRdB h5
              have hbA := hbB.trans (h5.mono hbB.size)
              have hzA : Wc.heap.size < w5.heap.size := by omega
              obtain ⟨WA, hWA⟩ : ∃ W, W = w5 := ⟨_, rfl⟩
              rw [← hWA] at hOW5 hOA hRA hrowA hRdA hbA hzA ⊢
              clear hWA
              refine Reg.only (i := 4) rfl (Reg.wanted_free rfl) (by kernel_rfl) (fun K hK => ?_)
              refine wp_append_owns (o := _) _ _ _ 26 rfl w.heap.size 35 i0 (.agg #[.slice none 0 0, .int .i64 0, .string ⟨#[]⟩]) 3 48 Try.underlying26 hi hz0 hz1 hz2 rfl (by decide) _ L5.length (L5.flatMap RtV.cells) rfl hOA.row _ 1 1 [.slice sa S.length sc, .int .i64 1, .string ⟨#[]⟩] rfl hRdA (by simp [Value.oneCell']) (by simp only [maxLen]; omega) (by omega) (by omega) ?_
              intro v6 w6 hown6 hgrow6
              have hrow6 := (hgrow6.block _ (by omega) (fun e => by have := (hOW5.row.lt _ e.symm).1; omega)).trans hrowA
              have hRO := RtsOwn.grow (r := ⟨sa, sc, S, 1, []⟩) hOA hRA hown6 hgrow6
              have hbA6 := hbA.grown hgrow6 (by omega) (fun k e => by have := (hOW5.row.lt k e).1; omega)
              obtain ⟨a6, c6, e6, -, -, hR6⟩ := hRO.rts
              subst e6
              refine hK.out _ _ ?_ (fun hH2 => ?_)
              · exact box_cells hrow6
              clear hK hH
              have hH := hH2; clear hH2
              try simp only [Act.put, List.setIfInBounds_toArray, List.set_cons_zero, List.set_cons_succ]
              refine Reg.only (i := 5) rfl (Reg.wanted_free rfl) (by kernel_rfl) (fun K hK => ?_)
              go_simp
              have hlen6 : (L5 ++ [⟨sa, sc, S, 1, []⟩] : List RtV).length = L5.length + 1 := by simp
              have hrh := rHidden_any a6 c6 (L5 ++ [⟨sa, sc, S, 1, []⟩] : List RtV) w6 hR6 (by rw [hlen6]; omega)
              rw [hlen6, hl5] at hrh
              go_at_call 32
              refine hrh.mono ?_
              rintro e w7 ⟨a7, c7, rfl, -, -, -, h7⟩
              go_simp
              have hrow7 := (h7.block _ (Array.getElem?_eq_some_iff.1 hrow6).1).trans hrow6
              refine hK.out _ _ ?_ (fun hH2 => ?_)
              · exact box_cells hrow7
              clear hK hH
              have hH := hH2; clear hH2
              try simp only [Act.put, List.setIfInBounds_toArray, List.set_cons_zero, List.set_cons_succ]
              refine Reg.take (i := 6) (u := ?z8v) rfl rfl rfl (by kernel_rfl) (by kernel_rfl) (by kernel_rfl) hH ?z8y ?z8r
              case z8y => (intro w hSw; (try dsimp only at hSw); go_simp; try (with_reducible rfl))
              case' z8r => simp only [List.setIfInBounds_toArray, List.set_cons_zero, List.set_cons_succ]
              refine Reg.take (i := 7) (u := ?z9v) rfl rfl rfl (by kernel_rfl) (by kernel_rfl) (by kernel_rfl) hH ?z9y ?z9r
              case z9y => (intro w hSw; (try dsimp only at hSw); go_simp; try (with_reducible rfl))
              case' z9r => simp only [List.setIfInBounds_toArray, List.set_cons_zero, List.set_cons_succ]
              refine Reg.take (i := 8) (u := ?z10v) rfl rfl rfl (by kernel_rfl) (by kernel_rfl) (by kernel_rfl) hH ?z10y ?z10r
              case z10y => (intro w hSw; (try dsimp only at hSw); go_simp; try (with_reducible rfl))
              case' z10r => simp only [List.setIfInBounds_toArray, List.set_cons_zero, List.set_cons_succ]
              refine Reg.take (i := 9) (u := ?z11v) rfl rfl rfl (by kernel_rfl) (by kernel_rfl) (by kernel_rfl) hH ?z11y ?z11r
              case z11y => (intro w hSw; (try dsimp only at hSw); go_simp; try (with_reducible rfl))
              case' z11r => simp only [List.setIfInBounds_toArray, List.set_cons_zero, List.set_cons_succ]
              refine Reg.take (i := 10) (u := ?z12v) rfl rfl rfl (by kernel_rfl) (by kernel_rfl) (by kernel_rfl) hH ?z12y ?z12r
              case z12y => (intro w hSw; (try dsimp only at hSw); go_simp; try (with_reducible rfl))
              case' z12r => simp only [List.setIfInBounds_toArray, List.set_cons_zero, List.set_cons_succ]
              refine wpAnyH_done (by kernel_rfl) ?_ _
              refine NoPanic.normal ?_
              go_wp2_with fail
              go_meet
              case rel => exact ⟨L5, a7, c7, hsm5, rfl, rfl, hbA6.trans (h7.mono hbA6.size)⟩
          case rest =>
            obtain ⟨LX, a', c', hsx, rfl, rfl, hbN⟩ := hcut
            have hrowN := (hbN.block _ hltC).trans hrowC
            have hOwnN := hownC.below hbN (Nat.le_refl _)
            have hON := hOC.below hbN (Nat.le_refl _)
            have hbCN := hbC.trans (hbN.mono hbC.size)
            have hnmN := (hbN.block _ (by have := (Array.getElem?_eq_some_iff.1 hnm).1; omega)).trans ((hbw.block _ (Array.getElem?_eq_some_iff.1 hnm).1).trans hnm)
            have hzN := hbCN.size
            obtain ⟨p0, p1, p2⟩ := box_cells hrowN
            obtain ⟨E, hE⟩ : ∃ E, (checkR (LX ++ [⟨sa, sc, S, 1, []⟩])).1 = E := ⟨_, rfl⟩
            obtain ⟨n9, hn9⟩ : ∃ n, (rhK (LX ++ [⟨sa, sc, S, 1, []⟩])).length = n := ⟨_, rfl⟩
            rw [hE, hn9]
            have HON := Lib.hid hON
            have HROWN := Lib.hid hrowN
            have HNM := Lib.hid hnmN
            have HE := Lib.hid hE
            have HN9 := Lib.hid hn9
            have HSX := Lib.hid hsx
            clear hON hrowN hnmN hE hn9 hsx hOC hRtC hrow hown hnm
            by_cases hE0 : E = 0
            · have e0 : (E == 0) = true := by rw [hE0]; rfl
              by_cases hn0 : n9 = 0
              · have e1 : ((n9 : Int) == 0) = true := by rw [hn0]; rfl
                have hmkN : Mk (L ++ [⟨sa, sc, S, 1, []⟩]) := mk_next hmk HSX.out h8 hS rfl rfl (by rw [HE.out, hE0]) (by rw [HN9.out, hn0])
                clear hE0 hn0
                go_wp2_with (at_builtin; go_must (refine wpList_append_owns _ rfl _ _ 26 rfl w.heap.size 35 i0 (.agg #[.slice none 0 0, .int .i64 0, .string ⟨#[]⟩]) 3 48 Try.underlying26 hi hz0 hz1 hz2 rfl (by decide) _ L.length (L.flatMap RtV.cells) rfl (HON.out.row.alloc _) _ 1 1 [.slice sa S.length sc, .int .i64 1, .string ⟨#[]⟩] rfl (box3_at _ _ _ _ _ _ (by simp)) (by simp [Value.oneCell']) (by simp only [maxLen]; omega) (by omega) (by simp; omega) ?_); intro v9 w9 hown9 hgrow9)
                go_roundg g'
                case measure => omega
                case rel =>
                  have hR9 : ROwn (wc.alloc (.cells #[.slice sa S.length sc, .int .i64 1, .string ⟨#[]⟩] 35)) w.heap.size ⟨sa, sc, S, 1, []⟩ := ⟨(hOwnN.alloc _).mono (by omega), hshort, by simp⟩
                  have hO9 := RtsOwn.alloc HON.out (.cells #[.slice sa S.length sc, .int .i64 1, .string ⟨#[]⟩] 35)
                  refine ⟨k + 1, L ++ [⟨sa, sc, S, 1, []⟩], by go_num, by omega, RtsOwn.grow (r := ⟨sa, sc, S, 1, []⟩) hO9 hR9 hown9 hgrow9, hmkN, (hbCN.alloc hzN _).grown hgrow9 (by simp; omega) (fun j e => (hO9.row.lt j e).1), ?_⟩
                  exact (hgrow9.block _ (by simp; have := (Array.getElem?_eq_some_iff.1 HNM.out).1; omega) (fun e => own_not_names HO.out hnmO e.symm)).trans ((Below.heap_alloc _ _ _ (Array.getElem?_eq_some_iff.1 HNM.out).1).trans HNM.out)
              · have e1 : ((n9 : Int) == 0) = false := by rw [beq_eq_false_iff_ne]; omega
                clear hn0 hE0
                go_wp2_with fail
                go_roundg g'
                case measure => omega
                case rel => exact ⟨k + 1, L, by go_num, by omega, HON.out, hmk, hbCN, HNM.out⟩
            · have e0 : (E == 0) = false := by rw [beq_eq_false_iff_ne]; exact hE0
              clear hE0
              go_wp2_with fail
              go_roundg g'
              case measure => omega
              case rel => exact ⟨k + 1, L, by go_num, by omega, HON.out, hmk, hbCN, HNM.out⟩
      · have i0' : (0 : Int) ≤ (k : Int) := by omega
        have i1 : (k : Int) < (l.length : Int) := by omega
        have i8 : ¬ (L.length : Int) < 8 := by omega
        go_wp2_with fail
        rw [HPe.out]
        exact ⟨_, L, rfl, HO.out, hmk, hbl⟩
    · have i1 : ¬ (k : Int) < (l.length : Int) := by omega
      go_wp2_with fail
      rw [HPe.out]
      exact ⟨_, L, rfl, HO.out, hmk, hbl⟩
end Go.Proofs.Ytefilalapkdegaa
namespace Go.Proofs.Ytefilalapkdegaa
open Go.RowKit Str Mem
set_option linter.unusedVariables false
set_option linter.unusedSimpArgs false

def ltrs : List (List UInt8) := [[97], [98], [99], [100]]
theorem path_end {S : List (List UInt8)} (hn : ∀ s ∈ S, s ∈ ltrs) (hl : S.length ≤ 4) (op : Bool) : Dots.normal (Dots.built S op) = true := by
  have hN : Dots.Names S := fun s hs => by
    have : ∀ x ∈ ltrs, Dots.name x = true := by decide
    exact this s (hn s hs)
  rw [Dots.normal_built hN]
  have hb : (Dots.body S).length ≤ S.length * 2 := by
    clear hN hl
    induction S with
    | nil => simp [Dots.body]
    | cons s S ih =>
      have h1 := ih (fun x hx => hn x (by simp [hx]))
      have h2 : s.length = 1 := by
        have : ∀ x ∈ ltrs, x.length = 1 := by decide
        exact this s (hn s (by simp))
      rw [Dots.body_cons, List.length_cons, List.length_append, List.length_cons, h2]
      omega
  rw [decide_eq_true_eq]
  unfold Dots.built
  split
  · rw [List.length_append]; simp; omega
  · omega
theorem body2 {S : List (List UInt8)} (hn : ∀ s ∈ S, s ∈ ltrs) : (Dots.body S).length ≤ S.length * 2 := by
  induction S with
  | nil => simp [Dots.body]
  | cons s S ih =>
    have h1 := ih (fun x hx => hn x (by simp [hx]))
    have h2 : s.length = 1 := by
      have : ∀ x ∈ ltrs, x.length = 1 := by decide
      exact this s (hn s (by simp))
    rw [Dots.body_cons, List.length_cons, List.length_append, List.length_cons, h2]
    omega
theorem bs_snoc (l : List UInt8) : bs l ++ ⟨#[47]⟩ = bs (l ++ [47]) := by
  refine eq_of_data ?_
  rw [append_data, data_bs]
theorem body_next {S : List (List UInt8)} {A : List UInt8} : bs (Dots.body S) ++ ⟨#[47]⟩ ++ bs A = bs (Dots.body (S ++ [A])) := by
  rw [bs_snoc, bs_append, Dots.body_append]
  simp [Dots.body]
theorem ltr_cell (w : World) (j : Nat) (hj : j < 4) : ∃ A, A ∈ ltrs ∧ (w.alloc (.cells #[.string ⟨#[97]⟩, .string ⟨#[98]⟩, .string ⟨#[99]⟩, .string ⟨#[100]⟩] 9)).cell? ⟨w.heap.size, j, none⟩ = some (.string (bs A)) := by
  have hal := heap_alloc_new w (.cells #[.string ⟨#[97]⟩, .string ⟨#[98]⟩, .string ⟨#[99]⟩, .string ⟨#[100]⟩] 9)
  have hc := row_cell (cs := [.string ⟨#[97]⟩, .string ⟨#[98]⟩, .string ⟨#[99]⟩, .string ⟨#[100]⟩]) hal j
  rcases (by omega : j = 0 ∨ j = 1 ∨ j = 2 ∨ j = 3) with rfl | rfl | rfl | rfl
  · exact ⟨[97], by decide, hc⟩
  · exact ⟨[98], by decide, hc⟩
  · exact ⟨[99], by decide, hc⟩
  · exact ⟨[100], by decide, hc⟩
set_option maxRecDepth 100000 in
set_option maxHeartbeats 8000000 in
theorem pathN_any (n : Int) (w : World) : Calls Try.prog 19 #[.int .i64 n] w fun e w' => ∃ p, e = .returned (.string (bs p)) ∧ Dots.normal p = true ∧ Below w.heap.size w w' := by
  have hmd := fun W => kitMod_any n 1073741824 W (by omega) (by omega)
  have hr1 := Int.emod_nonneg n (show (1073741824 : Int) ≠ 0 by omega)
  have hr2 := Int.emod_lt_of_pos n (show (0 : Int) < 1073741824 by omega)
  obtain ⟨K, hK⟩ : ∃ K : Nat, n % 1073741824 = (K : Int) := ⟨(n % 1073741824).toNat, by omega⟩
  rw [hK] at hmd hr2
  clear hK hr1
  obtain ⟨m5, hm5⟩ : ∃ m : Nat, (K : Int) % 5 = (m : Int) := ⟨K % 5, by omega⟩
  have hm4 : m5 ≤ 4 := by omega
  go_enter Try.func19, Try.ntmps19
  go_wp2_with fail
  refine (hmd _).mono ?_
  rintro e1 w1 ⟨rfl, rfl⟩
  clear hmd
  go_wp2_with fail
  go_loopg [4, 5] m5 (fun g sv iv W => ∃ S : List (List UInt8), (∀ s ∈ S, s ∈ ltrs) ∧ sv = .string (bs (Dots.body S)) ∧ iv = .int .i64 (S.length : Nat) ∧ S.length + g = m5 ∧ Below w.heap.size w W)
  case atStart => exact ⟨[], by simp, rfl, rfl, by simp, Below.refl _ _⟩
  case round =>
    obtain ⟨S, hS, rfl, rfl, hg, hbl⟩ := hrel
    have hsz := hbl.size
    by_cases hlt : S.length < m5
    · obtain ⟨g', rfl⟩ : ∃ g', gk = g' + 1 := ⟨gk - 1, by omega⟩
      obtain ⟨i, hi⟩ : ∃ i, S.length = i := ⟨_, rfl⟩
      rw [hi]
      rw [hi] at hlt hg
      have hi4 : i < 4 := by omega
      have i1 : (i : Int) < (m5 : Int) := by omega
      have HI := Lib.hid hi
      clear hi
      obtain ⟨D, hD⟩ : ∃ D : Nat, K / 5 = D := ⟨_, rfl⟩
      have eD : wrap64 ((K : Int) / 5) = (D : Int) := by unfold wrap64; omega
      have hbd := body2 hS
      rw [HI.out] at hbd
      have hl0 : ¬ (9223372036854775807 < (Dots.body S).length + 1) := by omega
      have hl2 : ∀ A : List UInt8, A ∈ ltrs → ¬ (9223372036854775807 < (Dots.body S).length + 1 + A.length) := fun A hA => by
        have h2 : A.length = 1 := by
          have : ∀ x ∈ ltrs, x.length = 1 := by decide
          exact this A hA
        omega
      have HL2 := Lib.hid hl2
      clear hl2
      have HG := Lib.hid hg
      have HBL := Lib.hid hbl
      have hik : (i : Int) < (K : Int) % 5 := by omega
      clear hm5 hm4 hlt hr2 hsz hg hD hbd i1 hbl
      rcases (by omega : i = 0 ∨ i = 1 ∨ i = 2 ∨ i = 3) with rfl | rfl | rfl | rfl
      · have hik : (0 : Int) < (K : Int) % 5 := hik
        obtain ⟨A, hA, hcell⟩ := ltr_cell wr (D % 4) (Nat.mod_lt _ (by decide))
        have hl1 := HL2.out A hA
        clear hi4
        go_wp2_with fail
        go_roundg g'
        case measure => omega
        case rel =>
          have hsn : (S ++ [A]).length = 1 := by have := HI.out; simp [this]
          refine ⟨S ++ [A], fun s hs => ?_, by rw [body_next], by rw [hsn]; rfl, by rw [hsn]; have := HG.out; omega, HBL.out.alloc HBL.out.size _⟩
          rcases List.mem_append.1 hs with hs | hs
          · exact hS s hs
          · rw [List.mem_singleton.1 hs]; exact hA
      · have hik : (1 : Int) < (K : Int) % 5 := hik
        have hfd : Int.fdiv (D : Int) 4 = (D : Int) / 4 := Int.fdiv_eq_ediv_of_nonneg _ (by decide)
        obtain ⟨A, hA, hcell⟩ := ltr_cell wr (D / 4 % 4) (Nat.mod_lt _ (by decide))
        have hl1 := HL2.out A hA
        clear hi4
        go_wp2_with fail
        go_roundg g'
        case measure => omega
        case rel =>
          have hsn : (S ++ [A]).length = 2 := by have := HI.out; simp [this]
          refine ⟨S ++ [A], fun s hs => ?_, by rw [body_next], by rw [hsn]; rfl, by rw [hsn]; have := HG.out; omega, HBL.out.alloc HBL.out.size _⟩
          rcases List.mem_append.1 hs with hs | hs
          · exact hS s hs
          · rw [List.mem_singleton.1 hs]; exact hA
      · have hik : (2 : Int) < (K : Int) % 5 := hik
        have hfd : Int.fdiv (D : Int) 16 = (D : Int) / 16 := Int.fdiv_eq_ediv_of_nonneg _ (by decide)
        obtain ⟨A, hA, hcell⟩ := ltr_cell wr (D / 16 % 4) (Nat.mod_lt _ (by decide))
        have hl1 := HL2.out A hA
        clear hi4
        go_wp2_with fail
        go_roundg g'
        case measure => omega
        case rel =>
          have hsn : (S ++ [A]).length = 3 := by have := HI.out; simp [this]
          refine ⟨S ++ [A], fun s hs => ?_, by rw [body_next], by rw [hsn]; rfl, by rw [hsn]; have := HG.out; omega, HBL.out.alloc HBL.out.size _⟩
          rcases List.mem_append.1 hs with hs | hs
          · exact hS s hs
          · rw [List.mem_singleton.1 hs]; exact hA
      · have hik : (3 : Int) < (K : Int) % 5 := hik
        have hfd : Int.fdiv (D : Int) 64 = (D : Int) / 64 := Int.fdiv_eq_ediv_of_nonneg _ (by decide)
        obtain ⟨A, hA, hcell⟩ := ltr_cell wr (D / 64 % 4) (Nat.mod_lt _ (by decide))
        have hl1 := HL2.out A hA
        clear hi4
        go_wp2_with fail
        go_roundg g'
        case measure => omega
        case rel =>
          have hsn : (S ++ [A]).length = 4 := by have := HI.out; simp [this]
          refine ⟨S ++ [A], fun s hs => ?_, by rw [body_next], by rw [hsn]; rfl, by rw [hsn]; have := HG.out; omega, HBL.out.alloc HBL.out.size _⟩
          rcases List.mem_append.1 hs with hs | hs
          · exact hS s hs
          · rw [List.mem_singleton.1 hs]; exact hA
    · have hk : S.length = m5 := by omega
      have hik : ¬ ((S.length : Nat) : Int) < (K : Int) % 5 := by omega
      have hbd := body2 hS
      have hl0 : ¬ (9223372036854775807 < (Dots.body S).length + 1) := by omega
      have hS4 : S.length ≤ 4 := by omega
      have h1 := path_end hS hS4 true
      have h2 := path_end hS hS4 false
      have e1 : Dots.built S true = Dots.body S ++ [47] := by unfold Dots.built; simp
      have e2 : (Dots.body S).isEmpty = false → Dots.built S false = Dots.body S := fun h => by
        unfold Dots.built
        rcases hb : Dots.body S with _ | ⟨c, t⟩
        · rw [hb] at h; cases h
        · simp
      rw [e1] at h1
      obtain ⟨c1, hc1⟩ : ∃ c, (Dots.body S).isEmpty = c := ⟨_, rfl⟩
      obtain ⟨c2, hc2⟩ : ∃ c, ((wrap64 ((K : Int) / 5000)).tmod 4 == 0) = c := ⟨_, rfl⟩
      have H1 := Lib.hid h1
      have H2 := Lib.hid h2
      have E2 := Lib.hid e2
      have HBL := Lib.hid hbl
      have HC1 := Lib.hid hc1
      clear hm5 hm4 hlt hr2 hsz hbd hk hS4 h1 h2 e1 e2 hbl
      rcases c1 with _ | _
      · rcases c2 with _ | _
        · go_wp2_with fail
          go_ret
          exact ⟨Dots.body S, rfl, by rw [← E2.out HC1.out]; exact H2.out, HBL.out⟩
        · go_wp2_with fail
          go_ret
          exact ⟨Dots.body S ++ [47], rfl, H1.out, HBL.out⟩
      · go_wp2_with fail
        go_ret
        exact ⟨Dots.body S ++ [47], rfl, H1.out, HBL.out⟩
end Go.Proofs.Ytefilalapkdegaa
