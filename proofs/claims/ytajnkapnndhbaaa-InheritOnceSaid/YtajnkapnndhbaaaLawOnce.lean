/- The statement InheritOnce, walked: it returns true. -/
import Derived.Test.YtajnkapnndhbaaaMadeFacts
import Derived.Test.YtajnkapnndhbaaaInhRefChain
import Derived.Test.YtajnkapnndhbaaaInhOrder
import Derived.Deep.DeepCutAuto
namespace Go.Proofs.Ytajnkapnndhbaaa
open Go.RowKit Str Mem
set_option linter.unusedVariables false
set_option linter.unusedSimpArgs false

theorem rules_ord {L : List DirV} (hc : Inh.check L = (0, 0)) (hs : Small L) {p : List UInt8} (hp : Dots.normal p = true) : ∃ S, Inh.rulesR L p = (S, 0) ∧ Inh.Ord L S ∧ S.length ≤ 10400 := by
  have hval : Inh.Valid L := by unfold Inh.Valid; rw [hc]
  have hr := Inh.find_range L p
  have efind : Inh.findR L p = (Inh.some? (Inh.find L p), 0) := by unfold Inh.findR; rw [hc, hp]; rfl
  unfold Inh.rulesR
  rw [efind]
  simp only [if_true]
  by_cases hneg : Inh.find L p < 0
  · rw [show Inh.find L p = -1 by omega, some_neg]
    exact ⟨[], by simp, (Inh.ord_flat L [] (by simp) (by simp)).1, by simp⟩
  · obtain ⟨j, hj⟩ : ∃ j : Nat, Inh.find L p = j := ⟨(Inh.find L p).toNat, by omega⟩
    rw [hj, some_pos]
    exact ⟨_, by simp, Inh.set_ord hval (by omega), set_length hval hs j (by omega)⟩

theorem number_at {S : List Inh.Spot} (hn : S.Nodup) {i : Nat} {s : Inh.Spot} (h : S[i]? = some s) : numberOf (S, 0) s.1 s.2 = ((i : Int), 0) := by
  refine number_some (s := s) (fun j t hj ht => ?_) h (by simp [isAt])
  obtain ⟨hi, rfl⟩ := List.getElem?_eq_some_iff.1 h
  obtain ⟨hj', rfl⟩ := List.getElem?_eq_some_iff.1 ht
  unfold isAt
  rcases hx : ((((S[i]).1 : Nat) : Int) == ((S[j]).1 : Int)) with _ | _
  · rfl
  rcases hy : ((((S[i]).2 : Nat) : Int) == ((S[j]).2 : Int)) with _ | _
  · rfl
  · exfalso
    simp at hx hy
    have := List.pairwise_iff_getElem.1 (List.nodup_iff_pairwise_ne.1 hn) j i hj' hi hj
    exact this (Prod.ext (by omega) (by omega))

def OnI (w : World) (n : Nat) (i : Value) (wr : World) : Prop := ∃ k : Nat, i = .int .i64 k ∧ k ≤ n ∧ ∃ m, wr = w.drewN m

set_option maxRecDepth 20000 in
set_option maxHeartbeats 8000000 in
theorem lawOnce_any (a : Option Addr) (c : Nat) (l : List Int) (n : Int) (w : World) (h : Ints w a l.length l) :
    Calls Try.prog 6 #[.slice a l.length c, .int .i64 n] w fun e w' => e = .returned (.bool true) ∧ Below w.heap.size w w' := by
  have hk := fun w => lawInhKnown_any w
  have hmd := fun w h => made30_any a c l w h
  have hpt := fun w => path30_any n w
  have hpn := pPath_normal n
  have hps := pPath_short n
  obtain ⟨p, hp⟩ : ∃ p, p = pPath n := ⟨_, rfl⟩
  rw [← hp] at hpt hpn hps
  clear hp
  go_enter Try.func6, Try.ntmps6
  go_wp2_with fail
  refine (hk _).mono ?_
  rintro e w1 ⟨rfl, b1⟩
  go_wp2_with fail
  refine (hmd _ (h.below b1)).mono ?_
  rintro e w2 ⟨aL, cL, L, rfl, hkey, hLc, hcm, hdd, h2⟩
  have b2 := b1.trans (h2.mono b1.size)
  have hsm := made_small hkey
  have hchk := made_check hkey
  have hL7 := made_length hkey
  have D2 := hdd.dirs
  clear hkey hdd hmd hk
  go_wp2_with fail
  refine (hpt _).mono ?_
  rintro e w3 ⟨rfl, h3⟩
  have b3 := b2.trans (h3.mono b2.size)
  have D3 := Dirs.below D2 h3
  have kr := fun w hD => inhRules_any aL cL L p w hD hLc hsm (by omega)
  have ka := fun w hD => inhAll_any aL cL L w hD hLc hsm
  have kn := fun x y w hD => inhNumber_any aL cL L x y w hD hLc hsm
  obtain ⟨S, eS, oS, lS⟩ := rules_ord hchk hsm hpn
  have eA : Inh.allR L = (Inh.all L, 0) := by unfold Inh.allR; rw [hchk]; rfl
  have oA := Inh.all_ord L
  have lA := all_length hsm
  rw [eA] at ka lA kn
  rw [eS] at kr
  unfold SpotsPost at kr ka
  obtain ⟨A, hA⟩ : ∃ A, A = Inh.all L := ⟨_, rfl⟩
  rw [← hA] at ka oA lA kn
  have OS := Lib.hid oS
  have OA := Lib.hid oA
  have KN := Lib.hid kn
  clear eS eA hA hchk hpn oS oA kn hpt
  dsimp only at kr ka lA
  go_wp2_with fail
  refine (kr _ D3).mono ?_
  rintro e w4 ⟨aR, cR, rfl, rR, _, _, h4⟩
  have b4 := b3.trans (h4.mono b3.size)
  have D4 := Dirs.below D3 h4
  go_wp2_with fail
  refine (ka _ D4).mono ?_
  rintro e w5 ⟨aA, cA, rfl, rA, _, _, h5⟩
  have b5 := b4.trans (h5.mono b4.size)
  have D5 := Dirs.below D4 h5
  replace rR := rR.below h5
  have hcell : ∀ k, k < S.length → ∃ (rd : Addr) (s : Inh.Spot), aR = some rd ∧ S[k]? = some s ∧ w5.cell? (rd.add (k * 2)) = some (.int .i64 s.1) ∧ w5.cell? ⟨(rd.add (k * 2)).block, (rd.add (k * 2)).off + 1, none⟩ = some (.int .i64 s.2) := by
    intro k hk
    obtain ⟨rd, e, hb, hc⟩ := rR.get (by omega)
    have hs : S[k]? = some S[k] := List.getElem?_eq_getElem hk
    obtain ⟨g0, g1⟩ := scells_get S k _ hs
    exact ⟨rd, _, e, hs, hc _ _ g0, by rw [field_addr _ _ _ (by omega)]; exact hc _ _ g1⟩
  have hdir : ∀ x, x < L.length → ∃ (ad : Addr) (d : DirV), aL = some ad ∧ L[x]? = some d ∧ w5.cell? ⟨(ad.add (x * 3)).block, (ad.add (x * 3)).off + 2, none⟩ = some (.slice d.ra d.rn d.rc) := by
    intro x hx
    obtain ⟨ad, d, e, _, h1, h2, h3, h4⟩ := D5.fields hx
    exact ⟨ad, d, e, h1, h4⟩
  have HCELL := Lib.hid hcell
  have HDIR := Lib.hid hdir
  have D5 := Lib.hid D5
  have rA := Lib.hid rA
  have hrn : ∀ x, Inh.rnOf L x ≤ 80 := fun x => rn_small hsm x
  have HRN := Lib.hid hrn
  clear hrn hcell hdir kr ka rR D2 D3 D4 h2 h3 h4 h5 b1 b2 b3 b4 h hLc hcm hps hsm
  obtain ⟨m, hm⟩ : ∃ m, m = S.length := ⟨_, rfl⟩
  rw [← hm] at lS ⊢
  have HM := Lib.hid hm
  obtain ⟨q, hq⟩ : ∃ q, q = A.length := ⟨_, rfl⟩
  rw [← hq] at lA ⊢
  have HQ := Lib.hid hq
  clear hm hq
  go_wp2_with fail
  go_loopw [11, 12] (fun i k wr => OnI w5 m i wr) (fun i _ _ => m - (intOf i).toNat)
  case atStart => exact ⟨0, rfl, Nat.zero_le _, 0, rfl⟩
  case round =>
    obtain ⟨k, rfl, hkm, nn, rfl⟩ := hrel
    by_cases hlt : k < m
    · obtain ⟨rd, ⟨x, y⟩, rfl, hs, e0, e1⟩ := HCELL.out k (by rw [← HM.out]; exact hlt)
      have hxy := OS.out.lt _ (List.mem_of_getElem? hs)
      dsimp only at e0 e1 hxy
      obtain ⟨ad, d, rfl, hgx, r0⟩ := HDIR.out x hxy.1
      rw [Inh.rnOf_get hgx] at hxy
      have hd80 := HRN.out x
      rw [Inh.rnOf_get hgx] at hd80
      have hrnd := Inh.rnOf_get hgx
      obtain ⟨ra, rn, rc, e1d, e2d, e3d⟩ : ∃ ra rn rc, ra = d.ra ∧ rn = d.rn ∧ rc = d.rc := ⟨_, _, _, rfl, rfl, rfl⟩
      rw [← e1d, ← e2d, ← e3d] at r0
      rw [← e2d] at hxy hd80 hrnd
      have hx2 : (x : Int) < (L.length : Int) := by omega
      have hx2' : x < L.length := hxy.1
      have hx3 : (0 : Int) ≤ (x : Int) := by omega
      have hx1 : ¬ L.length ≤ x := by omega
      have hy1 : ¬ rn ≤ y := by omega
      have hk2 : (k : Int) < (m : Int) := by omega
      have hk3 : (0 : Int) ≤ (k : Int) := by omega
      have HS := Lib.hid hs
      have HR := Lib.hid hrnd
      have HXY := Lib.hid hxy
      clear hs hrnd e1d e2d e3d hxy hgx
      go_upto_region 10 with fail
      refine wp_region_noPanic ?_
      refine wp_region_held_drew (S := fun w' => w'.cell? (rd.add (k * 2)) = some (.int .i64 (x : Nat)) ∧ w'.cell? ⟨(rd.add (k * 2)).block, (rd.add (k * 2)).off + 1, none⟩ = some (.int .i64 (y : Nat)) ∧ w'.cell? ⟨(ad.add (x * 3)).block, (ad.add (x * 3)).off + 2, none⟩ = some (.slice ra rn rc)) (by kernel_rfl) ?_ (fun hH => ?_)
      · exact ⟨e0, e1, r0⟩
      refine Reg.take (i := 0) (u := ?b1_v0) rfl rfl rfl (by kernel_rfl) (by kernel_rfl) (by kernel_rfl) hH ?b1_y0 ?b1_r0
      case b1_y0 => (intro w hSw; (try dsimp only at hSw); go_simp; try (with_reducible rfl))
      case' b1_r0 => simp only [List.setIfInBounds_toArray, List.set_cons_zero, List.set_cons_succ]
      refine Reg.take (i := 1) (u := ?b1_v1) rfl rfl rfl (by kernel_rfl) (by kernel_rfl) (by kernel_rfl) hH ?b1_y1 ?b1_r1
      case b1_y1 => (intro w hSw; (try dsimp only at hSw); go_simp; try (with_reducible rfl))
      case' b1_r1 => simp only [List.setIfInBounds_toArray, List.set_cons_zero, List.set_cons_succ]
      refine Reg.take (i := 2) (u := ?b1_v2) rfl rfl rfl (by kernel_rfl) (by kernel_rfl) (by kernel_rfl) hH ?b1_y2 ?b1_r2
      case b1_y2 => (intro w hSw; (try dsimp only at hSw); go_simp; try (with_reducible rfl))
      case' b1_r2 => simp only [List.setIfInBounds_toArray, List.set_cons_zero, List.set_cons_succ]
      refine Reg.take (i := 3) (u := ?b1_v3) rfl rfl rfl (by kernel_rfl) (by kernel_rfl) (by kernel_rfl) hH ?b1_y3 ?b1_r3
      case b1_y3 => (intro w hSw; (try dsimp only at hSw); go_simp; try (with_reducible rfl))
      case' b1_r3 => simp only [List.setIfInBounds_toArray, List.set_cons_zero, List.set_cons_succ]
      refine Reg.take (i := 4) (u := ?b1_v4) rfl rfl rfl (by kernel_rfl) (by kernel_rfl) (by kernel_rfl) hH ?b1_y4 ?b1_r4
      case b1_y4 => (intro w hSw; (try dsimp only at hSw); go_simp; try (with_reducible rfl))
      case' b1_r4 => simp only [List.setIfInBounds_toArray, List.set_cons_zero, List.set_cons_succ]
      refine Reg.take (i := 5) (u := ?b1_v5) rfl rfl rfl (by kernel_rfl) (by kernel_rfl) (by kernel_rfl) hH ?b1_y5 ?b1_r5
      case b1_y5 => (intro w hSw; (try dsimp only at hSw); go_simp; try (with_reducible rfl))
      case' b1_r5 => simp only [List.setIfInBounds_toArray, List.set_cons_zero, List.set_cons_succ]
      refine Reg.take (i := 6) (u := ?b1_v6) rfl rfl rfl (by kernel_rfl) (by kernel_rfl) (by kernel_rfl) hH ?b1_y6 ?b1_r6
      case b1_y6 => (intro w hSw; (try dsimp only at hSw); go_simp; try (with_reducible rfl))
      case' b1_r6 => simp only [List.setIfInBounds_toArray, List.set_cons_zero, List.set_cons_succ]
      refine Reg.takeIf (i := 7) (u := ?b1_v7) rfl rfl rfl rfl rfl (by kernel_rfl) (by kernel_rfl) (by kernel_rfl) hH ?b1_y7 ?b1_r7
      case b1_y7 => (intro w hSw; (try dsimp only at hSw); go_simp; try (with_reducible rfl))
      case' b1_r7 => simp only [List.setIfInBounds_toArray, List.set_cons_zero, List.set_cons_succ]
      refine Reg.takeIf (i := 8) (u := ?b1_v8) rfl rfl rfl rfl rfl (by kernel_rfl) (by kernel_rfl) (by kernel_rfl) hH ?b1_y8 ?b1_r8
      case b1_y8 => (intro w hSw; (try dsimp only at hSw); go_simp; try (with_reducible rfl))
      case' b1_r8 => simp only [List.setIfInBounds_toArray, List.set_cons_zero, List.set_cons_succ]
      refine Reg.takeIf (i := 9) (u := ?b1_v9) rfl rfl rfl rfl rfl (by kernel_rfl) (by kernel_rfl) (by kernel_rfl) hH ?b1_y9 ?b1_r9
      case b1_y9 => (intro w hSw; (try dsimp only at hSw); go_simp; try (with_reducible rfl))
      case' b1_r9 => simp only [List.setIfInBounds_toArray, List.set_cons_zero, List.set_cons_succ]
      refine Reg.takeIf (i := 10) (u := ?b1_v10) rfl rfl rfl rfl rfl (by kernel_rfl) (by kernel_rfl) (by kernel_rfl) hH ?b1_y10 ?b1_r10
      case b1_y10 => (intro w hSw; (try dsimp only at hSw); go_simp; try (with_reducible rfl))
      case' b1_r10 => simp only [List.setIfInBounds_toArray, List.set_cons_zero, List.set_cons_succ]
      refine Reg.takeIf (i := 11) (u := ?b1_v11) rfl rfl rfl rfl rfl (by kernel_rfl) (by kernel_rfl) (by kernel_rfl) hH ?b1_y11 ?b1_r11
      case b1_y11 => (intro w hSw; (try dsimp only at hSw); go_simp; try (with_reducible rfl))
      case' b1_r11 => simp only [List.setIfInBounds_toArray, List.set_cons_zero, List.set_cons_succ]
      refine Reg.takeIf (i := 12) (u := ?b1_v12) rfl rfl rfl rfl rfl (by kernel_rfl) (by kernel_rfl) (by kernel_rfl) hH ?b1_y12 ?b1_r12
      case b1_y12 => (intro w hSw; (try dsimp only at hSw); go_simp; try (with_reducible rfl))
      case' b1_r12 => simp only [List.setIfInBounds_toArray, List.set_cons_zero, List.set_cons_succ]
      refine Reg.takeIf (i := 13) (u := ?b1_v13) rfl rfl rfl rfl rfl (by kernel_rfl) (by kernel_rfl) (by kernel_rfl) hH ?b1_y13 ?b1_r13
      case b1_y13 => (intro w hSw; (try dsimp only at hSw); go_simp; try (with_reducible rfl))
      case' b1_r13 => simp only [List.setIfInBounds_toArray, List.set_cons_zero, List.set_cons_succ]
      refine Reg.takeIf (i := 14) (u := ?b1_v14) rfl rfl rfl rfl rfl (by kernel_rfl) (by kernel_rfl) (by kernel_rfl) hH ?b1_y14 ?b1_r14
      case b1_y14 => (intro w hSw; (try dsimp only at hSw); go_simp; try (with_reducible rfl))
      case' b1_r14 => simp only [List.setIfInBounds_toArray, List.set_cons_zero, List.set_cons_succ]
      refine Reg.take (i := 15) (u := ?b1_v15) rfl rfl rfl (by kernel_rfl) (by kernel_rfl) (by kernel_rfl) hH ?b1_y15 ?b1_r15
      case b1_y15 => (intro w hSw; (try dsimp only at hSw); go_simp; try (with_reducible rfl))
      case' b1_r15 => simp only [List.setIfInBounds_toArray, List.set_cons_zero, List.set_cons_succ]
      refine Reg.take (i := 16) (u := ?b1_v16) rfl rfl rfl (by kernel_rfl) (by kernel_rfl) (by kernel_rfl) hH ?b1_y16 ?b1_r16
      case b1_y16 => (intro w hSw; (try dsimp only at hSw); go_simp; try (with_reducible rfl))
      case' b1_r16 => simp only [List.setIfInBounds_toArray, List.set_cons_zero, List.set_cons_succ]
      refine Reg.takeIf (i := 17) (u := ?b1_v17) rfl rfl rfl rfl rfl (by kernel_rfl) (by kernel_rfl) (by kernel_rfl) hH ?b1_y17 ?b1_r17
      case b1_y17 => (intro w hSw; (try dsimp only at hSw); go_simp; try (with_reducible rfl))
      case' b1_r17 => simp only [List.setIfInBounds_toArray, List.set_cons_zero, List.set_cons_succ]
      refine Reg.takeIf (i := 18) (u := ?b1_v18) rfl rfl rfl rfl rfl (by kernel_rfl) (by kernel_rfl) (by kernel_rfl) hH ?b1_y18 ?b1_r18
      case b1_y18 => (intro w hSw; (try dsimp only at hSw); go_simp; try (with_reducible rfl))
      case' b1_r18 => simp only [List.setIfInBounds_toArray, List.set_cons_zero, List.set_cons_succ]
      refine Reg.takeIf (i := 19) (u := ?b1_v19) rfl rfl rfl rfl rfl (by kernel_rfl) (by kernel_rfl) (by kernel_rfl) hH ?b1_y19 ?b1_r19
      case b1_y19 => (intro w hSw; (try dsimp only at hSw); go_simp; try (with_reducible rfl))
      case' b1_r19 => simp only [List.setIfInBounds_toArray, List.set_cons_zero, List.set_cons_succ]
      refine Reg.takeIf (i := 20) (u := ?b1_v20) rfl rfl rfl rfl rfl (by kernel_rfl) (by kernel_rfl) (by kernel_rfl) hH ?b1_y20 ?b1_r20
      case b1_y20 => (intro w hSw; (try dsimp only at hSw); go_simp; try (with_reducible rfl))
      case' b1_r20 => simp only [List.setIfInBounds_toArray, List.set_cons_zero, List.set_cons_succ]
      refine Reg.takeIf (i := 21) (u := ?b1_v21) rfl rfl rfl rfl rfl (by kernel_rfl) (by kernel_rfl) (by kernel_rfl) hH ?b1_y21 ?b1_r21
      case b1_y21 => (intro w hSw; (try dsimp only at hSw); go_simp; try (with_reducible rfl))
      case' b1_r21 => simp only [List.setIfInBounds_toArray, List.set_cons_zero, List.set_cons_succ]
      refine Reg.takeIf (i := 22) (u := ?b1_v22) rfl rfl rfl rfl rfl (by kernel_rfl) (by kernel_rfl) (by kernel_rfl) hH ?b1_y22 ?b1_r22
      case b1_y22 => (intro w hSw; (try dsimp only at hSw); go_simp; try (with_reducible rfl))
      case' b1_r22 => simp only [List.setIfInBounds_toArray, List.set_cons_zero, List.set_cons_succ]
      refine Reg.take (i := 23) (u := ?b1_v23) rfl rfl rfl (by kernel_rfl) (by kernel_rfl) (by kernel_rfl) hH ?b1_y23 ?b1_r23
      case b1_y23 => (intro w hSw; (try dsimp only at hSw); go_simp; try (with_reducible rfl))
      case' b1_r23 => simp only [List.setIfInBounds_toArray, List.set_cons_zero, List.set_cons_succ]
      refine Reg.take (i := 24) (u := ?b1_v24) rfl rfl rfl (by kernel_rfl) (by kernel_rfl) (by kernel_rfl) hH ?b1_y24 ?b1_r24
      case b1_y24 => (intro w hSw; (try dsimp only at hSw); go_simp; try (with_reducible rfl))
      case' b1_r24 => simp only [List.setIfInBounds_toArray, List.set_cons_zero, List.set_cons_succ]
      refine Reg.takeIf (i := 25) (u := ?b1_v25) rfl rfl rfl rfl rfl (by kernel_rfl) (by kernel_rfl) (by kernel_rfl) hH ?b1_y25 ?b1_r25
      case b1_y25 => (intro w hSw; (try dsimp only at hSw); go_simp; try (with_reducible rfl))
      case' b1_r25 => simp only [List.setIfInBounds_toArray, List.set_cons_zero, List.set_cons_succ]
      refine Reg.takeIf (i := 26) (u := ?b1_v26) rfl rfl rfl rfl rfl (by kernel_rfl) (by kernel_rfl) (by kernel_rfl) hH ?b1_y26 ?b1_r26
      case b1_y26 => (intro w hSw; (try dsimp only at hSw); go_simp; try (with_reducible rfl))
      case' b1_r26 => simp only [List.setIfInBounds_toArray, List.set_cons_zero, List.set_cons_succ]
      refine Reg.takeIf (i := 27) (u := ?b1_v27) rfl rfl rfl rfl rfl (by kernel_rfl) (by kernel_rfl) (by kernel_rfl) hH ?b1_y27 ?b1_r27
      case b1_y27 => (intro w hSw; (try dsimp only at hSw); go_simp; try (with_reducible rfl))
      case' b1_r27 => simp only [List.setIfInBounds_toArray, List.set_cons_zero, List.set_cons_succ]
      refine Reg.takeIf (i := 28) (u := ?b1_v28) rfl rfl rfl rfl rfl (by kernel_rfl) (by kernel_rfl) (by kernel_rfl) hH ?b1_y28 ?b1_r28
      case b1_y28 => (intro w hSw; (try dsimp only at hSw); go_simp; try (with_reducible rfl))
      case' b1_r28 => simp only [List.setIfInBounds_toArray, List.set_cons_zero, List.set_cons_succ]
      refine Reg.takeIf (i := 29) (u := ?b1_v29) rfl rfl rfl rfl rfl (by kernel_rfl) (by kernel_rfl) (by kernel_rfl) hH ?b1_y29 ?b1_r29
      case b1_y29 => (intro w hSw; (try dsimp only at hSw); go_simp; try (with_reducible rfl))
      case' b1_r29 => simp only [List.setIfInBounds_toArray, List.set_cons_zero, List.set_cons_succ]
      refine Reg.takeIf (i := 30) (u := ?b1_v30) rfl rfl rfl rfl rfl (by kernel_rfl) (by kernel_rfl) (by kernel_rfl) hH ?b1_y30 ?b1_r30
      case b1_y30 => (intro w hSw; (try dsimp only at hSw); go_simp; try (with_reducible rfl))
      case' b1_r30 => simp only [List.setIfInBounds_toArray, List.set_cons_zero, List.set_cons_succ]
      refine Reg.takeIf (i := 31) (u := ?b1_v31) rfl rfl rfl rfl rfl (by kernel_rfl) (by kernel_rfl) (by kernel_rfl) hH ?b1_y31 ?b1_r31
      case b1_y31 => (intro w hSw; (try dsimp only at hSw); go_simp; try (with_reducible rfl))
      case' b1_r31 => simp only [List.setIfInBounds_toArray, List.set_cons_zero, List.set_cons_succ]
      refine Reg.takeIf (i := 32) (u := ?b1_v32) rfl rfl rfl rfl rfl (by kernel_rfl) (by kernel_rfl) (by kernel_rfl) hH ?b1_y32 ?b1_r32
      case b1_y32 => (intro w hSw; (try dsimp only at hSw); go_simp; try (with_reducible rfl))
      case' b1_r32 => simp only [List.setIfInBounds_toArray, List.set_cons_zero, List.set_cons_succ]
      refine Reg.takeIf (i := 33) (u := ?b1_v33) rfl rfl rfl rfl rfl (by kernel_rfl) (by kernel_rfl) (by kernel_rfl) hH ?b1_y33 ?b1_r33
      case b1_y33 => (intro w hSw; (try dsimp only at hSw); go_simp; try (with_reducible rfl))
      case' b1_r33 => simp only [List.setIfInBounds_toArray, List.set_cons_zero, List.set_cons_succ]
      refine Reg.takeIf (i := 34) (u := ?b1_v34) rfl rfl rfl rfl rfl (by kernel_rfl) (by kernel_rfl) (by kernel_rfl) hH ?b1_y34 ?b1_r34
      case b1_y34 => (intro w hSw; (try dsimp only at hSw); go_simp; try (with_reducible rfl))
      case' b1_r34 => simp only [List.setIfInBounds_toArray, List.set_cons_zero, List.set_cons_succ]
      refine Reg.takeIf (i := 35) (u := ?b1_v35) rfl rfl rfl rfl rfl (by kernel_rfl) (by kernel_rfl) (by kernel_rfl) hH ?b1_y35 ?b1_r35
      case b1_y35 => (intro w hSw; (try dsimp only at hSw); go_simp; try (with_reducible rfl))
      case' b1_r35 => simp only [List.setIfInBounds_toArray, List.set_cons_zero, List.set_cons_succ]
      refine Reg.takeIf (i := 36) (u := ?b1_v36) rfl rfl rfl rfl rfl (by kernel_rfl) (by kernel_rfl) (by kernel_rfl) hH ?b1_y36 ?b1_r36
      case b1_y36 => (intro w hSw; (try dsimp only at hSw); go_simp; try (with_reducible rfl))
      case' b1_r36 => simp only [List.setIfInBounds_toArray, List.set_cons_zero, List.set_cons_succ]
      refine Reg.takeIf (i := 37) (u := ?b1_v37) rfl rfl rfl rfl rfl (by kernel_rfl) (by kernel_rfl) (by kernel_rfl) hH ?b1_y37 ?b1_r37
      case b1_y37 => (intro w hSw; (try dsimp only at hSw); go_simp; try (with_reducible rfl))
      case' b1_r37 => simp only [List.setIfInBounds_toArray, List.set_cons_zero, List.set_cons_succ]
      refine Reg.takeIf (i := 38) (u := ?b1_v38) rfl rfl rfl rfl rfl (by kernel_rfl) (by kernel_rfl) (by kernel_rfl) hH ?b1_y38 ?b1_r38
      case b1_y38 => (intro w hSw; (try dsimp only at hSw); go_simp; try (with_reducible rfl))
      case' b1_r38 => simp only [List.setIfInBounds_toArray, List.set_cons_zero, List.set_cons_succ]
      refine Reg.takeIf (i := 39) (u := ?b1_v39) rfl rfl rfl rfl rfl (by kernel_rfl) (by kernel_rfl) (by kernel_rfl) hH ?b1_y39 ?b1_r39
      case b1_y39 => (intro w hSw; (try dsimp only at hSw); go_simp; try (with_reducible rfl))
      case' b1_r39 => simp only [List.setIfInBounds_toArray, List.set_cons_zero, List.set_cons_succ]
      refine Reg.takeIf (i := 40) (u := ?b1_v40) rfl rfl rfl rfl rfl (by kernel_rfl) (by kernel_rfl) (by kernel_rfl) hH ?b1_y40 ?b1_r40
      case b1_y40 => (intro w hSw; (try dsimp only at hSw); go_simp; try (with_reducible rfl))
      case' b1_r40 => simp only [List.setIfInBounds_toArray, List.set_cons_zero, List.set_cons_succ]
      refine Reg.take (i := 41) (u := ?b1_v41) rfl rfl rfl (by kernel_rfl) (by kernel_rfl) (by kernel_rfl) hH ?b1_y41 ?b1_r41
      case b1_y41 => (intro w hSw; (try dsimp only at hSw); go_simp; try (with_reducible rfl))
      case' b1_r41 => simp only [List.setIfInBounds_toArray, List.set_cons_zero, List.set_cons_succ]
      refine wpAnyH_done (by kernel_rfl) ?_ _
      refine NoPanic.normal ?_
      go_upto_region 12 with fail
      go_cut [141] (fun s wx => s = .bool false ∧ ∃ j, wx = w5.drewN j)
      case first => as_aux_lemma =>
        by_cases hk0 : k = 0
        · subst hk0
          have hy0 : y = 0 := OS.out.first _ HS.out
          rw [show ((y : Nat) : Int) = 0 by omega] at e1
          rw [show 0 * 2 = 0 by omega, show rd.add 0 = rd by simp [Addr.add]] at e0 e1
          refine wp_region_noPanic ?_
          refine wp_region_held_drew (S := fun w' => w'.cell? rd = some (.int .i64 (x : Nat)) ∧ w'.cell? ⟨rd.block, rd.off + 1, none⟩ = some (.int .i64 0)) (by kernel_rfl) ?_ (fun hH => ?_)
          · exact ⟨e0, e1⟩
          refine Reg.take (i := 0) (u := ?b2_v0) rfl rfl rfl (by kernel_rfl) (by kernel_rfl) (by kernel_rfl) hH ?b2_y0 ?b2_r0
          case b2_y0 => (intro w hSw; (try dsimp only at hSw); go_simp; try (with_reducible rfl))
          case' b2_r0 => simp only [List.setIfInBounds_toArray, List.set_cons_zero, List.set_cons_succ]
          refine Reg.take (i := 1) (u := ?b2_v1) rfl rfl rfl (by kernel_rfl) (by kernel_rfl) (by kernel_rfl) hH ?b2_y1 ?b2_r1
          case b2_y1 => (intro w hSw; (try dsimp only at hSw); go_simp; try (with_reducible rfl))
          case' b2_r1 => simp only [List.setIfInBounds_toArray, List.set_cons_zero, List.set_cons_succ]
          refine Reg.take (i := 2) (u := ?b2_v2) rfl rfl rfl (by kernel_rfl) (by kernel_rfl) (by kernel_rfl) hH ?b2_y2 ?b2_r2
          case b2_y2 => (intro w hSw; (try dsimp only at hSw); go_simp; try (with_reducible rfl))
          case' b2_r2 => simp only [List.setIfInBounds_toArray, List.set_cons_zero, List.set_cons_succ]
          refine Reg.skip (i := 3) rfl rfl rfl rfl rfl (by first | exact Value.noConfusion | (intro h; cases h)) (by kernel_rfl) (by kernel_rfl) (by kernel_rfl) hH ?_
          simp only [List.setIfInBounds_toArray, List.set_cons_zero, List.set_cons_succ]
          refine Reg.skip (i := 4) rfl rfl rfl rfl rfl (by first | exact Value.noConfusion | (intro h; cases h)) (by kernel_rfl) (by kernel_rfl) (by kernel_rfl) hH ?_
          simp only [List.setIfInBounds_toArray, List.set_cons_zero, List.set_cons_succ]
          refine Reg.skip (i := 5) rfl rfl rfl rfl rfl (by first | exact Value.noConfusion | (intro h; cases h)) (by kernel_rfl) (by kernel_rfl) (by kernel_rfl) hH ?_
          simp only [List.setIfInBounds_toArray, List.set_cons_zero, List.set_cons_succ]
          refine Reg.skip (i := 6) rfl rfl rfl rfl rfl (by first | exact Value.noConfusion | (intro h; cases h)) (by kernel_rfl) (by kernel_rfl) (by kernel_rfl) hH ?_
          simp only [List.setIfInBounds_toArray, List.set_cons_zero, List.set_cons_succ]
          refine Reg.skip (i := 7) rfl rfl rfl rfl rfl (by first | exact Value.noConfusion | (intro h; cases h)) (by kernel_rfl) (by kernel_rfl) (by kernel_rfl) hH ?_
          simp only [List.setIfInBounds_toArray, List.set_cons_zero, List.set_cons_succ]
          refine Reg.skip (i := 8) rfl rfl rfl rfl rfl (by first | exact Value.noConfusion | (intro h; cases h)) (by kernel_rfl) (by kernel_rfl) (by kernel_rfl) hH ?_
          simp only [List.setIfInBounds_toArray, List.set_cons_zero, List.set_cons_succ]
          refine Reg.skip (i := 9) rfl rfl rfl rfl rfl (by first | exact Value.noConfusion | (intro h; cases h)) (by kernel_rfl) (by kernel_rfl) (by kernel_rfl) hH ?_
          simp only [List.setIfInBounds_toArray, List.set_cons_zero, List.set_cons_succ]
          refine Reg.skip (i := 10) rfl rfl rfl rfl rfl (by first | exact Value.noConfusion | (intro h; cases h)) (by kernel_rfl) (by kernel_rfl) (by kernel_rfl) hH ?_
          simp only [List.setIfInBounds_toArray, List.set_cons_zero, List.set_cons_succ]
          refine Reg.skip (i := 11) rfl rfl rfl rfl rfl (by first | exact Value.noConfusion | (intro h; cases h)) (by kernel_rfl) (by kernel_rfl) (by kernel_rfl) hH ?_
          simp only [List.setIfInBounds_toArray, List.set_cons_zero, List.set_cons_succ]
          refine Reg.skip (i := 12) rfl rfl rfl rfl rfl (by first | exact Value.noConfusion | (intro h; cases h)) (by kernel_rfl) (by kernel_rfl) (by kernel_rfl) hH ?_
          simp only [List.setIfInBounds_toArray, List.set_cons_zero, List.set_cons_succ]
          refine Reg.skip (i := 13) rfl rfl rfl rfl rfl (by first | exact Value.noConfusion | (intro h; cases h)) (by kernel_rfl) (by kernel_rfl) (by kernel_rfl) hH ?_
          simp only [List.setIfInBounds_toArray, List.set_cons_zero, List.set_cons_succ]
          refine Reg.skip (i := 14) rfl rfl rfl rfl rfl (by first | exact Value.noConfusion | (intro h; cases h)) (by kernel_rfl) (by kernel_rfl) (by kernel_rfl) hH ?_
          simp only [List.setIfInBounds_toArray, List.set_cons_zero, List.set_cons_succ]
          refine Reg.take (i := 15) (u := ?b2_v15) rfl rfl rfl (by kernel_rfl) (by kernel_rfl) (by kernel_rfl) hH ?b2_y15 ?b2_r15
          case b2_y15 => (intro w hSw; (try dsimp only at hSw); go_simp; try (with_reducible rfl))
          case' b2_r15 => simp only [List.setIfInBounds_toArray, List.set_cons_zero, List.set_cons_succ]
          refine Reg.take (i := 16) (u := ?b2_v16) rfl rfl rfl (by kernel_rfl) (by kernel_rfl) (by kernel_rfl) hH ?b2_y16 ?b2_r16
          case b2_y16 => (intro w hSw; (try dsimp only at hSw); go_simp; try (with_reducible rfl))
          case' b2_r16 => simp only [List.setIfInBounds_toArray, List.set_cons_zero, List.set_cons_succ]
          refine Reg.skip (i := 17) rfl rfl rfl rfl rfl (by first | exact Value.noConfusion | (intro h; cases h)) (by kernel_rfl) (by kernel_rfl) (by kernel_rfl) hH ?_
          simp only [List.setIfInBounds_toArray, List.set_cons_zero, List.set_cons_succ]
          refine Reg.skip (i := 18) rfl rfl rfl rfl rfl (by first | exact Value.noConfusion | (intro h; cases h)) (by kernel_rfl) (by kernel_rfl) (by kernel_rfl) hH ?_
          simp only [List.setIfInBounds_toArray, List.set_cons_zero, List.set_cons_succ]
          refine Reg.skip (i := 19) rfl rfl rfl rfl rfl (by first | exact Value.noConfusion | (intro h; cases h)) (by kernel_rfl) (by kernel_rfl) (by kernel_rfl) hH ?_
          simp only [List.setIfInBounds_toArray, List.set_cons_zero, List.set_cons_succ]
          refine Reg.skip (i := 20) rfl rfl rfl rfl rfl (by first | exact Value.noConfusion | (intro h; cases h)) (by kernel_rfl) (by kernel_rfl) (by kernel_rfl) hH ?_
          simp only [List.setIfInBounds_toArray, List.set_cons_zero, List.set_cons_succ]
          refine Reg.skip (i := 21) rfl rfl rfl rfl rfl (by first | exact Value.noConfusion | (intro h; cases h)) (by kernel_rfl) (by kernel_rfl) (by kernel_rfl) hH ?_
          simp only [List.setIfInBounds_toArray, List.set_cons_zero, List.set_cons_succ]
          refine Reg.skip (i := 22) rfl rfl rfl rfl rfl (by first | exact Value.noConfusion | (intro h; cases h)) (by kernel_rfl) (by kernel_rfl) (by kernel_rfl) hH ?_
          simp only [List.setIfInBounds_toArray, List.set_cons_zero, List.set_cons_succ]
          refine Reg.skip (i := 23) rfl rfl rfl rfl rfl (by first | exact Value.noConfusion | (intro h; cases h)) (by kernel_rfl) (by kernel_rfl) (by kernel_rfl) hH ?_
          simp only [List.setIfInBounds_toArray, List.set_cons_zero, List.set_cons_succ]
          refine Reg.skip (i := 24) rfl rfl rfl rfl rfl (by first | exact Value.noConfusion | (intro h; cases h)) (by kernel_rfl) (by kernel_rfl) (by kernel_rfl) hH ?_
          simp only [List.setIfInBounds_toArray, List.set_cons_zero, List.set_cons_succ]
          refine Reg.skip (i := 25) rfl rfl rfl rfl rfl (by first | exact Value.noConfusion | (intro h; cases h)) (by kernel_rfl) (by kernel_rfl) (by kernel_rfl) hH ?_
          simp only [List.setIfInBounds_toArray, List.set_cons_zero, List.set_cons_succ]
          refine Reg.skip (i := 26) rfl rfl rfl rfl rfl (by first | exact Value.noConfusion | (intro h; cases h)) (by kernel_rfl) (by kernel_rfl) (by kernel_rfl) hH ?_
          simp only [List.setIfInBounds_toArray, List.set_cons_zero, List.set_cons_succ]
          refine Reg.skip (i := 27) rfl rfl rfl rfl rfl (by first | exact Value.noConfusion | (intro h; cases h)) (by kernel_rfl) (by kernel_rfl) (by kernel_rfl) hH ?_
          simp only [List.setIfInBounds_toArray, List.set_cons_zero, List.set_cons_succ]
          refine Reg.skip (i := 28) rfl rfl rfl rfl rfl (by first | exact Value.noConfusion | (intro h; cases h)) (by kernel_rfl) (by kernel_rfl) (by kernel_rfl) hH ?_
          simp only [List.setIfInBounds_toArray, List.set_cons_zero, List.set_cons_succ]
          refine Reg.skip (i := 29) rfl rfl rfl rfl rfl (by first | exact Value.noConfusion | (intro h; cases h)) (by kernel_rfl) (by kernel_rfl) (by kernel_rfl) hH ?_
          simp only [List.setIfInBounds_toArray, List.set_cons_zero, List.set_cons_succ]
          refine Reg.take (i := 30) (u := ?b2_v30) rfl rfl rfl (by kernel_rfl) (by kernel_rfl) (by kernel_rfl) hH ?b2_y30 ?b2_r30
          case b2_y30 => (intro w hSw; (try dsimp only at hSw); go_simp; try (with_reducible rfl))
          case' b2_r30 => simp only [List.setIfInBounds_toArray, List.set_cons_zero, List.set_cons_succ]
          refine Reg.take (i := 31) (u := ?b2_v31) rfl rfl rfl (by kernel_rfl) (by kernel_rfl) (by kernel_rfl) hH ?b2_y31 ?b2_r31
          case b2_y31 => (intro w hSw; (try dsimp only at hSw); go_simp; try (with_reducible rfl))
          case' b2_r31 => simp only [List.setIfInBounds_toArray, List.set_cons_zero, List.set_cons_succ]
          refine Reg.takeIf (i := 32) (u := ?b2_v32) rfl rfl rfl rfl rfl (by kernel_rfl) (by kernel_rfl) (by kernel_rfl) hH ?b2_y32 ?b2_r32
          case b2_y32 => (intro w hSw; (try dsimp only at hSw); go_simp; try (with_reducible rfl))
          case' b2_r32 => simp only [List.setIfInBounds_toArray, List.set_cons_zero, List.set_cons_succ]
          refine Reg.takeIf (i := 33) (u := ?b2_v33) rfl rfl rfl rfl rfl (by kernel_rfl) (by kernel_rfl) (by kernel_rfl) hH ?b2_y33 ?b2_r33
          case b2_y33 => (intro w hSw; (try dsimp only at hSw); go_simp; try (with_reducible rfl))
          case' b2_r33 => simp only [List.setIfInBounds_toArray, List.set_cons_zero, List.set_cons_succ]
          refine Reg.takeIf (i := 34) (u := ?b2_v34) rfl rfl rfl rfl rfl (by kernel_rfl) (by kernel_rfl) (by kernel_rfl) hH ?b2_y34 ?b2_r34
          case b2_y34 => (intro w hSw; (try dsimp only at hSw); go_simp; try (with_reducible rfl))
          case' b2_r34 => simp only [List.setIfInBounds_toArray, List.set_cons_zero, List.set_cons_succ]
          refine Reg.skip (i := 35) rfl rfl rfl rfl rfl (by first | exact Value.noConfusion | (intro h; cases h)) (by kernel_rfl) (by kernel_rfl) (by kernel_rfl) hH ?_
          simp only [List.setIfInBounds_toArray, List.set_cons_zero, List.set_cons_succ]
          refine Reg.skip (i := 36) rfl rfl rfl rfl rfl (by first | exact Value.noConfusion | (intro h; cases h)) (by kernel_rfl) (by kernel_rfl) (by kernel_rfl) hH ?_
          simp only [List.setIfInBounds_toArray, List.set_cons_zero, List.set_cons_succ]
          refine Reg.skip (i := 37) rfl rfl rfl rfl rfl (by first | exact Value.noConfusion | (intro h; cases h)) (by kernel_rfl) (by kernel_rfl) (by kernel_rfl) hH ?_
          simp only [List.setIfInBounds_toArray, List.set_cons_zero, List.set_cons_succ]
          refine Reg.skip (i := 38) rfl rfl rfl rfl rfl (by first | exact Value.noConfusion | (intro h; cases h)) (by kernel_rfl) (by kernel_rfl) (by kernel_rfl) hH ?_
          simp only [List.setIfInBounds_toArray, List.set_cons_zero, List.set_cons_succ]
          refine Reg.skip (i := 39) rfl rfl rfl rfl rfl (by first | exact Value.noConfusion | (intro h; cases h)) (by kernel_rfl) (by kernel_rfl) (by kernel_rfl) hH ?_
          simp only [List.setIfInBounds_toArray, List.set_cons_zero, List.set_cons_succ]
          refine Reg.skip (i := 40) rfl rfl rfl rfl rfl (by first | exact Value.noConfusion | (intro h; cases h)) (by kernel_rfl) (by kernel_rfl) (by kernel_rfl) hH ?_
          simp only [List.setIfInBounds_toArray, List.set_cons_zero, List.set_cons_succ]
          refine Reg.skip (i := 41) rfl rfl rfl rfl rfl (by first | exact Value.noConfusion | (intro h; cases h)) (by kernel_rfl) (by kernel_rfl) (by kernel_rfl) hH ?_
          simp only [List.setIfInBounds_toArray, List.set_cons_zero, List.set_cons_succ]
          refine Reg.skip (i := 42) rfl rfl rfl rfl rfl (by first | exact Value.noConfusion | (intro h; cases h)) (by kernel_rfl) (by kernel_rfl) (by kernel_rfl) hH ?_
          simp only [List.setIfInBounds_toArray, List.set_cons_zero, List.set_cons_succ]
          refine Reg.skip (i := 43) rfl rfl rfl rfl rfl (by first | exact Value.noConfusion | (intro h; cases h)) (by kernel_rfl) (by kernel_rfl) (by kernel_rfl) hH ?_
          simp only [List.setIfInBounds_toArray, List.set_cons_zero, List.set_cons_succ]
          refine Reg.skip (i := 44) rfl rfl rfl rfl rfl (by first | exact Value.noConfusion | (intro h; cases h)) (by kernel_rfl) (by kernel_rfl) (by kernel_rfl) hH ?_
          simp only [List.setIfInBounds_toArray, List.set_cons_zero, List.set_cons_succ]
          refine Reg.skip (i := 45) rfl rfl rfl rfl rfl (by first | exact Value.noConfusion | (intro h; cases h)) (by kernel_rfl) (by kernel_rfl) (by kernel_rfl) hH ?_
          simp only [List.setIfInBounds_toArray, List.set_cons_zero, List.set_cons_succ]
          refine Reg.skip (i := 46) rfl rfl rfl rfl rfl (by first | exact Value.noConfusion | (intro h; cases h)) (by kernel_rfl) (by kernel_rfl) (by kernel_rfl) hH ?_
          simp only [List.setIfInBounds_toArray, List.set_cons_zero, List.set_cons_succ]
          refine Reg.takeIf (i := 47) (u := ?b2_v47) rfl rfl rfl rfl rfl (by kernel_rfl) (by kernel_rfl) (by kernel_rfl) hH ?b2_y47 ?b2_r47
          case b2_y47 => (intro w hSw; (try dsimp only at hSw); go_simp; try (with_reducible rfl))
          case' b2_r47 => simp only [List.setIfInBounds_toArray, List.set_cons_zero, List.set_cons_succ]
          refine Reg.takeIf (i := 48) (u := ?b2_v48) rfl rfl rfl rfl rfl (by kernel_rfl) (by kernel_rfl) (by kernel_rfl) hH ?b2_y48 ?b2_r48
          case b2_y48 => (intro w hSw; (try dsimp only at hSw); go_simp; try (with_reducible rfl))
          case' b2_r48 => simp only [List.setIfInBounds_toArray, List.set_cons_zero, List.set_cons_succ]
          refine Reg.takeIf (i := 49) (u := ?b2_v49) rfl rfl rfl rfl rfl (by kernel_rfl) (by kernel_rfl) (by kernel_rfl) hH ?b2_y49 ?b2_r49
          case b2_y49 => (intro w hSw; (try dsimp only at hSw); go_simp; try (with_reducible rfl))
          case' b2_r49 => simp only [List.setIfInBounds_toArray, List.set_cons_zero, List.set_cons_succ]
          refine Reg.takeIf (i := 50) (u := ?b2_v50) rfl rfl rfl rfl rfl (by kernel_rfl) (by kernel_rfl) (by kernel_rfl) hH ?b2_y50 ?b2_r50
          case b2_y50 => (intro w hSw; (try dsimp only at hSw); go_simp; try (with_reducible rfl))
          case' b2_r50 => simp only [List.setIfInBounds_toArray, List.set_cons_zero, List.set_cons_succ]
          refine Reg.takeIf (i := 51) (u := ?b2_v51) rfl rfl rfl rfl rfl (by kernel_rfl) (by kernel_rfl) (by kernel_rfl) hH ?b2_y51 ?b2_r51
          case b2_y51 => (intro w hSw; (try dsimp only at hSw); go_simp; try (with_reducible rfl))
          case' b2_r51 => simp only [List.setIfInBounds_toArray, List.set_cons_zero, List.set_cons_succ]
          refine Reg.takeIf (i := 52) (u := ?b2_v52) rfl rfl rfl rfl rfl (by kernel_rfl) (by kernel_rfl) (by kernel_rfl) hH ?b2_y52 ?b2_r52
          case b2_y52 => (intro w hSw; (try dsimp only at hSw); go_simp; try (with_reducible rfl))
          case' b2_r52 => simp only [List.setIfInBounds_toArray, List.set_cons_zero, List.set_cons_succ]
          refine Reg.takeIf (i := 53) (u := ?b2_v53) rfl rfl rfl rfl rfl (by kernel_rfl) (by kernel_rfl) (by kernel_rfl) hH ?b2_y53 ?b2_r53
          case b2_y53 => (intro w hSw; (try dsimp only at hSw); go_simp; try (with_reducible rfl))
          case' b2_r53 => simp only [List.setIfInBounds_toArray, List.set_cons_zero, List.set_cons_succ]
          refine Reg.takeIf (i := 54) (u := ?b2_v54) rfl rfl rfl rfl rfl (by kernel_rfl) (by kernel_rfl) (by kernel_rfl) hH ?b2_y54 ?b2_r54
          case b2_y54 => (intro w hSw; (try dsimp only at hSw); go_simp; try (with_reducible rfl))
          case' b2_r54 => simp only [List.setIfInBounds_toArray, List.set_cons_zero, List.set_cons_succ]
          refine Reg.takeIf (i := 55) (u := ?b2_v55) rfl rfl rfl rfl rfl (by kernel_rfl) (by kernel_rfl) (by kernel_rfl) hH ?b2_y55 ?b2_r55
          case b2_y55 => (intro w hSw; (try dsimp only at hSw); go_simp; try (with_reducible rfl))
          case' b2_r55 => simp only [List.setIfInBounds_toArray, List.set_cons_zero, List.set_cons_succ]
          refine Reg.take (i := 56) (u := ?b2_v56) rfl rfl rfl (by kernel_rfl) (by kernel_rfl) (by kernel_rfl) hH ?b2_y56 ?b2_r56
          case b2_y56 => (intro w hSw; (try dsimp only at hSw); go_simp; try (with_reducible rfl))
          case' b2_r56 => simp only [List.setIfInBounds_toArray, List.set_cons_zero, List.set_cons_succ]
          refine wpAnyH_done (by kernel_rfl) ?_ _
          refine NoPanic.normal ?_
          go_wp2_with fail
          go_meet
          case rel => exact ⟨rfl, nn + 2, rfl⟩
        · obtain ⟨rd', ⟨tx, ty⟩, e', ht, t0, t1⟩ := HCELL.out (k - 1) (by rw [← HM.out]; omega)
          cases e'
          have hnext := OS.out.next (k - 1) _ _ ht (by rw [show k - 1 + 1 = k by omega]; exact HS.out)
          dsimp only at t0 t1 hnext
          have hty := (OS.out.lt _ (List.mem_of_getElem? ht)).2
          have ht80 := HRN.out tx
          dsimp only at hty
          have hty : ty < 80 := by omega
          clear ht ht80
          have hk4 : (0 : Int) < (k : Int) := by omega
          have hk4' : 0 < k := by omega
          have hk5 : (1 : Int) ≤ (k : Int) := by omega
          have hk5' : 1 ≤ k := by omega
          have hk7 : ((k : Int) == 0) = false := by rw [beq_eq_false_iff_ne]; omega
          have hkw : IntKind.i64.wrap ((k : Int) - 1) = (k : Int) - 1 := IntWalk.i64_in _ (by omega)
          have hk6 : (k : Int) - 1 < (m : Int) := by omega
          by_cases hxt : x = tx
          · subst hxt
            have hyt := hnext.1 rfl
            have hyw : IntKind.i64.wrap ((ty : Int) + 1) = (y : Int) := by rw [hyt]; exact IntWalk.i64_in _ (by omega)
            clear hnext hyt
            refine wp_region_noPanic ?_
            refine wp_region_held_drew (S := fun w' => w'.cell? (rd.add (k * 2)) = some (.int .i64 (x : Nat)) ∧ w'.cell? ⟨(rd.add (k * 2)).block, (rd.add (k * 2)).off + 1, none⟩ = some (.int .i64 (y : Nat)) ∧ w'.cell? (rd.add ((k - 1) * 2)) = some (.int .i64 (x : Nat)) ∧ w'.cell? ⟨(rd.add ((k - 1) * 2)).block, (rd.add ((k - 1) * 2)).off + 1, none⟩ = some (.int .i64 (ty : Nat))) (by kernel_rfl) ?_ (fun hH => ?_)
            · exact ⟨e0, e1, t0, t1⟩
            refine Reg.take (i := 0) (u := ?b3_v0) rfl rfl rfl (by kernel_rfl) (by kernel_rfl) (by kernel_rfl) hH ?b3_y0 ?b3_r0
            case b3_y0 => (intro w hSw; (try dsimp only at hSw); go_simp; try (with_reducible rfl))
            case' b3_r0 => simp only [List.setIfInBounds_toArray, List.set_cons_zero, List.set_cons_succ]
            refine Reg.take (i := 1) (u := ?b3_v1) rfl rfl rfl (by kernel_rfl) (by kernel_rfl) (by kernel_rfl) hH ?b3_y1 ?b3_r1
            case b3_y1 => (intro w hSw; (try dsimp only at hSw); go_simp; try (with_reducible rfl))
            case' b3_r1 => simp only [List.setIfInBounds_toArray, List.set_cons_zero, List.set_cons_succ]
            refine Reg.take (i := 2) (u := ?b3_v2) rfl rfl rfl (by kernel_rfl) (by kernel_rfl) (by kernel_rfl) hH ?b3_y2 ?b3_r2
            case b3_y2 => (intro w hSw; (try dsimp only at hSw); go_simp; try (with_reducible rfl))
            case' b3_r2 => simp only [List.setIfInBounds_toArray, List.set_cons_zero, List.set_cons_succ]
            refine Reg.takeIf (i := 3) (u := ?b3_v3) rfl rfl rfl rfl rfl (by kernel_rfl) (by kernel_rfl) (by kernel_rfl) hH ?b3_y3 ?b3_r3
            case b3_y3 => (intro w hSw; (try dsimp only at hSw); go_simp; try (with_reducible rfl))
            case' b3_r3 => simp only [List.setIfInBounds_toArray, List.set_cons_zero, List.set_cons_succ]
            refine Reg.takeIf (i := 4) (u := ?b3_v4) rfl rfl rfl rfl rfl (by kernel_rfl) (by kernel_rfl) (by kernel_rfl) hH ?b3_y4 ?b3_r4
            case b3_y4 => (intro w hSw; (try dsimp only at hSw); go_simp; try (with_reducible rfl))
            case' b3_r4 => simp only [List.setIfInBounds_toArray, List.set_cons_zero, List.set_cons_succ]
            refine Reg.takeIf (i := 5) (u := ?b3_v5) rfl rfl rfl rfl rfl (by kernel_rfl) (by kernel_rfl) (by kernel_rfl) hH ?b3_y5 ?b3_r5
            case b3_y5 => (intro w hSw; (try dsimp only at hSw); go_simp; try (with_reducible rfl))
            case' b3_r5 => simp only [List.setIfInBounds_toArray, List.set_cons_zero, List.set_cons_succ]
            refine Reg.takeIf (i := 6) (u := ?b3_v6) rfl rfl rfl rfl rfl (by kernel_rfl) (by kernel_rfl) (by kernel_rfl) hH ?b3_y6 ?b3_r6
            case b3_y6 => (intro w hSw; (try dsimp only at hSw); go_simp; try (with_reducible rfl))
            case' b3_r6 => simp only [List.setIfInBounds_toArray, List.set_cons_zero, List.set_cons_succ]
            refine Reg.takeIf (i := 7) (u := ?b3_v7) rfl rfl rfl rfl rfl (by kernel_rfl) (by kernel_rfl) (by kernel_rfl) hH ?b3_y7 ?b3_r7
            case b3_y7 => (intro w hSw; (try dsimp only at hSw); go_simp; try (with_reducible rfl))
            case' b3_r7 => simp only [List.setIfInBounds_toArray, List.set_cons_zero, List.set_cons_succ]
            refine Reg.takeIf (i := 8) (u := ?b3_v8) rfl rfl rfl rfl rfl (by kernel_rfl) (by kernel_rfl) (by kernel_rfl) hH ?b3_y8 ?b3_r8
            case b3_y8 => (intro w hSw; (try dsimp only at hSw); go_simp; try (with_reducible rfl))
            case' b3_r8 => simp only [List.setIfInBounds_toArray, List.set_cons_zero, List.set_cons_succ]
            refine Reg.takeIf (i := 9) (u := ?b3_v9) rfl rfl rfl rfl rfl (by kernel_rfl) (by kernel_rfl) (by kernel_rfl) hH ?b3_y9 ?b3_r9
            case b3_y9 => (intro w hSw; (try dsimp only at hSw); go_simp; try (with_reducible rfl))
            case' b3_r9 => simp only [List.setIfInBounds_toArray, List.set_cons_zero, List.set_cons_succ]
            refine Reg.takeIf (i := 10) (u := ?b3_v10) rfl rfl rfl rfl rfl (by kernel_rfl) (by kernel_rfl) (by kernel_rfl) hH ?b3_y10 ?b3_r10
            case b3_y10 => (intro w hSw; (try dsimp only at hSw); go_simp; try (with_reducible rfl))
            case' b3_r10 => simp only [List.setIfInBounds_toArray, List.set_cons_zero, List.set_cons_succ]
            refine Reg.takeIf (i := 11) (u := ?b3_v11) rfl rfl rfl rfl rfl (by kernel_rfl) (by kernel_rfl) (by kernel_rfl) hH ?b3_y11 ?b3_r11
            case b3_y11 => (intro w hSw; (try dsimp only at hSw); go_simp; try (with_reducible rfl))
            case' b3_r11 => simp only [List.setIfInBounds_toArray, List.set_cons_zero, List.set_cons_succ]
            refine Reg.takeIf (i := 12) (u := ?b3_v12) rfl rfl rfl rfl rfl (by kernel_rfl) (by kernel_rfl) (by kernel_rfl) hH ?b3_y12 ?b3_r12
            case b3_y12 => (intro w hSw; (try dsimp only at hSw); go_simp; try (with_reducible rfl))
            case' b3_r12 => simp only [List.setIfInBounds_toArray, List.set_cons_zero, List.set_cons_succ]
            refine Reg.takeIf (i := 13) (u := ?b3_v13) rfl rfl rfl rfl rfl (by kernel_rfl) (by kernel_rfl) (by kernel_rfl) hH ?b3_y13 ?b3_r13
            case b3_y13 => (intro w hSw; (try dsimp only at hSw); go_simp; try (with_reducible rfl))
            case' b3_r13 => simp only [List.setIfInBounds_toArray, List.set_cons_zero, List.set_cons_succ]
            refine Reg.takeIf (i := 14) (u := ?b3_v14) rfl rfl rfl rfl rfl (by kernel_rfl) (by kernel_rfl) (by kernel_rfl) hH ?b3_y14 ?b3_r14
            case b3_y14 => (intro w hSw; (try dsimp only at hSw); go_simp; try (with_reducible rfl))
            case' b3_r14 => simp only [List.setIfInBounds_toArray, List.set_cons_zero, List.set_cons_succ]
            refine Reg.take (i := 15) (u := ?b3_v15) rfl rfl rfl (by kernel_rfl) (by kernel_rfl) (by kernel_rfl) hH ?b3_y15 ?b3_r15
            case b3_y15 => (intro w hSw; (try dsimp only at hSw); go_simp; try (with_reducible rfl))
            case' b3_r15 => simp only [List.setIfInBounds_toArray, List.set_cons_zero, List.set_cons_succ]
            refine Reg.take (i := 16) (u := ?b3_v16) rfl rfl rfl (by kernel_rfl) (by kernel_rfl) (by kernel_rfl) hH ?b3_y16 ?b3_r16
            case b3_y16 => (intro w hSw; (try dsimp only at hSw); go_simp; try (with_reducible rfl))
            case' b3_r16 => simp only [List.setIfInBounds_toArray, List.set_cons_zero, List.set_cons_succ]
            refine Reg.takeIf (i := 17) (u := ?b3_v17) rfl rfl rfl rfl rfl (by kernel_rfl) (by kernel_rfl) (by kernel_rfl) hH ?b3_y17 ?b3_r17
            case b3_y17 => (intro w hSw; (try dsimp only at hSw); go_simp; try (with_reducible rfl))
            case' b3_r17 => simp only [List.setIfInBounds_toArray, List.set_cons_zero, List.set_cons_succ]
            refine Reg.takeIf (i := 18) (u := ?b3_v18) rfl rfl rfl rfl rfl (by kernel_rfl) (by kernel_rfl) (by kernel_rfl) hH ?b3_y18 ?b3_r18
            case b3_y18 => (intro w hSw; (try dsimp only at hSw); go_simp; try (with_reducible rfl))
            case' b3_r18 => simp only [List.setIfInBounds_toArray, List.set_cons_zero, List.set_cons_succ]
            refine Reg.takeIf (i := 19) (u := ?b3_v19) rfl rfl rfl rfl rfl (by kernel_rfl) (by kernel_rfl) (by kernel_rfl) hH ?b3_y19 ?b3_r19
            case b3_y19 => (intro w hSw; (try dsimp only at hSw); go_simp; try (with_reducible rfl))
            case' b3_r19 => simp only [List.setIfInBounds_toArray, List.set_cons_zero, List.set_cons_succ]
            refine Reg.takeIf (i := 20) (u := ?b3_v20) rfl rfl rfl rfl rfl (by kernel_rfl) (by kernel_rfl) (by kernel_rfl) hH ?b3_y20 ?b3_r20
            case b3_y20 => (intro w hSw; (try dsimp only at hSw); go_simp; try (with_reducible rfl))
            case' b3_r20 => simp only [List.setIfInBounds_toArray, List.set_cons_zero, List.set_cons_succ]
            refine Reg.takeIf (i := 21) (u := ?b3_v21) rfl rfl rfl rfl rfl (by kernel_rfl) (by kernel_rfl) (by kernel_rfl) hH ?b3_y21 ?b3_r21
            case b3_y21 => (intro w hSw; (try dsimp only at hSw); go_simp; try (with_reducible rfl))
            case' b3_r21 => simp only [List.setIfInBounds_toArray, List.set_cons_zero, List.set_cons_succ]
            refine Reg.takeIf (i := 22) (u := ?b3_v22) rfl rfl rfl rfl rfl (by kernel_rfl) (by kernel_rfl) (by kernel_rfl) hH ?b3_y22 ?b3_r22
            case b3_y22 => (intro w hSw; (try dsimp only at hSw); go_simp; try (with_reducible rfl))
            case' b3_r22 => simp only [List.setIfInBounds_toArray, List.set_cons_zero, List.set_cons_succ]
            refine Reg.takeIf (i := 23) (u := ?b3_v23) rfl rfl rfl rfl rfl (by kernel_rfl) (by kernel_rfl) (by kernel_rfl) hH ?b3_y23 ?b3_r23
            case b3_y23 => (intro w hSw; (try dsimp only at hSw); go_simp; try (with_reducible rfl))
            case' b3_r23 => simp only [List.setIfInBounds_toArray, List.set_cons_zero, List.set_cons_succ]
            refine Reg.takeIf (i := 24) (u := ?b3_v24) rfl rfl rfl rfl rfl (by kernel_rfl) (by kernel_rfl) (by kernel_rfl) hH ?b3_y24 ?b3_r24
            case b3_y24 => (intro w hSw; (try dsimp only at hSw); go_simp; try (with_reducible rfl))
            case' b3_r24 => simp only [List.setIfInBounds_toArray, List.set_cons_zero, List.set_cons_succ]
            refine Reg.takeIf (i := 25) (u := ?b3_v25) rfl rfl rfl rfl rfl (by kernel_rfl) (by kernel_rfl) (by kernel_rfl) hH ?b3_y25 ?b3_r25
            case b3_y25 => (intro w hSw; (try dsimp only at hSw); go_simp; try (with_reducible rfl))
            case' b3_r25 => simp only [List.setIfInBounds_toArray, List.set_cons_zero, List.set_cons_succ]
            refine Reg.takeIf (i := 26) (u := ?b3_v26) rfl rfl rfl rfl rfl (by kernel_rfl) (by kernel_rfl) (by kernel_rfl) hH ?b3_y26 ?b3_r26
            case b3_y26 => (intro w hSw; (try dsimp only at hSw); go_simp; try (with_reducible rfl))
            case' b3_r26 => simp only [List.setIfInBounds_toArray, List.set_cons_zero, List.set_cons_succ]
            refine Reg.takeIf (i := 27) (u := ?b3_v27) rfl rfl rfl rfl rfl (by kernel_rfl) (by kernel_rfl) (by kernel_rfl) hH ?b3_y27 ?b3_r27
            case b3_y27 => (intro w hSw; (try dsimp only at hSw); go_simp; try (with_reducible rfl))
            case' b3_r27 => simp only [List.setIfInBounds_toArray, List.set_cons_zero, List.set_cons_succ]
            refine Reg.takeIf (i := 28) (u := ?b3_v28) rfl rfl rfl rfl rfl (by kernel_rfl) (by kernel_rfl) (by kernel_rfl) hH ?b3_y28 ?b3_r28
            case b3_y28 => (intro w hSw; (try dsimp only at hSw); go_simp; try (with_reducible rfl))
            case' b3_r28 => simp only [List.setIfInBounds_toArray, List.set_cons_zero, List.set_cons_succ]
            refine Reg.takeIf (i := 29) (u := ?b3_v29) rfl rfl rfl rfl rfl (by kernel_rfl) (by kernel_rfl) (by kernel_rfl) hH ?b3_y29 ?b3_r29
            case b3_y29 => (intro w hSw; (try dsimp only at hSw); go_simp; try (with_reducible rfl))
            case' b3_r29 => simp only [List.setIfInBounds_toArray, List.set_cons_zero, List.set_cons_succ]
            refine Reg.take (i := 30) (u := ?b3_v30) rfl rfl rfl (by kernel_rfl) (by kernel_rfl) (by kernel_rfl) hH ?b3_y30 ?b3_r30
            case b3_y30 => (intro w hSw; (try dsimp only at hSw); go_simp; try (with_reducible rfl))
            case' b3_r30 => simp only [List.setIfInBounds_toArray, List.set_cons_zero, List.set_cons_succ]
            refine Reg.take (i := 31) (u := ?b3_v31) rfl rfl rfl (by kernel_rfl) (by kernel_rfl) (by kernel_rfl) hH ?b3_y31 ?b3_r31
            case b3_y31 => (intro w hSw; (try dsimp only at hSw); go_simp; try (with_reducible rfl))
            case' b3_r31 => simp only [List.setIfInBounds_toArray, List.set_cons_zero, List.set_cons_succ]
            refine Reg.takeIf (i := 32) (u := ?b3_v32) rfl rfl rfl rfl rfl (by kernel_rfl) (by kernel_rfl) (by kernel_rfl) hH ?b3_y32 ?b3_r32
            case b3_y32 => (intro w hSw; (try dsimp only at hSw); go_simp; try (with_reducible rfl))
            case' b3_r32 => simp only [List.setIfInBounds_toArray, List.set_cons_zero, List.set_cons_succ]
            refine Reg.takeIf (i := 33) (u := ?b3_v33) rfl rfl rfl rfl rfl (by kernel_rfl) (by kernel_rfl) (by kernel_rfl) hH ?b3_y33 ?b3_r33
            case b3_y33 => (intro w hSw; (try dsimp only at hSw); go_simp; try (with_reducible rfl))
            case' b3_r33 => simp only [List.setIfInBounds_toArray, List.set_cons_zero, List.set_cons_succ]
            refine Reg.takeIf (i := 34) (u := ?b3_v34) rfl rfl rfl rfl rfl (by kernel_rfl) (by kernel_rfl) (by kernel_rfl) hH ?b3_y34 ?b3_r34
            case b3_y34 => (intro w hSw; (try dsimp only at hSw); go_simp; try (with_reducible rfl))
            case' b3_r34 => simp only [List.setIfInBounds_toArray, List.set_cons_zero, List.set_cons_succ]
            refine Reg.takeIf (i := 35) (u := ?b3_v35) rfl rfl rfl rfl rfl (by kernel_rfl) (by kernel_rfl) (by kernel_rfl) hH ?b3_y35 ?b3_r35
            case b3_y35 => (intro w hSw; (try dsimp only at hSw); go_simp; try (with_reducible rfl))
            case' b3_r35 => simp only [List.setIfInBounds_toArray, List.set_cons_zero, List.set_cons_succ]
            refine Reg.takeIf (i := 36) (u := ?b3_v36) rfl rfl rfl rfl rfl (by kernel_rfl) (by kernel_rfl) (by kernel_rfl) hH ?b3_y36 ?b3_r36
            case b3_y36 => (intro w hSw; (try dsimp only at hSw); go_simp; try (with_reducible rfl))
            case' b3_r36 => simp only [List.setIfInBounds_toArray, List.set_cons_zero, List.set_cons_succ]
            refine Reg.takeIf (i := 37) (u := ?b3_v37) rfl rfl rfl rfl rfl (by kernel_rfl) (by kernel_rfl) (by kernel_rfl) hH ?b3_y37 ?b3_r37
            case b3_y37 => (intro w hSw; (try dsimp only at hSw); go_simp; try (with_reducible rfl))
            case' b3_r37 => simp only [List.setIfInBounds_toArray, List.set_cons_zero, List.set_cons_succ]
            refine Reg.takeIf (i := 38) (u := ?b3_v38) rfl rfl rfl rfl rfl (by kernel_rfl) (by kernel_rfl) (by kernel_rfl) hH ?b3_y38 ?b3_r38
            case b3_y38 => (intro w hSw; (try dsimp only at hSw); go_simp; try (with_reducible rfl))
            case' b3_r38 => simp only [List.setIfInBounds_toArray, List.set_cons_zero, List.set_cons_succ]
            refine Reg.takeIf (i := 39) (u := ?b3_v39) rfl rfl rfl rfl rfl (by kernel_rfl) (by kernel_rfl) (by kernel_rfl) hH ?b3_y39 ?b3_r39
            case b3_y39 => (intro w hSw; (try dsimp only at hSw); go_simp; try (with_reducible rfl))
            case' b3_r39 => simp only [List.setIfInBounds_toArray, List.set_cons_zero, List.set_cons_succ]
            refine Reg.takeIf (i := 40) (u := ?b3_v40) rfl rfl rfl rfl rfl (by kernel_rfl) (by kernel_rfl) (by kernel_rfl) hH ?b3_y40 ?b3_r40
            case b3_y40 => (intro w hSw; (try dsimp only at hSw); go_simp; try (with_reducible rfl))
            case' b3_r40 => simp only [List.setIfInBounds_toArray, List.set_cons_zero, List.set_cons_succ]
            refine Reg.takeIf (i := 41) (u := ?b3_v41) rfl rfl rfl rfl rfl (by kernel_rfl) (by kernel_rfl) (by kernel_rfl) hH ?b3_y41 ?b3_r41
            case b3_y41 => (intro w hSw; (try dsimp only at hSw); go_simp; try (with_reducible rfl))
            case' b3_r41 => simp only [List.setIfInBounds_toArray, List.set_cons_zero, List.set_cons_succ]
            refine Reg.takeIf (i := 42) (u := ?b3_v42) rfl rfl rfl rfl rfl (by kernel_rfl) (by kernel_rfl) (by kernel_rfl) hH ?b3_y42 ?b3_r42
            case b3_y42 => (intro w hSw; (try dsimp only at hSw); go_simp; try (with_reducible rfl))
            case' b3_r42 => simp only [List.setIfInBounds_toArray, List.set_cons_zero, List.set_cons_succ]
            refine Reg.takeIf (i := 43) (u := ?b3_v43) rfl rfl rfl rfl rfl (by kernel_rfl) (by kernel_rfl) (by kernel_rfl) hH ?b3_y43 ?b3_r43
            case b3_y43 => (intro w hSw; (try dsimp only at hSw); go_simp; try (with_reducible rfl))
            case' b3_r43 => simp only [List.setIfInBounds_toArray, List.set_cons_zero, List.set_cons_succ]
            refine Reg.takeIf (i := 44) (u := ?b3_v44) rfl rfl rfl rfl rfl (by kernel_rfl) (by kernel_rfl) (by kernel_rfl) hH ?b3_y44 ?b3_r44
            case b3_y44 => (intro w hSw; (try dsimp only at hSw); go_simp; try (with_reducible rfl))
            case' b3_r44 => simp only [List.setIfInBounds_toArray, List.set_cons_zero, List.set_cons_succ]
            refine Reg.takeIf (i := 45) (u := ?b3_v45) rfl rfl rfl rfl rfl (by kernel_rfl) (by kernel_rfl) (by kernel_rfl) hH ?b3_y45 ?b3_r45
            case b3_y45 => (intro w hSw; (try dsimp only at hSw); go_simp; try (with_reducible rfl))
            case' b3_r45 => simp only [List.setIfInBounds_toArray, List.set_cons_zero, List.set_cons_succ]
            refine Reg.takeIf (i := 46) (u := ?b3_v46) rfl rfl rfl rfl rfl (by kernel_rfl) (by kernel_rfl) (by kernel_rfl) hH ?b3_y46 ?b3_r46
            case b3_y46 => (intro w hSw; (try dsimp only at hSw); go_simp; try (with_reducible rfl))
            case' b3_r46 => simp only [List.setIfInBounds_toArray, List.set_cons_zero, List.set_cons_succ]
            refine Reg.takeIf (i := 47) (u := ?b3_v47) rfl rfl rfl rfl rfl (by kernel_rfl) (by kernel_rfl) (by kernel_rfl) hH ?b3_y47 ?b3_r47
            case b3_y47 => (intro w hSw; (try dsimp only at hSw); go_simp; try (with_reducible rfl))
            case' b3_r47 => simp only [List.setIfInBounds_toArray, List.set_cons_zero, List.set_cons_succ]
            refine Reg.takeIf (i := 48) (u := ?b3_v48) rfl rfl rfl rfl rfl (by kernel_rfl) (by kernel_rfl) (by kernel_rfl) hH ?b3_y48 ?b3_r48
            case b3_y48 => (intro w hSw; (try dsimp only at hSw); go_simp; try (with_reducible rfl))
            case' b3_r48 => simp only [List.setIfInBounds_toArray, List.set_cons_zero, List.set_cons_succ]
            refine Reg.skip (i := 49) rfl rfl rfl rfl rfl (by first | exact Value.noConfusion | (intro h; cases h)) (by kernel_rfl) (by kernel_rfl) (by kernel_rfl) hH ?_
            simp only [List.setIfInBounds_toArray, List.set_cons_zero, List.set_cons_succ]
            refine Reg.skip (i := 50) rfl rfl rfl rfl rfl (by first | exact Value.noConfusion | (intro h; cases h)) (by kernel_rfl) (by kernel_rfl) (by kernel_rfl) hH ?_
            simp only [List.setIfInBounds_toArray, List.set_cons_zero, List.set_cons_succ]
            refine Reg.skip (i := 51) rfl rfl rfl rfl rfl (by first | exact Value.noConfusion | (intro h; cases h)) (by kernel_rfl) (by kernel_rfl) (by kernel_rfl) hH ?_
            simp only [List.setIfInBounds_toArray, List.set_cons_zero, List.set_cons_succ]
            refine Reg.skip (i := 52) rfl rfl rfl rfl rfl (by first | exact Value.noConfusion | (intro h; cases h)) (by kernel_rfl) (by kernel_rfl) (by kernel_rfl) hH ?_
            simp only [List.setIfInBounds_toArray, List.set_cons_zero, List.set_cons_succ]
            refine Reg.skip (i := 53) rfl rfl rfl rfl rfl (by first | exact Value.noConfusion | (intro h; cases h)) (by kernel_rfl) (by kernel_rfl) (by kernel_rfl) hH ?_
            simp only [List.setIfInBounds_toArray, List.set_cons_zero, List.set_cons_succ]
            refine Reg.skip (i := 54) rfl rfl rfl rfl rfl (by first | exact Value.noConfusion | (intro h; cases h)) (by kernel_rfl) (by kernel_rfl) (by kernel_rfl) hH ?_
            simp only [List.setIfInBounds_toArray, List.set_cons_zero, List.set_cons_succ]
            refine Reg.takeIf (i := 55) (u := ?b3_v55) rfl rfl rfl rfl rfl (by kernel_rfl) (by kernel_rfl) (by kernel_rfl) hH ?b3_y55 ?b3_r55
            case b3_y55 => (intro w hSw; (try dsimp only at hSw); go_simp; try (with_reducible rfl))
            case' b3_r55 => simp only [List.setIfInBounds_toArray, List.set_cons_zero, List.set_cons_succ]
            refine Reg.take (i := 56) (u := ?b3_v56) rfl rfl rfl (by kernel_rfl) (by kernel_rfl) (by kernel_rfl) hH ?b3_y56 ?b3_r56
            case b3_y56 => (intro w hSw; (try dsimp only at hSw); go_simp; try (with_reducible rfl))
            case' b3_r56 => simp only [List.setIfInBounds_toArray, List.set_cons_zero, List.set_cons_succ]
            refine wpAnyH_done (by kernel_rfl) ?_ _
            refine NoPanic.normal ?_
            go_wp2_with fail
            go_meet
            case rel => exact ⟨rfl, nn + 2, rfl⟩
          · have hy0 := (hnext.2 hxt).1
            rw [show ((y : Nat) : Int) = 0 by omega] at e1
            clear hnext
            have hxt1 : ((x : Int) == (tx : Int)) = false := by rw [beq_eq_false_iff_ne]; omega
            have hxt2 : ((x : Int) != (tx : Int)) = true := by simp; omega
            refine wp_region_noPanic ?_
            refine wp_region_held_drew (S := fun w' => w'.cell? (rd.add (k * 2)) = some (.int .i64 (x : Nat)) ∧ w'.cell? ⟨(rd.add (k * 2)).block, (rd.add (k * 2)).off + 1, none⟩ = some (.int .i64 0) ∧ w'.cell? (rd.add ((k - 1) * 2)) = some (.int .i64 (tx : Nat)) ∧ w'.cell? ⟨(rd.add ((k - 1) * 2)).block, (rd.add ((k - 1) * 2)).off + 1, none⟩ = some (.int .i64 (ty : Nat))) (by kernel_rfl) ?_ (fun hH => ?_)
            · exact ⟨e0, e1, t0, t1⟩
            refine Reg.take (i := 0) (u := ?b4_v0) rfl rfl rfl (by kernel_rfl) (by kernel_rfl) (by kernel_rfl) hH ?b4_y0 ?b4_r0
            case b4_y0 => (intro w hSw; (try dsimp only at hSw); go_simp; try (with_reducible rfl))
            case' b4_r0 => simp only [List.setIfInBounds_toArray, List.set_cons_zero, List.set_cons_succ]
            refine Reg.take (i := 1) (u := ?b4_v1) rfl rfl rfl (by kernel_rfl) (by kernel_rfl) (by kernel_rfl) hH ?b4_y1 ?b4_r1
            case b4_y1 => (intro w hSw; (try dsimp only at hSw); go_simp; try (with_reducible rfl))
            case' b4_r1 => simp only [List.setIfInBounds_toArray, List.set_cons_zero, List.set_cons_succ]
            refine Reg.take (i := 2) (u := ?b4_v2) rfl rfl rfl (by kernel_rfl) (by kernel_rfl) (by kernel_rfl) hH ?b4_y2 ?b4_r2
            case b4_y2 => (intro w hSw; (try dsimp only at hSw); go_simp; try (with_reducible rfl))
            case' b4_r2 => simp only [List.setIfInBounds_toArray, List.set_cons_zero, List.set_cons_succ]
            refine Reg.takeIf (i := 3) (u := ?b4_v3) rfl rfl rfl rfl rfl (by kernel_rfl) (by kernel_rfl) (by kernel_rfl) hH ?b4_y3 ?b4_r3
            case b4_y3 => (intro w hSw; (try dsimp only at hSw); go_simp; try (with_reducible rfl))
            case' b4_r3 => simp only [List.setIfInBounds_toArray, List.set_cons_zero, List.set_cons_succ]
            refine Reg.takeIf (i := 4) (u := ?b4_v4) rfl rfl rfl rfl rfl (by kernel_rfl) (by kernel_rfl) (by kernel_rfl) hH ?b4_y4 ?b4_r4
            case b4_y4 => (intro w hSw; (try dsimp only at hSw); go_simp; try (with_reducible rfl))
            case' b4_r4 => simp only [List.setIfInBounds_toArray, List.set_cons_zero, List.set_cons_succ]
            refine Reg.takeIf (i := 5) (u := ?b4_v5) rfl rfl rfl rfl rfl (by kernel_rfl) (by kernel_rfl) (by kernel_rfl) hH ?b4_y5 ?b4_r5
            case b4_y5 => (intro w hSw; (try dsimp only at hSw); go_simp; try (with_reducible rfl))
            case' b4_r5 => simp only [List.setIfInBounds_toArray, List.set_cons_zero, List.set_cons_succ]
            refine Reg.takeIf (i := 6) (u := ?b4_v6) rfl rfl rfl rfl rfl (by kernel_rfl) (by kernel_rfl) (by kernel_rfl) hH ?b4_y6 ?b4_r6
            case b4_y6 => (intro w hSw; (try dsimp only at hSw); go_simp; try (with_reducible rfl))
            case' b4_r6 => simp only [List.setIfInBounds_toArray, List.set_cons_zero, List.set_cons_succ]
            refine Reg.takeIf (i := 7) (u := ?b4_v7) rfl rfl rfl rfl rfl (by kernel_rfl) (by kernel_rfl) (by kernel_rfl) hH ?b4_y7 ?b4_r7
            case b4_y7 => (intro w hSw; (try dsimp only at hSw); go_simp; try (with_reducible rfl))
            case' b4_r7 => simp only [List.setIfInBounds_toArray, List.set_cons_zero, List.set_cons_succ]
            refine Reg.takeIf (i := 8) (u := ?b4_v8) rfl rfl rfl rfl rfl (by kernel_rfl) (by kernel_rfl) (by kernel_rfl) hH ?b4_y8 ?b4_r8
            case b4_y8 => (intro w hSw; (try dsimp only at hSw); go_simp; try (with_reducible rfl))
            case' b4_r8 => simp only [List.setIfInBounds_toArray, List.set_cons_zero, List.set_cons_succ]
            refine Reg.takeIf (i := 9) (u := ?b4_v9) rfl rfl rfl rfl rfl (by kernel_rfl) (by kernel_rfl) (by kernel_rfl) hH ?b4_y9 ?b4_r9
            case b4_y9 => (intro w hSw; (try dsimp only at hSw); go_simp; try (with_reducible rfl))
            case' b4_r9 => simp only [List.setIfInBounds_toArray, List.set_cons_zero, List.set_cons_succ]
            refine Reg.takeIf (i := 10) (u := ?b4_v10) rfl rfl rfl rfl rfl (by kernel_rfl) (by kernel_rfl) (by kernel_rfl) hH ?b4_y10 ?b4_r10
            case b4_y10 => (intro w hSw; (try dsimp only at hSw); go_simp; try (with_reducible rfl))
            case' b4_r10 => simp only [List.setIfInBounds_toArray, List.set_cons_zero, List.set_cons_succ]
            refine Reg.takeIf (i := 11) (u := ?b4_v11) rfl rfl rfl rfl rfl (by kernel_rfl) (by kernel_rfl) (by kernel_rfl) hH ?b4_y11 ?b4_r11
            case b4_y11 => (intro w hSw; (try dsimp only at hSw); go_simp; try (with_reducible rfl))
            case' b4_r11 => simp only [List.setIfInBounds_toArray, List.set_cons_zero, List.set_cons_succ]
            refine Reg.takeIf (i := 12) (u := ?b4_v12) rfl rfl rfl rfl rfl (by kernel_rfl) (by kernel_rfl) (by kernel_rfl) hH ?b4_y12 ?b4_r12
            case b4_y12 => (intro w hSw; (try dsimp only at hSw); go_simp; try (with_reducible rfl))
            case' b4_r12 => simp only [List.setIfInBounds_toArray, List.set_cons_zero, List.set_cons_succ]
            refine Reg.takeIf (i := 13) (u := ?b4_v13) rfl rfl rfl rfl rfl (by kernel_rfl) (by kernel_rfl) (by kernel_rfl) hH ?b4_y13 ?b4_r13
            case b4_y13 => (intro w hSw; (try dsimp only at hSw); go_simp; try (with_reducible rfl))
            case' b4_r13 => simp only [List.setIfInBounds_toArray, List.set_cons_zero, List.set_cons_succ]
            refine Reg.takeIf (i := 14) (u := ?b4_v14) rfl rfl rfl rfl rfl (by kernel_rfl) (by kernel_rfl) (by kernel_rfl) hH ?b4_y14 ?b4_r14
            case b4_y14 => (intro w hSw; (try dsimp only at hSw); go_simp; try (with_reducible rfl))
            case' b4_r14 => simp only [List.setIfInBounds_toArray, List.set_cons_zero, List.set_cons_succ]
            refine Reg.take (i := 15) (u := ?b4_v15) rfl rfl rfl (by kernel_rfl) (by kernel_rfl) (by kernel_rfl) hH ?b4_y15 ?b4_r15
            case b4_y15 => (intro w hSw; (try dsimp only at hSw); go_simp; try (with_reducible rfl))
            case' b4_r15 => simp only [List.setIfInBounds_toArray, List.set_cons_zero, List.set_cons_succ]
            refine Reg.take (i := 16) (u := ?b4_v16) rfl rfl rfl (by kernel_rfl) (by kernel_rfl) (by kernel_rfl) hH ?b4_y16 ?b4_r16
            case b4_y16 => (intro w hSw; (try dsimp only at hSw); go_simp; try (with_reducible rfl))
            case' b4_r16 => simp only [List.setIfInBounds_toArray, List.set_cons_zero, List.set_cons_succ]
            refine Reg.skip (i := 17) rfl rfl rfl rfl rfl (by first | exact Value.noConfusion | (intro h; cases h)) (by kernel_rfl) (by kernel_rfl) (by kernel_rfl) hH ?_
            simp only [List.setIfInBounds_toArray, List.set_cons_zero, List.set_cons_succ]
            refine Reg.skip (i := 18) rfl rfl rfl rfl rfl (by first | exact Value.noConfusion | (intro h; cases h)) (by kernel_rfl) (by kernel_rfl) (by kernel_rfl) hH ?_
            simp only [List.setIfInBounds_toArray, List.set_cons_zero, List.set_cons_succ]
            refine Reg.skip (i := 19) rfl rfl rfl rfl rfl (by first | exact Value.noConfusion | (intro h; cases h)) (by kernel_rfl) (by kernel_rfl) (by kernel_rfl) hH ?_
            simp only [List.setIfInBounds_toArray, List.set_cons_zero, List.set_cons_succ]
            refine Reg.skip (i := 20) rfl rfl rfl rfl rfl (by first | exact Value.noConfusion | (intro h; cases h)) (by kernel_rfl) (by kernel_rfl) (by kernel_rfl) hH ?_
            simp only [List.setIfInBounds_toArray, List.set_cons_zero, List.set_cons_succ]
            refine Reg.skip (i := 21) rfl rfl rfl rfl rfl (by first | exact Value.noConfusion | (intro h; cases h)) (by kernel_rfl) (by kernel_rfl) (by kernel_rfl) hH ?_
            simp only [List.setIfInBounds_toArray, List.set_cons_zero, List.set_cons_succ]
            refine Reg.skip (i := 22) rfl rfl rfl rfl rfl (by first | exact Value.noConfusion | (intro h; cases h)) (by kernel_rfl) (by kernel_rfl) (by kernel_rfl) hH ?_
            simp only [List.setIfInBounds_toArray, List.set_cons_zero, List.set_cons_succ]
            refine Reg.skip (i := 23) rfl rfl rfl rfl rfl (by first | exact Value.noConfusion | (intro h; cases h)) (by kernel_rfl) (by kernel_rfl) (by kernel_rfl) hH ?_
            simp only [List.setIfInBounds_toArray, List.set_cons_zero, List.set_cons_succ]
            refine Reg.skip (i := 24) rfl rfl rfl rfl rfl (by first | exact Value.noConfusion | (intro h; cases h)) (by kernel_rfl) (by kernel_rfl) (by kernel_rfl) hH ?_
            simp only [List.setIfInBounds_toArray, List.set_cons_zero, List.set_cons_succ]
            refine Reg.skip (i := 25) rfl rfl rfl rfl rfl (by first | exact Value.noConfusion | (intro h; cases h)) (by kernel_rfl) (by kernel_rfl) (by kernel_rfl) hH ?_
            simp only [List.setIfInBounds_toArray, List.set_cons_zero, List.set_cons_succ]
            refine Reg.skip (i := 26) rfl rfl rfl rfl rfl (by first | exact Value.noConfusion | (intro h; cases h)) (by kernel_rfl) (by kernel_rfl) (by kernel_rfl) hH ?_
            simp only [List.setIfInBounds_toArray, List.set_cons_zero, List.set_cons_succ]
            refine Reg.skip (i := 27) rfl rfl rfl rfl rfl (by first | exact Value.noConfusion | (intro h; cases h)) (by kernel_rfl) (by kernel_rfl) (by kernel_rfl) hH ?_
            simp only [List.setIfInBounds_toArray, List.set_cons_zero, List.set_cons_succ]
            refine Reg.skip (i := 28) rfl rfl rfl rfl rfl (by first | exact Value.noConfusion | (intro h; cases h)) (by kernel_rfl) (by kernel_rfl) (by kernel_rfl) hH ?_
            simp only [List.setIfInBounds_toArray, List.set_cons_zero, List.set_cons_succ]
            refine Reg.skip (i := 29) rfl rfl rfl rfl rfl (by first | exact Value.noConfusion | (intro h; cases h)) (by kernel_rfl) (by kernel_rfl) (by kernel_rfl) hH ?_
            simp only [List.setIfInBounds_toArray, List.set_cons_zero, List.set_cons_succ]
            refine Reg.take (i := 30) (u := ?b4_v30) rfl rfl rfl (by kernel_rfl) (by kernel_rfl) (by kernel_rfl) hH ?b4_y30 ?b4_r30
            case b4_y30 => (intro w hSw; (try dsimp only at hSw); go_simp; try (with_reducible rfl))
            case' b4_r30 => simp only [List.setIfInBounds_toArray, List.set_cons_zero, List.set_cons_succ]
            refine Reg.take (i := 31) (u := ?b4_v31) rfl rfl rfl (by kernel_rfl) (by kernel_rfl) (by kernel_rfl) hH ?b4_y31 ?b4_r31
            case b4_y31 => (intro w hSw; (try dsimp only at hSw); go_simp; try (with_reducible rfl))
            case' b4_r31 => simp only [List.setIfInBounds_toArray, List.set_cons_zero, List.set_cons_succ]
            refine Reg.takeIf (i := 32) (u := ?b4_v32) rfl rfl rfl rfl rfl (by kernel_rfl) (by kernel_rfl) (by kernel_rfl) hH ?b4_y32 ?b4_r32
            case b4_y32 => (intro w hSw; (try dsimp only at hSw); go_simp; try (with_reducible rfl))
            case' b4_r32 => simp only [List.setIfInBounds_toArray, List.set_cons_zero, List.set_cons_succ]
            refine Reg.takeIf (i := 33) (u := ?b4_v33) rfl rfl rfl rfl rfl (by kernel_rfl) (by kernel_rfl) (by kernel_rfl) hH ?b4_y33 ?b4_r33
            case b4_y33 => (intro w hSw; (try dsimp only at hSw); go_simp; try (with_reducible rfl))
            case' b4_r33 => simp only [List.setIfInBounds_toArray, List.set_cons_zero, List.set_cons_succ]
            refine Reg.takeIf (i := 34) (u := ?b4_v34) rfl rfl rfl rfl rfl (by kernel_rfl) (by kernel_rfl) (by kernel_rfl) hH ?b4_y34 ?b4_r34
            case b4_y34 => (intro w hSw; (try dsimp only at hSw); go_simp; try (with_reducible rfl))
            case' b4_r34 => simp only [List.setIfInBounds_toArray, List.set_cons_zero, List.set_cons_succ]
            refine Reg.takeIf (i := 35) (u := ?b4_v35) rfl rfl rfl rfl rfl (by kernel_rfl) (by kernel_rfl) (by kernel_rfl) hH ?b4_y35 ?b4_r35
            case b4_y35 => (intro w hSw; (try dsimp only at hSw); go_simp; try (with_reducible rfl))
            case' b4_r35 => simp only [List.setIfInBounds_toArray, List.set_cons_zero, List.set_cons_succ]
            refine Reg.takeIf (i := 36) (u := ?b4_v36) rfl rfl rfl rfl rfl (by kernel_rfl) (by kernel_rfl) (by kernel_rfl) hH ?b4_y36 ?b4_r36
            case b4_y36 => (intro w hSw; (try dsimp only at hSw); go_simp; try (with_reducible rfl))
            case' b4_r36 => simp only [List.setIfInBounds_toArray, List.set_cons_zero, List.set_cons_succ]
            refine Reg.takeIf (i := 37) (u := ?b4_v37) rfl rfl rfl rfl rfl (by kernel_rfl) (by kernel_rfl) (by kernel_rfl) hH ?b4_y37 ?b4_r37
            case b4_y37 => (intro w hSw; (try dsimp only at hSw); go_simp; try (with_reducible rfl))
            case' b4_r37 => simp only [List.setIfInBounds_toArray, List.set_cons_zero, List.set_cons_succ]
            refine Reg.takeIf (i := 38) (u := ?b4_v38) rfl rfl rfl rfl rfl (by kernel_rfl) (by kernel_rfl) (by kernel_rfl) hH ?b4_y38 ?b4_r38
            case b4_y38 => (intro w hSw; (try dsimp only at hSw); go_simp; try (with_reducible rfl))
            case' b4_r38 => simp only [List.setIfInBounds_toArray, List.set_cons_zero, List.set_cons_succ]
            refine Reg.takeIf (i := 39) (u := ?b4_v39) rfl rfl rfl rfl rfl (by kernel_rfl) (by kernel_rfl) (by kernel_rfl) hH ?b4_y39 ?b4_r39
            case b4_y39 => (intro w hSw; (try dsimp only at hSw); go_simp; try (with_reducible rfl))
            case' b4_r39 => simp only [List.setIfInBounds_toArray, List.set_cons_zero, List.set_cons_succ]
            refine Reg.takeIf (i := 40) (u := ?b4_v40) rfl rfl rfl rfl rfl (by kernel_rfl) (by kernel_rfl) (by kernel_rfl) hH ?b4_y40 ?b4_r40
            case b4_y40 => (intro w hSw; (try dsimp only at hSw); go_simp; try (with_reducible rfl))
            case' b4_r40 => simp only [List.setIfInBounds_toArray, List.set_cons_zero, List.set_cons_succ]
            refine Reg.takeIf (i := 41) (u := ?b4_v41) rfl rfl rfl rfl rfl (by kernel_rfl) (by kernel_rfl) (by kernel_rfl) hH ?b4_y41 ?b4_r41
            case b4_y41 => (intro w hSw; (try dsimp only at hSw); go_simp; try (with_reducible rfl))
            case' b4_r41 => simp only [List.setIfInBounds_toArray, List.set_cons_zero, List.set_cons_succ]
            refine Reg.takeIf (i := 42) (u := ?b4_v42) rfl rfl rfl rfl rfl (by kernel_rfl) (by kernel_rfl) (by kernel_rfl) hH ?b4_y42 ?b4_r42
            case b4_y42 => (intro w hSw; (try dsimp only at hSw); go_simp; try (with_reducible rfl))
            case' b4_r42 => simp only [List.setIfInBounds_toArray, List.set_cons_zero, List.set_cons_succ]
            refine Reg.takeIf (i := 43) (u := ?b4_v43) rfl rfl rfl rfl rfl (by kernel_rfl) (by kernel_rfl) (by kernel_rfl) hH ?b4_y43 ?b4_r43
            case b4_y43 => (intro w hSw; (try dsimp only at hSw); go_simp; try (with_reducible rfl))
            case' b4_r43 => simp only [List.setIfInBounds_toArray, List.set_cons_zero, List.set_cons_succ]
            refine Reg.takeIf (i := 44) (u := ?b4_v44) rfl rfl rfl rfl rfl (by kernel_rfl) (by kernel_rfl) (by kernel_rfl) hH ?b4_y44 ?b4_r44
            case b4_y44 => (intro w hSw; (try dsimp only at hSw); go_simp; try (with_reducible rfl))
            case' b4_r44 => simp only [List.setIfInBounds_toArray, List.set_cons_zero, List.set_cons_succ]
            refine Reg.takeIf (i := 45) (u := ?b4_v45) rfl rfl rfl rfl rfl (by kernel_rfl) (by kernel_rfl) (by kernel_rfl) hH ?b4_y45 ?b4_r45
            case b4_y45 => (intro w hSw; (try dsimp only at hSw); go_simp; try (with_reducible rfl))
            case' b4_r45 => simp only [List.setIfInBounds_toArray, List.set_cons_zero, List.set_cons_succ]
            refine Reg.takeIf (i := 46) (u := ?b4_v46) rfl rfl rfl rfl rfl (by kernel_rfl) (by kernel_rfl) (by kernel_rfl) hH ?b4_y46 ?b4_r46
            case b4_y46 => (intro w hSw; (try dsimp only at hSw); go_simp; try (with_reducible rfl))
            case' b4_r46 => simp only [List.setIfInBounds_toArray, List.set_cons_zero, List.set_cons_succ]
            refine Reg.takeIf (i := 47) (u := ?b4_v47) rfl rfl rfl rfl rfl (by kernel_rfl) (by kernel_rfl) (by kernel_rfl) hH ?b4_y47 ?b4_r47
            case b4_y47 => (intro w hSw; (try dsimp only at hSw); go_simp; try (with_reducible rfl))
            case' b4_r47 => simp only [List.setIfInBounds_toArray, List.set_cons_zero, List.set_cons_succ]
            refine Reg.takeIf (i := 48) (u := ?b4_v48) rfl rfl rfl rfl rfl (by kernel_rfl) (by kernel_rfl) (by kernel_rfl) hH ?b4_y48 ?b4_r48
            case b4_y48 => (intro w hSw; (try dsimp only at hSw); go_simp; try (with_reducible rfl))
            case' b4_r48 => simp only [List.setIfInBounds_toArray, List.set_cons_zero, List.set_cons_succ]
            refine Reg.takeIf (i := 49) (u := ?b4_v49) rfl rfl rfl rfl rfl (by kernel_rfl) (by kernel_rfl) (by kernel_rfl) hH ?b4_y49 ?b4_r49
            case b4_y49 => (intro w hSw; (try dsimp only at hSw); go_simp; try (with_reducible rfl))
            case' b4_r49 => simp only [List.setIfInBounds_toArray, List.set_cons_zero, List.set_cons_succ]
            refine Reg.takeIf (i := 50) (u := ?b4_v50) rfl rfl rfl rfl rfl (by kernel_rfl) (by kernel_rfl) (by kernel_rfl) hH ?b4_y50 ?b4_r50
            case b4_y50 => (intro w hSw; (try dsimp only at hSw); go_simp; try (with_reducible rfl))
            case' b4_r50 => simp only [List.setIfInBounds_toArray, List.set_cons_zero, List.set_cons_succ]
            refine Reg.takeIf (i := 51) (u := ?b4_v51) rfl rfl rfl rfl rfl (by kernel_rfl) (by kernel_rfl) (by kernel_rfl) hH ?b4_y51 ?b4_r51
            case b4_y51 => (intro w hSw; (try dsimp only at hSw); go_simp; try (with_reducible rfl))
            case' b4_r51 => simp only [List.setIfInBounds_toArray, List.set_cons_zero, List.set_cons_succ]
            refine Reg.takeIf (i := 52) (u := ?b4_v52) rfl rfl rfl rfl rfl (by kernel_rfl) (by kernel_rfl) (by kernel_rfl) hH ?b4_y52 ?b4_r52
            case b4_y52 => (intro w hSw; (try dsimp only at hSw); go_simp; try (with_reducible rfl))
            case' b4_r52 => simp only [List.setIfInBounds_toArray, List.set_cons_zero, List.set_cons_succ]
            refine Reg.takeIf (i := 53) (u := ?b4_v53) rfl rfl rfl rfl rfl (by kernel_rfl) (by kernel_rfl) (by kernel_rfl) hH ?b4_y53 ?b4_r53
            case b4_y53 => (intro w hSw; (try dsimp only at hSw); go_simp; try (with_reducible rfl))
            case' b4_r53 => simp only [List.setIfInBounds_toArray, List.set_cons_zero, List.set_cons_succ]
            refine Reg.takeIf (i := 54) (u := ?b4_v54) rfl rfl rfl rfl rfl (by kernel_rfl) (by kernel_rfl) (by kernel_rfl) hH ?b4_y54 ?b4_r54
            case b4_y54 => (intro w hSw; (try dsimp only at hSw); go_simp; try (with_reducible rfl))
            case' b4_r54 => simp only [List.setIfInBounds_toArray, List.set_cons_zero, List.set_cons_succ]
            refine Reg.takeIf (i := 55) (u := ?b4_v55) rfl rfl rfl rfl rfl (by kernel_rfl) (by kernel_rfl) (by kernel_rfl) hH ?b4_y55 ?b4_r55
            case b4_y55 => (intro w hSw; (try dsimp only at hSw); go_simp; try (with_reducible rfl))
            case' b4_r55 => simp only [List.setIfInBounds_toArray, List.set_cons_zero, List.set_cons_succ]
            refine Reg.take (i := 56) (u := ?b4_v56) rfl rfl rfl (by kernel_rfl) (by kernel_rfl) (by kernel_rfl) hH ?b4_y56 ?b4_r56
            case b4_y56 => (intro w hSw; (try dsimp only at hSw); go_simp; try (with_reducible rfl))
            case' b4_r56 => simp only [List.setIfInBounds_toArray, List.set_cons_zero, List.set_cons_succ]
            refine wpAnyH_done (by kernel_rfl) ?_ _
            refine NoPanic.normal ?_
            go_wp2_with fail
            go_meet
            case rel => exact ⟨rfl, nn + 2, rfl⟩
      case rest =>
        obtain ⟨rfl, n2, rfl⟩ := hcut
        go_upto_region 14 with fail
        go_cut [179] (fun s wx => s = .bool false ∧ ∃ j, wx = w5.drewN j)
        case first => as_aux_lemma =>
          have hkw : IntKind.i64.wrap ((k : Int) + 1) = (k : Int) + 1 := IntWalk.i64_in _ (by omega)
          by_cases hlast : k + 1 = m
          · have hrl := OS.out.last k _ HS.out (by rw [← HM.out]; exact hlast)
            rw [HR.out] at hrl
            dsimp only at hrl
            have hrw : IntKind.i64.wrap ((rn : Int) - 1) = (y : Int) := by rw [← hrl]; rw [show (((y + 1 : Nat) : Int) - 1) = (y : Int) by omega]; exact IntWalk.i64_in _ (by omega)
            have hm1 : ((k : Int) + 1 == (m : Int)) = true := by rw [beq_iff_eq]; omega
            clear hrl hlast
            refine wp_region_noPanic ?_
            refine wp_region_held_drew (S := fun w' => w'.cell? (rd.add (k * 2)) = some (.int .i64 (x : Nat)) ∧ w'.cell? ⟨(rd.add (k * 2)).block, (rd.add (k * 2)).off + 1, none⟩ = some (.int .i64 (y : Nat)) ∧ w'.cell? ⟨(ad.add (x * 3)).block, (ad.add (x * 3)).off + 2, none⟩ = some (.slice ra rn rc)) (by kernel_rfl) ?_ (fun hH => ?_)
            · exact ⟨e0, e1, r0⟩
            refine Reg.take (i := 0) (u := ?b5_v0) rfl rfl rfl (by kernel_rfl) (by kernel_rfl) (by kernel_rfl) hH ?b5_y0 ?b5_r0
            case b5_y0 => (intro w hSw; (try dsimp only at hSw); go_simp; try (with_reducible rfl))
            case' b5_r0 => simp only [List.setIfInBounds_toArray, List.set_cons_zero, List.set_cons_succ]
            refine Reg.take (i := 1) (u := ?b5_v1) rfl rfl rfl (by kernel_rfl) (by kernel_rfl) (by kernel_rfl) hH ?b5_y1 ?b5_r1
            case b5_y1 => (intro w hSw; (try dsimp only at hSw); go_simp; try (with_reducible rfl))
            case' b5_r1 => simp only [List.setIfInBounds_toArray, List.set_cons_zero, List.set_cons_succ]
            refine Reg.take (i := 2) (u := ?b5_v2) rfl rfl rfl (by kernel_rfl) (by kernel_rfl) (by kernel_rfl) hH ?b5_y2 ?b5_r2
            case b5_y2 => (intro w hSw; (try dsimp only at hSw); go_simp; try (with_reducible rfl))
            case' b5_r2 => simp only [List.setIfInBounds_toArray, List.set_cons_zero, List.set_cons_succ]
            refine Reg.take (i := 3) (u := ?b5_v3) rfl rfl rfl (by kernel_rfl) (by kernel_rfl) (by kernel_rfl) hH ?b5_y3 ?b5_r3
            case b5_y3 => (intro w hSw; (try dsimp only at hSw); go_simp; try (with_reducible rfl))
            case' b5_r3 => simp only [List.setIfInBounds_toArray, List.set_cons_zero, List.set_cons_succ]
            refine Reg.take (i := 4) (u := ?b5_v4) rfl rfl rfl (by kernel_rfl) (by kernel_rfl) (by kernel_rfl) hH ?b5_y4 ?b5_r4
            case b5_y4 => (intro w hSw; (try dsimp only at hSw); go_simp; try (with_reducible rfl))
            case' b5_r4 => simp only [List.setIfInBounds_toArray, List.set_cons_zero, List.set_cons_succ]
            refine Reg.take (i := 5) (u := ?b5_v5) rfl rfl rfl (by kernel_rfl) (by kernel_rfl) (by kernel_rfl) hH ?b5_y5 ?b5_r5
            case b5_y5 => (intro w hSw; (try dsimp only at hSw); go_simp; try (with_reducible rfl))
            case' b5_r5 => simp only [List.setIfInBounds_toArray, List.set_cons_zero, List.set_cons_succ]
            refine Reg.skip (i := 6) rfl rfl rfl rfl rfl (by first | exact Value.noConfusion | (intro h; cases h)) (by kernel_rfl) (by kernel_rfl) (by kernel_rfl) hH ?_
            simp only [List.setIfInBounds_toArray, List.set_cons_zero, List.set_cons_succ]
            refine Reg.skip (i := 7) rfl rfl rfl rfl rfl (by first | exact Value.noConfusion | (intro h; cases h)) (by kernel_rfl) (by kernel_rfl) (by kernel_rfl) hH ?_
            simp only [List.setIfInBounds_toArray, List.set_cons_zero, List.set_cons_succ]
            refine Reg.skip (i := 8) rfl rfl rfl rfl rfl (by first | exact Value.noConfusion | (intro h; cases h)) (by kernel_rfl) (by kernel_rfl) (by kernel_rfl) hH ?_
            simp only [List.setIfInBounds_toArray, List.set_cons_zero, List.set_cons_succ]
            refine Reg.skip (i := 9) rfl rfl rfl rfl rfl (by first | exact Value.noConfusion | (intro h; cases h)) (by kernel_rfl) (by kernel_rfl) (by kernel_rfl) hH ?_
            simp only [List.setIfInBounds_toArray, List.set_cons_zero, List.set_cons_succ]
            refine Reg.skip (i := 10) rfl rfl rfl rfl rfl (by first | exact Value.noConfusion | (intro h; cases h)) (by kernel_rfl) (by kernel_rfl) (by kernel_rfl) hH ?_
            simp only [List.setIfInBounds_toArray, List.set_cons_zero, List.set_cons_succ]
            refine Reg.skip (i := 11) rfl rfl rfl rfl rfl (by first | exact Value.noConfusion | (intro h; cases h)) (by kernel_rfl) (by kernel_rfl) (by kernel_rfl) hH ?_
            simp only [List.setIfInBounds_toArray, List.set_cons_zero, List.set_cons_succ]
            refine Reg.skip (i := 12) rfl rfl rfl rfl rfl (by first | exact Value.noConfusion | (intro h; cases h)) (by kernel_rfl) (by kernel_rfl) (by kernel_rfl) hH ?_
            simp only [List.setIfInBounds_toArray, List.set_cons_zero, List.set_cons_succ]
            refine Reg.skip (i := 13) rfl rfl rfl rfl rfl (by first | exact Value.noConfusion | (intro h; cases h)) (by kernel_rfl) (by kernel_rfl) (by kernel_rfl) hH ?_
            simp only [List.setIfInBounds_toArray, List.set_cons_zero, List.set_cons_succ]
            refine Reg.skip (i := 14) rfl rfl rfl rfl rfl (by first | exact Value.noConfusion | (intro h; cases h)) (by kernel_rfl) (by kernel_rfl) (by kernel_rfl) hH ?_
            simp only [List.setIfInBounds_toArray, List.set_cons_zero, List.set_cons_succ]
            refine Reg.skip (i := 15) rfl rfl rfl rfl rfl (by first | exact Value.noConfusion | (intro h; cases h)) (by kernel_rfl) (by kernel_rfl) (by kernel_rfl) hH ?_
            simp only [List.setIfInBounds_toArray, List.set_cons_zero, List.set_cons_succ]
            refine Reg.skip (i := 16) rfl rfl rfl rfl rfl (by first | exact Value.noConfusion | (intro h; cases h)) (by kernel_rfl) (by kernel_rfl) (by kernel_rfl) hH ?_
            simp only [List.setIfInBounds_toArray, List.set_cons_zero, List.set_cons_succ]
            refine Reg.skip (i := 17) rfl rfl rfl rfl rfl (by first | exact Value.noConfusion | (intro h; cases h)) (by kernel_rfl) (by kernel_rfl) (by kernel_rfl) hH ?_
            simp only [List.setIfInBounds_toArray, List.set_cons_zero, List.set_cons_succ]
            refine Reg.take (i := 18) (u := ?b5_v18) rfl rfl rfl (by kernel_rfl) (by kernel_rfl) (by kernel_rfl) hH ?b5_y18 ?b5_r18
            case b5_y18 => (intro w hSw; (try dsimp only at hSw); go_simp; try (with_reducible rfl))
            case' b5_r18 => simp only [List.setIfInBounds_toArray, List.set_cons_zero, List.set_cons_succ]
            refine Reg.take (i := 19) (u := ?b5_v19) rfl rfl rfl (by kernel_rfl) (by kernel_rfl) (by kernel_rfl) hH ?b5_y19 ?b5_r19
            case b5_y19 => (intro w hSw; (try dsimp only at hSw); go_simp; try (with_reducible rfl))
            case' b5_r19 => simp only [List.setIfInBounds_toArray, List.set_cons_zero, List.set_cons_succ]
            refine Reg.takeIf (i := 20) (u := ?b5_v20) rfl rfl rfl rfl rfl (by kernel_rfl) (by kernel_rfl) (by kernel_rfl) hH ?b5_y20 ?b5_r20
            case b5_y20 => (intro w hSw; (try dsimp only at hSw); go_simp; try (with_reducible rfl))
            case' b5_r20 => simp only [List.setIfInBounds_toArray, List.set_cons_zero, List.set_cons_succ]
            refine Reg.takeIf (i := 21) (u := ?b5_v21) rfl rfl rfl rfl rfl (by kernel_rfl) (by kernel_rfl) (by kernel_rfl) hH ?b5_y21 ?b5_r21
            case b5_y21 => (intro w hSw; (try dsimp only at hSw); go_simp; try (with_reducible rfl))
            case' b5_r21 => simp only [List.setIfInBounds_toArray, List.set_cons_zero, List.set_cons_succ]
            refine Reg.takeIf (i := 22) (u := ?b5_v22) rfl rfl rfl rfl rfl (by kernel_rfl) (by kernel_rfl) (by kernel_rfl) hH ?b5_y22 ?b5_r22
            case b5_y22 => (intro w hSw; (try dsimp only at hSw); go_simp; try (with_reducible rfl))
            case' b5_r22 => simp only [List.setIfInBounds_toArray, List.set_cons_zero, List.set_cons_succ]
            refine Reg.takeIf (i := 23) (u := ?b5_v23) rfl rfl rfl rfl rfl (by kernel_rfl) (by kernel_rfl) (by kernel_rfl) hH ?b5_y23 ?b5_r23
            case b5_y23 => (intro w hSw; (try dsimp only at hSw); go_simp; try (with_reducible rfl))
            case' b5_r23 => simp only [List.setIfInBounds_toArray, List.set_cons_zero, List.set_cons_succ]
            refine Reg.takeIf (i := 24) (u := ?b5_v24) rfl rfl rfl rfl rfl (by kernel_rfl) (by kernel_rfl) (by kernel_rfl) hH ?b5_y24 ?b5_r24
            case b5_y24 => (intro w hSw; (try dsimp only at hSw); go_simp; try (with_reducible rfl))
            case' b5_r24 => simp only [List.setIfInBounds_toArray, List.set_cons_zero, List.set_cons_succ]
            refine Reg.takeIf (i := 25) (u := ?b5_v25) rfl rfl rfl rfl rfl (by kernel_rfl) (by kernel_rfl) (by kernel_rfl) hH ?b5_y25 ?b5_r25
            case b5_y25 => (intro w hSw; (try dsimp only at hSw); go_simp; try (with_reducible rfl))
            case' b5_r25 => simp only [List.setIfInBounds_toArray, List.set_cons_zero, List.set_cons_succ]
            refine Reg.takeIf (i := 26) (u := ?b5_v26) rfl rfl rfl rfl rfl (by kernel_rfl) (by kernel_rfl) (by kernel_rfl) hH ?b5_y26 ?b5_r26
            case b5_y26 => (intro w hSw; (try dsimp only at hSw); go_simp; try (with_reducible rfl))
            case' b5_r26 => simp only [List.setIfInBounds_toArray, List.set_cons_zero, List.set_cons_succ]
            refine Reg.takeIf (i := 27) (u := ?b5_v27) rfl rfl rfl rfl rfl (by kernel_rfl) (by kernel_rfl) (by kernel_rfl) hH ?b5_y27 ?b5_r27
            case b5_y27 => (intro w hSw; (try dsimp only at hSw); go_simp; try (with_reducible rfl))
            case' b5_r27 => simp only [List.setIfInBounds_toArray, List.set_cons_zero, List.set_cons_succ]
            refine Reg.takeIf (i := 28) (u := ?b5_v28) rfl rfl rfl rfl rfl (by kernel_rfl) (by kernel_rfl) (by kernel_rfl) hH ?b5_y28 ?b5_r28
            case b5_y28 => (intro w hSw; (try dsimp only at hSw); go_simp; try (with_reducible rfl))
            case' b5_r28 => simp only [List.setIfInBounds_toArray, List.set_cons_zero, List.set_cons_succ]
            refine Reg.takeIf (i := 29) (u := ?b5_v29) rfl rfl rfl rfl rfl (by kernel_rfl) (by kernel_rfl) (by kernel_rfl) hH ?b5_y29 ?b5_r29
            case b5_y29 => (intro w hSw; (try dsimp only at hSw); go_simp; try (with_reducible rfl))
            case' b5_r29 => simp only [List.setIfInBounds_toArray, List.set_cons_zero, List.set_cons_succ]
            refine Reg.takeIf (i := 30) (u := ?b5_v30) rfl rfl rfl rfl rfl (by kernel_rfl) (by kernel_rfl) (by kernel_rfl) hH ?b5_y30 ?b5_r30
            case b5_y30 => (intro w hSw; (try dsimp only at hSw); go_simp; try (with_reducible rfl))
            case' b5_r30 => simp only [List.setIfInBounds_toArray, List.set_cons_zero, List.set_cons_succ]
            refine Reg.takeIf (i := 31) (u := ?b5_v31) rfl rfl rfl rfl rfl (by kernel_rfl) (by kernel_rfl) (by kernel_rfl) hH ?b5_y31 ?b5_r31
            case b5_y31 => (intro w hSw; (try dsimp only at hSw); go_simp; try (with_reducible rfl))
            case' b5_r31 => simp only [List.setIfInBounds_toArray, List.set_cons_zero, List.set_cons_succ]
            refine Reg.takeIf (i := 32) (u := ?b5_v32) rfl rfl rfl rfl rfl (by kernel_rfl) (by kernel_rfl) (by kernel_rfl) hH ?b5_y32 ?b5_r32
            case b5_y32 => (intro w hSw; (try dsimp only at hSw); go_simp; try (with_reducible rfl))
            case' b5_r32 => simp only [List.setIfInBounds_toArray, List.set_cons_zero, List.set_cons_succ]
            refine Reg.takeIf (i := 33) (u := ?b5_v33) rfl rfl rfl rfl rfl (by kernel_rfl) (by kernel_rfl) (by kernel_rfl) hH ?b5_y33 ?b5_r33
            case b5_y33 => (intro w hSw; (try dsimp only at hSw); go_simp; try (with_reducible rfl))
            case' b5_r33 => simp only [List.setIfInBounds_toArray, List.set_cons_zero, List.set_cons_succ]
            refine Reg.takeIf (i := 34) (u := ?b5_v34) rfl rfl rfl rfl rfl (by kernel_rfl) (by kernel_rfl) (by kernel_rfl) hH ?b5_y34 ?b5_r34
            case b5_y34 => (intro w hSw; (try dsimp only at hSw); go_simp; try (with_reducible rfl))
            case' b5_r34 => simp only [List.setIfInBounds_toArray, List.set_cons_zero, List.set_cons_succ]
            refine Reg.takeIf (i := 35) (u := ?b5_v35) rfl rfl rfl rfl rfl (by kernel_rfl) (by kernel_rfl) (by kernel_rfl) hH ?b5_y35 ?b5_r35
            case b5_y35 => (intro w hSw; (try dsimp only at hSw); go_simp; try (with_reducible rfl))
            case' b5_r35 => simp only [List.setIfInBounds_toArray, List.set_cons_zero, List.set_cons_succ]
            refine Reg.takeIf (i := 36) (u := ?b5_v36) rfl rfl rfl rfl rfl (by kernel_rfl) (by kernel_rfl) (by kernel_rfl) hH ?b5_y36 ?b5_r36
            case b5_y36 => (intro w hSw; (try dsimp only at hSw); go_simp; try (with_reducible rfl))
            case' b5_r36 => simp only [List.setIfInBounds_toArray, List.set_cons_zero, List.set_cons_succ]
            refine Reg.take (i := 37) (u := ?b5_v37) rfl rfl rfl (by kernel_rfl) (by kernel_rfl) (by kernel_rfl) hH ?b5_y37 ?b5_r37
            case b5_y37 => (intro w hSw; (try dsimp only at hSw); go_simp; try (with_reducible rfl))
            case' b5_r37 => simp only [List.setIfInBounds_toArray, List.set_cons_zero, List.set_cons_succ]
            refine wpAnyH_done (by kernel_rfl) ?_ _
            refine NoPanic.normal ?_
            go_wp2_with fail
            go_meet
            case rel => exact ⟨rfl, n2 + 1, rfl⟩
          · obtain ⟨rd', ⟨ux, uy⟩, e', hu, u0, u1⟩ := HCELL.out (k + 1) (by rw [← HM.out]; omega)
            cases e'
            have hnext := OS.out.next k _ _ HS.out hu
            dsimp only at u0 u1 hnext
            clear hu
            have hm1 : ((k : Int) + 1 == (m : Int)) = false := by rw [beq_eq_false_iff_ne]; omega
            have hk6 : (k : Int) + 1 < (m : Int) := by omega
            have hk8 : (0 : Int) ≤ (k : Int) + 1 := by omega
            by_cases hxu : ux = x
            · subst hxu
              clear hnext
              refine wp_region_noPanic ?_
              refine wp_region_held_drew (S := fun w' => w'.cell? (rd.add (k * 2)) = some (.int .i64 (ux : Nat)) ∧ w'.cell? ⟨(rd.add (k * 2)).block, (rd.add (k * 2)).off + 1, none⟩ = some (.int .i64 (y : Nat)) ∧ w'.cell? (rd.add ((k + 1) * 2)) = some (.int .i64 (ux : Nat)) ∧ w'.cell? ⟨(rd.add ((k + 1) * 2)).block, (rd.add ((k + 1) * 2)).off + 1, none⟩ = some (.int .i64 (uy : Nat)) ∧ w'.cell? ⟨(ad.add (ux * 3)).block, (ad.add (ux * 3)).off + 2, none⟩ = some (.slice ra rn rc)) (by kernel_rfl) ?_ (fun hH => ?_)
              · exact ⟨e0, e1, u0, u1, r0⟩
              refine Reg.take (i := 0) (u := ?b6_v0) rfl rfl rfl (by kernel_rfl) (by kernel_rfl) (by kernel_rfl) hH ?b6_y0 ?b6_r0
              case b6_y0 => (intro w hSw; (try dsimp only at hSw); go_simp; try (with_reducible rfl))
              case' b6_r0 => simp only [List.setIfInBounds_toArray, List.set_cons_zero, List.set_cons_succ]
              refine Reg.take (i := 1) (u := ?b6_v1) rfl rfl rfl (by kernel_rfl) (by kernel_rfl) (by kernel_rfl) hH ?b6_y1 ?b6_r1
              case b6_y1 => (intro w hSw; (try dsimp only at hSw); go_simp; try (with_reducible rfl))
              case' b6_r1 => simp only [List.setIfInBounds_toArray, List.set_cons_zero, List.set_cons_succ]
              refine Reg.take (i := 2) (u := ?b6_v2) rfl rfl rfl (by kernel_rfl) (by kernel_rfl) (by kernel_rfl) hH ?b6_y2 ?b6_r2
              case b6_y2 => (intro w hSw; (try dsimp only at hSw); go_simp; try (with_reducible rfl))
              case' b6_r2 => simp only [List.setIfInBounds_toArray, List.set_cons_zero, List.set_cons_succ]
              refine Reg.take (i := 3) (u := ?b6_v3) rfl rfl rfl (by kernel_rfl) (by kernel_rfl) (by kernel_rfl) hH ?b6_y3 ?b6_r3
              case b6_y3 => (intro w hSw; (try dsimp only at hSw); go_simp; try (with_reducible rfl))
              case' b6_r3 => simp only [List.setIfInBounds_toArray, List.set_cons_zero, List.set_cons_succ]
              refine Reg.take (i := 4) (u := ?b6_v4) rfl rfl rfl (by kernel_rfl) (by kernel_rfl) (by kernel_rfl) hH ?b6_y4 ?b6_r4
              case b6_y4 => (intro w hSw; (try dsimp only at hSw); go_simp; try (with_reducible rfl))
              case' b6_r4 => simp only [List.setIfInBounds_toArray, List.set_cons_zero, List.set_cons_succ]
              refine Reg.take (i := 5) (u := ?b6_v5) rfl rfl rfl (by kernel_rfl) (by kernel_rfl) (by kernel_rfl) hH ?b6_y5 ?b6_r5
              case b6_y5 => (intro w hSw; (try dsimp only at hSw); go_simp; try (with_reducible rfl))
              case' b6_r5 => simp only [List.setIfInBounds_toArray, List.set_cons_zero, List.set_cons_succ]
              refine Reg.takeIf (i := 6) (u := ?b6_v6) rfl rfl rfl rfl rfl (by kernel_rfl) (by kernel_rfl) (by kernel_rfl) hH ?b6_y6 ?b6_r6
              case b6_y6 => (intro w hSw; (try dsimp only at hSw); go_simp; try (with_reducible rfl))
              case' b6_r6 => simp only [List.setIfInBounds_toArray, List.set_cons_zero, List.set_cons_succ]
              refine Reg.takeIf (i := 7) (u := ?b6_v7) rfl rfl rfl rfl rfl (by kernel_rfl) (by kernel_rfl) (by kernel_rfl) hH ?b6_y7 ?b6_r7
              case b6_y7 => (intro w hSw; (try dsimp only at hSw); go_simp; try (with_reducible rfl))
              case' b6_r7 => simp only [List.setIfInBounds_toArray, List.set_cons_zero, List.set_cons_succ]
              refine Reg.takeIf (i := 8) (u := ?b6_v8) rfl rfl rfl rfl rfl (by kernel_rfl) (by kernel_rfl) (by kernel_rfl) hH ?b6_y8 ?b6_r8
              case b6_y8 => (intro w hSw; (try dsimp only at hSw); go_simp; try (with_reducible rfl))
              case' b6_r8 => simp only [List.setIfInBounds_toArray, List.set_cons_zero, List.set_cons_succ]
              refine Reg.takeIf (i := 9) (u := ?b6_v9) rfl rfl rfl rfl rfl (by kernel_rfl) (by kernel_rfl) (by kernel_rfl) hH ?b6_y9 ?b6_r9
              case b6_y9 => (intro w hSw; (try dsimp only at hSw); go_simp; try (with_reducible rfl))
              case' b6_r9 => simp only [List.setIfInBounds_toArray, List.set_cons_zero, List.set_cons_succ]
              refine Reg.takeIf (i := 10) (u := ?b6_v10) rfl rfl rfl rfl rfl (by kernel_rfl) (by kernel_rfl) (by kernel_rfl) hH ?b6_y10 ?b6_r10
              case b6_y10 => (intro w hSw; (try dsimp only at hSw); go_simp; try (with_reducible rfl))
              case' b6_r10 => simp only [List.setIfInBounds_toArray, List.set_cons_zero, List.set_cons_succ]
              refine Reg.takeIf (i := 11) (u := ?b6_v11) rfl rfl rfl rfl rfl (by kernel_rfl) (by kernel_rfl) (by kernel_rfl) hH ?b6_y11 ?b6_r11
              case b6_y11 => (intro w hSw; (try dsimp only at hSw); go_simp; try (with_reducible rfl))
              case' b6_r11 => simp only [List.setIfInBounds_toArray, List.set_cons_zero, List.set_cons_succ]
              refine Reg.takeIf (i := 12) (u := ?b6_v12) rfl rfl rfl rfl rfl (by kernel_rfl) (by kernel_rfl) (by kernel_rfl) hH ?b6_y12 ?b6_r12
              case b6_y12 => (intro w hSw; (try dsimp only at hSw); go_simp; try (with_reducible rfl))
              case' b6_r12 => simp only [List.setIfInBounds_toArray, List.set_cons_zero, List.set_cons_succ]
              refine Reg.takeIf (i := 13) (u := ?b6_v13) rfl rfl rfl rfl rfl (by kernel_rfl) (by kernel_rfl) (by kernel_rfl) hH ?b6_y13 ?b6_r13
              case b6_y13 => (intro w hSw; (try dsimp only at hSw); go_simp; try (with_reducible rfl))
              case' b6_r13 => simp only [List.setIfInBounds_toArray, List.set_cons_zero, List.set_cons_succ]
              refine Reg.takeIf (i := 14) (u := ?b6_v14) rfl rfl rfl rfl rfl (by kernel_rfl) (by kernel_rfl) (by kernel_rfl) hH ?b6_y14 ?b6_r14
              case b6_y14 => (intro w hSw; (try dsimp only at hSw); go_simp; try (with_reducible rfl))
              case' b6_r14 => simp only [List.setIfInBounds_toArray, List.set_cons_zero, List.set_cons_succ]
              refine Reg.takeIf (i := 15) (u := ?b6_v15) rfl rfl rfl rfl rfl (by kernel_rfl) (by kernel_rfl) (by kernel_rfl) hH ?b6_y15 ?b6_r15
              case b6_y15 => (intro w hSw; (try dsimp only at hSw); go_simp; try (with_reducible rfl))
              case' b6_r15 => simp only [List.setIfInBounds_toArray, List.set_cons_zero, List.set_cons_succ]
              refine Reg.takeIf (i := 16) (u := ?b6_v16) rfl rfl rfl rfl rfl (by kernel_rfl) (by kernel_rfl) (by kernel_rfl) hH ?b6_y16 ?b6_r16
              case b6_y16 => (intro w hSw; (try dsimp only at hSw); go_simp; try (with_reducible rfl))
              case' b6_r16 => simp only [List.setIfInBounds_toArray, List.set_cons_zero, List.set_cons_succ]
              refine Reg.takeIf (i := 17) (u := ?b6_v17) rfl rfl rfl rfl rfl (by kernel_rfl) (by kernel_rfl) (by kernel_rfl) hH ?b6_y17 ?b6_r17
              case b6_y17 => (intro w hSw; (try dsimp only at hSw); go_simp; try (with_reducible rfl))
              case' b6_r17 => simp only [List.setIfInBounds_toArray, List.set_cons_zero, List.set_cons_succ]
              refine Reg.take (i := 18) (u := ?b6_v18) rfl rfl rfl (by kernel_rfl) (by kernel_rfl) (by kernel_rfl) hH ?b6_y18 ?b6_r18
              case b6_y18 => (intro w hSw; (try dsimp only at hSw); go_simp; try (with_reducible rfl))
              case' b6_r18 => simp only [List.setIfInBounds_toArray, List.set_cons_zero, List.set_cons_succ]
              refine Reg.take (i := 19) (u := ?b6_v19) rfl rfl rfl (by kernel_rfl) (by kernel_rfl) (by kernel_rfl) hH ?b6_y19 ?b6_r19
              case b6_y19 => (intro w hSw; (try dsimp only at hSw); go_simp; try (with_reducible rfl))
              case' b6_r19 => simp only [List.setIfInBounds_toArray, List.set_cons_zero, List.set_cons_succ]
              refine Reg.skip (i := 20) rfl rfl rfl rfl rfl (by first | exact Value.noConfusion | (intro h; cases h)) (by kernel_rfl) (by kernel_rfl) (by kernel_rfl) hH ?_
              simp only [List.setIfInBounds_toArray, List.set_cons_zero, List.set_cons_succ]
              refine Reg.skip (i := 21) rfl rfl rfl rfl rfl (by first | exact Value.noConfusion | (intro h; cases h)) (by kernel_rfl) (by kernel_rfl) (by kernel_rfl) hH ?_
              simp only [List.setIfInBounds_toArray, List.set_cons_zero, List.set_cons_succ]
              refine Reg.skip (i := 22) rfl rfl rfl rfl rfl (by first | exact Value.noConfusion | (intro h; cases h)) (by kernel_rfl) (by kernel_rfl) (by kernel_rfl) hH ?_
              simp only [List.setIfInBounds_toArray, List.set_cons_zero, List.set_cons_succ]
              refine Reg.skip (i := 23) rfl rfl rfl rfl rfl (by first | exact Value.noConfusion | (intro h; cases h)) (by kernel_rfl) (by kernel_rfl) (by kernel_rfl) hH ?_
              simp only [List.setIfInBounds_toArray, List.set_cons_zero, List.set_cons_succ]
              refine Reg.skip (i := 24) rfl rfl rfl rfl rfl (by first | exact Value.noConfusion | (intro h; cases h)) (by kernel_rfl) (by kernel_rfl) (by kernel_rfl) hH ?_
              simp only [List.setIfInBounds_toArray, List.set_cons_zero, List.set_cons_succ]
              refine Reg.skip (i := 25) rfl rfl rfl rfl rfl (by first | exact Value.noConfusion | (intro h; cases h)) (by kernel_rfl) (by kernel_rfl) (by kernel_rfl) hH ?_
              simp only [List.setIfInBounds_toArray, List.set_cons_zero, List.set_cons_succ]
              refine Reg.skip (i := 26) rfl rfl rfl rfl rfl (by first | exact Value.noConfusion | (intro h; cases h)) (by kernel_rfl) (by kernel_rfl) (by kernel_rfl) hH ?_
              simp only [List.setIfInBounds_toArray, List.set_cons_zero, List.set_cons_succ]
              refine Reg.skip (i := 27) rfl rfl rfl rfl rfl (by first | exact Value.noConfusion | (intro h; cases h)) (by kernel_rfl) (by kernel_rfl) (by kernel_rfl) hH ?_
              simp only [List.setIfInBounds_toArray, List.set_cons_zero, List.set_cons_succ]
              refine Reg.skip (i := 28) rfl rfl rfl rfl rfl (by first | exact Value.noConfusion | (intro h; cases h)) (by kernel_rfl) (by kernel_rfl) (by kernel_rfl) hH ?_
              simp only [List.setIfInBounds_toArray, List.set_cons_zero, List.set_cons_succ]
              refine Reg.skip (i := 29) rfl rfl rfl rfl rfl (by first | exact Value.noConfusion | (intro h; cases h)) (by kernel_rfl) (by kernel_rfl) (by kernel_rfl) hH ?_
              simp only [List.setIfInBounds_toArray, List.set_cons_zero, List.set_cons_succ]
              refine Reg.skip (i := 30) rfl rfl rfl rfl rfl (by first | exact Value.noConfusion | (intro h; cases h)) (by kernel_rfl) (by kernel_rfl) (by kernel_rfl) hH ?_
              simp only [List.setIfInBounds_toArray, List.set_cons_zero, List.set_cons_succ]
              refine Reg.skip (i := 31) rfl rfl rfl rfl rfl (by first | exact Value.noConfusion | (intro h; cases h)) (by kernel_rfl) (by kernel_rfl) (by kernel_rfl) hH ?_
              simp only [List.setIfInBounds_toArray, List.set_cons_zero, List.set_cons_succ]
              refine Reg.skip (i := 32) rfl rfl rfl rfl rfl (by first | exact Value.noConfusion | (intro h; cases h)) (by kernel_rfl) (by kernel_rfl) (by kernel_rfl) hH ?_
              simp only [List.setIfInBounds_toArray, List.set_cons_zero, List.set_cons_succ]
              refine Reg.skip (i := 33) rfl rfl rfl rfl rfl (by first | exact Value.noConfusion | (intro h; cases h)) (by kernel_rfl) (by kernel_rfl) (by kernel_rfl) hH ?_
              simp only [List.setIfInBounds_toArray, List.set_cons_zero, List.set_cons_succ]
              refine Reg.skip (i := 34) rfl rfl rfl rfl rfl (by first | exact Value.noConfusion | (intro h; cases h)) (by kernel_rfl) (by kernel_rfl) (by kernel_rfl) hH ?_
              simp only [List.setIfInBounds_toArray, List.set_cons_zero, List.set_cons_succ]
              refine Reg.skip (i := 35) rfl rfl rfl rfl rfl (by first | exact Value.noConfusion | (intro h; cases h)) (by kernel_rfl) (by kernel_rfl) (by kernel_rfl) hH ?_
              simp only [List.setIfInBounds_toArray, List.set_cons_zero, List.set_cons_succ]
              refine Reg.skip (i := 36) rfl rfl rfl rfl rfl (by first | exact Value.noConfusion | (intro h; cases h)) (by kernel_rfl) (by kernel_rfl) (by kernel_rfl) hH ?_
              simp only [List.setIfInBounds_toArray, List.set_cons_zero, List.set_cons_succ]
              refine Reg.take (i := 37) (u := ?b6_v37) rfl rfl rfl (by kernel_rfl) (by kernel_rfl) (by kernel_rfl) hH ?b6_y37 ?b6_r37
              case b6_y37 => (intro w hSw; (try dsimp only at hSw); go_simp; try (with_reducible rfl))
              case' b6_r37 => simp only [List.setIfInBounds_toArray, List.set_cons_zero, List.set_cons_succ]
              refine wpAnyH_done (by kernel_rfl) ?_ _
              refine NoPanic.normal ?_
              go_wp2_with fail
              go_meet
              case rel => exact ⟨rfl, n2 + 1, rfl⟩
            · have hrl := (hnext.2 hxu).2
              rw [HR.out] at hrl
              have hrw : IntKind.i64.wrap ((rn : Int) - 1) = (y : Int) := by rw [← hrl]; rw [show (((y + 1 : Nat) : Int) - 1) = (y : Int) by omega]; exact IntWalk.i64_in _ (by omega)
              clear hnext hrl
              have hxt1 : ((ux : Int) == (x : Int)) = false := by rw [beq_eq_false_iff_ne]; omega
              have hxt2 : ((ux : Int) != (x : Int)) = true := by simp; omega
              refine wp_region_noPanic ?_
              refine wp_region_held_drew (S := fun w' => w'.cell? (rd.add (k * 2)) = some (.int .i64 (x : Nat)) ∧ w'.cell? ⟨(rd.add (k * 2)).block, (rd.add (k * 2)).off + 1, none⟩ = some (.int .i64 (y : Nat)) ∧ w'.cell? (rd.add ((k + 1) * 2)) = some (.int .i64 (ux : Nat)) ∧ w'.cell? ⟨(rd.add ((k + 1) * 2)).block, (rd.add ((k + 1) * 2)).off + 1, none⟩ = some (.int .i64 (uy : Nat)) ∧ w'.cell? ⟨(ad.add (x * 3)).block, (ad.add (x * 3)).off + 2, none⟩ = some (.slice ra rn rc)) (by kernel_rfl) ?_ (fun hH => ?_)
              · exact ⟨e0, e1, u0, u1, r0⟩
              refine Reg.take (i := 0) (u := ?b7_v0) rfl rfl rfl (by kernel_rfl) (by kernel_rfl) (by kernel_rfl) hH ?b7_y0 ?b7_r0
              case b7_y0 => (intro w hSw; (try dsimp only at hSw); go_simp; try (with_reducible rfl))
              case' b7_r0 => simp only [List.setIfInBounds_toArray, List.set_cons_zero, List.set_cons_succ]
              refine Reg.take (i := 1) (u := ?b7_v1) rfl rfl rfl (by kernel_rfl) (by kernel_rfl) (by kernel_rfl) hH ?b7_y1 ?b7_r1
              case b7_y1 => (intro w hSw; (try dsimp only at hSw); go_simp; try (with_reducible rfl))
              case' b7_r1 => simp only [List.setIfInBounds_toArray, List.set_cons_zero, List.set_cons_succ]
              refine Reg.take (i := 2) (u := ?b7_v2) rfl rfl rfl (by kernel_rfl) (by kernel_rfl) (by kernel_rfl) hH ?b7_y2 ?b7_r2
              case b7_y2 => (intro w hSw; (try dsimp only at hSw); go_simp; try (with_reducible rfl))
              case' b7_r2 => simp only [List.setIfInBounds_toArray, List.set_cons_zero, List.set_cons_succ]
              refine Reg.take (i := 3) (u := ?b7_v3) rfl rfl rfl (by kernel_rfl) (by kernel_rfl) (by kernel_rfl) hH ?b7_y3 ?b7_r3
              case b7_y3 => (intro w hSw; (try dsimp only at hSw); go_simp; try (with_reducible rfl))
              case' b7_r3 => simp only [List.setIfInBounds_toArray, List.set_cons_zero, List.set_cons_succ]
              refine Reg.take (i := 4) (u := ?b7_v4) rfl rfl rfl (by kernel_rfl) (by kernel_rfl) (by kernel_rfl) hH ?b7_y4 ?b7_r4
              case b7_y4 => (intro w hSw; (try dsimp only at hSw); go_simp; try (with_reducible rfl))
              case' b7_r4 => simp only [List.setIfInBounds_toArray, List.set_cons_zero, List.set_cons_succ]
              refine Reg.take (i := 5) (u := ?b7_v5) rfl rfl rfl (by kernel_rfl) (by kernel_rfl) (by kernel_rfl) hH ?b7_y5 ?b7_r5
              case b7_y5 => (intro w hSw; (try dsimp only at hSw); go_simp; try (with_reducible rfl))
              case' b7_r5 => simp only [List.setIfInBounds_toArray, List.set_cons_zero, List.set_cons_succ]
              refine Reg.takeIf (i := 6) (u := ?b7_v6) rfl rfl rfl rfl rfl (by kernel_rfl) (by kernel_rfl) (by kernel_rfl) hH ?b7_y6 ?b7_r6
              case b7_y6 => (intro w hSw; (try dsimp only at hSw); go_simp; try (with_reducible rfl))
              case' b7_r6 => simp only [List.setIfInBounds_toArray, List.set_cons_zero, List.set_cons_succ]
              refine Reg.takeIf (i := 7) (u := ?b7_v7) rfl rfl rfl rfl rfl (by kernel_rfl) (by kernel_rfl) (by kernel_rfl) hH ?b7_y7 ?b7_r7
              case b7_y7 => (intro w hSw; (try dsimp only at hSw); go_simp; try (with_reducible rfl))
              case' b7_r7 => simp only [List.setIfInBounds_toArray, List.set_cons_zero, List.set_cons_succ]
              refine Reg.takeIf (i := 8) (u := ?b7_v8) rfl rfl rfl rfl rfl (by kernel_rfl) (by kernel_rfl) (by kernel_rfl) hH ?b7_y8 ?b7_r8
              case b7_y8 => (intro w hSw; (try dsimp only at hSw); go_simp; try (with_reducible rfl))
              case' b7_r8 => simp only [List.setIfInBounds_toArray, List.set_cons_zero, List.set_cons_succ]
              refine Reg.takeIf (i := 9) (u := ?b7_v9) rfl rfl rfl rfl rfl (by kernel_rfl) (by kernel_rfl) (by kernel_rfl) hH ?b7_y9 ?b7_r9
              case b7_y9 => (intro w hSw; (try dsimp only at hSw); go_simp; try (with_reducible rfl))
              case' b7_r9 => simp only [List.setIfInBounds_toArray, List.set_cons_zero, List.set_cons_succ]
              refine Reg.takeIf (i := 10) (u := ?b7_v10) rfl rfl rfl rfl rfl (by kernel_rfl) (by kernel_rfl) (by kernel_rfl) hH ?b7_y10 ?b7_r10
              case b7_y10 => (intro w hSw; (try dsimp only at hSw); go_simp; try (with_reducible rfl))
              case' b7_r10 => simp only [List.setIfInBounds_toArray, List.set_cons_zero, List.set_cons_succ]
              refine Reg.takeIf (i := 11) (u := ?b7_v11) rfl rfl rfl rfl rfl (by kernel_rfl) (by kernel_rfl) (by kernel_rfl) hH ?b7_y11 ?b7_r11
              case b7_y11 => (intro w hSw; (try dsimp only at hSw); go_simp; try (with_reducible rfl))
              case' b7_r11 => simp only [List.setIfInBounds_toArray, List.set_cons_zero, List.set_cons_succ]
              refine Reg.takeIf (i := 12) (u := ?b7_v12) rfl rfl rfl rfl rfl (by kernel_rfl) (by kernel_rfl) (by kernel_rfl) hH ?b7_y12 ?b7_r12
              case b7_y12 => (intro w hSw; (try dsimp only at hSw); go_simp; try (with_reducible rfl))
              case' b7_r12 => simp only [List.setIfInBounds_toArray, List.set_cons_zero, List.set_cons_succ]
              refine Reg.takeIf (i := 13) (u := ?b7_v13) rfl rfl rfl rfl rfl (by kernel_rfl) (by kernel_rfl) (by kernel_rfl) hH ?b7_y13 ?b7_r13
              case b7_y13 => (intro w hSw; (try dsimp only at hSw); go_simp; try (with_reducible rfl))
              case' b7_r13 => simp only [List.setIfInBounds_toArray, List.set_cons_zero, List.set_cons_succ]
              refine Reg.takeIf (i := 14) (u := ?b7_v14) rfl rfl rfl rfl rfl (by kernel_rfl) (by kernel_rfl) (by kernel_rfl) hH ?b7_y14 ?b7_r14
              case b7_y14 => (intro w hSw; (try dsimp only at hSw); go_simp; try (with_reducible rfl))
              case' b7_r14 => simp only [List.setIfInBounds_toArray, List.set_cons_zero, List.set_cons_succ]
              refine Reg.takeIf (i := 15) (u := ?b7_v15) rfl rfl rfl rfl rfl (by kernel_rfl) (by kernel_rfl) (by kernel_rfl) hH ?b7_y15 ?b7_r15
              case b7_y15 => (intro w hSw; (try dsimp only at hSw); go_simp; try (with_reducible rfl))
              case' b7_r15 => simp only [List.setIfInBounds_toArray, List.set_cons_zero, List.set_cons_succ]
              refine Reg.takeIf (i := 16) (u := ?b7_v16) rfl rfl rfl rfl rfl (by kernel_rfl) (by kernel_rfl) (by kernel_rfl) hH ?b7_y16 ?b7_r16
              case b7_y16 => (intro w hSw; (try dsimp only at hSw); go_simp; try (with_reducible rfl))
              case' b7_r16 => simp only [List.setIfInBounds_toArray, List.set_cons_zero, List.set_cons_succ]
              refine Reg.takeIf (i := 17) (u := ?b7_v17) rfl rfl rfl rfl rfl (by kernel_rfl) (by kernel_rfl) (by kernel_rfl) hH ?b7_y17 ?b7_r17
              case b7_y17 => (intro w hSw; (try dsimp only at hSw); go_simp; try (with_reducible rfl))
              case' b7_r17 => simp only [List.setIfInBounds_toArray, List.set_cons_zero, List.set_cons_succ]
              refine Reg.take (i := 18) (u := ?b7_v18) rfl rfl rfl (by kernel_rfl) (by kernel_rfl) (by kernel_rfl) hH ?b7_y18 ?b7_r18
              case b7_y18 => (intro w hSw; (try dsimp only at hSw); go_simp; try (with_reducible rfl))
              case' b7_r18 => simp only [List.setIfInBounds_toArray, List.set_cons_zero, List.set_cons_succ]
              refine Reg.take (i := 19) (u := ?b7_v19) rfl rfl rfl (by kernel_rfl) (by kernel_rfl) (by kernel_rfl) hH ?b7_y19 ?b7_r19
              case b7_y19 => (intro w hSw; (try dsimp only at hSw); go_simp; try (with_reducible rfl))
              case' b7_r19 => simp only [List.setIfInBounds_toArray, List.set_cons_zero, List.set_cons_succ]
              refine Reg.takeIf (i := 20) (u := ?b7_v20) rfl rfl rfl rfl rfl (by kernel_rfl) (by kernel_rfl) (by kernel_rfl) hH ?b7_y20 ?b7_r20
              case b7_y20 => (intro w hSw; (try dsimp only at hSw); go_simp; try (with_reducible rfl))
              case' b7_r20 => simp only [List.setIfInBounds_toArray, List.set_cons_zero, List.set_cons_succ]
              refine Reg.takeIf (i := 21) (u := ?b7_v21) rfl rfl rfl rfl rfl (by kernel_rfl) (by kernel_rfl) (by kernel_rfl) hH ?b7_y21 ?b7_r21
              case b7_y21 => (intro w hSw; (try dsimp only at hSw); go_simp; try (with_reducible rfl))
              case' b7_r21 => simp only [List.setIfInBounds_toArray, List.set_cons_zero, List.set_cons_succ]
              refine Reg.takeIf (i := 22) (u := ?b7_v22) rfl rfl rfl rfl rfl (by kernel_rfl) (by kernel_rfl) (by kernel_rfl) hH ?b7_y22 ?b7_r22
              case b7_y22 => (intro w hSw; (try dsimp only at hSw); go_simp; try (with_reducible rfl))
              case' b7_r22 => simp only [List.setIfInBounds_toArray, List.set_cons_zero, List.set_cons_succ]
              refine Reg.takeIf (i := 23) (u := ?b7_v23) rfl rfl rfl rfl rfl (by kernel_rfl) (by kernel_rfl) (by kernel_rfl) hH ?b7_y23 ?b7_r23
              case b7_y23 => (intro w hSw; (try dsimp only at hSw); go_simp; try (with_reducible rfl))
              case' b7_r23 => simp only [List.setIfInBounds_toArray, List.set_cons_zero, List.set_cons_succ]
              refine Reg.takeIf (i := 24) (u := ?b7_v24) rfl rfl rfl rfl rfl (by kernel_rfl) (by kernel_rfl) (by kernel_rfl) hH ?b7_y24 ?b7_r24
              case b7_y24 => (intro w hSw; (try dsimp only at hSw); go_simp; try (with_reducible rfl))
              case' b7_r24 => simp only [List.setIfInBounds_toArray, List.set_cons_zero, List.set_cons_succ]
              refine Reg.takeIf (i := 25) (u := ?b7_v25) rfl rfl rfl rfl rfl (by kernel_rfl) (by kernel_rfl) (by kernel_rfl) hH ?b7_y25 ?b7_r25
              case b7_y25 => (intro w hSw; (try dsimp only at hSw); go_simp; try (with_reducible rfl))
              case' b7_r25 => simp only [List.setIfInBounds_toArray, List.set_cons_zero, List.set_cons_succ]
              refine Reg.takeIf (i := 26) (u := ?b7_v26) rfl rfl rfl rfl rfl (by kernel_rfl) (by kernel_rfl) (by kernel_rfl) hH ?b7_y26 ?b7_r26
              case b7_y26 => (intro w hSw; (try dsimp only at hSw); go_simp; try (with_reducible rfl))
              case' b7_r26 => simp only [List.setIfInBounds_toArray, List.set_cons_zero, List.set_cons_succ]
              refine Reg.takeIf (i := 27) (u := ?b7_v27) rfl rfl rfl rfl rfl (by kernel_rfl) (by kernel_rfl) (by kernel_rfl) hH ?b7_y27 ?b7_r27
              case b7_y27 => (intro w hSw; (try dsimp only at hSw); go_simp; try (with_reducible rfl))
              case' b7_r27 => simp only [List.setIfInBounds_toArray, List.set_cons_zero, List.set_cons_succ]
              refine Reg.takeIf (i := 28) (u := ?b7_v28) rfl rfl rfl rfl rfl (by kernel_rfl) (by kernel_rfl) (by kernel_rfl) hH ?b7_y28 ?b7_r28
              case b7_y28 => (intro w hSw; (try dsimp only at hSw); go_simp; try (with_reducible rfl))
              case' b7_r28 => simp only [List.setIfInBounds_toArray, List.set_cons_zero, List.set_cons_succ]
              refine Reg.takeIf (i := 29) (u := ?b7_v29) rfl rfl rfl rfl rfl (by kernel_rfl) (by kernel_rfl) (by kernel_rfl) hH ?b7_y29 ?b7_r29
              case b7_y29 => (intro w hSw; (try dsimp only at hSw); go_simp; try (with_reducible rfl))
              case' b7_r29 => simp only [List.setIfInBounds_toArray, List.set_cons_zero, List.set_cons_succ]
              refine Reg.takeIf (i := 30) (u := ?b7_v30) rfl rfl rfl rfl rfl (by kernel_rfl) (by kernel_rfl) (by kernel_rfl) hH ?b7_y30 ?b7_r30
              case b7_y30 => (intro w hSw; (try dsimp only at hSw); go_simp; try (with_reducible rfl))
              case' b7_r30 => simp only [List.setIfInBounds_toArray, List.set_cons_zero, List.set_cons_succ]
              refine Reg.takeIf (i := 31) (u := ?b7_v31) rfl rfl rfl rfl rfl (by kernel_rfl) (by kernel_rfl) (by kernel_rfl) hH ?b7_y31 ?b7_r31
              case b7_y31 => (intro w hSw; (try dsimp only at hSw); go_simp; try (with_reducible rfl))
              case' b7_r31 => simp only [List.setIfInBounds_toArray, List.set_cons_zero, List.set_cons_succ]
              refine Reg.takeIf (i := 32) (u := ?b7_v32) rfl rfl rfl rfl rfl (by kernel_rfl) (by kernel_rfl) (by kernel_rfl) hH ?b7_y32 ?b7_r32
              case b7_y32 => (intro w hSw; (try dsimp only at hSw); go_simp; try (with_reducible rfl))
              case' b7_r32 => simp only [List.setIfInBounds_toArray, List.set_cons_zero, List.set_cons_succ]
              refine Reg.takeIf (i := 33) (u := ?b7_v33) rfl rfl rfl rfl rfl (by kernel_rfl) (by kernel_rfl) (by kernel_rfl) hH ?b7_y33 ?b7_r33
              case b7_y33 => (intro w hSw; (try dsimp only at hSw); go_simp; try (with_reducible rfl))
              case' b7_r33 => simp only [List.setIfInBounds_toArray, List.set_cons_zero, List.set_cons_succ]
              refine Reg.takeIf (i := 34) (u := ?b7_v34) rfl rfl rfl rfl rfl (by kernel_rfl) (by kernel_rfl) (by kernel_rfl) hH ?b7_y34 ?b7_r34
              case b7_y34 => (intro w hSw; (try dsimp only at hSw); go_simp; try (with_reducible rfl))
              case' b7_r34 => simp only [List.setIfInBounds_toArray, List.set_cons_zero, List.set_cons_succ]
              refine Reg.takeIf (i := 35) (u := ?b7_v35) rfl rfl rfl rfl rfl (by kernel_rfl) (by kernel_rfl) (by kernel_rfl) hH ?b7_y35 ?b7_r35
              case b7_y35 => (intro w hSw; (try dsimp only at hSw); go_simp; try (with_reducible rfl))
              case' b7_r35 => simp only [List.setIfInBounds_toArray, List.set_cons_zero, List.set_cons_succ]
              refine Reg.takeIf (i := 36) (u := ?b7_v36) rfl rfl rfl rfl rfl (by kernel_rfl) (by kernel_rfl) (by kernel_rfl) hH ?b7_y36 ?b7_r36
              case b7_y36 => (intro w hSw; (try dsimp only at hSw); go_simp; try (with_reducible rfl))
              case' b7_r36 => simp only [List.setIfInBounds_toArray, List.set_cons_zero, List.set_cons_succ]
              refine Reg.take (i := 37) (u := ?b7_v37) rfl rfl rfl (by kernel_rfl) (by kernel_rfl) (by kernel_rfl) hH ?b7_y37 ?b7_r37
              case b7_y37 => (intro w hSw; (try dsimp only at hSw); go_simp; try (with_reducible rfl))
              case' b7_r37 => simp only [List.setIfInBounds_toArray, List.set_cons_zero, List.set_cons_succ]
              refine wpAnyH_done (by kernel_rfl) ?_ _
              refine NoPanic.normal ?_
              go_wp2_with fail
              go_meet
              case rel => exact ⟨rfl, n2 + 1, rfl⟩
        case rest =>
          obtain ⟨rfl, n3, rfl⟩ := hcut
          go_wp2
          go_loopw [12] (fun j wr => OnI w5 k j wr) (fun j _ => k - (intOf j).toNat)
          case atStart => exact ⟨0, rfl, Nat.zero_le _, n3, rfl⟩
          case round => as_aux_lemma =>
            obtain ⟨j, rfl, hjk, n4, rfl⟩ := hrel
            by_cases hj : j < k
            · obtain ⟨rd', ⟨tx, ty⟩, e', ht, t0, t1⟩ := HCELL.out j (by rw [← HM.out]; omega)
              cases e'
              have hne : tx = x → ¬ ty = y := fun e1 e2 => by
                subst e1; subst e2
                have h1 := List.getElem?_eq_some_iff.1 ht
                have h2 := List.getElem?_eq_some_iff.1 HS.out
                exact (List.pairwise_iff_getElem.1 (List.nodup_iff_pairwise_ne.1 OS.out.nodup) j k h1.1 h2.1 hj) (h1.2.trans h2.2.symm)
              dsimp only at t0 t1
              clear ht
              have hj1 : (j : Int) < (m : Int) := by omega
              by_cases c1 : tx = x
              · have c2 := hne c1
                have c3 : ¬ (ty : Int) = (y : Int) := by omega
                subst c1
                clear hne
                go_wp2
                go_quiet (fail)
                go_wp2
                go_roundw
                case rel => exact ⟨j + 1, by go_num, by omega, _, rfl⟩
                case measure => simp [intOf]; omega
              · have c3 : ¬ (tx : Int) = (x : Int) := by omega
                clear hne
                go_wp2
                go_quiet (fail)
                go_wp2
                go_roundw
                case rel => exact ⟨j + 1, by go_num, by omega, _, rfl⟩
                case measure => simp [intOf]; omega
            · obtain rfl : j = k := by omega
              go_wp2
              go_roundw
              case rel => exact ⟨j + 1, by go_num, by omega, _, rfl⟩
              case measure => simp [intOf]; omega
    · obtain rfl : k = m := by omega
      go_wp2
      go_loopw [13] (fun i wr => ∃ j : Nat, i = .int .i64 j ∧ j ≤ q ∧ Below w5.heap.size w5 wr) (fun i _ => q - (intOf i).toNat)
      case atStart => exact ⟨0, rfl, Nat.zero_le _, below_drewN (Below.refl _ _) _⟩
      case round => as_aux_lemma =>
        obtain ⟨j, rfl, hjq, hbl⟩ := hrel
        by_cases hj : j < q
        · have hjA : j < A.length := by rw [← HQ.out]; exact hj
          obtain ⟨rd, e, hb, hc⟩ := (rA.out.below hbl).get (by omega)
          subst e
          have hs : A[j]? = some A[j] := List.getElem?_eq_getElem hjA
          obtain ⟨g0, g1⟩ := scells_get A j _ hs
          have t0 := hc _ _ g0
          have t1 : wr.cell? ⟨(rd.add (j * 2)).block, (rd.add (j * 2)).off + 1, none⟩ = some (.int .i64 (A[j]).2) := by rw [field_addr _ _ _ (by omega)]; exact hc _ _ g1
          have hn := fun w hD => KN.out (A[j]).1 (A[j]).2 w hD
          rw [number_at OA.out.nodup hs] at hn
          obtain ⟨⟨x, y⟩, hxy⟩ : ∃ s, s = A[j] := ⟨_, rfl⟩
          rw [← hxy] at t0 t1 hn
          dsimp only at t0 t1 hn
          have hq1 : (j : Int) < (q : Int) := by omega
          unfold spv at hn
          have hD := D5.out.below hbl
          clear hs g0 g1 hc hxy
          go_wp2_with fail
          refine (hn _ hD).mono ?_
          rintro e w6 ⟨rfl, h6⟩
          go_wp2
          go_roundw
          case rel => exact ⟨j + 1, by go_num, by omega, hbl.trans (h6.mono hbl.size)⟩
          case measure => simp [intOf]; omega
        · obtain rfl : j = q := by omega
          go_wp2
          go_ret
          exact ⟨rfl, b5.trans (hbl.mono b5.size)⟩

end Go.Proofs.Ytajnkapnndhbaaa
