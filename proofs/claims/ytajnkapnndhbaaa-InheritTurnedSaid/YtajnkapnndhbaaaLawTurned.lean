/- The statement InheritTurned, walked: it returns true. -/
import Derived.Test.YtajnkapnndhbaaaMadeFacts
import Derived.Test.YtajnkapnndhbaaaInhOwnDirs2
import Derived.Test.YtajnkapnndhbaaaInhRefChain
import Derived.Test.YtajnkapnndhbaaaInhOrder
namespace Go.Proofs.Ytajnkapnndhbaaa.Inh
open Mem
theorem check_of {L : List DirV} (h8 : L.length ≤ 8) (hd : ∀ d ∈ L, Dots.directory d.path = true ∧ 0 ≤ d.mode ∧ d.mode ≤ 2) (hn : (L.map (·.path)).Nodup) (ht : total L ≤ 64) : check L = (0, 0) := by
  have hb : ∀ j, j < L.length → badAt L j = 0 := by
    intro j hj
    obtain ⟨d, hdL, hp, hg⟩ := pathOf_mem hj
    obtain ⟨h1, h2, h3⟩ := hd d hdL
    rw [badAt_rest, modeOf_get hg, if_neg (by omega)]
    · rw [← hp]; exact h1
    · rw [List.any_eq_false]
      intro x hx
      simp only [beq_iff_eq]
      rw [← hp]
      intro e
      obtain ⟨k, hk, rfl⟩ := List.mem_take_iff_getElem.1 hx
      rw [List.nodup_iff_pairwise_ne, List.pairwise_iff_getElem] at hn
      have hjd : L[j] = d := by rw [List.getElem?_eq_getElem hj] at hg; exact Option.some.inj hg
      have := hn k j (by simp; omega) (by simpa using hj) (by omega)
      simp only [List.getElem_map] at this
      rw [hjd] at this
      exact this e
  rw [check_end h8 hb, if_neg (by omega)]
theorem total_append (A B : List DirV) : total (A ++ B) = total A + total B := by unfold total; rw [List.map_append, List.sum_append]
theorem check_turn {L : List DirV} (h8 : L.length ≤ 8) (hd : ∀ d ∈ L, Dots.directory d.path = true ∧ 0 ≤ d.mode ∧ d.mode ≤ 2) (hn : (L.map (·.path)).Nodup) (ht : total L ≤ 64) (k : Nat) : check (L.drop k ++ L.take k) = (0, 0) := by
  have hp : (L.drop k ++ L.take k).Perm L := by
    have := (List.perm_append_comm (l₁ := L.drop k) (l₂ := L.take k))
    rwa [List.take_append_drop] at this
  refine check_of (by rw [hp.length_eq]; exact h8) (fun d hx => hd d (hp.mem_iff.1 hx)) ((hp.map _).nodup_iff.2 hn) ?_
  rw [total_append, Nat.add_comm, ← total_append, List.take_append_drop]
  exact ht
theorem rulesR_of {L : List DirV} {p : Bs} (hc : check L = (0, 0)) (hp : Dots.normal p = true) : rulesR L p = (if find L p < 0 then [] else set L (find L p), 0) := by
  have efind : findR L p = (some? (find L p), 0) := by unfold findR; rw [hc, hp]; rfl
  have hr := find_range L p
  unfold rulesR
  rw [efind]
  simp only [if_true]
  by_cases hneg : find L p < 0
  · rw [show find L p = -1 by omega, some_neg]; rfl
  · obtain ⟨j, hj⟩ : ∃ j : Nat, find L p = j := ⟨(find L p).toNat, by omega⟩
    rw [hj, some_pos]
    simp only [if_true]
    rw [if_neg (by omega)]
end Go.Proofs.Ytajnkapnndhbaaa.Inh

namespace Go.Proofs.Ytajnkapnndhbaaa
open Go.RowKit Str Mem
set_option linter.unusedVariables false
set_option linter.unusedSimpArgs false

theorem made_total {l : List Int} {L : List DirV} (h : L.map Inh.key = madeK l 7) : Inh.total L ≤ 64 := by
  have ht : ∀ M : List DirV, (∀ d ∈ M, d.rn < 4) → Inh.total M ≤ 3 * M.length := by
    intro M
    induction M with
    | nil => intro _; simp [Inh.total]
    | cons a t ih =>
      intro hM
      have h1 := ih fun d hd => hM d (by simp [hd])
      have h2 := hM a (by simp)
      unfold Inh.total at *
      simp only [List.map_cons, List.sum_cons, List.length_cons]
      omega
  have := ht L fun d hd => by obtain ⟨_, _, _, _, _, h4⟩ := made_mem h hd; exact h4
  have := made_length h
  omega

theorem flat_drop {L : List DirV} {k : Nat} (hk : k ≤ L.length) : (L.drop k).flatMap DirV.cells = (L.flatMap DirV.cells).drop (k * 3) := by
  have e : L.flatMap DirV.cells = (L.take k).flatMap DirV.cells ++ (L.drop k).flatMap DirV.cells := by rw [← List.flatMap_append, List.take_append_drop]
  rw [e, List.drop_left' (by rw [Mem.flat_length, List.length_take]; omega)]
theorem DeepDirs.drop {w : World} {ad : Addr} {L : List DirV} {Rs : List (List RuleV)} (h : DeepDirs w (some ad) L Rs) {k : Nat} (hk : k ≤ L.length) : DeepDirs w (some (ad.add (k * 3))) (L.drop k) (Rs.drop k) := by
  have hd := Rd.drop h.dirs hk (some (ad.add (k * 3))) (fun _ => rfl)
  refine ⟨?_, by rw [List.length_drop, List.length_drop, h.len], fun j d R h1 h2 => ?_⟩
  · unfold Dirs
    rw [flat_drop hk, List.length_drop]
    exact hd
  · rw [List.getElem?_drop] at h1 h2
    exact h.rules _ d R h1 h2

theorem one_dirs (L : List DirV) : ∀ u ∈ L.flatMap DirV.cells, u.oneCell' = true := by
  intro u hu
  obtain ⟨d, _, hd⟩ := List.mem_flatMap.1 hu
  exact one_dir d u hd
def rlist (L : List DirV) (p : List UInt8) : List Inh.Spot := if Inh.find L p < 0 then [] else Inh.set L (Inh.find L p)
theorem rlist_len {L : List DirV} (hv : Inh.Valid L) (hs : Small L) (p : List UInt8) : (rlist L p).length ≤ 10400 := by
  unfold rlist
  have := Inh.find_range L p
  split
  · simp
  · exact set_length hv hs _ this.2
theorem rlist_lt {L : List DirV} (hv : Inh.Valid L) (p : List UInt8) : ∀ s ∈ rlist L p, s.1 < L.length := by
  unfold rlist
  have := Inh.find_range L p
  intro s hs
  split at hs
  · simp at hs
  · exact ((Inh.set_ord hv this.2).lt s hs).1

set_option maxRecDepth 20000 in
set_option maxHeartbeats 1500000 in
theorem lawTurned_any (a : Option Addr) (c : Nat) (l : List Int) (n tn : Int) (w : World) (h : Ints w a l.length l) :
    Calls Try.prog 7 #[.slice a l.length c, .int .i64 n, .int .i64 tn] w fun e w' => e = .returned (.bool true) ∧ Below w.heap.size w w' := by
  obtain ⟨i0, hi, hz0, hz1, hz2⟩ := info_parts infoDir
  have hk := fun w => lawInhKnown_any w
  have hmd := fun w h => made30_any a c l w h
  have hpt := fun w => path30_any n w
  have hpn := pPath_normal n
  have hps := pPath_short n
  obtain ⟨p, hp⟩ : ∃ p, p = pPath n := ⟨_, rfl⟩
  rw [← hp] at hpt hpn hps
  clear hp
  go_enter Try.func7, Try.ntmps7
  go_wp2_with fail
  refine (hk _).mono ?_
  rintro e w1 ⟨rfl, b1⟩
  go_wp2_with fail
  refine (hmd _ (h.below b1)).mono ?_
  rintro e w2 ⟨aL, cL, L, rfl, hkey, hLc, hcm, hdd, h2⟩
  have b2 := b1.trans (h2.mono b1.size)
  have hsm := made_small hkey
  have hchk := made_check hkey
  have hL7 := made_length hkey
  have hmem : ∀ d ∈ L, Dots.directory d.path = true ∧ 0 ≤ d.mode ∧ d.mode ≤ 2 := fun d hd => by
    obtain ⟨i, m, h1, h2, h3, h4⟩ := made_mem hkey hd
    exact ⟨by rw [h1]; exact (mPath_dir _ (mK_lt _ i)).1, by omega, by omega⟩
  have hapart := made_apart hkey
  have htot := made_total hkey
  by_cases hL0 : L.length = 0
  · clear hkey hmd hk hpt hmem
    go_wp2_with fail
    go_ret
    exact ⟨rfl, b2⟩
  · obtain ⟨t, ht⟩ : ∃ t : Nat, tn % (L.length : Int) = t := ⟨(tn % (L.length : Int)).toNat, by have := Int.emod_nonneg tn (show (L.length : Int) ≠ 0 by omega); omega⟩
    have htl : t < L.length := by have := Int.emod_lt_of_pos tn (show (0 : Int) < (L.length : Int) by omega); omega
    have hmod := fun w => kitMod_any tn (L.length : Int) w (by omega) (by omega)
    rw [ht] at hmod
    have hchkN := Inh.check_turn (L := L) (by omega) hmem hapart htot t
    clear ht hkey hmd hk hmem hapart htot
    have htl2 : (t : Int) < (L.length : Int) := by omega
    have htl3 : (t : Int) ≤ (L.length : Int) := by omega
    have htl4 : (t : Int) ≤ (cL : Int) := by omega
    have htl5 : (0 : Int) ≤ (t : Int) := by omega
    have hL0' : ((L.length : Int) == 0) = false := by rw [beq_eq_false_iff_ne]; omega
    go_wp2_with fail
    refine (hmod _).mono ?_
    rintro e w4 ⟨rfl, rfl⟩
    obtain ⟨ad, e0, hbb, _⟩ := Rd.get hdd.dirs (by omega)
    subst e0
    have hown := fun w' (hb : Below w2.heap.size w2 w') => ownDirs_owns (some (ad.add (t * 3))) (cL - t) (L.drop t) ((L.map fun d => List.replicate d.rn zr).drop t) w' ((hdd.drop (by omega)).below hb)
      ⟨by rw [List.length_drop]; omega, fun d hd => hsm.2 d (List.mem_of_mem_drop hd)⟩ (fun R hR r hr => by
        obtain ⟨d, _, rfl⟩ := List.mem_map.1 (List.mem_of_mem_drop hR)
        rw [List.eq_of_mem_replicate hr]; simp [zr])
    rw [List.length_drop] at hown
    unfold OwnDirsPost2 at hown
    simp only [List.length_drop] at hown
    clear hL0'
    have hct : ¬ cL = t := by omega
    go_wp2_with fail
    refine wp_region_noPanic ?_
    refine wp_region_held_drew (S := fun w' => True) (by kernel_rfl) ?_ (fun hH => ?_)
    · trivial
    refine Reg.take (i := 0) (u := ?b1_v0) rfl rfl rfl (by kernel_rfl) (by kernel_rfl) (by kernel_rfl) hH ?b1_y0 ?b1_r0
    case b1_y0 => (intro w hSw; (try dsimp only at hSw); go_simp; try (with_reducible rfl))
    case' b1_r0 => simp only [List.setIfInBounds_toArray, List.set_cons_zero, List.set_cons_succ]
    refine Reg.take (i := 1) (u := ?b1_v1) rfl rfl rfl (by kernel_rfl) (by kernel_rfl) (by kernel_rfl) hH ?b1_y1 ?b1_r1
    case b1_y1 => (intro w hSw; (try dsimp only at hSw); go_simp; try (with_reducible rfl))
    case' b1_r1 => simp only [List.setIfInBounds_toArray, List.set_cons_zero, List.set_cons_succ]
    refine Reg.take (i := 2) (u := ?b1_v2) rfl rfl rfl (by kernel_rfl) (by kernel_rfl) (by kernel_rfl) hH ?b1_y2 ?b1_r2
    case b1_y2 => (intro w hSw; (try dsimp only at hSw); go_simp; try (with_reducible rfl))
    case' b1_r2 => simp only [List.setIfInBounds_toArray, List.set_cons_zero, List.set_cons_succ]
    refine Reg.take (i := 4) (u := ?b1_v4) rfl rfl rfl (by kernel_rfl) (by kernel_rfl) (by kernel_rfl) hH ?b1_y4 ?b1_r4
    case b1_y4 => (intro w hSw; (try dsimp only at hSw); go_simp; try (with_reducible rfl))
    case' b1_r4 => simp only [List.setIfInBounds_toArray, List.set_cons_zero, List.set_cons_succ]
    refine Reg.take (i := 5) (u := ?b1_v5) rfl rfl rfl (by kernel_rfl) (by kernel_rfl) (by kernel_rfl) hH ?b1_y5 ?b1_r5
    case b1_y5 => (intro w hSw; (try dsimp only at hSw); go_simp; try (with_reducible rfl))
    case' b1_r5 => simp only [List.setIfInBounds_toArray, List.set_cons_zero, List.set_cons_succ]
    refine Reg.take (i := 6) (u := ?b1_v6) rfl rfl rfl (by kernel_rfl) (by kernel_rfl) (by kernel_rfl) hH ?b1_y6 ?b1_r6
    case b1_y6 => (intro w hSw; (try dsimp only at hSw); go_simp; try (with_reducible rfl))
    case' b1_r6 => simp only [List.setIfInBounds_toArray, List.set_cons_zero, List.set_cons_succ]
    refine Reg.only (i := 3) rfl (Reg.wanted_free rfl) (by kernel_rfl) (fun K hK => ?_)
    go_simp
    go_at_call 11; refine (hown _ (below_drewN (Below.refl _ w2) 1)).mono ?_; rintro e w5 ⟨aC, cC, L', rfl, hcp, hoC, h5⟩; go_simp
    refine hK.out _ _ ?_ (fun hH2 => ?_)
    · trivial
    clear hK hH
    have hH := hH2; clear hH2
    try simp only [Act.put, List.setIfInBounds_toArray, List.set_cons_zero, List.set_cons_succ]
    have hb5 : Below w2.heap.size w2 w5 := below_of_drew h5 (Nat.le_refl w2.heap.size)
    have hoC : Owns w5 w2.heap.size 55 3 (.slice aC (L.length - t) cC) (L.length - t) (L'.flatMap DirV.cells) := hoC
    refine Reg.only (i := 7) rfl (Reg.wanted_free rfl) (by kernel_rfl) (fun K hK => ?_)
    refine wp_append_owns (o := _) _ _ _ 22 rfl w2.heap.size 55 i0 (.agg #[.string ⟨#[]⟩, .int .i64 0, .slice none 0 0]) 3 48 Try.underlying22 hi hz0 hz1 hz2 rfl (by decide) _ (L.length - t) (L'.flatMap DirV.cells) rfl hoC _ t cL ((L.take t).flatMap DirV.cells) rfl ((Dirs.take hdd.dirs (by omega)).below hb5) (one_dirs _) (by simp only [maxLen]; omega) (by omega) hb5.size ?_
    intro v' w6 hown' hgrow
    refine hK.out _ _ trivial (fun hH2 => ?_)
    clear hK hH
    have hH := hH2; clear hH2
    try simp only [Act.put, List.setIfInBounds_toArray, List.set_cons_zero, List.set_cons_succ]
    refine Reg.take (i := 8) (u := ?b9_v8) rfl rfl rfl (by kernel_rfl) (by kernel_rfl) (by kernel_rfl) hH ?b9_y8 ?b9_r8
    case b9_y8 => (intro w hSw; (try dsimp only at hSw); go_simp; try (with_reducible rfl))
    case' b9_r8 => simp only [List.setIfInBounds_toArray, List.set_cons_zero, List.set_cons_succ]
    refine wpAnyH_done (by kernel_rfl) ?_ _
    refine NoPanic.normal ?_
    have hb6 : Below w2.heap.size w2 w6 := hb5.grown hgrow hb5.size (fun r e => (hoC.lt r e).1)
    have hl' : L'.length = L.length - t := hcp.1
    rw [show L.length - t + t = L.length by omega, ← List.flatMap_append] at hown'
    obtain ⟨aO, cO, rfl, q1, q2, q3⟩ := id hown'.form
    have al : Inh.Alike L' (L.drop t) := DirCopies.alike (by rw [List.length_drop]; exact hcp) (by rw [List.length_drop, List.length_drop, List.length_map])
    obtain ⟨M, hM⟩ : ∃ M, M = L' ++ L.take t := ⟨_, rfl⟩
    have al2 : Inh.Alike M (L.drop t ++ L.take t) := by unfold Inh.Alike; rw [hM, List.map_append, List.map_append]; unfold Inh.Alike at al; rw [al]
    have hMl : M.length = L.length := by rw [hM, List.length_append, hl', List.length_take]; omega
    rw [← hM] at q3
    obtain ⟨N, hN⟩ : ∃ N, N = L.drop t ++ L.take t := ⟨_, rfl⟩
    have tn := Inh.turn_of L t htl
    rw [← hN] at al2 hchkN tn
    have smN : Small N := by
      refine ⟨by rw [hN, List.length_append, List.length_drop, List.length_take]; omega, fun d hd => hsm.2 d ?_⟩
      rw [hN] at hd
      rcases List.mem_append.1 hd with h | h
      · exact List.mem_of_mem_drop h
      · exact List.mem_of_mem_take h
    have smM := Small.alike al2 smN
    have hvL : Inh.Valid L := by unfold Inh.Valid; rw [hchk]
    have hvN : Inh.Valid N := by unfold Inh.Valid; rw [hchkN]
    have DM : Dirs w6 aO M.length M := by rw [hMl]; exact q3
    have DL : Dirs w6 (some ad) L.length L := Dirs.below hdd.dirs hb6
    obtain ⟨S, eS1, eS2⟩ := tn.rules hvL hvN p
    have rL : Inh.rulesR L p = (S.map (fun s => ((s.1 + t) % L.length, s.2)), 0) := by rw [Inh.rulesR_of hchk hpn, eS2]
    have rM : Inh.rulesR M p = (S, 0) := by rw [al2.rulesR, Inh.rulesR_of hchkN hpn, eS1]
    have lS : S.length ≤ 10400 := by rw [← eS1]; exact rlist_len hvN smN p
    have ltS : ∀ s ∈ S, s.1 < N.length := by rw [← eS1]; exact rlist_lt hvN p
    rw [show N.length = L.length by rw [← al2.length, hMl]] at ltS
    have kL := fun w hD => inhRules_any (some ad) cL L p w hD hLc hsm (by omega)
    have kM := fun w hD => inhRules_any aO cO M p w hD (by rw [hMl]; exact q1) smM (by omega)
    rw [rL] at kL
    rw [rM, hMl] at kM
    rw [hMl] at DM
    unfold SpotsPost at kL kM
    simp only [List.length_map] at kL
    have HLT := Lib.hid ltS
    have b6 := b2.trans (hb6.mono b2.size)
    clear hcp hoC hown' hgrow al hM al2 hMl q3 hN hchkN tn smN smM hvL hvN eS1 eS2 rL rM ltS hchk hpn hl' hb5 h5 hdd hown q1 q2 htl3 htl4 hct h2 b1 h hsm hi hz0 hz1 hz2 hLc hcm hb6 b2
    go_wp2_with fail
    refine (hpt _).mono ?_
    rintro e w7 ⟨rfl, h7⟩
    have b7 := b6.trans (h7.mono b6.size)
    replace DL := Dirs.below DL h7
    replace DM := Dirs.below DM h7
    go_wp2_with fail
    refine (kL _ DL).mono ?_
    rintro e w8 ⟨aA, cA, rfl, rA, _, _, h8⟩
    have b8 := b7.trans (h8.mono b7.size)
    replace DM := Dirs.below DM h8
    go_wp2_with fail
    refine (hpt _).mono ?_
    rintro e w9 ⟨rfl, h9⟩
    have b9 := b8.trans (h9.mono b8.size)
    replace DM := Dirs.below DM h9
    replace rA := rA.below h9
    go_wp2_with fail
    refine (kM _ DM).mono ?_
    rintro e w10 ⟨aB, cB, rfl, rB, _, _, h10⟩
    have b10 := b9.trans (h10.mono b9.size)
    replace rA := rA.below h10
    obtain ⟨m, hm⟩ : ∃ m, m = S.length := ⟨_, rfl⟩
    rw [← hm] at lS rA rB ⊢
    have HM := Lib.hid hm
    have RA := Lib.hid rA
    have RB := Lib.hid rB
    clear hm kL kM hpt DM DL h7 h8 h9 h10 rA rB b6 b7 b8 b9
    have hL0' : ¬ (L.length : Int) = 0 := by omega
    go_wp2_with fail
    go_loopw [14] (fun i wr => ∃ k : Nat, i = .int .i64 k ∧ k ≤ m ∧ ∃ j, wr = w10.drewN j) (fun i _ => m - (intOf i).toNat)
    case atStart => exact ⟨0, rfl, Nat.zero_le _, 0, rfl⟩
    case round =>
      obtain ⟨k, rfl, hkm, nn, rfl⟩ := hrel
      by_cases hlt : k < m
      · have hks : k < S.length := by rw [← HM.out]; exact hlt
        have hs : S[k]? = some S[k] := List.getElem?_eq_getElem hks
        obtain ⟨ra, rfl, _, hcA⟩ := RA.out.get (by omega)
        obtain ⟨rb, rfl, _, hcB⟩ := RB.out.get (by omega)
        obtain ⟨⟨x, y⟩, hxy⟩ : ∃ s, s = S[k] := ⟨_, rfl⟩
        rw [← hxy] at hs
        obtain ⟨g0, g1⟩ := scells_get S k _ hs
        obtain ⟨f0, f1⟩ := scells_get (S.map fun s => ((s.1 + t) % L.length, s.2)) k ((x + t) % L.length, y) (by rw [List.getElem?_map, hs]; rfl)
        obtain ⟨z, hz⟩ : ∃ z, z = (x + t) % L.length := ⟨_, rfl⟩
        rw [← hz] at f0
        have hx7 := HLT.out _ (List.mem_of_getElem? hs)
        have e0 := hcA _ _ f0
        have e1 : w10.cell? ⟨(ra.add (k * 2)).block, (ra.add (k * 2)).off + 1, none⟩ = some (.int .i64 (y : Nat)) := by rw [field_addr _ _ _ (by omega)]; exact hcA _ _ f1
        have t0 := hcB _ _ g0
        have t1 : w10.cell? ⟨(rb.add (k * 2)).block, (rb.add (k * 2)).off + 1, none⟩ = some (.int .i64 (y : Nat)) := by rw [field_addr _ _ _ (by omega)]; exact hcB _ _ g1
        dsimp only at e0 e1 t0 t1 hx7
        have hxw : IntKind.i64.wrap ((x : Int) + (t : Int)) = (x : Int) + (t : Int) := IntWalk.i64_in _ (by omega)
        have hxm : ((x : Int) + (t : Int)).tmod (L.length : Int) = (z : Int) := by rw [hz, Int.tmod_eq_emod_of_nonneg (by omega)]; push_cast; rfl
        have hkm1 : (k : Int) < (m : Int) := by omega
        clear hs g0 g1 f0 f1 hcA hcB hxy hz hks
        go_wp2
        refine wp_region_noPanic ?_
        refine wp_region_held_drew (S := fun w' => w'.cell? (ra.add (k * 2)) = some (.int .i64 (z : Nat)) ∧ w'.cell? ⟨(ra.add (k * 2)).block, (ra.add (k * 2)).off + 1, none⟩ = some (.int .i64 (y : Nat)) ∧ w'.cell? (rb.add (k * 2)) = some (.int .i64 (x : Nat)) ∧ w'.cell? ⟨(rb.add (k * 2)).block, (rb.add (k * 2)).off + 1, none⟩ = some (.int .i64 (y : Nat))) (by kernel_rfl) ?_ (fun hH => ?_)
        · exact ⟨e0, e1, t0, t1⟩
        refine Reg.take (i := 0) (u := ?b2_v0) rfl rfl rfl (by kernel_rfl) (by kernel_rfl) (by kernel_rfl) hH ?b2_y0 ?b2_r0
        case b2_y0 => (intro w hSw; (try dsimp only at hSw); go_simp; try (with_reducible rfl))
        case' b2_r0 => simp only [List.setIfInBounds_toArray, List.set_cons_zero, List.set_cons_succ]
        refine Reg.take (i := 1) (u := ?b2_v1) rfl rfl rfl (by kernel_rfl) (by kernel_rfl) (by kernel_rfl) hH ?b2_y1 ?b2_r1
        case b2_y1 => (intro w hSw; (try dsimp only at hSw); go_simp; try (with_reducible rfl))
        case' b2_r1 => simp only [List.setIfInBounds_toArray, List.set_cons_zero, List.set_cons_succ]
        refine Reg.take (i := 2) (u := ?b2_v2) rfl rfl rfl (by kernel_rfl) (by kernel_rfl) (by kernel_rfl) hH ?b2_y2 ?b2_r2
        case b2_y2 => (intro w hSw; (try dsimp only at hSw); go_simp; try (with_reducible rfl))
        case' b2_r2 => simp only [List.setIfInBounds_toArray, List.set_cons_zero, List.set_cons_succ]
        refine Reg.take (i := 3) (u := ?b2_v3) rfl rfl rfl (by kernel_rfl) (by kernel_rfl) (by kernel_rfl) hH ?b2_y3 ?b2_r3
        case b2_y3 => (intro w hSw; (try dsimp only at hSw); go_simp; try (with_reducible rfl))
        case' b2_r3 => simp only [List.setIfInBounds_toArray, List.set_cons_zero, List.set_cons_succ]
        refine Reg.take (i := 4) (u := ?b2_v4) rfl rfl rfl (by kernel_rfl) (by kernel_rfl) (by kernel_rfl) hH ?b2_y4 ?b2_r4
        case b2_y4 => (intro w hSw; (try dsimp only at hSw); go_simp; try (with_reducible rfl))
        case' b2_r4 => simp only [List.setIfInBounds_toArray, List.set_cons_zero, List.set_cons_succ]
        refine Reg.take (i := 5) (u := ?b2_v5) rfl rfl rfl (by kernel_rfl) (by kernel_rfl) (by kernel_rfl) hH ?b2_y5 ?b2_r5
        case b2_y5 => (intro w hSw; (try dsimp only at hSw); go_simp; try (with_reducible rfl))
        case' b2_r5 => simp only [List.setIfInBounds_toArray, List.set_cons_zero, List.set_cons_succ]
        refine Reg.take (i := 6) (u := ?b2_v6) rfl rfl rfl (by kernel_rfl) (by kernel_rfl) (by kernel_rfl) hH ?b2_y6 ?b2_r6
        case b2_y6 => (intro w hSw; (try dsimp only at hSw); go_simp; try (with_reducible rfl))
        case' b2_r6 => simp only [List.setIfInBounds_toArray, List.set_cons_zero, List.set_cons_succ]
        refine Reg.take (i := 7) (u := ?b2_v7) rfl rfl rfl (by kernel_rfl) (by kernel_rfl) (by kernel_rfl) hH ?b2_y7 ?b2_r7
        case b2_y7 => (intro w hSw; (try dsimp only at hSw); go_simp; try (with_reducible rfl))
        case' b2_r7 => simp only [List.setIfInBounds_toArray, List.set_cons_zero, List.set_cons_succ]
        refine Reg.take (i := 8) (u := ?b2_v8) rfl rfl rfl (by kernel_rfl) (by kernel_rfl) (by kernel_rfl) hH ?b2_y8 ?b2_r8
        case b2_y8 => (intro w hSw; (try dsimp only at hSw); go_simp; try (with_reducible rfl))
        case' b2_r8 => simp only [List.setIfInBounds_toArray, List.set_cons_zero, List.set_cons_succ]
        refine Reg.take (i := 9) (u := ?b2_v9) rfl rfl rfl (by kernel_rfl) (by kernel_rfl) (by kernel_rfl) hH ?b2_y9 ?b2_r9
        case b2_y9 => (intro w hSw; (try dsimp only at hSw); go_simp; try (with_reducible rfl))
        case' b2_r9 => simp only [List.setIfInBounds_toArray, List.set_cons_zero, List.set_cons_succ]
        refine Reg.take (i := 10) (u := ?b2_v10) rfl rfl rfl (by kernel_rfl) (by kernel_rfl) (by kernel_rfl) hH ?b2_y10 ?b2_r10
        case b2_y10 => (intro w hSw; (try dsimp only at hSw); go_simp; try (with_reducible rfl))
        case' b2_r10 => simp only [List.setIfInBounds_toArray, List.set_cons_zero, List.set_cons_succ]
        refine Reg.take (i := 11) (u := ?b2_v11) rfl rfl rfl (by kernel_rfl) (by kernel_rfl) (by kernel_rfl) hH ?b2_y11 ?b2_r11
        case b2_y11 => (intro w hSw; (try dsimp only at hSw); go_simp; try (with_reducible rfl))
        case' b2_r11 => simp only [List.setIfInBounds_toArray, List.set_cons_zero, List.set_cons_succ]
        refine Reg.takeIf (i := 12) (u := ?b2_v12) rfl rfl rfl rfl rfl (by kernel_rfl) (by kernel_rfl) (by kernel_rfl) hH ?b2_y12 ?b2_r12
        case b2_y12 => (intro w hSw; (try dsimp only at hSw); go_simp; try (with_reducible rfl))
        case' b2_r12 => simp only [List.setIfInBounds_toArray, List.set_cons_zero, List.set_cons_succ]
        refine Reg.takeIf (i := 13) (u := ?b2_v13) rfl rfl rfl rfl rfl (by kernel_rfl) (by kernel_rfl) (by kernel_rfl) hH ?b2_y13 ?b2_r13
        case b2_y13 => (intro w hSw; (try dsimp only at hSw); go_simp; try (with_reducible rfl))
        case' b2_r13 => simp only [List.setIfInBounds_toArray, List.set_cons_zero, List.set_cons_succ]
        refine Reg.takeIf (i := 14) (u := ?b2_v14) rfl rfl rfl rfl rfl (by kernel_rfl) (by kernel_rfl) (by kernel_rfl) hH ?b2_y14 ?b2_r14
        case b2_y14 => (intro w hSw; (try dsimp only at hSw); go_simp; try (with_reducible rfl))
        case' b2_r14 => simp only [List.setIfInBounds_toArray, List.set_cons_zero, List.set_cons_succ]
        refine Reg.takeIf (i := 15) (u := ?b2_v15) rfl rfl rfl rfl rfl (by kernel_rfl) (by kernel_rfl) (by kernel_rfl) hH ?b2_y15 ?b2_r15
        case b2_y15 => (intro w hSw; (try dsimp only at hSw); go_simp; try (with_reducible rfl))
        case' b2_r15 => simp only [List.setIfInBounds_toArray, List.set_cons_zero, List.set_cons_succ]
        refine Reg.takeIf (i := 16) (u := ?b2_v16) rfl rfl rfl rfl rfl (by kernel_rfl) (by kernel_rfl) (by kernel_rfl) hH ?b2_y16 ?b2_r16
        case b2_y16 => (intro w hSw; (try dsimp only at hSw); go_simp; try (with_reducible rfl))
        case' b2_r16 => simp only [List.setIfInBounds_toArray, List.set_cons_zero, List.set_cons_succ]
        refine Reg.takeIf (i := 17) (u := ?b2_v17) rfl rfl rfl rfl rfl (by kernel_rfl) (by kernel_rfl) (by kernel_rfl) hH ?b2_y17 ?b2_r17
        case b2_y17 => (intro w hSw; (try dsimp only at hSw); go_simp; try (with_reducible rfl))
        case' b2_r17 => simp only [List.setIfInBounds_toArray, List.set_cons_zero, List.set_cons_succ]
        refine Reg.takeIf (i := 18) (u := ?b2_v18) rfl rfl rfl rfl rfl (by kernel_rfl) (by kernel_rfl) (by kernel_rfl) hH ?b2_y18 ?b2_r18
        case b2_y18 => (intro w hSw; (try dsimp only at hSw); go_simp; try (with_reducible rfl))
        case' b2_r18 => simp only [List.setIfInBounds_toArray, List.set_cons_zero, List.set_cons_succ]
        refine Reg.takeIf (i := 19) (u := ?b2_v19) rfl rfl rfl rfl rfl (by kernel_rfl) (by kernel_rfl) (by kernel_rfl) hH ?b2_y19 ?b2_r19
        case b2_y19 => (intro w hSw; (try dsimp only at hSw); go_simp; try (with_reducible rfl))
        case' b2_r19 => simp only [List.setIfInBounds_toArray, List.set_cons_zero, List.set_cons_succ]
        refine Reg.takeIf (i := 20) (u := ?b2_v20) rfl rfl rfl rfl rfl (by kernel_rfl) (by kernel_rfl) (by kernel_rfl) hH ?b2_y20 ?b2_r20
        case b2_y20 => (intro w hSw; (try dsimp only at hSw); go_simp; try (with_reducible rfl))
        case' b2_r20 => simp only [List.setIfInBounds_toArray, List.set_cons_zero, List.set_cons_succ]
        refine Reg.takeIf (i := 21) (u := ?b2_v21) rfl rfl rfl rfl rfl (by kernel_rfl) (by kernel_rfl) (by kernel_rfl) hH ?b2_y21 ?b2_r21
        case b2_y21 => (intro w hSw; (try dsimp only at hSw); go_simp; try (with_reducible rfl))
        case' b2_r21 => simp only [List.setIfInBounds_toArray, List.set_cons_zero, List.set_cons_succ]
        refine Reg.takeIf (i := 22) (u := ?b2_v22) rfl rfl rfl rfl rfl (by kernel_rfl) (by kernel_rfl) (by kernel_rfl) hH ?b2_y22 ?b2_r22
        case b2_y22 => (intro w hSw; (try dsimp only at hSw); go_simp; try (with_reducible rfl))
        case' b2_r22 => simp only [List.setIfInBounds_toArray, List.set_cons_zero, List.set_cons_succ]
        refine Reg.takeIf (i := 23) (u := ?b2_v23) rfl rfl rfl rfl rfl (by kernel_rfl) (by kernel_rfl) (by kernel_rfl) hH ?b2_y23 ?b2_r23
        case b2_y23 => (intro w hSw; (try dsimp only at hSw); go_simp; try (with_reducible rfl))
        case' b2_r23 => simp only [List.setIfInBounds_toArray, List.set_cons_zero, List.set_cons_succ]
        refine Reg.takeIf (i := 24) (u := ?b2_v24) rfl rfl rfl rfl rfl (by kernel_rfl) (by kernel_rfl) (by kernel_rfl) hH ?b2_y24 ?b2_r24
        case b2_y24 => (intro w hSw; (try dsimp only at hSw); go_simp; try (with_reducible rfl))
        case' b2_r24 => simp only [List.setIfInBounds_toArray, List.set_cons_zero, List.set_cons_succ]
        refine Reg.takeIf (i := 25) (u := ?b2_v25) rfl rfl rfl rfl rfl (by kernel_rfl) (by kernel_rfl) (by kernel_rfl) hH ?b2_y25 ?b2_r25
        case b2_y25 => (intro w hSw; (try dsimp only at hSw); go_simp; try (with_reducible rfl))
        case' b2_r25 => simp only [List.setIfInBounds_toArray, List.set_cons_zero, List.set_cons_succ]
        refine Reg.takeIf (i := 26) (u := ?b2_v26) rfl rfl rfl rfl rfl (by kernel_rfl) (by kernel_rfl) (by kernel_rfl) hH ?b2_y26 ?b2_r26
        case b2_y26 => (intro w hSw; (try dsimp only at hSw); go_simp; try (with_reducible rfl))
        case' b2_r26 => simp only [List.setIfInBounds_toArray, List.set_cons_zero, List.set_cons_succ]
        refine Reg.takeIf (i := 27) (u := ?b2_v27) rfl rfl rfl rfl rfl (by kernel_rfl) (by kernel_rfl) (by kernel_rfl) hH ?b2_y27 ?b2_r27
        case b2_y27 => (intro w hSw; (try dsimp only at hSw); go_simp; try (with_reducible rfl))
        case' b2_r27 => simp only [List.setIfInBounds_toArray, List.set_cons_zero, List.set_cons_succ]
        refine Reg.take (i := 28) (u := ?b2_v28) rfl rfl rfl (by kernel_rfl) (by kernel_rfl) (by kernel_rfl) hH ?b2_y28 ?b2_r28
        case b2_y28 => (intro w hSw; (try dsimp only at hSw); go_simp; try (with_reducible rfl))
        case' b2_r28 => simp only [List.setIfInBounds_toArray, List.set_cons_zero, List.set_cons_succ]
        refine wpAnyH_done (by kernel_rfl) ?_ _
        refine NoPanic.normal ?_
        go_wp2
        go_roundw
        case rel => exact ⟨k + 1, by go_num, by omega, _, rfl⟩
        case measure => simp [intOf]; omega
      · obtain rfl : k = m := by omega
        go_wp2
        go_ret
        exact ⟨rfl, below_drewN b10 _⟩

end Go.Proofs.Ytajnkapnndhbaaa
