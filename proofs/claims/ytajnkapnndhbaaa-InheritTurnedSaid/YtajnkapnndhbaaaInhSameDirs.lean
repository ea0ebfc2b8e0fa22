/- SameDirs: of directories and copies of them. -/
import Derived.Test.YtajnkapnndhbaaaInhOwnDirs
namespace Go.Proofs.Ytajnkapnndhbaaa
open Go.RowKit Str Mem
set_option linter.unusedVariables false
set_option linter.unusedSimpArgs false

/-- L' reads as copies of the directories. -/
def ReadCopies (w : World) (L' L : List DirV) (Rs : List (List RuleV)) : Prop :=
  ∀ (j : Nat) d R, L[j]? = some d → Rs[j]? = some R → ∃ ra rc R', L'[j]? = some ⟨d.path, d.mode, ra, d.rn, rc⟩ ∧ Rules w ra d.rn R' ∧ Copies R' R R.length
theorem DirCopies.read {w : World} {base : Nat} {L' L : List DirV} {Rs : List (List RuleV)} (h : DirCopies w base L' L Rs L.length) (hr : ∀ (k : Nat) d R, L[k]? = some d → Rs[k]? = some R → d.rn = R.length) : ReadCopies w L' L Rs := by
  intro j d R hd hR
  obtain ⟨ra, rc, R', h1, h2, h3⟩ := h.2 j d R (List.getElem?_eq_some_iff.1 hd).1 hd hR
  refine ⟨ra, rc, R', h1, ?_, h3⟩
  obtain ⟨a, c, e, _, _, h4⟩ := h2.rules
  simp only [Value.slice.injEq] at e
  obtain ⟨rfl, e2, rfl⟩ := e
  rw [← e2] at h4
  exact h4
theorem ReadCopies.below {w w' : World} {L' L : List DirV} {Rs : List (List RuleV)} (h : ReadCopies w L' L Rs) (hb : Below w.heap.size w w') : ReadCopies w' L' L Rs := by
  intro j d R hd hR
  obtain ⟨ra, rc, R', h1, h2, h3⟩ := h j d R hd hR
  exact ⟨ra, rc, R', h1, h2.below hb, h3⟩

set_option maxRecDepth 20000 in
set_option maxHeartbeats 8000000 in
theorem sameDirs_any (a b : Option Addr) (c c' : Nat) (L' L : List DirV) (Rs : List (List RuleV)) (w : World) (h' : Dirs w a L.length L') (h : DeepDirs w b L Rs) (hcp : ReadCopies w L' L Rs) (hsm : Small L) (hs : ∀ R ∈ Rs, ∀ r ∈ R, r.conds.length ≤ 1048576) :
    Calls Try.prog 21 #[.slice a L.length c, .slice b L.length c'] w fun e w' => e = .returned (.bool true) ∧ Below w.heap.size w w' := by
  have hL := hsm.1
  go_enter Try.func21, Try.ntmps21
  go_wp2
  go_loopw [5] (fun i wr => ∃ k : Nat, i = .int .i64 k ∧ k ≤ L.length ∧ Below w.heap.size w wr) (fun i _ => L.length - (intOf i).toNat)
  case atStart => exact ⟨0, rfl, Nat.zero_le _, Below.refl _ _⟩
  case round =>
    obtain ⟨k, rfl, hk, hbl⟩ := hrel
    have hsz := hbl.size
    by_cases hlt : k < L.length
    · have hd2 := h.below hbl
      obtain ⟨bd, d, rfl, hbb, hls, x0, x1, x2⟩ := hd2.dirs.fields hlt
      have hlR : k < Rs.length := by rw [h.len]; exact hlt
      have hR : Rs[k]? = some Rs[k] := List.getElem?_eq_getElem hlR
      obtain ⟨R, hRe⟩ : ∃ R, R = Rs[k] := ⟨_, rfl⟩
      rw [← hRe] at hR
      obtain ⟨hrn, hru0⟩ := hd2.rules k d R hls hR
      have hrs : d.rn ≤ 80 := (hsm.2 d (List.mem_of_getElem? hls)).1
      obtain ⟨ra, rc, R', hls', hru', hcp'⟩ := (hcp.below hbl) k d R hls hR
      obtain ⟨ad, d', rfl, hbb', hls2, c0, c1, c2⟩ := (h'.below hbl).fields hlt
      rw [hls'] at hls2
      cases hls2
      dsimp only at c0 c1 c2
      have hq := fun w' (hb : Below wr.heap.size wr w') => sameRules_any d.ra ra d.rc rc R R' w' (by rw [← hrn]; exact hru0.below hb) (by rw [← hrn]; exact hru'.below hb) hcp' (by omega) (hs R (List.mem_of_getElem? hR))
      rw [← hrn] at hq
      have la : (ad.add (k * 3)).block < wr.heap.size := by rw [add_block]; exact hbb'
      have lb : (bd.add (k * 3)).block < wr.heap.size := by rw [add_block]; exact hbb
      have i0' : (0 : Int) ≤ (k : Int) := by omega
      have i1' : (k : Int) < (L.length : Int) := by omega
      have hw1 : (d.path.toArray == d.path.toArray) = true := by simp
      clear hls hR hRe hd2 hru0 hrn hls' hru' hcp'
      go_wp2
      refine wp_region_noPanic ?_
      refine wp_region_held_drew (S := fun w' => w'.cell? (ad.add (k * 3)) = some (.string ⟨d.path.toArray⟩) ∧ w'.cell? ⟨(ad.add (k * 3)).block, (ad.add (k * 3)).off + 1, none⟩ = some (.int .i64 d.mode) ∧ w'.cell? ⟨(ad.add (k * 3)).block, (ad.add (k * 3)).off + 2, none⟩ = some (.slice ra d.rn rc) ∧ w'.cell? (bd.add (k * 3)) = some (.string ⟨d.path.toArray⟩) ∧ w'.cell? ⟨(bd.add (k * 3)).block, (bd.add (k * 3)).off + 1, none⟩ = some (.int .i64 d.mode) ∧ w'.cell? ⟨(bd.add (k * 3)).block, (bd.add (k * 3)).off + 2, none⟩ = some (.slice d.ra d.rn d.rc)) (by kernel_rfl) ?_ (fun hH => ?_)
      · exact ⟨c0, c1, c2, x0, x1, x2⟩
      refine Reg.take (i := 0) (u := ?b1_v0) rfl rfl rfl (by kernel_rfl) (by kernel_rfl) (by kernel_rfl) hH ?b1_y0 ?b1_r0
      case b1_y0 => (intro w hSw; (try dsimp only at hSw); go_simp; try (with_reducible rfl))
      case' b1_r0 => simp only [List.setIfInBounds_toArray, List.set_cons_zero, List.set_cons_succ]
      refine Reg.take (i := 1) (u := ?b1_v1) rfl rfl rfl (by kernel_rfl) (by kernel_rfl) (by kernel_rfl) hH ?b1_y1 ?b1_r1
      case b1_y1 => (intro w hSw; (try dsimp only at hSw); go_simp; try (with_reducible rfl))
      case' b1_r1 => simp only [List.setIfInBounds_toArray, List.set_cons_zero, List.set_cons_succ]
      refine Reg.take (i := 2) (u := ?b1_v2) rfl rfl rfl (by kernel_rfl) (by kernel_rfl) (by kernel_rfl) hH ?b1_y2 ?b1_r2
      case b1_y2 => (intro w hSw; (try dsimp only at hSw); go_simp; try (with_reducible rfl))
      case' b1_r2 => simp only [List.setIfInBounds_toArray, List.set_cons_zero, List.set_cons_succ]
      refine Reg.take (i := 3) (u := ?b1_v3) rfl rfl rfl (by kernel_rfl) (by kernel_rfl) (by kernel_rfl) hH ?b1_y3 ?b1_r3
      case b1_y3 => (intro w hSw; (try dsimp only at hSw); go_simp; try (with_reducible rfl))
      case' b1_r3 => simp only [List.setIfInBounds_toArray, List.set_cons_zero, List.set_cons_succ]
      refine Reg.take (i := 4) (u := ?b1_v4) rfl rfl rfl (by kernel_rfl) (by kernel_rfl) (by kernel_rfl) hH ?b1_y4 ?b1_r4
      case b1_y4 => (intro w hSw; (try dsimp only at hSw); go_simp; try (with_reducible rfl))
      case' b1_r4 => simp only [List.setIfInBounds_toArray, List.set_cons_zero, List.set_cons_succ]
      refine Reg.take (i := 5) (u := ?b1_v5) rfl rfl rfl (by kernel_rfl) (by kernel_rfl) (by kernel_rfl) hH ?b1_y5 ?b1_r5
      case b1_y5 => (intro w hSw; (try dsimp only at hSw); go_simp; try (with_reducible rfl))
      case' b1_r5 => simp only [List.setIfInBounds_toArray, List.set_cons_zero, List.set_cons_succ]
      refine Reg.take (i := 6) (u := ?b1_v6) rfl rfl rfl (by kernel_rfl) (by kernel_rfl) (by kernel_rfl) hH ?b1_y6 ?b1_r6
      case b1_y6 => (intro w hSw; (try dsimp only at hSw); go_simp; try (with_reducible rfl))
      case' b1_r6 => simp only [List.setIfInBounds_toArray, List.set_cons_zero, List.set_cons_succ]
      refine Reg.take (i := 7) (u := ?b1_v7) rfl rfl rfl (by kernel_rfl) (by kernel_rfl) (by kernel_rfl) hH ?b1_y7 ?b1_r7
      case b1_y7 => (intro w hSw; (try dsimp only at hSw); go_simp; try (with_reducible rfl))
      case' b1_r7 => simp only [List.setIfInBounds_toArray, List.set_cons_zero, List.set_cons_succ]
      refine Reg.take (i := 8) (u := ?b1_v8) rfl rfl rfl (by kernel_rfl) (by kernel_rfl) (by kernel_rfl) hH ?b1_y8 ?b1_r8
      case b1_y8 => (intro w hSw; (try dsimp only at hSw); go_simp; try (with_reducible rfl))
      case' b1_r8 => simp only [List.setIfInBounds_toArray, List.set_cons_zero, List.set_cons_succ]
      refine Reg.take (i := 9) (u := ?b1_v9) rfl rfl rfl (by kernel_rfl) (by kernel_rfl) (by kernel_rfl) hH ?b1_y9 ?b1_r9
      case b1_y9 => (intro w hSw; (try dsimp only at hSw); go_simp; try (with_reducible rfl))
      case' b1_r9 => simp only [List.setIfInBounds_toArray, List.set_cons_zero, List.set_cons_succ]
      refine Reg.take (i := 10) (u := ?b1_v10) rfl rfl rfl (by kernel_rfl) (by kernel_rfl) (by kernel_rfl) hH ?b1_y10 ?b1_r10
      case b1_y10 => (intro w hSw; (try dsimp only at hSw); go_simp; try (with_reducible rfl))
      case' b1_r10 => simp only [List.setIfInBounds_toArray, List.set_cons_zero, List.set_cons_succ]
      refine Reg.take (i := 11) (u := ?b1_v11) rfl rfl rfl (by kernel_rfl) (by kernel_rfl) (by kernel_rfl) hH ?b1_y11 ?b1_r11
      case b1_y11 => (intro w hSw; (try dsimp only at hSw); go_simp; try (with_reducible rfl))
      case' b1_r11 => simp only [List.setIfInBounds_toArray, List.set_cons_zero, List.set_cons_succ]
      refine Reg.takeIf (i := 12) (u := ?b1_v12) rfl rfl rfl rfl rfl (by kernel_rfl) (by kernel_rfl) (by kernel_rfl) hH ?b1_y12 ?b1_r12
      case b1_y12 => (intro w hSw; (try dsimp only at hSw); go_simp; try (with_reducible rfl))
      case' b1_r12 => simp only [List.setIfInBounds_toArray, List.set_cons_zero, List.set_cons_succ]
      refine Reg.takeIf (i := 13) (u := ?b1_v13) rfl rfl rfl rfl rfl (by kernel_rfl) (by kernel_rfl) (by kernel_rfl) hH ?b1_y13 ?b1_r13
      case b1_y13 => (intro w hSw; (try dsimp only at hSw); go_simp; try (with_reducible rfl))
      case' b1_r13 => simp only [List.setIfInBounds_toArray, List.set_cons_zero, List.set_cons_succ]
      refine Reg.takeIf (i := 14) (u := ?b1_v14) rfl rfl rfl rfl rfl (by kernel_rfl) (by kernel_rfl) (by kernel_rfl) hH ?b1_y14 ?b1_r14
      case b1_y14 => (intro w hSw; (try dsimp only at hSw); go_simp; try (with_reducible rfl))
      case' b1_r14 => simp only [List.setIfInBounds_toArray, List.set_cons_zero, List.set_cons_succ]
      refine Reg.takeIf (i := 15) (u := ?b1_v15) rfl rfl rfl rfl rfl (by kernel_rfl) (by kernel_rfl) (by kernel_rfl) hH ?b1_y15 ?b1_r15
      case b1_y15 => (intro w hSw; (try dsimp only at hSw); go_simp; try (with_reducible rfl))
      case' b1_r15 => simp only [List.setIfInBounds_toArray, List.set_cons_zero, List.set_cons_succ]
      refine Reg.takeIf (i := 16) (u := ?b1_v16) rfl rfl rfl rfl rfl (by kernel_rfl) (by kernel_rfl) (by kernel_rfl) hH ?b1_y16 ?b1_r16
      case b1_y16 => (intro w hSw; (try dsimp only at hSw); go_simp; try (with_reducible rfl))
      case' b1_r16 => simp only [List.setIfInBounds_toArray, List.set_cons_zero, List.set_cons_succ]
      refine Reg.takeIf (i := 17) (u := ?b1_v17) rfl rfl rfl rfl rfl (by kernel_rfl) (by kernel_rfl) (by kernel_rfl) hH ?b1_y17 ?b1_r17
      case b1_y17 => (intro w hSw; (try dsimp only at hSw); go_simp; try (with_reducible rfl))
      case' b1_r17 => simp only [List.setIfInBounds_toArray, List.set_cons_zero, List.set_cons_succ]
      refine Reg.takeIf (i := 18) (u := ?b1_v18) rfl rfl rfl rfl rfl (by kernel_rfl) (by kernel_rfl) (by kernel_rfl) hH ?b1_y18 ?b1_r18
      case b1_y18 => (intro w hSw; (try dsimp only at hSw); go_simp; try (with_reducible rfl))
      case' b1_r18 => simp only [List.setIfInBounds_toArray, List.set_cons_zero, List.set_cons_succ]
      refine Reg.takeIf (i := 19) (u := ?b1_v19) rfl rfl rfl rfl rfl (by kernel_rfl) (by kernel_rfl) (by kernel_rfl) hH ?b1_y19 ?b1_r19
      case b1_y19 => (intro w hSw; (try dsimp only at hSw); go_simp; try (with_reducible rfl))
      case' b1_r19 => simp only [List.setIfInBounds_toArray, List.set_cons_zero, List.set_cons_succ]
      refine Reg.takeIf (i := 20) (u := ?b1_v20) rfl rfl rfl rfl rfl (by kernel_rfl) (by kernel_rfl) (by kernel_rfl) hH ?b1_y20 ?b1_r20
      case b1_y20 => (intro w hSw; (try dsimp only at hSw); go_simp; try (with_reducible rfl))
      case' b1_r20 => simp only [List.setIfInBounds_toArray, List.set_cons_zero, List.set_cons_succ]
      refine Reg.takeIf (i := 21) (u := ?b1_v21) rfl rfl rfl rfl rfl (by kernel_rfl) (by kernel_rfl) (by kernel_rfl) hH ?b1_y21 ?b1_r21
      case b1_y21 => (intro w hSw; (try dsimp only at hSw); go_simp; try (with_reducible rfl))
      case' b1_r21 => simp only [List.setIfInBounds_toArray, List.set_cons_zero, List.set_cons_succ]
      refine Reg.takeIf (i := 22) (u := ?b1_v22) rfl rfl rfl rfl rfl (by kernel_rfl) (by kernel_rfl) (by kernel_rfl) hH ?b1_y22 ?b1_r22
      case b1_y22 => (intro w hSw; (try dsimp only at hSw); go_simp; try (with_reducible rfl))
      case' b1_r22 => simp only [List.setIfInBounds_toArray, List.set_cons_zero, List.set_cons_succ]
      refine Reg.take (i := 23) (u := ?b1_v23) rfl rfl rfl (by kernel_rfl) (by kernel_rfl) (by kernel_rfl) hH ?b1_y23 ?b1_r23
      case b1_y23 => (intro w hSw; (try dsimp only at hSw); go_simp; try (with_reducible rfl))
      case' b1_r23 => simp only [List.setIfInBounds_toArray, List.set_cons_zero, List.set_cons_succ]
      refine Reg.take (i := 24) (u := ?b1_v24) rfl rfl rfl (by kernel_rfl) (by kernel_rfl) (by kernel_rfl) hH ?b1_y24 ?b1_r24
      case b1_y24 => (intro w hSw; (try dsimp only at hSw); go_simp; try (with_reducible rfl))
      case' b1_r24 => simp only [List.setIfInBounds_toArray, List.set_cons_zero, List.set_cons_succ]
      refine Reg.takeIf (i := 25) (u := ?b1_v25) rfl rfl rfl rfl rfl (by kernel_rfl) (by kernel_rfl) (by kernel_rfl) hH ?b1_y25 ?b1_r25
      case b1_y25 => (intro w hSw; (try dsimp only at hSw); go_simp; try (with_reducible rfl))
      case' b1_r25 => simp only [List.setIfInBounds_toArray, List.set_cons_zero, List.set_cons_succ]
      refine Reg.takeIf (i := 26) (u := ?b1_v26) rfl rfl rfl rfl rfl (by kernel_rfl) (by kernel_rfl) (by kernel_rfl) hH ?b1_y26 ?b1_r26
      case b1_y26 => (intro w hSw; (try dsimp only at hSw); go_simp; try (with_reducible rfl))
      case' b1_r26 => simp only [List.setIfInBounds_toArray, List.set_cons_zero, List.set_cons_succ]
      refine Reg.takeIf (i := 27) (u := ?b1_v27) rfl rfl rfl rfl rfl (by kernel_rfl) (by kernel_rfl) (by kernel_rfl) hH ?b1_y27 ?b1_r27
      case b1_y27 => (intro w hSw; (try dsimp only at hSw); go_simp; try (with_reducible rfl))
      case' b1_r27 => simp only [List.setIfInBounds_toArray, List.set_cons_zero, List.set_cons_succ]
      refine Reg.takeIf (i := 28) (u := ?b1_v28) rfl rfl rfl rfl rfl (by kernel_rfl) (by kernel_rfl) (by kernel_rfl) hH ?b1_y28 ?b1_r28
      case b1_y28 => (intro w hSw; (try dsimp only at hSw); go_simp; try (with_reducible rfl))
      case' b1_r28 => simp only [List.setIfInBounds_toArray, List.set_cons_zero, List.set_cons_succ]
      refine Reg.takeIf (i := 29) (u := ?b1_v29) rfl rfl rfl rfl rfl (by kernel_rfl) (by kernel_rfl) (by kernel_rfl) hH ?b1_y29 ?b1_r29
      case b1_y29 => (intro w hSw; (try dsimp only at hSw); go_simp; try (with_reducible rfl))
      case' b1_r29 => simp only [List.setIfInBounds_toArray, List.set_cons_zero, List.set_cons_succ]
      refine Reg.takeIf (i := 30) (u := ?b1_v30) rfl rfl rfl rfl rfl (by kernel_rfl) (by kernel_rfl) (by kernel_rfl) hH ?b1_y30 ?b1_r30
      case b1_y30 => (intro w hSw; (try dsimp only at hSw); go_simp; try (with_reducible rfl))
      case' b1_r30 => simp only [List.setIfInBounds_toArray, List.set_cons_zero, List.set_cons_succ]
      refine Reg.takeIf (i := 31) (u := ?b1_v31) rfl rfl rfl rfl rfl (by kernel_rfl) (by kernel_rfl) (by kernel_rfl) hH ?b1_y31 ?b1_r31
      case b1_y31 => (intro w hSw; (try dsimp only at hSw); go_simp; try (with_reducible rfl))
      case' b1_r31 => simp only [List.setIfInBounds_toArray, List.set_cons_zero, List.set_cons_succ]
      refine Reg.takeIf (i := 32) (u := ?b1_v32) rfl rfl rfl rfl rfl (by kernel_rfl) (by kernel_rfl) (by kernel_rfl) hH ?b1_y32 ?b1_r32
      case b1_y32 => (intro w hSw; (try dsimp only at hSw); go_simp; try (with_reducible rfl))
      case' b1_r32 => simp only [List.setIfInBounds_toArray, List.set_cons_zero, List.set_cons_succ]
      refine Reg.takeIf (i := 33) (u := ?b1_v33) rfl rfl rfl rfl rfl (by kernel_rfl) (by kernel_rfl) (by kernel_rfl) hH ?b1_y33 ?b1_r33
      case b1_y33 => (intro w hSw; (try dsimp only at hSw); go_simp; try (with_reducible rfl))
      case' b1_r33 => simp only [List.setIfInBounds_toArray, List.set_cons_zero, List.set_cons_succ]
      refine Reg.takeIf (i := 34) (u := ?b1_v34) rfl rfl rfl rfl rfl (by kernel_rfl) (by kernel_rfl) (by kernel_rfl) hH ?b1_y34 ?b1_r34
      case b1_y34 => (intro w hSw; (try dsimp only at hSw); go_simp; try (with_reducible rfl))
      case' b1_r34 => simp only [List.setIfInBounds_toArray, List.set_cons_zero, List.set_cons_succ]
      refine Reg.only (i := 35) rfl (Reg.wanted_hit rfl rfl rfl) (by kernel_rfl) (fun K hK => ?_)
      go_simp
      go_at_call 46; refine (hq _ (below_drewN (Below.refl _ wr) 1)).mono ?_; rintro e w2 ⟨rfl, h2⟩; go_simp
      refine hK.out _ _ ?_ (fun hH2 => ?_)
      · exact ⟨(World.cell?_of_block (w := wr) (h2.block _ la)).trans c0, (World.cell?_of_block (w := wr) (a := ⟨(ad.add (k * 3)).block, (ad.add (k * 3)).off + 1, none⟩) (h2.block _ la)).trans c1, (World.cell?_of_block (w := wr) (a := ⟨(ad.add (k * 3)).block, (ad.add (k * 3)).off + 2, none⟩) (h2.block _ la)).trans c2, (World.cell?_of_block (w := wr) (h2.block _ lb)).trans x0, (World.cell?_of_block (w := wr) (a := ⟨(bd.add (k * 3)).block, (bd.add (k * 3)).off + 1, none⟩) (h2.block _ lb)).trans x1, (World.cell?_of_block (w := wr) (a := ⟨(bd.add (k * 3)).block, (bd.add (k * 3)).off + 2, none⟩) (h2.block _ lb)).trans x2⟩
      clear hK hH
      have hH := hH2; clear hH2
      try simp only [Act.put, List.setIfInBounds_toArray, List.set_cons_zero, List.set_cons_succ]
      refine Reg.takeIf (i := 36) (u := ?b1_v36) rfl rfl rfl rfl rfl (by kernel_rfl) (by kernel_rfl) (by kernel_rfl) hH ?b1_y36 ?b1_r36
      case b1_y36 => (intro w hSw; (try dsimp only at hSw); go_simp; try (with_reducible rfl))
      case' b1_r36 => simp only [List.setIfInBounds_toArray, List.set_cons_zero, List.set_cons_succ]
      refine Reg.take (i := 37) (u := ?b1_v37) rfl rfl rfl (by kernel_rfl) (by kernel_rfl) (by kernel_rfl) hH ?b1_y37 ?b1_r37
      case b1_y37 => (intro w hSw; (try dsimp only at hSw); go_simp; try (with_reducible rfl))
      case' b1_r37 => simp only [List.setIfInBounds_toArray, List.set_cons_zero, List.set_cons_succ]
      refine wpAnyH_done (by kernel_rfl) ?_ _
      refine NoPanic.normal ?_
      go_wp2
      go_roundw
      case rel => exact ⟨k + 1, by go_num, by omega, hbl.trans (below_of_drew h2 hsz)⟩
      case measure => simp [intOf]; omega
    · obtain rfl : k = L.length := by omega
      go_wp2
      go_ret
      exact ⟨rfl, hbl⟩

end Go.Proofs.Ytajnkapnndhbaaa
