/- OwnDirs: directories with their rules in new memory. -/
import Derived.Test.YtajnkapnndhbaaaInhOwnRules
import Derived.Test.YtajnkapnndhbaaaInhKnown
namespace Go.Proofs.Ytajnkapnndhbaaa
open Go.RowKit Str Mem
set_option linter.unusedVariables false
set_option linter.unusedSimpArgs false

theorem infoDir : (Try.prog.info? 55).map (fun i => (i.zero, i.size, i.bytes)) = some (some (.agg #[.string ⟨#[]⟩, .int .i64 0, .slice none 0 0]), 3, 48) := by kernel_rfl
theorem one_dir (d : DirV) : ∀ u ∈ d.cells, u.oneCell' = true := by
  intro u hu
  simp [DirV.cells, DirV.rules, sv] at hu
  rcases hu with rfl | rfl | rfl <;> rfl

/-- Directories, with the rules that they hold. -/
structure DeepDirs (w : World) (a : Option Addr) (L : List DirV) (Rs : List (List RuleV)) : Prop where
  dirs : Dirs w a L.length L
  len : Rs.length = L.length
  rules : ∀ (k : Nat) d R, L[k]? = some d → Rs[k]? = some R → d.rn = R.length ∧ Rules w d.ra d.rn R
theorem DeepDirs.below {w w' : World} {a : Option Addr} {L : List DirV} {Rs : List (List RuleV)} (h : DeepDirs w a L Rs) (hb : Below w.heap.size w w') : DeepDirs w' a L Rs :=
  ⟨h.dirs.below hb, h.len, fun k d R h1 h2 => ⟨(h.rules k d R h1 h2).1, (h.rules k d R h1 h2).2.below hb⟩⟩

theorem RulesOwn.below {w w' : World} {base B : Nat} {v : Value} {R : List RuleV} (h : RulesOwn w base v R) (hb : Below B w w') (hB : w.heap.size ≤ B) : RulesOwn w' base v R := ⟨h.1.below hb hB, fun s hs => Owns.below (h.2 s hs) hb hB⟩
theorem RulesOwn.alloc {w : World} {base : Nat} {v : Value} {R : List RuleV} (h : RulesOwn w base v R) (o : Obj) : RulesOwn (w.alloc o) base v R := ⟨h.1.alloc o, fun s hs => Owns.alloc (h.2 s hs) o⟩
theorem RulesOwn.mono {w : World} {base base' : Nat} {v : Value} {R : List RuleV} (h : RulesOwn w base v R) (hb : base' ≤ base) : RulesOwn w base' v R := ⟨h.1.mono hb, fun s hs => Owns.mono (h.2 s hs) hb⟩
/-- An append onto a row of directories leaves rules alone. -/
theorem RulesOwn.kept {w w' : World} {base b2 n : Nat} {v u : Value} {R : List RuleV} {xs : List Value} (h : RulesOwn w base v R) (ho : Owns w b2 55 3 u n xs) (hg : w.grownBy w' u.ownBlock) : RulesOwn w' base v R :=
  ⟨h.1.kept hg (own_apart h.1 ho (by decide)), fun s hs => Owns.kept (h.2 s hs) hg (own_apart (h.2 s hs) ho (by decide))⟩

/-- L' are copies of the first k directories. -/
def DirCopies (w : World) (base : Nat) (L' L : List DirV) (Rs : List (List RuleV)) (k : Nat) : Prop :=
  L'.length = k ∧ ∀ (j : Nat) d R, j < k → L[j]? = some d → Rs[j]? = some R → ∃ ra rc R', L'[j]? = some ⟨d.path, d.mode, ra, d.rn, rc⟩ ∧ RulesOwn w base (.slice ra d.rn rc) R' ∧ Copies R' R R.length

def OwnDirsI (w : World) (L : List DirV) (Rs : List (List RuleV)) (v i : Value) (wr : World) : Prop :=
  ∃ (k : Nat) (L' : List DirV), i = .int .i64 k ∧ k ≤ L.length ∧ DirCopies wr w.heap.size L' L Rs k ∧ Owns wr w.heap.size 55 3 v k (L'.flatMap DirV.cells) ∧ Below w.heap.size w wr
def OwnDirsPost (L : List DirV) (Rs : List (List RuleV)) (w : World) (e : Ending) (w' : World) : Prop :=
  ∃ a c L', e = .returned (.slice a L.length c) ∧ DirCopies w' w.heap.size L' L Rs L.length ∧ Dirs w' a L.length L' ∧ L.length ≤ c ∧ c ≤ maxLen ∧ Below w.heap.size w w'

set_option maxRecDepth 20000 in
set_option maxHeartbeats 1000000 in
theorem ownDirs_any (a : Option Addr) (c : Nat) (L : List DirV) (Rs : List (List RuleV)) (w : World) (h : DeepDirs w a L Rs) (hsm : Small L) (hs : ∀ R ∈ Rs, ∀ r ∈ R, r.conds.length ≤ 1048576) :
    Calls Try.prog 11 #[.slice a L.length c] w fun e w' => OwnDirsPost L Rs w e w' := by
  obtain ⟨i0, hi, hz0, hz1, hz2⟩ := info_parts infoDir
  have hL := hsm.1
  go_enter Try.func11, Try.ntmps11
  go_wp2
  go_loopw [3, 4] (fun v i wr => OwnDirsI w L Rs v i wr) (fun _ i _ => L.length - (intOf i).toNat)
  case atStart => exact ⟨0, [], rfl, Nat.zero_le _, ⟨rfl, fun j d R hj => by omega⟩, Owns.nil _ _ _ _, Below.refl _ _⟩
  case round =>
    obtain ⟨k, L', rfl, hk, hcop, hown, hbl⟩ := hrel
    have hsz := hbl.size
    by_cases hlt : k < L.length
    · have hd2 := h.below hbl
      obtain ⟨ad, d, rfl, hbb, hls, c0, c1, c2⟩ := hd2.dirs.fields hlt
      have hlR : k < Rs.length := by rw [h.len]; exact hlt
      have hR : Rs[k]? = some Rs[k] := List.getElem?_eq_getElem hlR
      obtain ⟨R, hRe⟩ : ∃ R, R = Rs[k] := ⟨_, rfl⟩
      rw [← hRe] at hR
      obtain ⟨hrn, hru0⟩ := hd2.rules k d R hls hR
      have hrs : d.rn ≤ 80 := (hsm.2 d (List.mem_of_getElem? hls)).1
      have hq := fun w' (hb : Below wr.heap.size wr w') => ownRules_any d.ra d.rc R w' (by rw [← hrn]; exact hru0.below hb) (by omega) (hs R (List.mem_of_getElem? hR))
      rw [← hrn] at hq
      unfold OwnRulesPost at hq
      have la : (ad.add (k * 3)).block < wr.heap.size := by rw [add_block]; exact hbb
      have hadw : (ad.add (k * 3)).block < w.heap.size := by
        rw [add_block]
        obtain ⟨ad', e', hlt', _⟩ := Rd.get h.dirs (by omega)
        cases e'
        exact hlt'
      have i0' : (0 : Int) ≤ (k : Int) := by omega
      have i1' : (k : Int) < (L.length : Int) := by omega
      have Hrn := Lib.hid hrn
      clear hrn
      have HLS := Lib.hid hls
      have HR := Lib.hid hR
      have HC := Lib.hid hcop
      clear hls hR hRe hcop hd2 hru0
      go_wp2
      refine wp_region_noPanic ?_
      refine wp_region_held_drew (S := fun w' => w'.cell? (ad.add (k * 3)) = some (.string ⟨d.path.toArray⟩) ∧ w'.cell? ⟨(ad.add (k * 3)).block, (ad.add (k * 3)).off + 1, none⟩ = some (.int .i64 d.mode) ∧ w'.cell? ⟨(ad.add (k * 3)).block, (ad.add (k * 3)).off + 2, none⟩ = some (.slice d.ra d.rn d.rc)) (by kernel_rfl) ?_ (fun hH => ?_)
      · exact ⟨c0, c1, c2⟩
      refine Reg.take (i := 0) (u := ?b1_v0) rfl rfl rfl (by kernel_rfl) (by kernel_rfl) (by kernel_rfl) hH ?b1_y0 ?b1_r0
      case b1_y0 => (intro w hSw; (try dsimp only at hSw); go_simp; try (with_reducible rfl))
      case' b1_r0 => simp only [List.setIfInBounds_toArray, List.set_cons_zero, List.set_cons_succ]
      refine Reg.take (i := 1) (u := ?b1_v1) rfl rfl rfl (by kernel_rfl) (by kernel_rfl) (by kernel_rfl) hH ?b1_y1 ?b1_r1
      case b1_y1 => (intro w hSw; (try dsimp only at hSw); go_simp; try (with_reducible rfl))
      case' b1_r1 => simp only [List.setIfInBounds_toArray, List.set_cons_zero, List.set_cons_succ]
      refine Reg.take (i := 2) (u := ?b1_v2) rfl rfl rfl (by kernel_rfl) (by kernel_rfl) (by kernel_rfl) hH ?b1_y2 ?b1_r2
      case b1_y2 => (intro w hSw; (try dsimp only at hSw); go_simp; try (with_reducible rfl))
      case' b1_r2 => simp only [List.setIfInBounds_toArray, List.set_cons_zero, List.set_cons_succ]
      refine Reg.take (i := 3) (u := ?b1_v3) rfl rfl rfl (by kernel_rfl) (by kernel_rfl) (by kernel_rfl) hH ?b1_y3 ?b1_r3
      case b1_y3 => (intro w hSw; (try dsimp only at hSw); go_simp; try (with_reducible rfl))
      case' b1_r3 => simp only [List.setIfInBounds_toArray, List.set_cons_zero, List.set_cons_succ]
      refine Reg.take (i := 4) (u := ?b1_v4) rfl rfl rfl (by kernel_rfl) (by kernel_rfl) (by kernel_rfl) hH ?b1_y4 ?b1_r4
      case b1_y4 => (intro w hSw; (try dsimp only at hSw); go_simp; try (with_reducible rfl))
      case' b1_r4 => simp only [List.setIfInBounds_toArray, List.set_cons_zero, List.set_cons_succ]
      refine Reg.take (i := 5) (u := ?b1_v5) rfl rfl rfl (by kernel_rfl) (by kernel_rfl) (by kernel_rfl) hH ?b1_y5 ?b1_r5
      case b1_y5 => (intro w hSw; (try dsimp only at hSw); go_simp; try (with_reducible rfl))
      case' b1_r5 => simp only [List.setIfInBounds_toArray, List.set_cons_zero, List.set_cons_succ]
      refine Reg.take (i := 6) (u := ?b1_v6) rfl rfl rfl (by kernel_rfl) (by kernel_rfl) (by kernel_rfl) hH ?b1_y6 ?b1_r6
      case b1_y6 => (intro w hSw; (try dsimp only at hSw); go_simp; try (with_reducible rfl))
      case' b1_r6 => simp only [List.setIfInBounds_toArray, List.set_cons_zero, List.set_cons_succ]
      refine Reg.take (i := 7) (u := ?b1_v7) rfl rfl rfl (by kernel_rfl) (by kernel_rfl) (by kernel_rfl) hH ?b1_y7 ?b1_r7
      case b1_y7 => (intro w hSw; (try dsimp only at hSw); go_simp; try (with_reducible rfl))
      case' b1_r7 => simp only [List.setIfInBounds_toArray, List.set_cons_zero, List.set_cons_succ]
      refine Reg.take (i := 8) (u := ?b1_v8) rfl rfl rfl (by kernel_rfl) (by kernel_rfl) (by kernel_rfl) hH ?b1_y8 ?b1_r8
      case b1_y8 => (intro w hSw; (try dsimp only at hSw); go_simp; try (with_reducible rfl))
      case' b1_r8 => simp only [List.setIfInBounds_toArray, List.set_cons_zero, List.set_cons_succ]
      refine Reg.take (i := 9) (u := ?b1_v9) rfl rfl rfl (by kernel_rfl) (by kernel_rfl) (by kernel_rfl) hH ?b1_y9 ?b1_r9
      case b1_y9 => (intro w hSw; (try dsimp only at hSw); go_simp; try (with_reducible rfl))
      case' b1_r9 => simp only [List.setIfInBounds_toArray, List.set_cons_zero, List.set_cons_succ]
      refine Reg.take (i := 10) (u := ?b1_v10) rfl rfl rfl (by kernel_rfl) (by kernel_rfl) (by kernel_rfl) hH ?b1_y10 ?b1_r10
      case b1_y10 => (intro w hSw; (try dsimp only at hSw); go_simp; try (with_reducible rfl))
      case' b1_r10 => simp only [List.setIfInBounds_toArray, List.set_cons_zero, List.set_cons_succ]
      refine Reg.take (i := 11) (u := ?b1_v11) rfl rfl rfl (by kernel_rfl) (by kernel_rfl) (by kernel_rfl) hH ?b1_y11 ?b1_r11
      case b1_y11 => (intro w hSw; (try dsimp only at hSw); go_simp; try (with_reducible rfl))
      case' b1_r11 => simp only [List.setIfInBounds_toArray, List.set_cons_zero, List.set_cons_succ]
      refine Reg.take (i := 12) (u := ?b1_v12) rfl rfl rfl (by kernel_rfl) (by kernel_rfl) (by kernel_rfl) hH ?b1_y12 ?b1_r12
      case b1_y12 => (intro w hSw; (try dsimp only at hSw); go_simp; try (with_reducible rfl))
      case' b1_r12 => simp only [List.setIfInBounds_toArray, List.set_cons_zero, List.set_cons_succ]
      refine Reg.take (i := 13) (u := ?b1_v13) rfl rfl rfl (by kernel_rfl) (by kernel_rfl) (by kernel_rfl) hH ?b1_y13 ?b1_r13
      case b1_y13 => (intro w hSw; (try dsimp only at hSw); go_simp; try (with_reducible rfl))
      case' b1_r13 => simp only [List.setIfInBounds_toArray, List.set_cons_zero, List.set_cons_succ]
      refine Reg.take (i := 14) (u := ?b1_v14) rfl rfl rfl (by kernel_rfl) (by kernel_rfl) (by kernel_rfl) hH ?b1_y14 ?b1_r14
      case b1_y14 => (intro w hSw; (try dsimp only at hSw); go_simp; try (with_reducible rfl))
      case' b1_r14 => simp only [List.setIfInBounds_toArray, List.set_cons_zero, List.set_cons_succ]
      refine Reg.take (i := 15) (u := ?b1_v15) rfl rfl rfl (by kernel_rfl) (by kernel_rfl) (by kernel_rfl) hH ?b1_y15 ?b1_r15
      case b1_y15 => (intro w hSw; (try dsimp only at hSw); go_simp; try (with_reducible rfl))
      case' b1_r15 => simp only [List.setIfInBounds_toArray, List.set_cons_zero, List.set_cons_succ]
      refine Reg.only (i := 16) rfl (Reg.wanted_free rfl) (by kernel_rfl) (fun K hK => ?_)
      go_simp
      go_at_call 38; refine (hq _ (below_drewN (Below.refl _ wr) 1)).mono ?_; rintro e w2 ⟨v2, R', rfl, hcp, hro, h2⟩; obtain ⟨ra, rc, rfl, q1, q2, hru⟩ := id hro.rules; have hl2 : R'.length = d.rn := hcp.1.trans Hrn.out.symm; rw [hl2] at hro hru q1; rw [hl2]; clear hl2; go_simp
      refine hK.out _ _ ?_ (fun hH2 => ?_)
      · exact ⟨(World.cell?_of_block (w := wr) (h2.block _ la)).trans c0, (World.cell?_of_block (w := wr) (a := ⟨(ad.add (k * 3)).block, (ad.add (k * 3)).off + 1, none⟩) (h2.block _ la)).trans c1, (World.cell?_of_block (w := wr) (a := ⟨(ad.add (k * 3)).block, (ad.add (k * 3)).off + 2, none⟩) (h2.block _ la)).trans c2⟩
      clear hK hH
      have hH := hH2; clear hH2
      try simp only [Act.put, List.setIfInBounds_toArray, List.set_cons_zero, List.set_cons_succ]
      refine Reg.take (i := 17) (u := ?b1_v17) rfl rfl rfl (by kernel_rfl) (by kernel_rfl) (by kernel_rfl) hH ?b1_y17 ?b1_r17
      case b1_y17 => (intro w hSw; (try dsimp only at hSw); go_simp; try (with_reducible rfl))
      case' b1_r17 => simp only [List.setIfInBounds_toArray, List.set_cons_zero, List.set_cons_succ]
      refine Reg.only (i := 18) rfl (Reg.wanted_free rfl) (by kernel_rfl) (fun K hK => ?_)
      go_simp
      refine hK.out _ _ ?_ (fun hH2 => ?_)
      · exact ⟨(World.cell?_of_block (w := wr) ((fun q hq => (Below.heap_alloc _ _ q (Nat.lt_of_lt_of_le hq h2.size)).trans (h2.block q hq)) _ la)).trans c0, (World.cell?_of_block (w := wr) (a := ⟨(ad.add (k * 3)).block, (ad.add (k * 3)).off + 1, none⟩) ((fun q hq => (Below.heap_alloc _ _ q (Nat.lt_of_lt_of_le hq h2.size)).trans (h2.block q hq)) _ la)).trans c1, (World.cell?_of_block (w := wr) (a := ⟨(ad.add (k * 3)).block, (ad.add (k * 3)).off + 2, none⟩) ((fun q hq => (Below.heap_alloc _ _ q (Nat.lt_of_lt_of_le hq h2.size)).trans (h2.block q hq)) _ la)).trans c2⟩
      clear hK hH
      have hH := hH2; clear hH2
      try simp only [Act.put, List.setIfInBounds_toArray, List.set_cons_zero, List.set_cons_succ]
      have h2s : wr.heap.size ≤ w2.heap.size := h2.size
      have ho1 := (hown.below (below_of_drew h2 (Nat.le_refl wr.heap.size)) (Nat.le_refl _)).alloc (.cells #[.string ⟨d.path.toArray⟩, .int .i64 d.mode, .slice ra d.rn rc] 55)
      refine Reg.only (i := 19) rfl (Reg.wanted_free rfl) (by kernel_rfl) (fun K hK => ?_)
      refine wp_append_owns (o := _) _ _ _ 22 rfl w.heap.size 55 i0 (.agg #[.string ⟨#[]⟩, .int .i64 0, .slice none 0 0]) 3 48 Try.underlying22 hi hz0 hz1 hz2 rfl (by decide) _ k (L'.flatMap DirV.cells) rfl ho1 _ 1 1 (DirV.cells ⟨d.path, d.mode, ra, d.rn, rc⟩) rfl (rd_new _ _ _ 3 _ _ 1 (by rfl) (by rfl) (by simp)) (one_dir _) (by simp only [maxLen]; omega) (by omega) (by simp; omega) ?_
      intro v' w3 hown' hgrow
      have h2b : ∀ q, q < wr.heap.size → w3.heap[q]? = wr.heap[q]? ∨ u3.ownBlock = some q := fun q hq => by
        rcases Classical.em (u3.ownBlock = some q) with e | e
        · exact .inr e
        · exact .inl ((hgrow.block q (by simp; omega) (fun e2 => e e2.symm)).trans ((Below.heap_alloc _ _ q (by omega)).trans (h2.block q hq)))
      have hal : u3.ownBlock ≠ some (ad.add (k * 3)).block := fun e => by have := (hown.lt _ e).1; have := hadw; omega
      have hbk : w3.heap[(ad.add (k * 3)).block]? = wr.heap[(ad.add (k * 3)).block]? := (h2b _ la).resolve_right hal
      refine hK.out _ _ ?_ (fun hH2 => ?_)
      · exact ⟨(World.cell?_of_block (w := wr) hbk).trans c0, (World.cell?_of_block (w := wr) (a := ⟨(ad.add (k * 3)).block, (ad.add (k * 3)).off + 1, none⟩) hbk).trans c1, (World.cell?_of_block (w := wr) (a := ⟨(ad.add (k * 3)).block, (ad.add (k * 3)).off + 2, none⟩) hbk).trans c2⟩
      clear hK hH
      have hH := hH2; clear hH2
      try simp only [Act.put, List.setIfInBounds_toArray, List.set_cons_zero, List.set_cons_succ]
      refine Reg.take (i := 20) (u := ?b1_v20) rfl rfl rfl (by kernel_rfl) (by kernel_rfl) (by kernel_rfl) hH ?b1_y20 ?b1_r20
      case b1_y20 => (intro w hSw; (try dsimp only at hSw); go_simp; try (with_reducible rfl))
      case' b1_r20 => simp only [List.setIfInBounds_toArray, List.set_cons_zero, List.set_cons_succ]
      refine wpAnyH_done (by kernel_rfl) ?_ _
      refine NoPanic.normal ?_
      go_wp2
      go_roundw
      case rel =>
        have h2' := below_of_drew h2 (Nat.le_refl wr.heap.size)
        have key : ∀ (v : Value) (R2 : List RuleV), RulesOwn w2 w.heap.size v R2 → RulesOwn w3 w.heap.size v R2 := fun v R2 hh => (hh.alloc _).kept ho1 hgrow
        refine ⟨k + 1, L' ++ [⟨d.path, d.mode, ra, d.rn, rc⟩], by go_num, by omega, ⟨?_, ?_⟩, ?_, ?_⟩
        · rw [List.length_append, HC.out.1]; rfl
        · intro j d2 R2 hj hd2 hR2
          rcases Nat.lt_or_ge j k with hjk | hjk
          · obtain ⟨ra2, rc2, R3, e1, e2, e3⟩ := HC.out.2 j d2 R2 hjk hd2 hR2
            exact ⟨ra2, rc2, R3, by rw [List.getElem?_append_left (by rw [HC.out.1]; exact hjk)]; exact e1, key _ _ (e2.below h2' (Nat.le_refl _)), e3⟩
          · obtain rfl : j = k := by omega
            rw [HLS.out] at hd2
            rw [HR.out] at hR2
            cases hd2
            cases hR2
            exact ⟨ra, rc, R', by rw [List.getElem?_append_right (by rw [HC.out.1]; omega), HC.out.1]; simp, key _ _ (hro.mono hsz), hcp⟩
        · rw [List.flatMap_append]
          simpa using hown'
        · exact ((hbl.trans (h2'.mono hsz)).alloc (by omega) _).grown hgrow (by simp; omega) (fun q e => (hown.lt q e).1)
      case measure => simp [intOf]; omega
    · obtain rfl : k = L.length := by omega
      have hl := hcop.1
      obtain ⟨a2, c2, e2, q1, q2, q3⟩ := id hown.form
      subst e2
      have HC := Lib.hid hcop
      clear hcop hl
      go_wp2
      go_ret
      exact ⟨a2, c2, L', rfl, HC.out, q3, q1, q2, hbl⟩

end Go.Proofs.Ytajnkapnndhbaaa
