/- OwnRules, SameRules. -/
import Derived.Test.YtajnkapnndhbaaaInhSameRule
import Derived.Test.YtajnkapnndhbaaaReg
namespace Go.Proofs.Ytajnkapnndhbaaa
open Go.RowKit Str Mem
set_option linter.unusedVariables false
set_option linter.unusedSimpArgs false

theorem rule_get {w : World} {a : Option Addr} {n k : Nat} {R : List RuleV} (h : Rules w a n R) (hk : k < n) : ∃ (ad : Addr) (r : RuleV), a = some ad ∧ ad.block < w.heap.size ∧ R[k]? = some r ∧ CondsAt w r ∧ w.cell? (ad.add (k * 14)) = some (.string ⟨r.pat.toArray⟩) ∧ w.cell? ⟨(ad.add (k * 14)).block, (ad.add (k * 14)).off + 1, none⟩ = some (.bool r.nc) ∧ w.cell? ⟨(ad.add (k * 14)).block, (ad.add (k * 14)).off + 2, none⟩ = some (.slice r.ca r.conds.length r.cc) ∧ w.cell? ⟨(ad.add (k * 14)).block, (ad.add (k * 14)).off + 3, none⟩ = some (.string ⟨r.tgt.toArray⟩) ∧ w.cell? ⟨(ad.add (k * 14)).block, (ad.add (k * 14)).off + 4, none⟩ = some (.bool r.f1) ∧ w.cell? ⟨(ad.add (k * 14)).block, (ad.add (k * 14)).off + 5, none⟩ = some (.bool r.f2) ∧ w.cell? ⟨(ad.add (k * 14)).block, (ad.add (k * 14)).off + 6, none⟩ = some (.bool r.f3) ∧ w.cell? ⟨(ad.add (k * 14)).block, (ad.add (k * 14)).off + 7, none⟩ = some (.bool r.f4) ∧ w.cell? ⟨(ad.add (k * 14)).block, (ad.add (k * 14)).off + 8, none⟩ = some (.bool r.f5) ∧ w.cell? ⟨(ad.add (k * 14)).block, (ad.add (k * 14)).off + 9, none⟩ = some (.bool r.f6) ∧ w.cell? ⟨(ad.add (k * 14)).block, (ad.add (k * 14)).off + 10, none⟩ = some (.bool r.f7) ∧ w.cell? ⟨(ad.add (k * 14)).block, (ad.add (k * 14)).off + 11, none⟩ = some (.bool r.f8) ∧ w.cell? ⟨(ad.add (k * 14)).block, (ad.add (k * 14)).off + 12, none⟩ = some (.int .i64 r.sk) ∧ w.cell? ⟨(ad.add (k * 14)).block, (ad.add (k * 14)).off + 13, none⟩ = some (.int .i64 r.rd) := by
  obtain ⟨ad, e, hb, hc⟩ := h.1.get (by omega)
  have hkR : k < R.length := by rw [h.length]; exact hk
  have hl : R[k]? = some R[k] := List.getElem?_eq_getElem hkR
  have g := fun j hj => flatM_get RuleV.cells 14 RuleV.cells_length R k j _ hl hj
  refine ⟨ad, R[k], e, hb, hl, h.2 _ (List.getElem_mem _), hc _ _ ?_, ?_, ?_, ?_, ?_, ?_, ?_, ?_, ?_, ?_, ?_, ?_, ?_, ?_⟩
  · have := g 0 (by omega); rw [Nat.add_zero] at this; rw [this]; rfl
  · rw [field_addr _ _ _ (by omega)]; exact hc _ _ ((g 1 (by omega)).trans rfl)
  · rw [field_addr _ _ _ (by omega)]; exact hc _ _ ((g 2 (by omega)).trans rfl)
  · rw [field_addr _ _ _ (by omega)]; exact hc _ _ ((g 3 (by omega)).trans rfl)
  · rw [field_addr _ _ _ (by omega)]; exact hc _ _ ((g 4 (by omega)).trans rfl)
  · rw [field_addr _ _ _ (by omega)]; exact hc _ _ ((g 5 (by omega)).trans rfl)
  · rw [field_addr _ _ _ (by omega)]; exact hc _ _ ((g 6 (by omega)).trans rfl)
  · rw [field_addr _ _ _ (by omega)]; exact hc _ _ ((g 7 (by omega)).trans rfl)
  · rw [field_addr _ _ _ (by omega)]; exact hc _ _ ((g 8 (by omega)).trans rfl)
  · rw [field_addr _ _ _ (by omega)]; exact hc _ _ ((g 9 (by omega)).trans rfl)
  · rw [field_addr _ _ _ (by omega)]; exact hc _ _ ((g 10 (by omega)).trans rfl)
  · rw [field_addr _ _ _ (by omega)]; exact hc _ _ ((g 11 (by omega)).trans rfl)
  · rw [field_addr _ _ _ (by omega)]; exact hc _ _ ((g 12 (by omega)).trans rfl)
  · rw [field_addr _ _ _ (by omega)]; exact hc _ _ ((g 13 (by omega)).trans rfl)

/-- The rules R' are the first k of R, with their conditions elsewhere. -/
def Copies (R' R : List RuleV) (k : Nat) : Prop := R'.length = k ∧ ∀ j r, j < k → R[j]? = some r → ∃ a c, R'[j]? = some (r.at' a c)

theorem infoRule2 : ∃ (i : TypeInfo) (z : Value), Try.prog.info? 89 = some i ∧ i.zero = some z ∧ i.size = 14 ∧ i.bytes = i.bytes ∧ z.cells.size = 14 ∧ i.bytes ≤ 1000 := by
  have h : (Try.prog.info? 89).map (fun i => (i.zero.map (fun z => z.cells.size), i.size, decide (i.bytes ≤ 1000))) = some (some 14, 14, true) := by kernel_rfl
  obtain ⟨i, hi, hx⟩ := Option.map_eq_some_iff.1 h
  simp only [Prod.mk.injEq, decide_eq_true_eq] at hx
  obtain ⟨z, hz, hzs⟩ := Option.map_eq_some_iff.1 hx.1
  exact ⟨i, z, hi, hz, hx.2.1, rfl, hzs, hx.2.2⟩

theorem one_rule (r : RuleV) : ∀ u ∈ r.cells, u.oneCell' = true := by
  intro u hu
  simp [RuleV.cells, RuleV.list, sv] at hu
  rcases hu with rfl | rfl | rfl | rfl | rfl | rfl | rfl | rfl | rfl | rfl | rfl | rfl | rfl | rfl <;> rfl

/-- A new row of one rule. -/
theorem Rd.rule_at (w : World) (t : TypeId) (r : RuleV) (N : Nat) (h : N = w.heap.size) : Rd (w.alloc (.cells r.cells.toArray t)) 14 (some ⟨N, 0, none⟩) 1 r.cells := by
  subst h
  refine ⟨rfl, fun _ => ⟨_, rfl, by simp, fun j u hu => ?_⟩⟩
  rw [add_flat, cell_of_row _ w.heap.size _ r.cells.toArray t (0, 0) (heap_alloc_new w _), Nat.zero_add, ← hu]
  simp

theorem value_at (r : RuleV) (a : Option Addr) (c : Nat) : (r.at' a c).value = .agg #[.string ⟨r.pat.toArray⟩, .bool r.nc, .slice a r.conds.length c, .string ⟨r.tgt.toArray⟩, .bool r.f1, .bool r.f2, .bool r.f3, .bool r.f4, .bool r.f5, .bool r.f6, .bool r.f7, .bool r.f8, .int .i64 r.sk, .int .i64 r.rd] := rfl
theorem cells_at (r : RuleV) (a : Option Addr) (c : Nat) : [.string ⟨r.pat.toArray⟩, .bool r.nc, .slice a r.conds.length c, .string ⟨r.tgt.toArray⟩, .bool r.f1, .bool r.f2, .bool r.f3, .bool r.f4, .bool r.f5, .bool r.f6, .bool r.f7, .bool r.f8, .int .i64 r.sk, .int .i64 r.rd] = (r.at' a c).cells := rfl

def OwnRulesI (w : World) (R : List RuleV) (v i : Value) (wr : World) : Prop :=
  ∃ (k : Nat) (R' : List RuleV), i = .int .i64 k ∧ k ≤ R.length ∧ Copies R' R k ∧ Owns wr w.heap.size 89 14 v k (R'.flatMap RuleV.cells) ∧ (∀ s ∈ R', CondsOwn wr w.heap.size s) ∧ Below w.heap.size w wr
/-- Rules of a copy: in rows of their own. -/
def RulesOwn (w : World) (base : Nat) (v : Value) (R : List RuleV) : Prop := Owns w base 89 14 v R.length (R.flatMap RuleV.cells) ∧ ∀ s ∈ R, CondsOwn w base s
def OwnRulesPost (R : List RuleV) (w : World) (e : Ending) (w' : World) : Prop :=
  ∃ v R', e = .returned v ∧ Copies R' R R.length ∧ RulesOwn w' w.heap.size v R' ∧ Below w.heap.size w w'

/-- Rows of two types are two rows. -/
theorem own_apart {w : World} {b1 b2 : Nat} {e1 e2 : TypeId} {s1 s2 n1 n2 : Nat} {v1 v2 : Value} {x1 x2 : List Value} (h1 : Owns w b1 e1 s1 v1 n1 x1) (h2 : Owns w b2 e2 s2 v2 n2 x2) (hne : e1 ≠ e2) : ∀ k, v1.ownBlock = some k → v2.ownBlock ≠ some k := by
  intro k h3 h4
  rcases h1.2 with ⟨rfl, _⟩ | ⟨g, cap, cur, rfl, _, hg, _⟩
  · simp [Value.ownBlock] at h3
  · rcases h2.2 with ⟨rfl, _⟩ | ⟨g', cap', cur', rfl, _, hg', _⟩
    · simp [Value.ownBlock] at h4
    · simp [Value.ownBlock] at h3 h4
      subst h3; subst h4
      rw [hg] at hg'
      cases hg'
      exact hne rfl

set_option maxRecDepth 20000 in
set_option maxHeartbeats 4000000 in
theorem ownRules_any (a : Option Addr) (c : Nat) (R : List RuleV) (w : World) (h : Rules w a R.length R) (hn : R.length ≤ 80) (hs : ∀ r ∈ R, r.conds.length ≤ 1048576) :
    Calls Try.prog 38 #[.slice a R.length c] w fun e w' => OwnRulesPost R w e w' := by
  obtain ⟨i0, z0, hi, hz0, hz1, hz2, hzs, hby⟩ := infoRule2
  obtain ⟨B, hB⟩ : ∃ B, B = i0.bytes := ⟨_, rfl⟩
  rw [← hB] at hby hz2
  go_enter Try.func38, Try.ntmps38
  go_wp2
  go_loopw [3, 4] (fun v i wr => OwnRulesI w R v i wr) (fun _ i _ => R.length - (intOf i).toNat)
  case atStart => exact ⟨0, [], rfl, Nat.zero_le _, ⟨rfl, fun j r hj => by omega⟩, Owns.nil _ _ _ _, by simp, Below.refl _ _⟩
  case round =>
    obtain ⟨k, R', rfl, hk, hcop, hown, hcon, hbl⟩ := hrel
    have hsz := hbl.size
    by_cases hlt : k < R.length
    · obtain ⟨ad, r, rfl, hbb, hls, hcr, x0, x1, x2, x3, x4, x5, x6, x7, x8, x9, x10, x11, x12, x13⟩ := rule_get (h.below hbl) hlt
      have hq := ownRule_any r wr hcr (hs r (List.mem_of_getElem? hls))
      unfold OwnRulePost at hq
      simp only [value_at] at hq
      unfold RuleV.value RuleV.cells RuleV.list sv at hq
      have HC := Lib.hid hcop
      have HL := Lib.hid hls
      have hBk : (k + 1) * B ≤ 140737488355328 := Nat.le_trans (Nat.mul_le_mul (show k + 1 ≤ 80 by omega) hby) (by omega)
      clear hcop hls
      have HB := Lib.hid hBk
      have HBe := Lib.hid (show i0.bytes = B from hB.symm)
      clear hBk hby hB
      go_wp2_with (first
        | (go_at_call 59; refine hq.mono ?_; rintro e w2 ⟨a', c', rfl, hc2, h2⟩; have h2s := h2.size)
        | (at_builtin; go_must (refine wpList_append_owns _ rfl _ _ 53 rfl w.heap.size 89 i0 z0 14 B Try.underlying53 hi hz0 hz1 HBe.out hzs (by decide) _ k (R'.flatMap RuleV.cells) rfl ((hown.below h2 (Nat.le_refl _)).alloc _) _ 1 1 (r.at' a' c').cells rfl (Rd.rule_at _ _ (r.at' a' c') _ (by simp)) (one_rule _) (by simp only [maxLen]; omega) HB.out (by simp; omega) ?_); intro v' w3 hown' hgrow))
      go_roundw
      case rel =>
        have key : ∀ (o : Obj), (w2.alloc o).grownBy w3 u3.ownBlock → ∀ s, CondsOwn w2 w.heap.size s → CondsOwn w3 w.heap.size s := fun o hg s h =>
          Owns.kept (Owns.alloc h o) hg (own_apart (Owns.alloc h o) ((hown.below h2 (Nat.le_refl _)).alloc o) (by decide))
        have hg1 : ∀ s ∈ R', CondsOwn w3 w.heap.size s := fun s hs => key _ hgrow s (Owns.below (hcon s hs) h2 (Nat.le_refl _))
        have hg2 : CondsOwn w3 w.heap.size (r.at' a' c') := key _ hgrow _ (Owns.mono hc2 hsz)
        refine ⟨k + 1, R' ++ [r.at' a' c'], by go_num, by omega, ⟨?_, ?_⟩, ?_, ?_, ?_⟩
        · rw [List.length_append, HC.out.1]; rfl
        · intro j q hj hq'
          rcases Nat.lt_or_ge j k with hjk | hjk
          · obtain ⟨a2, c2, e2⟩ := HC.out.2 j q hjk hq'
            exact ⟨a2, c2, by rw [List.getElem?_append_left (by rw [HC.out.1]; exact hjk)]; exact e2⟩
          · obtain rfl : j = k := by omega
            rw [HL.out] at hq'
            cases hq'
            exact ⟨a', c', by rw [List.getElem?_append_right (by rw [HC.out.1]; omega), HC.out.1]; simp⟩
        · rw [List.flatMap_append]
          simpa using hown'
        · intro s hs
          rcases List.mem_append.1 hs with hm | hm
          · exact hg1 s hm
          · simp at hm; subst hm; exact hg2
        · exact ((hbl.trans (h2.mono hsz)).alloc (by omega) _).grown hgrow (by simp; omega) (fun q e => (hown.lt q e).1)
      case measure => simp [intOf]; omega
    · obtain rfl : k = R.length := by omega
      obtain ⟨a2, c2, e2, _⟩ := id hown.form
      subst e2
      have hl := hcop.1
      go_wp2
      go_ret
      exact ⟨_, R', rfl, hcop, ⟨by rw [hl]; exact hown, hcon⟩, hbl⟩

theorem RulesOwn.rules {w : World} {base : Nat} {v : Value} {R : List RuleV} (h : RulesOwn w base v R) : ∃ a c, v = .slice a R.length c ∧ R.length ≤ c ∧ c ≤ maxLen ∧ Rules w a R.length R := by
  obtain ⟨a, c, e, h1, h2, h3⟩ := h.1.form
  exact ⟨a, c, e, h1, h2, h3, fun s hs => (h.2 s hs).at⟩

set_option maxRecDepth 20000 in
set_option maxHeartbeats 8000000 in
theorem sameRules_any (a b : Option Addr) (c d : Nat) (R R' : List RuleV) (w : World) (h : Rules w a R.length R) (h' : Rules w b R.length R') (hcop : Copies R' R R.length) (hn : R.length ≤ 80) (hs : ∀ r ∈ R, r.conds.length ≤ 1048576) :
    Calls Try.prog 46 #[.slice b R.length d, .slice a R.length c] w fun e w' => e = .returned (.bool true) ∧ Below w.heap.size w w' := by
  have HC := Lib.hid hcop
  clear hcop
  go_enter Try.func46, Try.ntmps46
  go_wp2
  go_loopw [5] (fun i wr => ∃ k : Nat, i = .int .i64 k ∧ k ≤ R.length ∧ Below w.heap.size w wr) (fun i _ => R.length - (intOf i).toNat)
  case atStart => exact ⟨0, rfl, Nat.zero_le _, Below.refl _ _⟩
  case round =>
    obtain ⟨k, rfl, hk, hbl⟩ := hrel
    have hsz := hbl.size
    by_cases hlt : k < R.length
    · obtain ⟨ad, r, rfl, hbb, hls, hcr, x0, x1, x2, x3, x4, x5, x6, x7, x8, x9, x10, x11, x12, x13⟩ := rule_get (h.below hbl) hlt
      obtain ⟨bd, r', rfl, hbb', hls', hcr', hr'⟩ := rule_get (h'.below hbl) hlt
      obtain ⟨a', c', e'⟩ := HC.out.2 k r hlt hls
      rw [hls'] at e'
      cases e'
      simp only [RuleV.at'] at hr'
      obtain ⟨y0, y1, y2, y3, y4, y5, y6, y7, y8, y9, y10, y11, y12, y13⟩ := hr'
      have hq := fun w' (hb : Below wr.heap.size wr w') => sameRule_any (r.at' a' c') r.ca r.cc w' (hcr'.below hb) (by exact hcr.below hb) (hs r (List.mem_of_getElem? hls))
      have e2 : (r.at' a' c').at' r.ca r.cc = r := rfl
      rw [e2] at hq
      simp only [value_at] at hq
      unfold RuleV.value RuleV.cells RuleV.list sv at hq
      have la : (ad.add (k * 14)).block < wr.heap.size := by rw [add_block]; exact hbb
      have lb : (bd.add (k * 14)).block < wr.heap.size := by rw [add_block]; exact hbb'
      have i0 : (0 : Int) ≤ (k : Int) := by omega
      have i1 : (k : Int) < (R.length : Int) := by omega
      clear hls hls' hcr hcr' e2
      go_wp2
      refine wp_region_noPanic ?_
      refine wp_region_held_drew (S := fun w' => w'.cell? (ad.add (k * 14)) = wr.cell? (ad.add (k * 14)) ∧ (∀ o, w'.cell? ⟨(ad.add (k * 14)).block, o, none⟩ = wr.cell? ⟨(ad.add (k * 14)).block, o, none⟩) ∧ w'.cell? (bd.add (k * 14)) = wr.cell? (bd.add (k * 14)) ∧ (∀ o, w'.cell? ⟨(bd.add (k * 14)).block, o, none⟩ = wr.cell? ⟨(bd.add (k * 14)).block, o, none⟩)) (by kernel_rfl) ?_ (fun hH => ?_)
      · exact ⟨rfl, fun _ => rfl, rfl, fun _ => rfl⟩
      refine Reg.take (i := 0) (u := ?b1_v0) rfl rfl rfl (by kernel_rfl) (by kernel_rfl) (by kernel_rfl) hH ?b1_y0 ?b1_r0
      case b1_y0 => (intro w hSw; (try dsimp only at hSw); go_simp; try (with_reducible rfl))
      case' b1_r0 => simp only [List.setIfInBounds_toArray, List.set_cons_zero, List.set_cons_succ]
      refine Reg.take (i := 1) (u := ?b1_v1) rfl rfl rfl (by kernel_rfl) (by kernel_rfl) (by kernel_rfl) hH ?b1_y1 ?b1_r1
      case b1_y1 => (intro w hSw; (try dsimp only at hSw); go_simp; try (with_reducible rfl))
      case' b1_r1 => simp only [List.setIfInBounds_toArray, List.set_cons_zero, List.set_cons_succ]
      refine Reg.take (i := 2) (u := ?b1_v2) rfl rfl rfl (by kernel_rfl) (by kernel_rfl) (by kernel_rfl) hH ?b1_y2 ?b1_r2
      case b1_y2 => (intro w hSw; (try dsimp only at hSw); go_simp; try (with_reducible rfl))
      case' b1_r2 => simp only [List.setIfInBounds_toArray, List.set_cons_zero, List.set_cons_succ]
      refine Reg.take (i := 3) (u := ?b1_v3) rfl rfl rfl (by kernel_rfl) (by kernel_rfl) (by kernel_rfl) hH ?b1_y3 ?b1_r3
      case b1_y3 => (intro w hSw; (try dsimp only at hSw); go_simp; try (with_reducible rfl))
      case' b1_r3 => simp only [List.setIfInBounds_toArray, List.set_cons_zero, List.set_cons_succ]
      refine Reg.take (i := 4) (u := ?b1_v4) rfl rfl rfl (by kernel_rfl) (by kernel_rfl) (by kernel_rfl) hH ?b1_y4 ?b1_r4
      case b1_y4 => (intro w hSw; (try dsimp only at hSw); go_simp; try (with_reducible rfl))
      case' b1_r4 => simp only [List.setIfInBounds_toArray, List.set_cons_zero, List.set_cons_succ]
      refine Reg.take (i := 5) (u := ?b1_v5) rfl rfl rfl (by kernel_rfl) (by kernel_rfl) (by kernel_rfl) hH ?b1_y5 ?b1_r5
      case b1_y5 => (intro w hSw; (try dsimp only at hSw); go_simp; try (with_reducible rfl))
      case' b1_r5 => simp only [List.setIfInBounds_toArray, List.set_cons_zero, List.set_cons_succ]
      refine Reg.take (i := 6) (u := ?b1_v6) rfl rfl rfl (by kernel_rfl) (by kernel_rfl) (by kernel_rfl) hH ?b1_y6 ?b1_r6
      case b1_y6 => (intro w hSw; (try dsimp only at hSw); go_simp; try (with_reducible rfl))
      case' b1_r6 => simp only [List.setIfInBounds_toArray, List.set_cons_zero, List.set_cons_succ]
      refine Reg.take (i := 7) (u := ?b1_v7) rfl rfl rfl (by kernel_rfl) (by kernel_rfl) (by kernel_rfl) hH ?b1_y7 ?b1_r7
      case b1_y7 => (intro w hSw; (try dsimp only at hSw); go_simp; try (with_reducible rfl))
      case' b1_r7 => simp only [List.setIfInBounds_toArray, List.set_cons_zero, List.set_cons_succ]
      refine Reg.only (i := 8) rfl (Reg.wanted_free rfl) (by kernel_rfl) (fun K hK => ?_)
      go_simp
      go_at_call 60; refine (hq _ (below_drewN (Below.refl _ wr) 1)).mono ?_; rintro e w2 ⟨rfl, h2⟩; go_simp
      refine hK.out _ _ ?_ (fun hH2 => ?_)
      · exact ⟨World.cell?_of_block (w := wr) (h2.block _ la), fun o => World.cell?_of_block (w := wr) (h2.block _ la), World.cell?_of_block (w := wr) (h2.block _ lb), fun o => World.cell?_of_block (w := wr) (h2.block _ lb)⟩
      clear hK hH
      have hH := hH2; clear hH2
      try simp only [Act.put, List.setIfInBounds_toArray, List.set_cons_zero, List.set_cons_succ]
      refine Reg.take (i := 9) (u := ?b1_v9) rfl rfl rfl (by kernel_rfl) (by kernel_rfl) (by kernel_rfl) hH ?b1_y9 ?b1_r9
      case b1_y9 => (intro w hSw; (try dsimp only at hSw); go_simp; try (with_reducible rfl))
      case' b1_r9 => simp only [List.setIfInBounds_toArray, List.set_cons_zero, List.set_cons_succ]
      refine wpAnyH_done (by kernel_rfl) ?_ _
      refine NoPanic.normal ?_
      go_wp2
      go_roundw
      case rel => exact ⟨k + 1, by go_num, by omega, hbl.trans (below_of_drew h2 hsz)⟩
      case measure => simp [intOf]; omega
    · obtain rfl : k = R.length := by omega
      go_wp2
      go_ret
      exact ⟨rfl, hbl⟩

end Go.Proofs.Ytajnkapnndhbaaa
