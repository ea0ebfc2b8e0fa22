/- OwnRule: a rule with its conditions in new memory. -/
import Derived.Test.YtajnkapnndhbaaaInhDeepMem
namespace Go.Proofs.Ytajnkapnndhbaaa
open Go.RowKit Str Mem
set_option linter.unusedVariables false
set_option linter.unusedSimpArgs false

theorem infoCond : (Try.prog.info? 104).map (fun i => (i.zero, i.size, i.bytes)) = some (some (.agg #[.string ⟨#[]⟩, .bool false, .string ⟨#[]⟩, .bool false, .bool false]), 5, 48) := by kernel_rfl
theorem Owns.empty (w : World) (e : TypeId) (sz N : Nat) (hN : N = w.heap.size) : Owns (w.alloc (.cells #[] e)) N e sz (.slice (some ⟨N, 0, none⟩) 0 0) 0 [] := by
  subst hN
  exact ⟨by simp, .inr ⟨w.heap.size, 0, #[], rfl, Nat.le_refl _, heap_alloc_new w _, Nat.le_refl _, by simp [maxLen], by simp, by simp⟩⟩
theorem one_cond (K : List CondV) : ∀ u ∈ K.flatMap CondV.cells, u.oneCell' = true := by
  intro u hu
  obtain ⟨s, _, hs⟩ := List.mem_flatMap.1 hu
  simp [CondV.cells, sv] at hs
  rcases hs with rfl | rfl | rfl | rfl | rfl <;> rfl

theorem three_rows (w : World) (x y z : Array Value) (t u v : TypeId) (w3 : World) (h : (((w.alloc (.cells x t)).alloc (.cells y u)).alloc (.cells z v)).grownBy w3 (some (w.heap.size + 1 + 1))) :
    w3.heap[w.heap.size]? = some (.cells x t) ∧ w3.heap[w.heap.size + 1]? = some (.cells y u) := by
  have e1 := heap_alloc_new w (.cells x t)
  have e2 := heap_alloc_new (w.alloc (.cells x t)) (.cells y u)
  have a1 := Below.heap_alloc (w.alloc (.cells x t)) (.cells y u) w.heap.size (by simp)
  have a2 := Below.heap_alloc ((w.alloc (.cells x t)).alloc (.cells y u)) (.cells z v) w.heap.size (by simp; omega)
  have a3 := Below.heap_alloc ((w.alloc (.cells x t)).alloc (.cells y u)) (.cells z v) (w.heap.size + 1) (by simp)
  rw [World.size_alloc] at e2
  exact ⟨(h.block _ (by simp; omega) (by simp; omega)).trans (a2.trans (a1.trans e1)), (h.block _ (by simp) (by simp)).trans (a3.trans e2)⟩

theorem Owns.setCell {w : World} {base : Nat} {e : TypeId} {sz n : Nat} {v : Value} {xs : List Value} (h : Owns w base e sz v n xs) (p : Addr) (u : Value) (hp : p.block < base) : Owns (w.setCell p u) base e sz v n xs := by
  refine ⟨h.1, ?_⟩
  rcases h.2 with hn | ⟨g, cap, cur, rfl, hb, hg, rest⟩
  · exact .inl hn
  · exact .inr ⟨g, cap, cur, rfl, hb, (Below.heap_setCell w p u g (by omega)).trans hg, rest⟩

/-- The conditions of a copy: in a row of its own. -/
def CondsOwn (w : World) (base : Nat) (r : RuleV) : Prop := Owns w base 104 5 (.slice r.ca r.conds.length r.cc) r.conds.length (r.conds.flatMap CondV.cells)
theorem CondsOwn.at {w : World} {base : Nat} {r : RuleV} (h : CondsOwn w base r) : CondsAt w r := by
  obtain ⟨a, c, e, _, _, h1⟩ := Owns.form h
  cases e
  exact h1

def OwnRulePost (r : RuleV) (w : World) (e : Ending) (w' : World) : Prop := ∃ a c, e = .returned (r.at' a c).value ∧ CondsOwn w' w.heap.size (r.at' a c) ∧ Below w.heap.size w w'

set_option maxRecDepth 20000 in
set_option maxHeartbeats 4000000 in
theorem ownRule_any (r : RuleV) (w : World) (hc : CondsAt w r) (hn : r.conds.length ≤ 1048576) :
    Calls Try.prog 59 #[r.value] w fun e w' => OwnRulePost r w e w' := by
  obtain ⟨i0, hi, hz0, hz1, hz2⟩ := info_parts infoCond
  obtain ⟨n, hne⟩ : ∃ n, n = r.conds.length := ⟨_, rfl⟩
  have hr : Rd w 5 r.ca n (r.conds.flatMap CondV.cells) := by rw [hne]; exact hc
  unfold RuleV.value RuleV.cells RuleV.list sv
  rw [← hne] at hn ⊢
  have Hne := Lib.hid hne
  clear hne hc
  go_enter Try.func59, Try.ntmps59
  go_wp2_with (at_builtin; go_must (refine wpList_append_owns _ rfl _ _ 85 rfl (w.heap.size + 1 + 1) 104 i0 (.agg #[.string ⟨#[]⟩, .bool false, .string ⟨#[]⟩, .bool false, .bool false]) 5 48 Try.underlying85 hi hz0 hz1 hz2 rfl (by decide) _ 0 [] rfl (Owns.empty _ _ 5 _ (by simp)) r.ca n r.cc (r.conds.flatMap CondV.cells) rfl (((hr.alloc _).alloc _).alloc _) (one_cond _) (by simp only [maxLen]; omega) (by omega) (by simp) ?_); intro v' w3 hown' hgrow; obtain ⟨a', c', rfl, _, _, hr'⟩ := id hown'.form; obtain ⟨k1, k2⟩ := three_rows w #[Value.string ⟨r.pat.toArray⟩, Value.bool r.nc, Value.slice r.ca n r.cc, Value.string ⟨r.tgt.toArray⟩, Value.bool r.f1, Value.bool r.f2, Value.bool r.f3, Value.bool r.f4, Value.bool r.f5, Value.bool r.f6, Value.bool r.f7, Value.bool r.f8, Value.int .i64 r.sk, Value.int .i64 r.rd] #[Value.string ⟨#[]⟩, Value.bool false, Value.slice none 0 0, Value.string ⟨#[]⟩, Value.bool false, Value.bool false, Value.bool false, Value.bool false, Value.bool false, Value.bool false, Value.bool false, Value.bool false, Value.int .i64 0, Value.int .i64 0] #[] _ _ _ w3 hgrow; have q1 := fun j => cell_of_row w3 w.heap.size j _ _ (0, 0) k1; have q2 := fun j => cell_of_row w3 (w.heap.size + 1) j _ _ (0, 0) k2; have p1 := fun j => frozen_of_row w3 w.heap.size j _ _ k1; have p2 := fun j => frozen_of_row w3 (w.heap.size + 1) j _ _ k2)
  rw [Nat.zero_add, List.nil_append] at hr'
  have hlt := hown'.lt
  have hb3 : Below w.heap.size w w3 := ((((Below.refl _ w).alloc (Nat.le_refl _) _).alloc (by simp) _).alloc (by simp; omega) _).grown hgrow (by simp; omega) (fun k e => by cases e; show w.heap.size ≤ w.heap.size + 1 + 1; omega)
  refine bodyPost_ret (v := (r.at' a' c').value) (by
    simp only [RuleV.value, RuleV.cells, RuleV.list, RuleV.at', sv, ← Hne.out]
    clear Hne
    unfold results
    rw [Try.results59]
    go_simp) rfl ?_
  refine ⟨a', c', rfl, ?_, ?_⟩
  · have ho := hown'
    rw [Nat.zero_add, List.nil_append] at ho
    refine Owns.mono (base := w.heap.size + 1 + 1) ?_ (by omega)
    show Owns _ _ _ 5 (.slice a' r.conds.length c') r.conds.length _
    rw [← Hne.out]
    iterate 15 refine Owns.setCell ?_ _ _ (by dsimp only; omega)
    exact ho
  · iterate 15 refine Below.setCell ?_ (by simp) _
    exact hb3

end Go.Proofs.Ytajnkapnndhbaaa
