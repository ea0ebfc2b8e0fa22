/- Append onto an owned slice: where the new slice lies; what abides a range over a function. -/
import Derived.Test.YtefilalapkdegaaOwns
import Derived.Test.YtefilalapkdegaaSeq
namespace Go.Proofs.Ytefilalapkdegaa.Mem
open Go.RowKit

section
variable {P : Program} (w : World)

/-- Where the new slice lies: in the old one's row, or in a new one. -/
theorem run_append_lies (base : Nat) (t ty e : TypeId) (i : TypeInfo) (z : Value) (sz bytes : Nat) (ht : P.underlying t = some (.slice e)) (hi : P.info? e = some i) (hz : i.zero = some z)
    (hsize : i.size = sz) (hby : i.bytes = bytes) (hzs : z.cells.size = sz) (hsz : 0 < sz)
    (v : Value) (n : Nat) (xs : List Value) (h : Owns w base e sz v n xs)
    (A : Option Addr) (m c : Nat) (news : List Value) (hr : Rd w sz A m news) (h1 : ∀ u ∈ news, u.oneCell' = true)
    (h63 : n + m ≤ maxLen) (hbytes : (n + m) * bytes ≤ 140737488355328) (hbase : base ≤ w.heap.size) :
    ∃ v' w', (Builtin.append_ #[t, t] ty #[v, .slice A m c]).run P w = .ok v' w' ∧ Owns w' base e sz v' (n + m) (xs ++ news) ∧ w.grownBy w' v.ownBlock ∧ (∀ j, v'.ownBlock = some j → v.ownBlock = some j ∨ w.heap.size ≤ j) := by
  obtain ⟨v', w', r1, r2, r3⟩ := run_append_owns (P := P) w base t ty e i z sz bytes ht hi hz hsize hby hzs hsz v n xs h A m c news hr h1 h63 hbytes hbase
  refine ⟨v', w', r1, r2, r3, ?_⟩
  rcases h.2 with ⟨rfl, rfl⟩ | ⟨g, cap, cur, rfl, hbg, hg, hnc, hcm, hcs, htake⟩
  · have hxs : xs = [] := List.eq_nil_of_length_eq_zero (by simpa using h.1)
    subst hxs
    obtain ⟨v2, w2, q1, q2, q3⟩ := run_append_owns (P := P) w w.heap.size t ty e i z sz bytes ht hi hz hsize hby hzs hsz (.slice none 0 0) 0 [] (Owns.nil _ _ _ _) A m c news hr h1 h63 hbytes (Nat.le_refl _)
    rw [r1] at q1
    cases q1
    exact fun j hj => .inr (q2.lt j hj).1
  · rcases A with _ | ad
    · have hq := run_append_none (P := P) w t ty e i ht hi h c
      have hm : m = 0 := by
        rcases Nat.eq_zero_or_pos m with h0 | h0
        · exact h0
        · obtain ⟨ad, he, _⟩ := hr.get h0
          cases he
      subst hm
      rw [r1] at hq
      cases hq
      exact fun j hj => .inl hj
    · have hcells : ∀ j u, news[j]? = some u → w.cell? (ad.add j) = some u := by
        intro j u hu
        rcases Nat.eq_zero_or_pos m with h0 | h0
        · subst h0
          have hn : news = [] := List.eq_nil_of_length_eq_zero (by simpa using hr.len)
          subst hn
          simp at hu
        · obtain ⟨ad', he, _, hc⟩ := hr.get h0
          cases he
          exact hc j u hu
      subst hsize
      by_cases hroom : n + m ≤ cap
      · have hfit : n * i.size + news.length ≤ cur.size := by
          rw [hr.len, ← Nat.add_mul]; exact Nat.le_trans (Nat.mul_le_mul_right _ hroom) hcs
        have hq := run_append_room (P := P) w t ty e i ht hi g n cap cur hg ad m c news hr.len hcells h1 hroom hfit
        rw [r1] at hq
        cases hq
        exact fun j hj => .inl hj
      · obtain ⟨a', c', he, _, _, hrd⟩ := h.form
        cases he
        have hxs : ∀ j u, xs[j]? = some u → w.cell? ((⟨g, 0, none⟩ : Addr).add j) = some u := by
          intro j u hu
          rcases Nat.eq_zero_or_pos n with h0 | h0
          · subst h0
            have hn : xs = [] := List.eq_nil_of_length_eq_zero (by simpa using h.1)
            subst hn
            simp at hu
          · obtain ⟨ad', he, _, hc⟩ := hrd.get h0
            cases he
            exact hc j u hu
        obtain ⟨v2, w2, q1, q2, q3⟩ := run_append_arg_grows (P := P) w t ty e i z i.size bytes ht hi hz rfl hby hzs hsz ⟨g, 0, none⟩ n cap xs h.1 hxs ad m c news hr.len hcells (by omega) h63 hbytes
        rw [r1] at q1
        cases q1
        exact fun j hj => .inr ((Owns.of_own q2).lt j hj).1

theorem wpListIn_append_lies {F : Fence} {nF : Nat} {ops : Array Oper} {rest : List Oper} {o : Oper} {a : Act} {Q : Exit → Act → World → Prop} (hgd : o.guard = none) (s x : Operand) (t : TypeId)
    (ho : o.op = .call { callee := .builtin .append, args := #[s, x], argTypes := #[t, t] })
    (base : Nat) (e : TypeId) (i : TypeInfo) (z : Value) (sz bytes : Nat) (ht : P.underlying t = some (.slice e)) (hi : P.info? e = some i) (hz : i.zero = some z)
    (hsize : i.size = sz) (hby : i.bytes = bytes) (hzs : z.cells.size = sz) (hsz : 0 < sz)
    (v : Value) (n : Nat) (xs : List Value) (hs : a.eval s = v) (h : Owns w base e sz v n xs)
    (A : Option Addr) (m c : Nat) (news : List Value) (hx : a.eval x = .slice A m c) (hr : Rd w sz A m news) (h1 : ∀ u ∈ news, u.oneCell' = true)
    (h63 : n + m ≤ maxLen) (hbytes : (n + m) * bytes ≤ 140737488355328) (hbase : base ≤ w.heap.size)
    (hK : ∀ v' w', Owns w' base e sz v' (n + m) (xs ++ news) → w.grownBy w' v.ownBlock → (∀ j, v'.ownBlock = some j → v.ownBlock = some j ∨ w.heap.size ≤ j) → wpListIn F nF P ops Q rest (a.put o.dst v') w') : wpListIn F nF P ops Q (o :: rest) a w := by
  refine wpListIn_plain hgd fun K hK' => ?_
  obtain ⟨v', w', hrun, r1, r2, r3⟩ := run_append_lies (P := P) w base t o.type e i z sz bytes ht hi hz hsize hby hzs hsz v n xs h A m c news hr h1 h63 hbytes hbase
  unfold Oper.wpIn
  refine ⟨?_, ?_⟩
  · simp [Oper.about, ho, resolve, Target.leads, Sem.run_pure]
  · rw [Oper.semAt_plain F _ _ (by rw [ho]; intro c hc'; cases hc')]
    simp [execOp, ho, resolve, invoke, builtin, hs, hx, hrun, Result.andThen]
    exact hK' _ _ (hK v' w' r1 r2 r3)
end


/-- An owned slice abides the iterator's steps and the loop's book-keeping. -/
theorem owns_stable {own : Nat → Prop} {B base : Nat} {e : TypeId} {sz n : Nat} {v : Value} {xs : List Value} (hbase : ∀ r, own r → r < base) : Seq.Stable own B (fun W => Owns W base e sz v n xs) := by
  rintro X Y row hr hg hrow
  refine hr.kept hg ?_
  intro k hk hrk
  rcases hr.2 with ⟨rfl, _⟩ | ⟨g, cap, cur, rfl, hbg, hgb, _⟩
  · simp [Value.ownBlock] at hk
  · simp [Value.ownBlock] at hk
    subst hk
    rcases hrow g hrk with h | ⟨_, o, ho', hc⟩
    · have := hbase g h; omega
    · rw [hgb] at ho'; cases ho'; cases hc

theorem owns_putObj {W : World} {base : Nat} {e : TypeId} {sz n D : Nat} {v : Value} {xs : List Value} {o : Obj} (h : Owns W base e sz v n xs) (o' : Obj) (hl : W.heap[D]? = some o) (ho : o.isCells = false) : Owns (W.putObj D o') base e sz v n xs := by
  refine h.kept (grownBy_putObj' W D o') ?_
  intro k hk e'
  cases e'
  rcases h.2 with ⟨rfl, _⟩ | ⟨g, cap, cur, rfl, hbg, hgb, _⟩
  · simp [Value.ownBlock] at hk
  · simp [Value.ownBlock] at hk
    subst hk
    rw [hgb] at hl; cases hl; cases ho

end Go.Proofs.Ytefilalapkdegaa.Mem
