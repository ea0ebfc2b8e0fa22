/- A region that draws its order, walked operation by operation by hand: what is carried out, what its guard passes over. -/
import Derived.Deep.RegionHeld3
namespace Go.Proofs.YtllklgalghmnfaaDoor.Reg
open Go

section
variable {P : Program} {ops : Array Oper} {Q : Exit → Act → World → Prop} {S : World → Prop} {md : Region.Mode}

theorem wanted_free {o : Oper} {y : Nat → Option Bool} (h : o.guard = none) : Region.wanted o y = true := by
  unfold Region.wanted; rw [h]
theorem wanted_hit {o : Oper} {tmps : Array Value} {j jd : Nat} {b : Bool} (hg : o.guard = some (j, b)) (hj : ((ops[j]?).bind (·.dst)) = some jd) (hv : tmps[jd]? = some (.bool b)) : Region.wanted o (yielded ops tmps) = true := by
  unfold Region.wanted yielded
  rw [hg]
  simp only [hj, Option.bind_some, hv]
  simp
theorem wanted_miss {o : Oper} {tmps : Array Value} {j jd : Nat} {b : Bool} {v : Value} (hg : o.guard = some (j, b)) (hj : ((ops[j]?).bind (·.dst)) = some jd) (hv : tmps[jd]? = some v) (hb : v ≠ .bool b) : Region.wanted o (yielded ops tmps) = false := by
  unfold Region.wanted yielded
  rw [hg]
  simp only [hj, Option.bind_some, hv]
  cases v <;> simp_all

theorem skip {i d j jd : Nat} {b : Bool} {v : Value} {oi : Oper} {fuel : Nat} {listed : Array Bool} {tmps : Array Value} {dfs : List Deferred} {w : World}
    (hi : ops[i]? = some oi) (hd : oi.dst = some d) (hg : oi.guard = some (j, b)) (hj : ((ops[j]?).bind (·.dst)) = some jd) (hv : tmps[jd]? = some v) (hb : v ≠ .bool b)
    (hs : Region.noSelect ops = true) (hf : Region.free md ops listed i = true) (hr : (Region.ready md ops listed).contains i = true) (hS : S w)
    (h : wpAnyH P md ops (NoPanic Q) S fuel (listed.setIfInBounds i true) ⟨tmps.setIfInBounds d undef, dfs⟩ w) : wpAnyH P md ops (NoPanic Q) S (fuel + 1) listed ⟨tmps, dfs⟩ w :=
  wpAnyH_take hi hs hf hr (fun _ _ _ h => h.elim) (.inr ⟨wanted_miss hg hj hv hb, rfl⟩) hS (by rw [hd]; exact h)

theorem take {i d : Nat} {u : Value} {oi : Oper} {fuel : Nat} {listed : Array Bool} {tmps : Array Value} {dfs : List Deferred} {w : World}
    (hi : ops[i]? = some oi) (hd : oi.dst = some d) (hg : oi.guard = none)
    (hs : Region.noSelect ops = true) (hf : Region.free md ops listed i = true) (hr : (Region.ready md ops listed).contains i = true) (hS : S w)
    (hy : ∀ w, S w → (execOp (Act.eval ⟨tmps, dfs⟩) oi).run P w = .ok (.value u) w)
    (h : wpAnyH P md ops (NoPanic Q) S fuel (listed.setIfInBounds i true) ⟨tmps.setIfInBounds d u, dfs⟩ w) : wpAnyH P md ops (NoPanic Q) S (fuel + 1) listed ⟨tmps, dfs⟩ w :=
  wpAnyH_take hi hs hf hr (fun _ _ _ h => h.elim) (.inl ⟨wanted_free hg, hy⟩) hS (by rw [hd]; exact h)

theorem takeIf {i d j jd : Nat} {b : Bool} {u : Value} {oi : Oper} {fuel : Nat} {listed : Array Bool} {tmps : Array Value} {dfs : List Deferred} {w : World}
    (hi : ops[i]? = some oi) (hd : oi.dst = some d) (hg : oi.guard = some (j, b)) (hj : ((ops[j]?).bind (·.dst)) = some jd) (hv : tmps[jd]? = some (.bool b))
    (hs : Region.noSelect ops = true) (hf : Region.free md ops listed i = true) (hr : (Region.ready md ops listed).contains i = true) (hS : S w)
    (hy : ∀ w, S w → (execOp (Act.eval ⟨tmps, dfs⟩) oi).run P w = .ok (.value u) w)
    (h : wpAnyH P md ops (NoPanic Q) S fuel (listed.setIfInBounds i true) ⟨tmps.setIfInBounds d u, dfs⟩ w) : wpAnyH P md ops (NoPanic Q) S (fuel + 1) listed ⟨tmps, dfs⟩ w :=
  wpAnyH_take hi hs hf hr (fun _ _ _ h => h.elim) (.inl ⟨wanted_hit hg hj hv, hy⟩) hS (by rw [hd]; exact h)

/-- One operation alone may come up, and is carried out (a call). -/
theorem only {i : Nat} {oi : Oper} {fuel : Nat} {listed : Array Bool} {a : Act} {w : World}
    (hi : ops[i]? = some oi) (hw : Region.wanted oi (yielded ops a.tmps) = true) (hr : Region.ready md ops listed = [i])
    (h : ∀ K' : Act → World → Prop, Shut (∀ a w, S w → (S w → wpAnyH P md ops Q S fuel (listed.setIfInBounds i true) a w) → K' a w) → Oper.wp P oi a w K' Q) : wpAnyH P md ops Q S (fuel + 1) listed a w :=
  wpAnyH_ready hr (by simp) (AllReadyH.cons hi (fun K' hK => by rw [if_pos hw]; exact h K' hK) AllReadyH.nil)
theorem onlySkip {i d j jd : Nat} {b : Bool} {v : Value} {oi : Oper} {fuel : Nat} {listed : Array Bool} {tmps : Array Value} {dfs : List Deferred} {w : World}
    (hi : ops[i]? = some oi) (hd : oi.dst = some d) (hg : oi.guard = some (j, b)) (hj : ((ops[j]?).bind (·.dst)) = some jd) (hv : tmps[jd]? = some v) (hb : v ≠ .bool b) (hr : Region.ready md ops listed = [i]) (hS : S w)
    (h : wpAnyH P md ops Q S fuel (listed.setIfInBounds i true) ⟨tmps.setIfInBounds d undef, dfs⟩ w) : wpAnyH P md ops Q S (fuel + 1) listed ⟨tmps, dfs⟩ w :=
  wpAnyH_ready hr (by simp) (AllReadyH.cons hi (fun K' hK => by rw [if_neg (by rw [wanted_miss hg hj hv hb]; simp), hd]; exact hK.out _ _ hS (fun _ => h)) AllReadyH.nil)
end
end Go.Proofs.YtllklgalghmnfaaDoor.Reg
