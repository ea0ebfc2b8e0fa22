/- A region that draws its order, walked operation by operation by hand: what is carried out, what its guard passes over. -/
import Derived.Deep.RegionHeld3
namespace Go.Proofs.Ytefilalapkdegaa.Reg
open Go

section
variable {P : Program} {ops : Array Oper} {Q : Exit → Act → World → Prop} {S : World → Prop} {md : Region.Mode}

theorem wanted_free {o : Oper} {y : Nat → Option Bool} (h : o.guard = none) : Region.wanted o y = true := by
  unfold Region.wanted; rw [h]
theorem wanted_hit {o : Oper} {tmps : Array Value} {j jd : Nat} {b : Bool} (hg : o.guard = some (j, b)) (hj : ((ops[j]?).bind (·.dst)) = some jd) (hv : tmps[jd]? = some (.bool b)) : Region.wanted o (yielded ops tmps) = true := by
  unfold Region.wanted yielded
  rw [hg]
  simp only [hj, Option.bind_some, hv]
  simp
theorem wanted_miss {o : Oper} {tmps : Array Value} {j jd : Nat} {b : Bool} {v : Value} (hg : o.guard = some (j, b)) (hj : ((ops[j]?).bind (·.dst)) = some jd) (hv : tmps[jd]? = some v) (hb : v ≠ .bool b) : Region.wanted o (yielded ops tmps) = false := by
  unfold Region.wanted yielded
  rw [hg]
  simp only [hj, Option.bind_some, hv]
  cases v <;> simp_all

theorem skip {i d j jd : Nat} {b : Bool} {v : Value} {oi : Oper} {fuel : Nat} {listed : Array Bool} {tmps : Array Value} {dfs : List Deferred} {w : World}
    (hi : ops[i]? = some oi) (hd : oi.dst = some d) (hg : oi.guard = some (j, b)) (hj : ((ops[j]?).bind (·.dst)) = some jd) (hv : tmps[jd]? = some v) (hb : v ≠ .bool b)
    (hs : Region.noSelect ops = true) (hf : Region.free md ops listed i = true) (hr : (Region.ready md ops listed).contains i = true) (hS : S w)
    (h : wpAnyH P md ops (NoPanic Q) S fuel (listed.setIfInBounds i true) ⟨tmps.setIfInBounds d undef, dfs⟩ w) : wpAnyH P md ops (NoPanic Q) S (fuel + 1) listed ⟨tmps, dfs⟩ w :=
  wpAnyH_take hi hs hf hr (fun _ _ _ h => h.elim) (.inr ⟨wanted_miss hg hj hv hb, rfl⟩) hS (by rw [hd]; exact h)

theorem take {i d : Nat} {u : Value} {oi : Oper} {fuel : Nat} {listed : Array Bool} {tmps : Array Value} {dfs : List Deferred} {w : World}
    (hi : ops[i]? = some oi) (hd : oi.dst = some d) (hg : oi.guard = none)
    (hs : Region.noSelect ops = true) (hf : Region.free md ops listed i = true) (hr : (Region.ready md ops listed).contains i = true) (hS : S w)
    (hy : ∀ w, S w → (execOp (Act.eval ⟨tmps, dfs⟩) oi).run P w = .ok (.value u) w)
    (h : wpAnyH P md ops (NoPanic Q) S fuel (listed.setIfInBounds i true) ⟨tmps.setIfInBounds d u, dfs⟩ w) : wpAnyH P md ops (NoPanic Q) S (fuel + 1) listed ⟨tmps, dfs⟩ w :=
  wpAnyH_take hi hs hf hr (fun _ _ _ h => h.elim) (.inl ⟨wanted_free hg, hy⟩) hS (by rw [hd]; exact h)

theorem takeIf {i d j jd : Nat} {b : Bool} {u : Value} {oi : Oper} {fuel : Nat} {listed : Array Bool} {tmps : Array Value} {dfs : List Deferred} {w : World}
    (hi : ops[i]? = some oi) (hd : oi.dst = some d) (hg : oi.guard = some (j, b)) (hj : ((ops[j]?).bind (·.dst)) = some jd) (hv : tmps[jd]? = some (.bool b))
    (hs : Region.noSelect ops = true) (hf : Region.free md ops listed i = true) (hr : (Region.ready md ops listed).contains i = true) (hS : S w)
    (hy : ∀ w, S w → (execOp (Act.eval ⟨tmps, dfs⟩) oi).run P w = .ok (.value u) w)
    (h : wpAnyH P md ops (NoPanic Q) S fuel (listed.setIfInBounds i true) ⟨tmps.setIfInBounds d u, dfs⟩ w) : wpAnyH P md ops (NoPanic Q) S (fuel + 1) listed ⟨tmps, dfs⟩ w :=
  wpAnyH_take hi hs hf hr (fun _ _ _ h => h.elim) (.inl ⟨wanted_hit hg hj hv, hy⟩) hS (by rw [hd]; exact h)

/-- One operation alone may come up, and is carried out (a call). -/
theorem only {i : Nat} {oi : Oper} {fuel : Nat} {listed : Array Bool} {a : Act} {w : World}
    (hi : ops[i]? = some oi) (hw : Region.wanted oi (yielded ops a.tmps) = true) (hr : Region.ready md ops listed = [i])
    (h : ∀ K' : Act → World → Prop, Shut (∀ a w, S w → (S w → wpAnyH P md ops Q S fuel (listed.setIfInBounds i true) a w) → K' a w) → Oper.wp P oi a w K' Q) : wpAnyH P md ops Q S (fuel + 1) listed a w :=
  wpAnyH_ready hr (by simp) (AllReadyH.cons hi (fun K' hK => by rw [if_pos hw]; exact h K' hK) AllReadyH.nil)
theorem onlySkip {i d j jd : Nat} {b : Bool} {v : Value} {oi : Oper} {fuel : Nat} {listed : Array Bool} {tmps : Array Value} {dfs : List Deferred} {w : World}
    (hi : ops[i]? = some oi) (hd : oi.dst = some d) (hg : oi.guard = some (j, b)) (hj : ((ops[j]?).bind (·.dst)) = some jd) (hv : tmps[jd]? = some v) (hb : v ≠ .bool b) (hr : Region.ready md ops listed = [i]) (hS : S w)
    (h : wpAnyH P md ops Q S fuel (listed.setIfInBounds i true) ⟨tmps.setIfInBounds d undef, dfs⟩ w) : wpAnyH P md ops Q S (fuel + 1) listed ⟨tmps, dfs⟩ w :=
  wpAnyH_ready hr (by simp) (AllReadyH.cons hi (fun K' hK => by rw [if_neg (by rw [wanted_miss hg hj hv hb]; simp), hd]; exact hK.out _ _ hS (fun _ => h)) AllReadyH.nil)
end
end Go.Proofs.Ytefilalapkdegaa.Reg
namespace Go.Proofs.Ytefilalapkdegaa.Reg
open Go
section
variable {P : Program} {md : Region.Mode} {ops : Array Oper} {Q : Exit → Act → World → Prop} {S S' : World → Prop}
theorem under (h : ∀ w, S' w → S w) : ∀ (fuel : Nat) (listed : Array Bool) (a : Act) (w : World), wpAnyH P md ops Q S' fuel listed a w → wpAnyH P md ops Q S fuel listed a w
  | 0, _, _, _, hw => hw
  | fuel + 1, _, _, _, hw => ⟨hw.1, fun i hi => wpOp_mono (fun a' w' h' => ⟨h w' h'.1, under h fuel _ a' w' h'.2⟩) (hw.2 i hi)⟩
end
end Go.Proofs.Ytefilalapkdegaa.Reg
namespace Go.Proofs.Ytefilalapkdegaa.Reg
open Go
section
variable {P : Program} {md : Region.Mode} {ops : Array Oper} {Q : Exit → Act → World → Prop} {S : World → Prop}
theorem either {i j : Nat} {oi oj : Oper} {fuel : Nat} {listed : Array Bool} {a : Act} {w : World}
    (hi : ops[i]? = some oi) (hj : ops[j]? = some oj) (hwi : Region.wanted oi (yielded ops a.tmps) = true) (hwj : Region.wanted oj (yielded ops a.tmps) = true) (hr : Region.ready md ops listed = [i, j])
    (h1 : ∀ K' : Act → World → Prop, Shut (∀ a w, S w → (S w → wpAnyH P md ops Q S fuel (listed.setIfInBounds i true) a w) → K' a w) → Oper.wp P oi a w K' Q)
    (h2 : ∀ K' : Act → World → Prop, Shut (∀ a w, S w → (S w → wpAnyH P md ops Q S fuel (listed.setIfInBounds j true) a w) → K' a w) → Oper.wp P oj a w K' Q) : wpAnyH P md ops Q S (fuel + 1) listed a w :=
  wpAnyH_ready hr (by simp) (AllReadyH.cons hi (fun K' hK => by rw [if_pos hwi]; exact h1 K' hK) (AllReadyH.cons hj (fun K' hK => by rw [if_pos hwj]; exact h2 K' hK) AllReadyH.nil))
theorem wp_value {o : Oper} {a : Act} {w w' : World} {next : Act → World → Prop} {u : Value} (h : (execOp a.eval o).run P w = .ok (.value u) w') (hn : next (a.put o.dst u) w') : Oper.wp P o a w next Q := by
  unfold Oper.wp; rw [h]; exact hn
/-- Two steps that may come up in either order and lead to one state. -/
theorem pair {i j di dj : Nat} {oi oj : Oper} {fuel : Nat} {listed : Array Bool} {tmps : Array Value} {dfs : List Deferred} {w w1 : World} {u x : Value}
    (hi : ops[i]? = some oi) (hj : ops[j]? = some oj) (hdi : oi.dst = some di) (hdj : oj.dst = some dj) (hgi : oi.guard = none) (hgj : oj.guard = none)
    (hr : Region.ready md ops listed = [i, j]) (hri : Region.ready md ops (listed.setIfInBounds j true) = [i]) (hrj : Region.ready md ops (listed.setIfInBounds i true) = [j]) (hS0 : S w) (hS1 : S w1)
    (hij : i ≠ j) (hdd : di ≠ dj)
    (y1 : (execOp (Act.eval ⟨tmps, dfs⟩) oi).run P w = .ok (.value u) w)
    (y2 : (execOp (Act.eval ⟨tmps.setIfInBounds di u, dfs⟩) oj).run P w = .ok (.value x) w1)
    (y3 : (execOp (Act.eval ⟨tmps, dfs⟩) oj).run P w = .ok (.value x) w1)
    (y4 : (execOp (Act.eval ⟨tmps.setIfInBounds dj x, dfs⟩) oi).run P w1 = .ok (.value u) w1)
    (h : wpAnyH P md ops Q S fuel ((listed.setIfInBounds i true).setIfInBounds j true) ⟨(tmps.setIfInBounds di u).setIfInBounds dj x, dfs⟩ w1) : wpAnyH P md ops Q S (fuel + 1 + 1) listed ⟨tmps, dfs⟩ w := by
  refine either hi hj (wanted_free hgi) (wanted_free hgj) hr (fun K hK => wp_value y1 (hK.out _ _ hS0 fun _ => ?_)) (fun K hK => wp_value y3 (hK.out _ _ hS1 fun _ => ?_))
  · rw [hdi]
    refine only hj (wanted_free hgj) hrj (fun K2 hK2 => wp_value y2 (hK2.out _ _ hS1 fun _ => ?_))
    rw [hdj]; exact h
  · rw [hdj]
    refine only hi (wanted_free hgi) hri (fun K2 hK2 => wp_value y4 (hK2.out _ _ hS1 fun _ => ?_))
    rw [hdi]
    have e1 : (listed.setIfInBounds j true).setIfInBounds i true = (listed.setIfInBounds i true).setIfInBounds j true := Array.setIfInBounds_comm _ _ (Ne.symm hij)
    have e2 : (tmps.setIfInBounds dj x).setIfInBounds di u = (tmps.setIfInBounds di u).setIfInBounds dj x := Array.setIfInBounds_comm _ _ (Ne.symm hdd)
    show wpAnyH P md ops Q S fuel ((listed.setIfInBounds j true).setIfInBounds i true) ⟨(tmps.setIfInBounds dj x).setIfInBounds di u, dfs⟩ w1
    rw [e1, e2]; exact h
end
end Go.Proofs.Ytefilalapkdegaa.Reg
