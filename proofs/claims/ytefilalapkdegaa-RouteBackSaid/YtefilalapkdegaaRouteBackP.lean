/- Paths and what they fit, plainly. -/
import Derived.Test.YtefilalapkdegaaRouteMade
import Derived.Test.YtefilalapkdegaaRoutePath
namespace Go.Proofs.Ytefilalapkdegaa.Route
set_option linter.unusedVariables false
set_option linter.unusedSimpArgs false

def RL : List Bs → Prop
  | [] => True
  | s :: r => (kind s = 3 → r = []) ∧ RL r
theorem RL.of : ∀ {l : List Bs}, RestLast l → RL l
  | [], _ => trivial
  | s :: r, h => by
    refine ⟨fun hk => ?_, RL.of fun i hi hk => ?_⟩
    · have := h 0 (by simp) hk
      exact List.eq_nil_of_length_eq_zero (by simpa using this.symm)
    · have := h (i + 1) (by simp; omega) hk
      simpa using this
def hasR (l : List Bs) : Bool := l.any fun s => kind s == 3
def params (l : List Bs) : Nat := (l.filter fun s => kind s == 2).length
theorem fold_fit {vals : List Bs} {op : Bool} : ∀ (r p N V : List Bs) (R : Bs) (P : List Bs) (n : Nat) (o : Bool), RL r → fit op r p = some (N, V, R) → (∀ i, i < V.length → vals[n + i]? = V[i]?) →
    ∃ X left, p = X ++ left ∧ r.foldl (pstep vals) (P, n, o) = (P ++ X, n + V.length, o || hasR r) ∧ (if hasR r = true then R = restOf op left else left = [] ∧ R = []) ∧ ∀ v ∈ V, v ∈ p
  | [], [], N, V, R, P, n, o, _, h, _ => by
    unfold fit at h
    cases h
    exact ⟨[], [], rfl, by simp [hasR], by simp [hasR], by simp⟩
  | [], x :: t, N, V, R, P, n, o, _, h, _ => by unfold fit at h; cases h
  | s :: r, p, N, V, R, P, n, o, hrl, h, hv => by
    by_cases h3 : kind s = 3
    · have hr := hrl.1 h3
      subst hr
      have hf : fit op [s] p = some ([], [], restOf op p) := by
        rcases p with _ | ⟨x, t⟩ <;> (unfold fit; rw [if_pos h3])
      rw [hf] at h
      cases h
      refine ⟨[], p, rfl, ?_, ?_, by simp⟩
      · simp [pstep, h3, hasR]
      · simp [hasR, h3]
    · rcases p with _ | ⟨x, t⟩
      · unfold fit at h
        rw [if_neg h3] at h
        cases h
      · have hh : hasR (s :: r) = hasR r := by simp [hasR, h3]
        unfold fit at h
        rw [if_neg h3] at h
        by_cases h2 : kind s = 2
        · rw [if_pos h2] at h
          rcases hf : fit op r t with _ | ⟨N', V', R'⟩
          · rw [hf] at h; cases h
          · rw [hf] at h
            simp only [Option.map_some, Option.some.injEq, Prod.mk.injEq] at h
            obtain ⟨rfl, rfl, rfl⟩ := h
            have hv0 := hv 0 (by simp)
            simp only [Nat.add_zero, List.getElem?_cons_zero] at hv0
            have hlt : n < vals.length := (List.getElem?_eq_some_iff.1 hv0).1
            obtain ⟨X, left, e1, e2, e3, e4⟩ := fold_fit r t N' V' R' (P ++ [x]) (n + 1) o hrl.2 hf (fun i hi => by
              have := hv (i + 1) (by simp; omega)
              rw [show n + (i + 1) = n + 1 + i by omega] at this
              simpa using this)
            refine ⟨x :: X, left, by rw [e1]; rfl, ?_, by rw [hh]; exact e3, fun v hvm => ?_⟩
            · rw [List.foldl_cons, hh]
              have hp : pstep vals (P, n, o) s = (P ++ [x], n + 1, o) := by
                unfold pstep
                rw [if_neg (by omega), if_pos h2]
                dsimp only
                rw [if_pos hlt, nth_get hv0]
              rw [hp, e2]
              simp [List.append_assoc]; omega
            · rcases List.mem_cons.1 hvm with rfl | hvm
              · simp
              · simp [e4 v hvm]
        · rw [if_neg h2] at h
          have h1 : kind s = 1 := by have := kind_cases s; omega
          by_cases hx : s = x
          · rw [if_pos hx] at h
            subst hx
            obtain ⟨X, left, e1, e2, e3, e4⟩ := fold_fit r t N V R (P ++ [s]) n o hrl.2 h hv
            refine ⟨s :: X, left, by rw [e1]; rfl, ?_, by rw [hh]; exact e3, fun v hvm => by simp [e4 v hvm]⟩
            rw [List.foldl_cons, hh]
            have hp : pstep vals (P, n, o) s = (P ++ [s], n, o) := by
              unfold pstep
              rw [if_pos h1]
            rw [hp, e2]
            simp [List.append_assoc]
          · rw [if_neg hx] at h; cases h
theorem fold_fill {vals : List Bs} : ∀ (l P : List Bs) (n : Nat) (o : Bool), RL l → vals.length = n + params l →
    ∃ X, l.foldl (pstep vals) (P, n, o) = (P ++ X, vals.length, o || hasR l) ∧ (∀ (op : Bool) (T : List Bs), (hasR l = false → T = []) → ∃ N, fit op l (X ++ T) = some (N, vals.drop n, if hasR l = true then restOf op T else [])) ∧ (∀ x ∈ X, x ∈ vals ∨ (x ∈ l ∧ kind x = 1)) ∧ X.length ≤ l.length
  | [], P, n, o, _, hn => by
    have hn' : vals.length = n := by simpa [params] using hn
    refine ⟨[], by simp [hasR, hn'], fun op T hT => ?_, by simp, by simp⟩
    rw [hT rfl]
    exact ⟨[], by rw [List.drop_eq_nil_of_le (by omega)]; rfl⟩
  | s :: r, P, n, o, hrl, hn => by
    by_cases h3 : kind s = 3
    · have hr := hrl.1 h3
      subst hr
      have hn' : vals.length = n := by simpa [params, h3] using hn
      refine ⟨[], ?_, fun op T _ => ⟨[], ?_⟩, by simp, by simp⟩
      · simp [pstep, h3, hasR, hn']
      · have hh : hasR [s] = true := by simp [hasR, h3]
        rw [hh, if_pos rfl, List.drop_eq_nil_of_le (by omega), List.nil_append]
        rcases T with _ | ⟨x, t⟩ <;> (unfold fit; rw [if_pos h3])
    · have hh : hasR (s :: r) = hasR r := by simp [hasR, h3]
      by_cases h2 : kind s = 2
      · have hpr : params (s :: r) = params r + 1 := by simp [params, h2]
        have hlt : n < vals.length := by omega
        obtain ⟨X, e1, e2, e3, e4⟩   := fold_fill (vals := vals) r (P ++ [nth vals n]) (n + 1) o hrl.2 (by omega)
        refine ⟨nth vals n :: X, ?_, fun op T hT => ?_, fun x hx => ?_, by simp; omega⟩
        · rw [List.foldl_cons, hh]
          have hp : pstep vals (P, n, o) s = (P ++ [nth vals n], n + 1, o) := by
            unfold pstep
            rw [if_neg (by omega), if_pos h2]
            dsimp only
            rw [if_pos hlt]
          rw [hp, e1]
          simp [List.append_assoc]
        · rw [hh] at hT ⊢
          obtain ⟨N, hN⟩ := e2 op T hT
          refine ⟨mid s :: N, ?_⟩
          show fit op (s :: r) (nth vals n :: (X ++ T)) = _
          unfold fit
          rw [if_neg h3, if_pos h2, hN, drop_nth hlt]
          rfl
        · rcases List.mem_cons.1 hx with rfl | hx
          · exact .inl (List.mem_of_getElem? (nth_some hlt))
          · rcases e3 x hx with h | h
            · exact .inl h
            · exact .inr ⟨by simp [h.1], h.2⟩
      · have h1 : kind s = 1 := by have := kind_cases s; omega
        have hpr : params (s :: r) = params r := by simp [params, h2]
        obtain ⟨X, e1, e2, e3, e4⟩   := fold_fill (vals := vals) r (P ++ [s]) n o hrl.2 (by omega)
        refine ⟨s :: X, ?_, fun op T hT => ?_, fun x hx => ?_, by simp; omega⟩
        · rw [List.foldl_cons, hh]
          have hp : pstep vals (P, n, o) s = (P ++ [s], n, o) := by
            unfold pstep
            rw [if_pos h1]
          rw [hp, e1]
          simp [List.append_assoc]
        · rw [hh] at hT ⊢
          obtain ⟨N, hN⟩ := e2 op T hT
          refine ⟨N, ?_⟩
          show fit op (s :: r) (s :: (X ++ T)) = _
          unfold fit
          rw [if_neg h3, if_neg h2, if_pos rfl, hN]
        · rcases List.mem_cons.1 hx with rfl | hx
          · exact .inr ⟨by simp, h1⟩
          · rcases e3 x hx with h | h
            · exact .inl h
            · exact .inr ⟨by simp [h.1], h.2⟩
theorem psteps_all (vals l : List Bs) : psteps vals l l.length = l.foldl (pstep vals) ([], 0, false) := by unfold psteps; rw [List.take_length]
theorem allNames_of {vals : List Bs} (h : ∀ v ∈ vals, Dots.name v = true) : allNames vals = true := by unfold allNames; rw [List.all_eq_true]; exact h
theorem pathEnd_ok {s : Bs} (h : Dots.normal s = true) (hl : s.length ≤ 128) : pathEnd s = (s, 0) := by unfold pathEnd; rw [if_neg (by omega), if_neg (by rw [h]; simp)]
theorem normal_len {p : Bs} (h : Dots.normal p = true) : p.length ≤ 128 := by unfold Dots.normal at h; simp at h; exact h.1.2
/-- The path that a route fits is made again of what was found, but for a slash at its end. -/
theorem path_again {l N V : List Bs} {R p : Bs} (hr : RestLast l) (hp : Dots.normal p = true) (hf : fit (Dots.isOpen p) l (Dots.segments p) = some (N, V, R)) : ∃ s, pathR 0 l V R = (s, 0) ∧ (s = p ∨ s ++ [47] = p) := by
  obtain ⟨op, hN, he⟩ := Dots.normal_segments hp
  obtain ⟨X, left, e1, e2, e3, e4⟩ := fold_fit (vals := V) l (Dots.segments p) N V R [] 0 false (RL.of hr) hf (fun i _ => by rw [Nat.zero_add])
  have hpl := normal_len hp
  have hVn : allNames V = true := allNames_of fun v hv => hN v (e4 v hv)
  have hps : psteps V l l.length = (X, V.length, hasR l) := by rw [psteps_all, e2]; simp
  have hplain : left = [] → R = [] → ∃ s, pathR 0 l V R = (s, 0) ∧ (s = p ∨ s ++ [47] = p) := fun hl0 hR0 => by
    subst hl0 hR0
    rw [List.append_nil] at e1
    have hNX : Dots.Names X := by rw [← e1]; exact hN
    have hs : pathR 0 l V [] = pathEnd (Dots.built X false) := by
      unfold pathR
      rw [if_neg (by simp), hps]
      dsimp only
      rw [if_neg (by simp), if_neg (by rw [hVn]; simp), if_neg (by simp), if_pos rfl, List.append_nil]
    rw [e1] at he
    have hle : (Dots.built X false).length ≤ 128 ∧ (Dots.built X false = p ∨ Dots.built X false ++ [47] = p) := by
      rcases op with _ | _
      · exact ⟨by rw [← he]; exact hpl, .inl he.symm⟩
      · rcases X with _ | ⟨x, X⟩
        · rw [Dots.built_nil] at he ⊢
          exact ⟨by simp, .inl he.symm⟩
        · have h1 : Dots.built (x :: X) false = Dots.body (x :: X) := Dots.built_false (by simp)
          have h2 : Dots.built (x :: X) true = Dots.body (x :: X) ++ [47] := by rw [Dots.built_open]; simp
          rw [h2] at he
          rw [h1]
          refine ⟨?_, .inr he.symm⟩
          have := congrArg List.length he
          rw [List.length_append] at this
          simp at this
          omega
    refine ⟨Dots.built X false, ?_, hle.2⟩
    rw [hs]
    exact pathEnd_ok (by rw [Dots.normal_built hNX, decide_eq_true_eq]; exact hle.1) hle.1
  by_cases hh : hasR l = true
  · rw [if_pos hh] at e3
    rcases left with _ | ⟨y, left⟩
    · exact hplain rfl (by rw [e3]; simp [restOf, Dots.glue])
    · have hseg : Dots.segments p ≠ [] := by rw [e1]; simp
      have hop : Dots.isOpen p = op := by
        have := Dots.isOpen_built hN op
        rw [← he] at this
        rw [this]
        rcases hz : Dots.segments p with _ | ⟨a, t⟩
        · exact absurd hz hseg
        · simp
      have hR0 : R ≠ [] := by
        have hy : y ≠ [] := hN.ne y (by rw [e1]; simp)
        rw [e3]
        unfold restOf
        intro h
        have h1 := (List.append_eq_nil_iff.1 h).1
        rcases left with _ | ⟨z, left⟩
        · exact hy h1
        · rcases y with _ | ⟨c, y⟩
          · exact hy rfl
          · cases h1
      have hb : Dots.built (X ++ [R]) false = p := by
        rw [Dots.built_false (by simp), Dots.body_append, he, e1, Dots.built_open, e3, hop]
        have hg : Dots.body (y :: left) = 47 :: Dots.glue (y :: left) := Dots.body_glue _ (by simp)
        unfold restOf
        rcases op with _ | _
        · simp [Dots.body_append, Dots.body_cons, Dots.body_nil, hg]
        · simp [Dots.body_append, Dots.body_cons, Dots.body_nil, hg]
      refine ⟨p, ?_, .inl rfl⟩
      unfold pathR
      rw [if_neg (by simp), hps]
      dsimp only
      rw [if_neg (by simp), if_neg (by rw [hVn]; simp), if_neg (by rw [hh]; simp), if_neg hR0, hb]
      exact pathEnd_ok hp hpl
  · rw [if_neg hh] at e3
    exact hplain e3.1 e3.2
theorem mem_body {l : List Bs} {v : Bs} (h : v ∈ l) : v.length + 1 ≤ (Dots.body l).length := by
  induction l with
  | nil => simp at h
  | cons s l ih =>
    rw [Dots.body_cons, List.length_cons, List.length_append]
    rcases List.mem_cons.1 h with rfl | h
    · omega
    · have := ih h; omega
theorem fit_bounds {l N V : List Bs} {R p : Bs} (hr : RestLast l) (hp : Dots.normal p = true) (hf : fit (Dots.isOpen p) l (Dots.segments p) = some (N, V, R)) : (∀ v ∈ V, v.length ≤ 1000) ∧ R.length ≤ 1000 := by
  obtain ⟨op, hN, he⟩ := Dots.normal_segments hp
  have hpl := normal_len hp
  obtain ⟨X, left, e1, e2, e3, e4⟩ := fold_fit (vals := V) l (Dots.segments p) N V R [] 0 false (RL.of hr) hf (fun i _ => by rw [Nat.zero_add])
  have hb : (Dots.body (Dots.segments p)).length ≤ p.length := by
    have := congrArg List.length he
    rw [Dots.built_open] at this
    split at this
    · rw [List.length_append] at this; omega
    · omega
  refine ⟨fun v hv => ?_, ?_⟩
  · have := mem_body (e4 v hv); omega
  · split at e3
    · rw [e3]
      have hl : (Dots.body left).length ≤ (Dots.body (Dots.segments p)).length := by rw [e1, Dots.body_append, List.length_append]; omega
      have hg : (Dots.glue left).length ≤ (Dots.body left).length := by
        rcases left with _ | ⟨y, left⟩
        · simp [Dots.glue]
        · rw [Dots.body_glue _ (by simp)]; simp
      unfold restOf
      rw [List.length_append]
      split <;> simp <;> omega
    · rw [e3.2]; simp
def valSet : List Bs := [[118], [97], [46, 46, 97], [123, 120, 125]]
def restSet : List Bs := [[], [114], [114, 47, 115], [114, 47, 115, 47]]
def tailOf (tl : Bs) : List Bs × Bool := if tl = [] then ([], false) else if tl = [114] then ([[114]], false) else if tl = [114, 47, 115] then ([[114], [115]], false) else ([[114], [115]], true)
/-- The path of values and a rest has these again. -/
theorem values_again {l vals : List Bs} {tl : Bs} (hr : RestLast l) (hs : Segs l) (hv : vals.length = params l) (hvs : ∀ v ∈ vals, v ∈ valSet) (ht : tl ∈ restSet) (ht0 : hasR l = false → tl = []) :
    ∃ s N, pathR 0 l vals tl = (s, 0) ∧ Dots.normal s = true ∧ fit (Dots.isOpen s) l (Dots.segments s) = some (N, vals, tl) := by
  obtain ⟨X, e1, e2, e3, e4⟩ := fold_fill (vals := vals) l [] 0 false (RL.of hr) (by omega)
  have hvn : ∀ x ∈ valSet, Dots.name x = true ∧ x.length ≤ 4 := by decide
  have hsn : ∀ x ∈ segSet, kind x = 1 → Dots.name x = true ∧ x.length ≤ 4 := by decide
  have hX : ∀ x ∈ X, Dots.name x = true ∧ x.length ≤ 4 := fun x hx => by
    rcases e3 x hx with h | ⟨h, h1⟩
    · exact hvn x (hvs x h)
    · exact hsn x (hs.2 x h) h1
  have hNX : Dots.Names X := fun x hx => (hX x hx).1
  have hps : psteps vals l l.length = (X, vals.length, hasR l) := by rw [psteps_all, e1]; simp
  have hT : ∀ t ∈ restSet, Dots.Names (tailOf t).1 ∧ (Dots.body (tailOf t).1).length ≤ 5 ∧ (t ≠ [] → 47 :: t = Dots.body (tailOf t).1 ++ (if (tailOf t).2 = true then [47] else []) ∧ (tailOf t).1 ≠ [] ∧ restOf (tailOf t).2 (tailOf t).1 = t) := by
    intro t h
    simp only [restSet, List.mem_cons, List.not_mem_nil, or_false] at h
    rcases h with rfl | rfl | rfl | rfl
    · exact ⟨by intro x hx; simp [tailOf] at hx, by decide, fun h => absurd rfl h⟩
    · exact ⟨by intro x hx; simp [tailOf] at hx; subst hx; decide, by decide, fun _ => ⟨by decide, by decide, by decide⟩⟩
    · exact ⟨by intro x hx; simp [tailOf] at hx; rcases hx with rfl | rfl <;> decide, by decide, fun _ => ⟨by decide, by decide, by decide⟩⟩
    · exact ⟨by intro x hx; simp [tailOf] at hx; rcases hx with rfl | rfl <;> decide, by decide, fun _ => ⟨by decide, by decide, by decide⟩⟩
  obtain ⟨t1, t2, t3⟩ := hT tl ht
  obtain ⟨T, top, hTe⟩ : ∃ T top, tailOf tl = (T, top) := ⟨_, _, rfl⟩
  rw [hTe] at t1 t2 t3
  dsimp only at t1 t2 t3
  have hN : Dots.Names (X ++ T) := hNX.append t1
  have hb : Dots.built (X ++ if tl = [] then [] else [tl]) false = Dots.built (X ++ T) top := by
    by_cases h0 : tl = []
    · have : tailOf tl = ([], false) := by rw [h0]; rfl
      rw [this] at hTe
      cases hTe
      rw [if_pos h0]
    · obtain ⟨q1, q2, q3⟩ := t3 h0
      rw [if_neg h0, Dots.built_false (by simp), Dots.body_append, Dots.built_open]
      have hb1 : Dots.body [tl] = 47 :: tl := by simp [Dots.body]
      rw [hb1, q1, Dots.body_append]
      have hne : (X ++ T == []) = false := by
        rcases T with _ | ⟨y, T⟩
        · exact absurd rfl q2
        · cases X <;> rfl
      rw [hne]
      cases top <;> simp
  have hbX : (Dots.body X).length ≤ X.length * 5 := by
    clear e1 e2 e3 e4 hps hN hb hNX
    induction X with
    | nil => simp [Dots.body]
    | cons s S ih =>
      have h1 := ih (fun x hx => hX x (by simp [hx]))
      have h2 := (hX s (by simp)).2
      rw [Dots.body_cons, List.length_cons, List.length_append, List.length_cons]
      omega
  have hl3 := hs.1
  have hlen : (Dots.built (X ++ T) top).length ≤ 128 := by
    rw [Dots.built_open, Dots.body_append]
    split
    · rw [List.length_append, List.length_append]; simp; omega
    · rw [List.length_append]; omega
  have hnorm : Dots.normal (Dots.built (X ++ T) top) = true := by rw [Dots.normal_built hN, decide_eq_true_eq]; exact hlen
  obtain ⟨N, hfit⟩ := e2 (Dots.isOpen (Dots.built (X ++ T) top)) T (fun h => by
    have h0 := ht0 h
    have : tailOf tl = ([], false) := by rw [h0]; rfl
    rw [this] at hTe
    cases hTe
    rfl)
  refine ⟨Dots.built (X ++ T) top, N, ?_, hnorm, ?_⟩
  · unfold pathR
    rw [if_neg (by simp), hps]
    dsimp only
    rw [if_neg (by simp), if_neg (by rw [allNames_of fun v hv => (hvn v (hvs v hv)).1]; simp), if_neg (fun h => h.1 (ht0 h.2)), hb]
    exact pathEnd_ok hnorm hlen
  · rw [Dots.segments_built hN, hfit, List.drop_zero]
    congr 3
    by_cases hh : hasR l = true
    · rw [if_pos hh]
      by_cases h0 : tl = []
      · have : tailOf tl = ([], false) := by rw [h0]; rfl
        rw [this] at hTe
        cases hTe
        rw [h0]
        simp [restOf, Dots.glue]
      · obtain ⟨q1, q2, q3⟩ := t3 h0
        have hio : Dots.isOpen (Dots.built (X ++ T) top) = top := by
          rw [Dots.isOpen_built hN]
          have hne : (X ++ T == []) = false := by
            rcases T with _ | ⟨y, T⟩
            · exact absurd rfl q2
            · cases X <;> rfl
          rw [hne, Bool.or_false]
        rw [hio]; exact q3
    · rw [if_neg hh]
      exact (ht0 (by simpa using hh)).symm
end Go.Proofs.Ytefilalapkdegaa.Route
