/- Which route is better, plainly: an order; two routes that fit one path; what a stable sort has first. No program. -/
import Derived.Test.YtefilalapkdegaaRouteSort
import Derived.Test.YtefilalapkdegaaRouteTop
import Derived.Test.YtefilalapkdegaaRouteFind
namespace Go.Proofs.Ytefilalapkdegaa.Route
set_option linter.unusedVariables false
set_option linter.unusedSectionVars false

/-! ### The stable sort -/
section
variable {α : Type} {lt : α → α → Bool}
theorem insRev_pair (ha : ∀ x y, lt x y = true → lt y x = false) (ht : ∀ x y z, lt x y = false → lt y z = false → lt x z = false) (e : α) :
    ∀ l : List α, l.Pairwise (fun x y => lt x y = false) → (insRev lt e l).Pairwise (fun x y => lt x y = false)
  | [], _ => by simp [insRev]
  | x :: t, h => by
    rw [List.pairwise_cons] at h
    unfold insRev
    by_cases hx : lt e x = true
    · rw [if_pos hx, List.pairwise_cons]
      refine ⟨fun y hy => ?_, insRev_pair ha ht e t h.2⟩
      rcases (insRev_mem lt e t y).1 hy with rfl | hy
      · exact ha _ _ hx
      · exact h.1 y hy
    · rw [if_neg hx, List.pairwise_cons]
      have hx' : lt e x = false := by simpa using hx
      refine ⟨fun y hy => ?_, by rw [List.pairwise_cons]; exact h⟩
      rcases List.mem_cons.1 hy with rfl | hy
      · exact hx'
      · exact ht _ _ _ hx' (h.1 y hy)
theorem sorted_pair (ha : ∀ x y, lt x y = true → lt y x = false) (ht : ∀ x y z, lt x y = false → lt y z = false → lt x z = false) (F : List α) :
    (sorted lt F).Pairwise (fun x y => lt y x = false) := by
  suffices h : ∀ (F o : List α), o.Pairwise (fun x y => lt y x = false) → (F.foldl (insR lt) o).Pairwise (fun x y => lt y x = false) from h F [] List.Pairwise.nil
  intro F
  induction F with
  | nil => intro o h; exact h
  | cons a t ih =>
    intro o h
    refine ih _ ?_
    unfold insR
    rw [List.pairwise_reverse]
    refine insRev_pair ha ht a _ ?_
    rw [List.pairwise_reverse]
    exact h
theorem insRev_nodup (e : α) : ∀ l : List α, e ∉ l → l.Nodup → (insRev lt e l).Nodup
  | [], _, _ => by simp [insRev]
  | x :: t, he, h => by
    rw [List.nodup_cons] at h
    rw [List.mem_cons, not_or] at he
    unfold insRev
    split
    · rw [List.nodup_cons]
      refine ⟨fun hx => ?_, insRev_nodup e t he.2 h.2⟩
      rcases (insRev_mem lt e t x).1 hx with rfl | hx
      · exact he.1 rfl
      · exact h.1 hx
    · rw [List.nodup_cons, List.nodup_cons, List.mem_cons, not_or]
      exact ⟨he, h⟩
theorem sorted_nodup (F : List α) (hF : F.Nodup) : (sorted lt F).Nodup := by
  suffices h : ∀ (F o : List α), F.Nodup → o.Nodup → (∀ x ∈ F, x ∉ o) → (F.foldl (insR lt) o).Nodup from h F [] hF List.nodup_nil (by simp)
  intro F
  induction F with
  | nil => intro o _ h _; exact h
  | cons a t ih =>
    intro o hF h hd
    rw [List.nodup_cons] at hF
    refine ih _ hF.2 ?_ (fun x hx => ?_)
    · have hr : ∀ l : List α, l.Nodup → l.reverse.Nodup := fun l hl => by
        unfold List.Nodup at hl ⊢
        rw [List.pairwise_reverse]
        exact hl.imp fun hab => Ne.symm hab
      unfold insR
      exact hr _ (insRev_nodup a _ (by rw [List.mem_reverse]; exact hd a (by simp)) (hr _ h))
    · rw [insR_mem, not_or]
      exact ⟨fun e => hF.1 (e ▸ hx), hd x (by simp [hx])⟩
end

/-! ### Two routes that fit one path -/
/-- A valid route, as far as fitting goes: only its last segment is a rest. -/
def RestLast (l : List Bs) : Prop := ∀ i, i < l.length → kind (nth l i) = 3 → i + 1 = l.length
theorem restLast_of {l : List Bs} {kd : Int} {t : Bs} (h : err l kd t = 0) : RestLast l := fun i hi hk => rest_last h hi hk
theorem fit_next {op : Bool} {l P : List Bs} {k : Nat} (hk : k < l.length) (h3 : kind (nth l k) ≠ 3) (hf : (fit op (l.drop k) (P.drop k)).isSome = true) :
    k < P.length ∧ (fit op (l.drop (k + 1)) (P.drop (k + 1))).isSome = true ∧ (kind (nth l k) = 1 → nth l k = nth P k) := by
  have hp : k < P.length := by
    rcases Nat.lt_or_ge k P.length with h | h
    · exact h
    · rw [fit_short hk h3 h] at hf; cases hf
  rcases kind_cases (nth l k) with h | h | h
  · rw [fit_name hk h hp] at hf
    by_cases he : nth l k = nth P k
    · rw [if_pos he] at hf
      exact ⟨hp, hf, fun _ => he⟩
    · rw [if_neg he] at hf; cases hf
  · rw [fit_param hk h hp] at hf
    refine ⟨hp, ?_, fun e => by omega⟩
    unfold comb at hf
    rw [Option.isSome_map] at hf
    exact hf
  · exact absurd h h3
theorem fit_over {op : Bool} {l P : List Bs} {k : Nat} (hk : l.length ≤ k) (hf : (fit op (l.drop k) (P.drop k)).isSome = true) : P.length ≤ k := by
  rcases Nat.lt_or_ge k P.length with h | h
  · rw [fit_long hk h] at hf; cases hf
  · exact h
theorem place_cases' (l : List Bs) (k : Nat) : (l.length ≤ k ∧ place l[k]? = 3) ∨ (k < l.length ∧ kind (nth l k) = 3 ∧ place l[k]? = 4) ∨ (k < l.length ∧ kind (nth l k) ≠ 3 ∧ place l[k]? = kind (nth l k)) := by
  rcases Nat.lt_or_ge k l.length with h | h
  · rw [place_some h]
    by_cases h3 : kind (nth l k) = 3
    · exact .inr (.inl ⟨h, h3, by rw [if_pos h3]⟩)
    · exact .inr (.inr ⟨h, h3, by rw [if_neg h3]⟩)
  · exact .inl ⟨h, place_none h⟩
/-- As long as both go on they fit what is left. -/
theorem both_on {op : Bool} {a b P : List Bs} (ha : (fit op a P).isSome = true) (hb : (fit op b P).isSome = true) :
    ∀ k, bothTo a b k = none → k ≤ a.length ∧ k ≤ b.length ∧ (fit op (a.drop k) (P.drop k)).isSome = true ∧ (fit op (b.drop k) (P.drop k)).isSome = true
  | 0, _ => ⟨Nat.zero_le _, Nat.zero_le _, by simpa using ha, by simpa using hb⟩
  | k + 1, h => by
    have h0 : bothTo a b k = none := by
      rcases hx : bothTo a b k with _ | v
      · rfl
      · rw [bothTo_stays hx (k + 1) (by omega)] at h; cases h
    obtain ⟨g1, g2, g3, g4⟩ := both_on ha hb k h0
    rw [bothTo_succ h0] at h
    unfold bothAt at h
    rcases place_cases' a k with ⟨p1, p2⟩ | ⟨p1, p2, p3⟩ | ⟨p1, p2, p3⟩
    · exfalso
      split at h
      · cases h
      · rw [if_pos (.inl p2)] at h; cases h
    · rw [if_pos (.inl p3)] at h; cases h
    rcases place_cases' b k with ⟨q1, q2⟩ | ⟨q1, q2, q3⟩ | ⟨q1, q2, q3⟩
    · exfalso
      split at h
      · cases h
      · rw [if_pos (.inr q2)] at h; cases h
    · rw [if_pos (.inr q3)] at h; cases h
    exact ⟨p1, q1, (fit_next p1 p2 g3).2.1, (fit_next q1 q2 g4).2.1⟩
/-- Two routes that fit one path: there is a path that both fit. -/
theorem both_fit {op : Bool} {a b P : List Bs} (ha : (fit op a P).isSome = true) (hb : (fit op b P).isSome = true) : both a b = true := by
  have key : ∀ k, bothTo a b k = none → bothAt a b k ≠ some false := fun k h0 h => by
    obtain ⟨g1, g2, g3, g4⟩ := both_on ha hb k h0
    unfold bothAt at h
    rcases place_cases' a k with ⟨p1, p2⟩ | ⟨p1, p2, p3⟩ | ⟨p1, p2, p3⟩
    · rcases place_cases' b k with ⟨q1, q2⟩ | ⟨q1, q2, q3⟩ | ⟨q1, q2, q3⟩
      · rw [if_neg (by omega), if_pos (.inl p2), p2, q2] at h; cases h
      · rw [if_pos (.inr q3)] at h; cases h
      · have := fit_over p1 g3
        have := (fit_next q1 q2 g4).1
        omega
    · rw [if_pos (.inl p3)] at h; cases h
    · rcases place_cases' b k with ⟨q1, q2⟩ | ⟨q1, q2, q3⟩ | ⟨q1, q2, q3⟩
      · have := fit_over q1 g4
        have := (fit_next p1 p2 g3).1
        omega
      · rw [if_pos (.inr q3)] at h; cases h
      · have kc := kind_cases (nth a k)
        have kd := kind_cases (nth b k)
        rw [if_neg (by omega), if_neg (by omega)] at h
        split at h
        · rename_i hh
          have e1 := (fit_next p1 p2 g3).2.2 (by omega)
          have e2 := (fit_next q1 q2 g4).2.2 (by omega)
          exact hh.2.2 (e1.trans e2.symm)
        · cases h
  have hend : ∃ n, bothTo a b n ≠ none ∧ n ≤ a.length + 1 := by
    rcases hx : bothTo a b (a.length) with _ | v
    · refine ⟨a.length + 1, ?_, Nat.le_refl _⟩
      rw [bothTo_succ hx]
      obtain ⟨v, hv⟩ := bothAt_end (a := a) (b := b) (k := a.length) (Nat.le_refl _)
      rw [hv]; simp
    · exact ⟨a.length, by rw [hx]; simp, by omega⟩
  have hall : ∀ n v, bothTo a b n = some v → v = true := by
    intro n
    induction n with
    | zero => intro v h; cases h
    | succ n ih =>
      intro v h
      rcases hx : bothTo a b n with _ | u
      · rw [bothTo_succ hx] at h
        rcases v with _ | _
        · exact absurd h (key n hx)
        · rfl
      · rw [bothTo_stays hx (n + 1) (by omega)] at h
        cases h
        exact ih _ hx
  obtain ⟨n, hn, hle⟩ := hend
  rcases hx : bothTo a b n with _ | v
  · exact absurd hx hn
  · have := hall n v hx
    subst this
    unfold both
    rw [bothTo_stays hx _ hle]
    rfl
/-- Alike: the same kinds, the same names. -/
def alikeAt (a b : List Bs) (i : Nat) : Bool := decide (kind (nth a i) = kind (nth b i)) && (!decide (kind (nth a i) = 1) || nth a i == nth b i)
def alike (a b : List Bs) : Bool := decide (a.length = b.length) && (List.range a.length).all (alikeAt a b)
theorem alike_of {a b : List Bs} (hl : a.length = b.length) (h : ∀ i, i < a.length → kind (nth a i) = kind (nth b i) ∧ (kind (nth a i) = 1 → nth a i = nth b i)) : alike a b = true := by
  unfold alike
  rw [Bool.and_eq_true]
  refine ⟨by simpa using hl, ?_⟩
  rw [List.all_eq_true]
  intro i hi
  have hi : i < a.length := by simpa using hi
  obtain ⟨h1, h2⟩ := h i hi
  unfold alikeAt
  rw [Bool.and_eq_true]
  refine ⟨by simpa using h1, ?_⟩
  by_cases hk : kind (nth a i) = 1
  · simp [h2 hk]
  · simp [hk]
/-- Two routes that fit one path, neither better, are alike. -/
theorem alike_fit {op : Bool} {a b P : List Bs} (ra : RestLast a) (rb : RestLast b) (ha : (fit op a P).isSome = true) (hb : (fit op b P).isSome = true) (he : Eqp a b) : alike a b = true := by
  have hlen : a.length = b.length := by
    rcases Nat.lt_trichotomy a.length b.length with h | h | h
    · have := he a.length
      rw [place_none (Nat.le_refl _)] at this
      rcases place_cases' b a.length with ⟨q1, q2⟩ | ⟨q1, q2, q3⟩ | ⟨q1, q2, q3⟩
      · omega
      · omega
      · have := kind_cases (nth b a.length); omega
    · exact h
    · have := he b.length
      rw [place_none (a := b) (Nat.le_refl _)] at this
      rcases place_cases' a b.length with ⟨q1, q2⟩ | ⟨q1, q2, q3⟩ | ⟨q1, q2, q3⟩
      · omega
      · omega
      · have := kind_cases (nth a b.length); omega
  have hkind : ∀ i, i < a.length → kind (nth a i) = kind (nth b i) := fun i hi => by
    have := he i
    rw [place_some hi, place_some (by omega)] at this
    have k1 := kind_cases (nth a i)
    have k2 := kind_cases (nth b i)
    split at this <;> split at this <;> omega
  have hon : ∀ k, k ≤ a.length → (∀ j, j < k → kind (nth a j) ≠ 3) → (fit op (a.drop k) (P.drop k)).isSome = true ∧ (fit op (b.drop k) (P.drop k)).isSome = true := by
    intro k
    induction k with
    | zero => intro _ _; exact ⟨by simpa using ha, by simpa using hb⟩
    | succ k ih =>
      intro hk hj
      obtain ⟨g1, g2⟩ := ih (by omega) fun j hj' => hj j (by omega)
      have h3 := hj k (by omega)
      exact ⟨(fit_next (by omega) h3 g1).2.1, (fit_next (by omega) (by rw [← hkind k (by omega)]; exact h3) g2).2.1⟩
  refine alike_of hlen fun i hi => ⟨hkind i hi, fun h1 => ?_⟩
  have hn3 : ∀ j, j < i → kind (nth a j) ≠ 3 := fun j hj h3 => by
    have := ra j (by omega) h3; omega
  obtain ⟨g1, g2⟩ := hon i (by omega) hn3
  have e1 := (fit_next hi (by omega) g1).2.2 h1
  have e2 := (fit_next (l := b) (by omega) (by rw [← hkind i hi]; omega) g2).2.2 (by rw [← hkind i hi]; exact h1)
  exact e1.trans e2.symm
/-- A route of names alone fits the path of these names, and is not worse there than any other one. -/
theorem fit_names {op : Bool} : ∀ {l : List Bs}, (∀ s ∈ l, kind s = 1) → fit op l l = some ([], [], [])
  | [], _ => rfl
  | s :: l, h => by
    unfold fit
    have h1 := h s (by simp)
    rw [if_neg (by omega), if_neg (by omega), if_pos rfl]
    exact fit_names fun x hx => h x (by simp [hx])
theorem names_best {op : Bool} {l x : List Bs} (h : ∀ s ∈ l, kind s = 1) (hx : (fit op x l).isSome = true) : ¬ Lx x l := by
  rintro ⟨k, h1, h2⟩
  have hl1 : ∀ j, j < l.length → place l[j]? = 1 := fun j hj => by
    have : kind (nth l j) = 1 := h _ (List.mem_of_getElem? (nth_some hj))
    rw [place_some hj, this]; rfl
  rcases Nat.lt_or_ge k l.length with hk | hk
  · rw [hl1 k hk] at h2
    rcases place_cases' x k with ⟨q1, q2⟩ | ⟨q1, q2, q3⟩ | ⟨q1, q2, q3⟩
    · omega
    · omega
    · have := kind_cases (nth x k); omega
  · rw [place_none hk] at h2
    have hlt : k < x.length := place_lt (by omega)
    have hon : ∀ j, j ≤ l.length → (fit op (x.drop j) (l.drop j)).isSome = true := by
      intro j
      induction j with
      | zero => intro _; simpa using hx
      | succ j ih =>
        intro hj
        have hp := h1 j (by omega)
        rw [hl1 j (by omega)] at hp
        have hjx : j < x.length := by omega
        rw [place_some hjx] at hp
        have h3 : kind (nth x j) ≠ 3 := fun e => by rw [if_pos e] at hp; omega
        exact (fit_next hjx h3 (ih (by omega))).2.1
    have hlast := hon l.length (Nat.le_refl _)
    have hxl : l.length < x.length := by omega
    by_cases h3 : kind (nth x l.length) = 3
    · rcases Nat.lt_or_ge l.length k with hkl | hkl
      · have := h1 l.length hkl
        rw [place_none (a := l) (Nat.le_refl _), place_some hxl, if_pos h3] at this
        omega
      · have : k = l.length := by omega
        subst this
        rw [place_some hlt, if_pos h3] at h2
        omega
    · have := (fit_next hxl h3 hlast).1
      omega
end Go.Proofs.Ytefilalapkdegaa.Route
namespace Go.Proofs.Ytefilalapkdegaa
open Go.RowKit Str Mem
set_option linter.unusedVariables false
set_option linter.unusedSimpArgs false

namespace Route
theorem alike_len {a b : List Bs} (h : alike a b = true) : a.length = b.length ∧ ∀ i, i < a.length → kind (nth a i) = kind (nth b i) ∧ (kind (nth a i) = 1 → nth a i = nth b i) := by
  unfold alike at h
  rw [Bool.and_eq_true, List.all_eq_true] at h
  refine ⟨by simpa using h.1, fun i hi => ?_⟩
  have := h.2 i (by simpa using hi)
  unfold alikeAt at this
  rw [Bool.and_eq_true] at this
  refine ⟨by simpa using this.1, fun hk => ?_⟩
  simpa [hk] using this.2
theorem alike_comm (a b : List Bs) : alike a b = alike b a := by
  have key : ∀ a b : List Bs, alike a b = true → alike b a = true := fun a b h => by
    obtain ⟨h1, h2⟩ := alike_len h
    refine alike_of h1.symm fun i hi => ?_
    obtain ⟨g1, g2⟩ := h2 i (by omega)
    exact ⟨g1.symm, fun hk => (g2 (by omega)).symm⟩
  rw [Bool.eq_iff_iff]
  exact ⟨key a b, key b a⟩
end Route
/-- Routes as the law makes them. -/
structure Good (L : List RtV) : Prop where
  len : L.length ≤ 8
  ok : ∀ r ∈ L, r.err = 0
  plain : ∀ r ∈ L, r.kd = 1 ∧ r.t = []
  apart : ∀ i j, i < j → j < L.length → Route.alike (lAt L j) (lAt L i) = false
theorem lAt_of {L : List RtV} {i : Nat} {r : RtV} (h : L[i]? = some r) : lAt L i = r.l := by unfold lAt; rw [h]; rfl
theorem firstBad_ok {L : List RtV} (h : ∀ r ∈ L, r.err = 0) : ∀ k, firstBad L k = (0, 0)
  | 0 => rfl
  | k + 1 => by
    rw [firstBad, if_neg (by rw [firstBad_ok h k]; simp)]
    rcases hk : L[k]? with _ | r
    · rfl
    · dsimp only
      rw [if_pos (h r (List.mem_of_getElem? hk))]
theorem checkR_ok {L : List RtV} (hl : L.length ≤ 32) (h : ∀ r ∈ L, r.err = 0) : checkR L = (0, 0) := by
  unfold checkR
  rw [if_neg (by omega), firstBad_ok h]
theorem allE_ok {L : List RtV} {p : List UInt8} (hl : L.length ≤ 32) (h : ∀ r ∈ L, r.err = 0) (hp : Dots.normal p = true) : allE L p = 0 := by
  unfold allE
  rw [checkR_ok hl h, hp]
  rfl
theorem Good.eq_of_alike {L : List RtV} (h : Good L) {i j : Nat} (hi : i < L.length) (hj : j < L.length) (ha : Route.alike (lAt L i) (lAt L j) = true) : i = j := by
  rcases Nat.lt_trichotomy i j with e | e | e
  · have := h.apart i j e hj
    rw [Route.alike_comm, ha] at this; cases this
  · exact e
  · have := h.apart j i e hi
    rw [ha] at this; cases this
theorem fitTo_nodup (L : List RtV) (p : List UInt8) (k : Nat) : (fitTo L p k).Nodup := by
  unfold fitTo
  refine List.Pairwise.map _ (fun a b hab => ?_) (List.nodup_range.filter _)
  intro e
  exact hab (by omega)
/-- What All returns: distinct, each fits, none better than one before it, and all that fit. -/
theorem allK_facts {L : List RtV} {p : List UInt8} (he : allE L p = 0) : (allK L p).Nodup ∧ (allK L p).Pairwise (fun x y => ltR L y x = false) ∧ (∀ x ∈ allK L p, ∃ i : Nat, x = (i : Int) ∧ i < L.length ∧ fitsAt L p i = true) ∧ ∀ i : Nat, i < L.length → fitsAt L p i = true → (i : Int) ∈ allK L p := by
  have hk : allK L p = Route.sorted (ltR L) (fitTo L p L.length) := by unfold allK; rw [if_pos he]
  refine ⟨?_, ?_, ?_, ?_⟩
  · rw [hk]; exact Route.sorted_nodup _ (fitTo_nodup _ _ _)
  · rw [hk]; exact Route.sorted_pair (ltR_asymm L) (ltR_trans L) _
  · intro x hx
    rw [hk] at hx
    exact fitTo_mem ((Route.sorted_mem _ _ _).1 hx)
  · intro i hi hf
    rw [hk, Route.sorted_mem]
    unfold fitTo
    exact List.mem_map.2 ⟨i, List.mem_filter.2 ⟨by simpa using hi, hf⟩, rfl⟩
theorem Good.restLast {L : List RtV} (h : Good L) {i : Nat} (hi : i < L.length) : Route.RestLast (lAt L i) := by
  have hr : L[i]? = some L[i] := List.getElem?_eq_getElem hi
  rw [lAt_of hr]
  exact Route.restLast_of (h.ok _ (List.mem_of_getElem? hr))
/-- Of two of All the earlier one is better. -/
theorem all_better {L : List RtV} {p : List UInt8} (hg : Good L) (hp : Dots.normal p = true) {m : Nat} {x y : Int} (hx : (allK L p)[m]? = some x) (hy : (allK L p)[m + 1]? = some y) :
    Route.betterR 0 0 (lAt L x.toNat) (lAt L y.toNat) = (-1, 0) := by
  have he := allE_ok (p := p) (by have := hg.len; omega) hg.ok hp
  obtain ⟨f1, f2, f3, f4⟩ := allK_facts he
  obtain ⟨i, rfl, hi, fi⟩ := f3 x (List.mem_of_getElem? hx)
  obtain ⟨j, rfl, hj, fj⟩ := f3 y (List.mem_of_getElem? hy)
  obtain ⟨l1, e1⟩ := List.getElem?_eq_some_iff.1 hx
  obtain ⟨l2, e2⟩ := List.getElem?_eq_some_iff.1 hy
  have hne : i ≠ j := fun e => by
    subst e
    have := (List.pairwise_iff_getElem.1 f1) m (m + 1) l1 l2 (by omega)
    exact this (e1.trans e2.symm)
  have hlt := (List.pairwise_iff_getElem.1 f2) m (m + 1) l1 l2 (by omega)
  rw [e1, e2] at hlt
  unfold ltR at hlt
  rw [decide_eq_false_iff_not, Route.better_neg] at hlt
  rw [Int.toNat_natCast, Int.toNat_natCast] at hlt ⊢
  unfold fitsAt at fi fj
  have hb := Route.both_fit fi fj
  have hq : ¬ Route.Eqp (lAt L i) (lAt L j) := fun e => hne (hg.eq_of_alike hi hj (Route.alike_fit (hg.restLast hi) (hg.restLast hj) fi fj e))
  unfold Route.betterR
  rw [if_neg (by simp), if_neg (by simp), hb, if_neg (by simp), Route.better_of hlt hq]
theorem head_facts {L : List RtV} {p : List UInt8} (he : allE L p = 0) {i : Nat} (h : firstK L p = some i) : i < L.length ∧ fitsAt L p i = true ∧ (∀ j, j < L.length → fitsAt L p j = true → ¬ Route.Lx (lAt L j) (lAt L i)) ∧ findN L p = i ∧ ∃ r, L[i]? = some r := by
  obtain ⟨f1, f2, f3, f4⟩ := allK_facts he
  unfold firstK at h
  rw [if_neg (by simp [he])] at h
  rcases hk : allK L p with _ | ⟨x, xs⟩
  · rw [hk] at h; cases h
  · rw [hk] at h f2 f3 f4
    obtain ⟨i', rfl, hi, fi⟩ := f3 x (by simp)
    have hii : i' = i := by simpa [headK] using h
    subst hii
    refine ⟨hi, fi, fun j hj fj hlt => ?_, ?_, ⟨_, List.getElem?_eq_getElem hi⟩⟩
    · rcases List.mem_cons.1 (f4 j hj fj) with e | hm
      · have : j = i' := by omega
        subst this
        exact hlt.asymm hlt
      · have := (List.pairwise_cons.1 f2).1 _ hm
        unfold ltR at this
        rw [decide_eq_false_iff_not, Route.better_neg, Int.toNat_natCast, Int.toNat_natCast] at this
        exact this hlt
    · unfold findN
      rw [if_neg (by simp [he]), hk]
      rfl
theorem head_none {L : List RtV} {p : List UInt8} (he : allE L p = 0) (h : firstK L p = none) : (∀ j, j < L.length → fitsAt L p j = false) ∧ allK L p = [] ∧ findN L p = -1 := by
  obtain ⟨f1, f2, f3, f4⟩ := allK_facts he
  unfold firstK at h
  rw [if_neg (by simp [he])] at h
  rcases hk : allK L p with _ | ⟨x, xs⟩
  · refine ⟨fun j hj => ?_, rfl, ?_⟩
    · rcases hf : fitsAt L p j with _ | _
      · rfl
      · have := f4 j hj hf
        rw [hk] at this; simp at this
    · unfold findN
      rw [if_neg (by simp [he]), hk]
      rfl
  · rw [hk] at h; cases h
theorem fitsAt_of {L : List RtV} {p : List UInt8} {i : Nat} {r : RtV} (h : L[i]? = some r) : fitsAt L p i = (Route.fit (Dots.isOpen p) r.l (Dots.segments p)).isSome := by unfold fitsAt; rw [lAt_of h]
/-- Two lists with the same routes that fit: the same is found. -/
theorem first_same {A B : List RtV} {p : List UInt8} (hA : allE A p = 0) (hB : allE B p = 0) (hg : Good A)
    (hab : ∀ r ∈ A, (Route.fit (Dots.isOpen p) r.l (Dots.segments p)).isSome = true → ∃ r' ∈ B, r'.l = r.l) (hba : ∀ r ∈ B, (Route.fit (Dots.isOpen p) r.l (Dots.segments p)).isSome = true → ∃ r' ∈ A, r'.l = r.l) :
    (firstK A p = none ∧ firstK B p = none) ∨ ∃ i j r r', firstK A p = some i ∧ firstK B p = some j ∧ A[i]? = some r ∧ B[j]? = some r' ∧ r.l = r'.l := by
  rcases ha : firstK A p with _ | i
  · refine .inl ⟨rfl, ?_⟩
    obtain ⟨n1, _, _⟩ := head_none hA ha
    rcases hb : firstK B p with _ | j
    · rfl
    · obtain ⟨hj, fj, _, _, r, hr⟩ := head_facts hB hb
      rw [fitsAt_of hr] at fj
      obtain ⟨r', hr', e⟩ := hba r (List.mem_of_getElem? hr) fj
      obtain ⟨k, hk, e2⟩ := List.mem_iff_getElem.1 hr'
      have h2 : A[k]? = some r' := by rw [List.getElem?_eq_getElem hk, e2]
      have := n1 k hk
      rw [fitsAt_of h2, e, fj] at this
      cases this
  · obtain ⟨hi, fi, mi, _, r, hr⟩ := head_facts hA ha
    rw [fitsAt_of hr] at fi
    rcases hb : firstK B p with _ | j
    · exfalso
      obtain ⟨n1, _, _⟩ := head_none hB hb
      obtain ⟨r', hr', e⟩ := hab r (List.mem_of_getElem? hr) fi
      obtain ⟨k, hk, e2⟩ := List.mem_iff_getElem.1 hr'
      have h2 : B[k]? = some r' := by rw [List.getElem?_eq_getElem hk, e2]
      have := n1 k hk
      rw [fitsAt_of h2, e, fi] at this
      cases this
    · obtain ⟨hj, fj, mj, _, s, hs⟩ := head_facts hB hb
      rw [fitsAt_of hs] at fj
      refine .inr ⟨i, j, r, s, rfl, rfl, hr, hs, ?_⟩
      obtain ⟨s', hs', es⟩ := hba s (List.mem_of_getElem? hs) fj
      obtain ⟨k, hk, e2⟩ := List.mem_iff_getElem.1 hs'
      have h2 : A[k]? = some s' := by rw [List.getElem?_eq_getElem hk, e2]
      obtain ⟨r', hr', er⟩ := hab r (List.mem_of_getElem? hr) fi
      obtain ⟨m, hm, e3⟩ := List.mem_iff_getElem.1 hr'
      have h3 : B[m]? = some r' := by rw [List.getElem?_eq_getElem hm, e3]
      have n1 := mi k hk (by rw [fitsAt_of h2, es]; exact fj)
      have n2 := mj m hm (by rw [fitsAt_of h3, er]; exact fi)
      rw [lAt_of h2, lAt_of hr, es] at n1
      rw [lAt_of h3, lAt_of hs, er] at n2
      have hq : Route.Eqp r.l s.l := by
        rcases Route.not_lx n1 with e | e
        · exact e.symm
        · exact absurd e n2
      have hrl := hg.restLast hi
      have hsl := hg.restLast hk
      rw [lAt_of hr] at hrl
      rw [lAt_of h2, es] at hsl
      have hal := Route.alike_fit hrl hsl fi fj hq
      have hik : i = k := hg.eq_of_alike hi hk (by rw [lAt_of hr, lAt_of h2, es]; exact hal)
      subst hik
      rw [hr] at h2
      cases h2
      exact es
/-- A route of names alone is found for its own path. -/
theorem names_found {L : List RtV} {p : List UInt8} (hg : Good L) (hp : Dots.normal p = true) {i : Nat} {r : RtV} (hr : L[i]? = some r) (hk : ∀ s ∈ r.l, Route.kind s = 1) (hs : Dots.segments p = r.l) : firstK L p = some i := by
  have he := allE_ok (p := p) (by have := hg.len; omega) hg.ok hp
  have hi : i < L.length := (List.getElem?_eq_some_iff.1 hr).1
  have fi : fitsAt L p i = true := by rw [fitsAt_of hr, hs, Route.fit_names hk]; rfl
  rcases ha : firstK L p with _ | j
  · have := (head_none he ha).1 i hi
    rw [fi] at this; cases this
  · obtain ⟨hj, fj, mj, _, s, hsj⟩ := head_facts he ha
    have n1 := mj i hi fi
    rw [lAt_of hr, lAt_of hsj] at n1
    rw [fitsAt_of hsj, hs] at fj
    have n2 := Route.names_best hk fj
    rw [fitsAt_of hr, hs] at fi
    have hq : Route.Eqp r.l s.l := by
      rcases Route.not_lx n1 with e | e
      · exact e
      · exact absurd e n2
    have hrl := hg.restLast hi
    have hsl := hg.restLast hj
    rw [lAt_of hr] at hrl
    rw [lAt_of hsj] at hsl
    have hal := Route.alike_fit hrl hsl fi fj hq
    rw [hg.eq_of_alike hi hj (by rw [lAt_of hr, lAt_of hsj]; exact hal)]
end Go.Proofs.Ytefilalapkdegaa
