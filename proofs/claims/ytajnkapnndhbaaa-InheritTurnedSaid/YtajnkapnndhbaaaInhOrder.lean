/- Rule sets, plainly: each rule once, the rules of a directory together and in order; the same at another order of the directories. No program. -/
import Derived.Test.YtajnkapnndhbaaaInhPlain
namespace Go.Proofs.Ytajnkapnndhbaaa.Inh
open Mem

theorem own_get {L : List DirV} {d r : Nat} (h : r < rnOf L d) : (own L d)[r]? = some (d, r) := by unfold own; simp [h]
theorem own_mem {L : List DirV} {d : Nat} {s : Spot} (h : s ∈ own L d) : s.1 = d ∧ s.2 < rnOf L d := by
  unfold own at h
  obtain ⟨r, hr, rfl⟩ := List.mem_map.1 h
  exact ⟨rfl, by simpa using hr⟩
theorem own_nodup (L : List DirV) (d : Nat) : (own L d).Nodup := by
  unfold own
  refine List.Pairwise.map _ (fun a b h e => h ?_) List.nodup_range
  exact (Prod.mk.inj e).2

/-- What holds of a rule set's order. -/
structure Ord (L : List DirV) (S : List Spot) : Prop where
  nodup : S.Nodup
  lt : ∀ s ∈ S, s.1 < L.length ∧ s.2 < rnOf L s.1
  first : ∀ s, S[0]? = some s → s.2 = 0
  next : ∀ i s t, S[i]? = some t → S[i + 1]? = some s → (s.1 = t.1 → s.2 = t.2 + 1) ∧ (s.1 ≠ t.1 → s.2 = 0 ∧ t.2 + 1 = rnOf L t.1)
  last : ∀ i s, S[i]? = some s → i + 1 = S.length → s.2 + 1 = rnOf L s.1

theorem ord_flat (L : List DirV) : ∀ O : List Nat, O.Nodup → (∀ d ∈ O, d < L.length) → Ord L (O.flatMap (own L)) ∧ ∀ s ∈ O.flatMap (own L), s.1 ∈ O
  | [], _, _ => ⟨⟨by simp, by simp, by simp, by simp, by simp⟩, by simp⟩
  | d :: O, hn, hl => by
    obtain ⟨hd, hO⟩ := List.nodup_cons.1 hn
    obtain ⟨ih, im⟩ := ord_flat L O hO fun x hx => hl x (by simp [hx])
    obtain ⟨R, hR⟩ : ∃ R, R = O.flatMap (own L) := ⟨_, rfl⟩
    rw [← hR] at ih im
    rw [List.flatMap_cons, ← hR]
    obtain ⟨n, hN⟩ : ∃ n, n = rnOf L d := ⟨_, rfl⟩
    have hol : (own L d).length = n := by rw [own_length, hN]
    have lo : ∀ i, i < n → (own L d ++ R)[i]? = some (d, i) := fun i hi => by rw [List.getElem?_append_left (by omega)]; exact own_get (by omega)
    have hi : ∀ i, n ≤ i → (own L d ++ R)[i]? = R[i - n]? := fun i hi => by rw [List.getElem?_append_right (by omega), hol]
    have ne : ∀ s ∈ R, s.1 ≠ d := fun s hs e => hd (by rw [← e]; exact im s hs)
    refine ⟨⟨?_, ?_, ?_, ?_, ?_⟩, ?_⟩
    · rw [List.nodup_append]
      refine ⟨own_nodup L d, ih.nodup, fun a ha b hb e => ne b hb ?_⟩
      rw [← e]; exact (own_mem ha).1
    · intro s hs
      rcases List.mem_append.1 hs with h | h
      · have := own_mem h
        rw [this.1]
        exact ⟨hl d (by simp), this.2⟩
      · exact ih.lt s h
    · intro s hs
      by_cases h0 : 0 < n
      · rw [lo 0 h0] at hs; cases hs; rfl
      · rw [hi 0 (by omega)] at hs
        exact ih.first s (by simpa using hs)
    · intro i s t ht hs
      by_cases h1 : i + 1 < n
      · rw [lo i (by omega)] at ht
        rw [lo (i + 1) h1] at hs
        cases ht; cases hs
        exact ⟨fun _ => rfl, fun h => absurd rfl h⟩
      · rw [hi (i + 1) (by omega)] at hs
        by_cases h2 : i < n
        · rw [lo i h2] at ht
          cases ht
          rw [show i + 1 - n = 0 by omega] at hs
          have h3 := ne s (List.mem_of_getElem? hs)
          exact ⟨fun e => absurd e h3, fun _ => ⟨ih.first s hs, by show i + 1 = rnOf L d; omega⟩⟩
        · rw [hi i (by omega)] at ht
          rw [show i + 1 - n = (i - n) + 1 by omega] at hs
          exact ih.next (i - n) s t ht hs
    · intro i s hs hlen
      rw [List.length_append, hol] at hlen
      by_cases h2 : i < n
      · rw [lo i h2] at hs
        cases hs
        show i + 1 = rnOf L d
        omega
      · rw [hi i (by omega)] at hs
        exact ih.last (i - n) s hs (by omega)
    · intro s hs
      rcases List.mem_append.1 hs with h | h
      · rw [(own_mem h).1]; simp
      · simp [im s h]

theorem order_nodup (L : List DirV) : ∀ (C b z : List Nat), (b ++ z).Nodup → C.Nodup → (∀ x ∈ C, x ∉ b ++ z) →
    ((orderTo L C (b, z)).1 ++ (orderTo L C (b, z)).2).Nodup ∧ ∀ x ∈ (orderTo L C (b, z)).1 ++ (orderTo L C (b, z)).2, x ∈ b ++ z ∨ x ∈ C
  | [], b, z, h, _, _ => ⟨h, fun x hx => .inl hx⟩
  | d :: C, b, z, h, hC, hd => by
    obtain ⟨hdC, hC⟩ := List.nodup_cons.1 hC
    have hd0 := hd d (by simp)
    unfold orderTo
    split
    · have hp : (b ++ d :: z).Perm (d :: (b ++ z)) := List.perm_middle
      obtain ⟨h1, h2⟩ := order_nodup L C b (d :: z) (hp.nodup_iff.2 (List.nodup_cons.2 ⟨hd0, h⟩)) hC fun x hx hm => by
        rcases List.mem_cons.1 (hp.mem_iff.1 hm) with e | e
        · subst e; exact hdC hx
        · exact hd x (by simp [hx]) e
      refine ⟨h1, fun x hx => ?_⟩
      rcases h2 x hx with e | e
      · rcases List.mem_cons.1 (hp.mem_iff.1 e) with e | e
        · subst e; right; simp
        · left; exact e
      · right; simp [e]
    · have hp : ((b ++ [d]) ++ z).Perm (d :: (b ++ z)) := by rw [List.append_assoc]; exact List.perm_middle
      have hn := hp.nodup_iff.2 (List.nodup_cons.2 ⟨hd0, h⟩)
      split
      · obtain ⟨h1, h2⟩ := order_nodup L C (b ++ [d]) z hn hC fun x hx hm => by
          rcases List.mem_cons.1 (hp.mem_iff.1 hm) with e | e
          · subst e; exact hdC hx
          · exact hd x (by simp [hx]) e
        refine ⟨h1, fun x hx => ?_⟩
        rcases h2 x hx with e | e
        · rcases List.mem_cons.1 (hp.mem_iff.1 e) with e | e
          · subst e; right; simp
          · left; exact e
        · right; simp [e]
      · refine ⟨hn, fun x hx => ?_⟩
        rcases List.mem_cons.1 (hp.mem_iff.1 hx) with e | e
        · subst e; right; simp
        · left; exact e

theorem chain_down {L : List DirV} (h : Valid L) : ∀ (n : Nat) (d : Int), d < L.length → up L d ≤ n → (chain L d).Pairwise (fun x y => plen L y < plen L x) ∧ (∀ x ∈ chain L d, plen L x < up L d ∧ x < L.length)
  | n, d, hd, hn => by
    by_cases hneg : d < 0
    · rw [chain_neg L hneg]; simp
    · obtain ⟨k, rfl⟩ : ∃ k : Nat, d = k := ⟨d.toNat, by omega⟩
      have hk : k < L.length := by omega
      have hu := up_less h hk
      have hup : up L k = plen L k + 1 := by unfold up; rw [if_neg (by omega), Int.toNat_natCast]
      rw [chain_step h hk]
      cases n with
      | zero => omega
      | succ n =>
        obtain ⟨h1, h2⟩ := chain_down h n (above L k) (above_range L k).2 (by omega)
        refine ⟨List.pairwise_cons.2 ⟨fun x hx => by have := (h2 x hx).1; omega, h1⟩, fun x hx => ?_⟩
        rcases List.mem_cons.1 hx with e | e
        · subst e; exact ⟨by omega, hk⟩
        · have := h2 x e; exact ⟨by omega, this.2⟩
theorem chain_nodup {L : List DirV} (h : Valid L) {d : Int} (hd : d < L.length) : (chain L d).Nodup := by
  refine (chain_down h (up L d) d hd (Nat.le_refl _)).1.imp fun {a b} hab e => ?_
  subst e; omega

theorem set_ord {L : List DirV} (h : Valid L) {d : Int} (hd : d < L.length) : Ord L (set L d) := by
  unfold set
  have ho := order_set L (chain L d) [] []
  have hn := order_nodup L (chain L d) [] [] (by simp) (chain_nodup h hd) (by simp)
  simp only [List.flatMap_nil, List.nil_append, List.append_nil] at ho
  rw [← ho]
  refine (ord_flat L _ hn.1 fun x hx => ?_).1
  rcases hn.2 x hx with e | e
  · simp at e
  · exact ((chain_down h (up L d) d hd (Nat.le_refl _)).2 x e).2
theorem all_ord (L : List DirV) : Ord L (all L) := (ord_flat L _ List.nodup_range fun x hx => by simpa using hx).1

/-! ### Another order of the directories -/
theorem deep_spec (L : List DirV) (f : Nat → Bool) : ∀ k : Nat, (deepTo L f k = -1 ∧ ∀ i, i < k → f i = false) ∨ ∃ j : Nat, j < k ∧ deepTo L f k = j ∧ f j = true ∧ ∀ i, i < k → f i = true → plen L i ≤ plen L j
  | 0 => .inl ⟨rfl, by omega⟩
  | k + 1 => by
    unfold deepTo
    rcases deep_spec L f k with ⟨h1, h2⟩ | ⟨j, h1, h2, h3, h4⟩
    · rw [h1]
      rcases hf : f k with _ | _
      · left
        refine ⟨by simp, fun i hi => ?_⟩
        rcases Nat.lt_or_ge i k with h | h
        · exact h2 i h
        · rw [show i = k by omega]; exact hf
      · right
        refine ⟨k, by omega, by simp, hf, fun i hi hfi => ?_⟩
        rcases Nat.lt_or_ge i k with h | h
        · rw [h2 i h] at hfi; cases hfi
        · rw [show i = k by omega]; exact Nat.le_refl _
    · rw [h2]
      right
      by_cases hc : f k = true ∧ plen L j < plen L k
      · refine ⟨k, by omega, by simp [hc.1, hc.2], hc.1, fun i hi hfi => ?_⟩
        rcases Nat.lt_or_ge i k with h | h
        · have := h4 i h hfi; omega
        · rw [show i = k by omega]; exact Nat.le_refl _
      · refine ⟨j, by omega, ?_, h3, fun i hi hfi => ?_⟩
        · rw [if_neg]
          intro hh
          simp at hh
          exact hc ⟨hh.1, by omega⟩
        · rcases Nat.lt_or_ge i k with h | h
          · exact h4 i h hfi
          · obtain rfl : i = k := by omega
            have : ¬ plen L j < plen L i := fun e => hc ⟨hfi, e⟩
            omega

/-- Directory i of M is directory q i of L. -/
structure Turn (M L : List DirV) (q : Nat → Nat) : Prop where
  len : M.length = L.length
  lt : ∀ i, i < L.length → q i < L.length
  get : ∀ i, i < L.length → M[i]? = L[q i]?
  inj : ∀ i j, i < L.length → j < L.length → q i = q j → i = j
  onto : ∀ k, k < L.length → ∃ i, i < L.length ∧ q i = k
section
variable {M L : List DirV} {q : Nat → Nat} (t : Turn M L q)
  include t
theorem Turn.path {i : Nat} (h : i < L.length) : pathOf M i = pathOf L (q i) := by unfold pathOf; rw [t.get i h]
theorem Turn.plen {i : Nat} (h : i < L.length) : plen M i = plen L (q i) := by unfold Inh.plen; rw [t.path h]
theorem Turn.mode {i : Nat} (h : i < L.length) : modeOf M i = modeOf L (q i) := by unfold modeOf; rw [t.get i h]
theorem Turn.rn {i : Nat} (h : i < L.length) : rnOf M i = rnOf L (q i) := by unfold rnOf; rw [t.get i h]
theorem Turn.deepest {f' f : Nat → Bool} (hf : ∀ i, i < L.length → f' i = f (q i)) (hu : ∀ i j, i < L.length → j < L.length → f i = true → f j = true → Inh.plen L i = Inh.plen L j → i = j) :
    (deepest M f' = -1 ∧ deepest L f = -1) ∨ ∃ j : Nat, j < L.length ∧ deepest M f' = j ∧ deepest L f = (q j : Nat) := by
  unfold Inh.deepest
  rw [t.len]
  rcases deep_spec M f' L.length with ⟨h1, h2⟩ | ⟨j, h1, h2, h3, h4⟩
  · left
    refine ⟨h1, ?_⟩
    rcases deep_spec L f L.length with ⟨g1, g2⟩ | ⟨k, g1, g2, g3, g4⟩
    · exact g1
    · obtain ⟨i, hi, rfl⟩ := t.onto k g1
      rw [← hf i hi, h2 i hi] at g3
      cases g3
  · right
    refine ⟨j, h1, h2, ?_⟩
    have hfj : f (q j) = true := by rw [← hf j h1]; exact h3
    rcases deep_spec L f L.length with ⟨g1, g2⟩ | ⟨k, g1, g2, g3, g4⟩
    · rw [g2 _ (t.lt j h1)] at hfj; cases hfj
    · obtain ⟨i, hi, rfl⟩ := t.onto k g1
      have a1 := g4 _ (t.lt j h1) hfj
      have a2 := h4 i hi (by rw [hf i hi]; exact g3)
      rw [t.plen hi, t.plen h1] at a2
      rw [g2, hu (q i) (q j) (t.lt i hi) (t.lt j h1) g3 hfj (by omega)]
end

/-- Two directories of the same length that a path is under are the same. -/
theorem under_prefix {p d : Bs} (h : under p d = true) : d.isPrefixOf p = true := by
  unfold under Dots.under at h
  split at h
  · rename_i hc
    simp only [Bool.and_eq_true] at hc
    simp only at h
    unfold Dots.underB at h
    simp only [Bool.or_eq_true, beq_iff_eq] at h
    have hn := hc.1
    rcases h with (h | h) | h
    · subst h
      have hp : Dots.isPath p = true := by unfold Dots.normal at hn; simp only [Bool.and_eq_true] at hn; exact hn.1.1
      unfold Dots.isPath at hp
      rcases p with _ | ⟨a, t⟩
      · simp at hp
      · simp at hp; subst hp; rfl
    · subst h; rw [List.isPrefixOf_iff_prefix]; exact List.prefix_refl _
    · rw [List.isPrefixOf_iff_prefix] at h ⊢
      exact (List.prefix_append d [47]).trans h
  · cases h
theorem under_same {p d e : Bs} (h : under p d = true) (h2 : under p e = true) (hl : d.length = e.length) : d = e := by
  have h := List.isPrefixOf_iff_prefix.1 (under_prefix h)
  have h2 := List.isPrefixOf_iff_prefix.1 (under_prefix h2)
  rw [List.prefix_iff_eq_take.1 h, List.prefix_iff_eq_take.1 h2, hl]

section
variable {M L : List DirV} {q : Nat → Nat} (t : Turn M L q) (hL : Valid L) (hM : Valid M)
  include t hL
theorem Turn.find (p : Bs) : (find M p = -1 ∧ Inh.find L p = -1) ∨ ∃ j : Nat, j < L.length ∧ Inh.find M p = j ∧ Inh.find L p = (q j : Nat) := by
  unfold Inh.find
  refine t.deepest (fun i hi => by unfold findF; rw [t.path hi]) fun i j hi hj h1 h2 hl => ?_
  exact Classical.byContradiction fun hne => valid_differ hL hi hj hne (under_same h1 h2 hl)
theorem Turn.above {d : Nat} (hd : d < L.length) : (above M d = -1 ∧ Inh.above L (q d) = -1) ∨ ∃ j : Nat, j < L.length ∧ Inh.above M d = j ∧ Inh.above L (q d) = (q j : Nat) := by
  unfold Inh.above
  refine t.deepest (fun i hi => ?_) fun i j hi hj h1 h2 hl => ?_
  · unfold aboveF
    rw [t.path hd, t.path hi]
    congr 2
    exact decide_eq_decide.2 ⟨fun e => by rw [e], fun e => t.inj i d hi hd e⟩
  · unfold aboveF at h1 h2
    simp only [Bool.and_eq_true] at h1 h2
    exact Classical.byContradiction fun hne => valid_differ hL hi hj hne (under_same h1.1 h2.1 hl)
  include hM
theorem Turn.chain : ∀ (n d : Nat), d < L.length → up M d ≤ n → chain L (q d : Nat) = (chain M d).map q
  | n, d, hd, hn => by
    have hdM : d < M.length := by rw [t.len]; exact hd
    rw [chain_step hL (t.lt d hd), chain_step hM hdM, List.map_cons]
    congr 1
    have hu := up_less hM hdM
    rcases t.above hL hd with ⟨h1, h2⟩ | ⟨j, hj, h1, h2⟩
    · rw [h1, h2, chain_neg _ (by omega), chain_neg _ (by omega)]; rfl
    · rw [h1] at hu
      rw [h1, h2]
      cases n with
      | zero => omega
      | succ n => exact Turn.chain n j hj (by omega)
end
theorem Turn.setOf {M L : List DirV} {q : Nat → Nat} (t : Turn M L q) : ∀ C : List Nat, (∀ d ∈ C, d < L.length) → setOf L (C.map q) = (Inh.setOf M C).map fun s => (q s.1, s.2)
  | [], _ => rfl
  | d :: C, h => by
    have hd := h d (by simp)
    have ih := Turn.setOf t C fun x hx => h x (by simp [hx])
    have ho : own L (q d) = (own M d).map fun s => (q s.1, s.2) := by
      unfold own
      rw [List.map_map, t.rn hd]
      rfl
    rw [List.map_cons, Inh.setOf, Inh.setOf, t.mode hd, ih, ho]
    split
    · rw [List.map_append]
    · split
      · rw [List.map_append]
      · rfl
theorem Turn.rules {M L : List DirV} {q : Nat → Nat} (t : Turn M L q) (hL : Valid L) (hM : Valid M) (p : Bs) : ∃ S : List Spot, (if Inh.find M p < 0 then [] else Inh.set M (Inh.find M p)) = S ∧ (if Inh.find L p < 0 then [] else Inh.set L (Inh.find L p)) = S.map fun s => (q s.1, s.2) := by
  refine ⟨_, rfl, ?_⟩
  rcases t.find hL p with ⟨h1, h2⟩ | ⟨j, hj, h1, h2⟩
  · rw [h1, h2, if_pos (by omega), if_pos (by omega)]; rfl
  · rw [h1, h2, if_neg (by omega), if_neg (by omega)]
    unfold Inh.set
    rw [t.chain hL hM _ j hj (Nat.le_refl _)]
    refine t.setOf _ fun d hd => ?_
    have := ((chain_down hM (up M j) j (by rw [t.len]; omega) (Nat.le_refl _)).2 d hd).2
    rw [t.len] at this
    exact this

/-- Turned round: from directory k on, then those before it. -/
theorem turn_of (L : List DirV) (k : Nat) (hk : k < L.length) : Turn (L.drop k ++ L.take k) L (fun i => (i + k) % L.length) := by
  have hmod : ∀ i, i < L.length → (i < L.length - k → (i + k) % L.length = i + k) ∧ (¬ i < L.length - k → (i + k) % L.length = i + k - L.length) := fun i hi =>
    ⟨fun h => Nat.mod_eq_of_lt (by omega), fun h => by rw [Nat.mod_eq_sub_mod (by omega), Nat.mod_eq_of_lt (by omega)]⟩
  refine ⟨by simp; omega, fun i hi => Nat.mod_lt _ (by omega), fun i hi => ?_, fun i j hi hj e => ?_, fun x hx => ?_⟩
  · by_cases h : i < L.length - k
    · rw [List.getElem?_append_left (by simp; omega), List.getElem?_drop, (hmod i hi).1 h, Nat.add_comm]
    · rw [List.getElem?_append_right (by simp; omega), List.length_drop, List.getElem?_take, if_pos (by omega), (hmod i hi).2 h]
      congr 1
      omega
  · by_cases h1 : i < L.length - k <;> by_cases h2 : j < L.length - k
    · rw [(hmod i hi).1 h1, (hmod j hj).1 h2] at e; omega
    · rw [(hmod i hi).1 h1, (hmod j hj).2 h2] at e; omega
    · rw [(hmod i hi).2 h1, (hmod j hj).1 h2] at e; omega
    · rw [(hmod i hi).2 h1, (hmod j hj).2 h2] at e; omega
  · by_cases h : k ≤ x
    · exact ⟨x - k, by omega, by rw [(hmod (x - k) (by omega)).1 (by omega)]; omega⟩
    · exact ⟨x + L.length - k, by omega, by rw [(hmod (x + L.length - k) (by omega)).2 (by omega)]; omega⟩

end Go.Proofs.Ytajnkapnndhbaaa.Inh
