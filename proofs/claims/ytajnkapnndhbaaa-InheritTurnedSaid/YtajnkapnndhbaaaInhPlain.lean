/- Directories, plainly: which are valid, the deepest one that is something, the chain upwards, rule sets. No program. -/
import Derived.Test.YtajnkapnndhbaaaDirs
import Derived.Test.YtajnkapnndhbaaaDotsMore
namespace Go.Proofs.Ytajnkapnndhbaaa.Inh
open Mem
abbrev Bs := List UInt8

def pathOf (L : List DirV) (i : Nat) : Bs := ((L[i]?).map (·.path)).getD []
def plen (L : List DirV) (i : Nat) : Nat := (pathOf L i).length
def modeOf (L : List DirV) (i : Nat) : Int := ((L[i]?).map (·.mode)).getD 0
def rnOf (L : List DirV) (i : Nat) : Nat := ((L[i]?).map (·.rn)).getD 0

section
variable {L : List DirV} {i : Nat} {d : DirV}
theorem pathOf_get (h : L[i]? = some d) : pathOf L i = d.path := by unfold pathOf; rw [h]; rfl
theorem plen_get (h : L[i]? = some d) : plen L i = d.path.length := by unfold plen; rw [pathOf_get h]
theorem modeOf_get (h : L[i]? = some d) : modeOf L i = d.mode := by unfold modeOf; rw [h]; rfl
theorem rnOf_get (h : L[i]? = some d) : rnOf L i = d.rn := by unfold rnOf; rw [h]; rfl
end

/-- The first k directories: the deepest one that is something; -1 if there is none. -/
def deepTo (L : List DirV) (f : Nat → Bool) : Nat → Int
  | 0 => -1
  | k + 1 => if f k && (decide (deepTo L f k < 0) || decide (plen L (deepTo L f k).toNat < plen L k)) then (k : Int) else deepTo L f k
def deepest (L : List DirV) (f : Nat → Bool) : Int := deepTo L f L.length

theorem deepTo_range (L : List DirV) (f : Nat → Bool) : ∀ k : Nat, -1 ≤ deepTo L f k ∧ deepTo L f k < (k : Int)
  | 0 => by simp [deepTo]
  | k + 1 => by
    have := deepTo_range L f k
    unfold deepTo
    split
    · omega
    · omega
theorem deepTo_true (L : List DirV) (f : Nat → Bool) : ∀ k : Nat, 0 ≤ deepTo L f k → f (deepTo L f k).toNat = true
  | 0, h => by simp [deepTo] at h
  | k + 1, h => by
    by_cases hc : (f k && (decide (deepTo L f k < 0) || decide (plen L (deepTo L f k).toNat < plen L k))) = true
    · have : deepTo L f (k + 1) = (k : Int) := by rw [deepTo, if_pos hc]
      rw [this]
      simp only [Bool.and_eq_true] at hc
      exact hc.1
    · have : deepTo L f (k + 1) = deepTo L f k := by rw [deepTo, if_neg hc]
      rw [this] at h ⊢
      exact deepTo_true L f k h
theorem deepTo_congr (L : List DirV) {f g : Nat → Bool} : ∀ {k : Nat}, (∀ i, i < k → f i = g i) → deepTo L f k = deepTo L g k
  | 0, _ => rfl
  | k + 1, h => by
    have := deepTo_congr L (f := f) (g := g) (k := k) fun i hi => h i (by omega)
    unfold deepTo
    rw [this, h k (by omega)]

def under (p d : Bs) : Bool := (Dots.under p d).1
def findF (L : List DirV) (p : Bs) (i : Nat) : Bool := under p (pathOf L i)
def find (L : List DirV) (p : Bs) : Int := deepest L (findF L p)
def aboveF (L : List DirV) (d i : Nat) : Bool := under (pathOf L d) (pathOf L i) && !decide (i = d)
def above (L : List DirV) (d : Nat) : Int := deepest L (aboveF L d)

theorem find_range (L : List DirV) (p : Bs) : -1 ≤ find L p ∧ find L p < L.length := deepTo_range L _ _
theorem above_range (L : List DirV) (d : Nat) : -1 ≤ above L d ∧ above L d < L.length := deepTo_range L _ _

/-! ### Validity -/
/-- The error of directory i, given those before it; 0 if there is none. -/
def badAt (L : List DirV) (i : Nat) : Int :=
  if Dots.directory (pathOf L i) = false then 11 else if (L.take i).any (fun x => x.path == pathOf L i) = true then 7 else if modeOf L i < 0 ∨ 2 < modeOf L i then 10 else 0
def total (L : List DirV) : Nat := (L.map (·.rn)).sum
def firstBad (L : List DirV) : Nat → Option Nat
  | 0 => none
  | k + 1 => match firstBad L k with | some i => some i | none => if badAt L k = 0 then none else some k
def check (L : List DirV) : Int × Int :=
  if 8 < L.length then (5, 0) else match firstBad L L.length with
    | some i => (badAt L i, i)
    | none => if 64 < total L then (5, 0) else (0, 0)

theorem firstBad_none (L : List DirV) : ∀ k, (∀ j, j < k → badAt L j = 0) → firstBad L k = none
  | 0, _ => rfl
  | k + 1, h => by unfold firstBad; rw [firstBad_none L k fun j hj => h j (by omega)]; simp [h k (by omega)]
theorem firstBad_some (L : List DirV) : ∀ k i, i < k → (∀ j, j < i → badAt L j = 0) → badAt L i ≠ 0 → firstBad L k = some i
  | 0, i, h, _, _ => by omega
  | k + 1, i, h, h1, h2 => by
    unfold firstBad
    rcases Nat.lt_or_ge i k with hik | hik
    · rw [firstBad_some L k i hik h1 h2]
    · obtain rfl : i = k := by omega
      rw [firstBad_none L i h1]
      simp [h2]
theorem firstBad_inv (L : List DirV) : ∀ k, firstBad L k = none → ∀ j, j < k → badAt L j = 0
  | 0, _, j, h => by omega
  | k + 1, h, j, hj => by
    unfold firstBad at h
    cases hf : firstBad L k with
    | some i => rw [hf] at h; cases h
    | none =>
      rw [hf] at h
      by_cases hb : badAt L k = 0
      · rcases Nat.lt_or_ge j k with h1 | h1
        · exact firstBad_inv L k hf j h1
        · obtain rfl : j = k := by omega
          exact hb
      · simp [hb] at h

theorem check_many {L : List DirV} (h : 8 < L.length) : check L = (5, 0) := by unfold check; rw [if_pos h]
theorem check_bad {L : List DirV} {i : Nat} (h : L.length ≤ 8) (hi : i < L.length) (h1 : ∀ j, j < i → badAt L j = 0) (h2 : badAt L i ≠ 0) : check L = (badAt L i, (i : Int)) := by
  unfold check; rw [if_neg (by omega), firstBad_some L _ i hi h1 h2]
theorem check_end {L : List DirV} (h : L.length ≤ 8) (h1 : ∀ j, j < L.length → badAt L j = 0) : check L = (if 64 < total L then 5 else 0, 0) := by
  unfold check; rw [if_neg (by omega), firstBad_none L _ h1]
  simp only
  split <;> rfl

/-- Valid directories. -/
def Valid (L : List DirV) : Prop := (check L).1 = 0
theorem badAt_name (L : List DirV) {i : Nat} (h : Dots.directory (pathOf L i) = false) : badAt L i = 11 := by unfold badAt; rw [if_pos h]
theorem badAt_same (L : List DirV) {i : Nat} (h : Dots.directory (pathOf L i) = true) (h2 : (L.take i).any (fun x => x.path == pathOf L i) = true) : badAt L i = 7 := by unfold badAt; rw [h, if_neg (by simp), if_pos h2]
theorem badAt_rest (L : List DirV) {i : Nat} (h : Dots.directory (pathOf L i) = true) (h2 : (L.take i).any (fun x => x.path == pathOf L i) = false) : badAt L i = if modeOf L i < 0 ∨ 2 < modeOf L i then 10 else 0 := by
  unfold badAt; rw [h, if_neg (by simp), h2, if_neg (by simp)]
theorem badAt_ok {L : List DirV} {i : Nat} (h : badAt L i = 0) : Dots.directory (pathOf L i) = true ∧ (L.take i).any (fun x => x.path == pathOf L i) = false ∧ 0 ≤ modeOf L i ∧ modeOf L i ≤ 2 := by
  rcases h1 : Dots.directory (pathOf L i) with _ | _
  · rw [badAt_name L h1] at h; cases h
  · rcases h2 : (L.take i).any (fun x => x.path == pathOf L i) with _ | _
    · rw [badAt_rest L h1 h2] at h
      split at h
      · cases h
      · exact ⟨rfl, rfl, by omega, by omega⟩
    · rw [badAt_same L h1 h2] at h; cases h

theorem valid_parts {L : List DirV} (h : Valid L) : L.length ≤ 8 ∧ (∀ j, j < L.length → badAt L j = 0) ∧ total L ≤ 64 := by
  unfold Valid at h
  by_cases h8 : 8 < L.length
  · rw [check_many h8] at h; cases h
  · have h8' : L.length ≤ 8 := by omega
    cases hf : firstBad L L.length with
    | some i =>
      unfold check at h
      rw [if_neg h8, hf] at h
      simp only at h
      exfalso
      have : ∀ k i, firstBad L k = some i → badAt L i ≠ 0 := by
        intro k
        induction k with
        | zero => intro i h; cases h
        | succ k ih =>
          intro i h
          unfold firstBad at h
          cases hk : firstBad L k with
          | some j => rw [hk] at h; cases h; exact ih _ hk
          | none =>
            rw [hk] at h
            simp only at h
            split at h
            · cases h
            · cases h; assumption
      exact this _ _ hf h
    | none =>
      have hall := firstBad_inv L _ hf
      refine ⟨h8', hall, ?_⟩
      rw [check_end h8' hall] at h
      simp only at h
      split at h
      · cases h
      · omega

theorem pathOf_mem {L : List DirV} {i : Nat} (h : i < L.length) : ∃ d ∈ L, d.path = pathOf L i ∧ L[i]? = some d := by
  refine ⟨L[i], List.getElem_mem _, ?_, List.getElem?_eq_getElem h⟩
  rw [pathOf_get (List.getElem?_eq_getElem h)]

/-- The paths of valid directories differ. -/
theorem valid_apart {L : List DirV} (h : Valid L) {i j : Nat} (hi : i < j) (hj : j < L.length) : pathOf L i ≠ pathOf L j := by
  obtain ⟨_, hb, _⟩ := valid_parts h
  obtain ⟨_, h2, _⟩ := badAt_ok (hb j hj)
  intro e
  rw [List.any_eq_false] at h2
  have hm : L[i] ∈ L.take j := by
    rw [List.mem_take_iff_getElem]
    exact ⟨i, by omega, rfl⟩
  have := h2 _ hm
  rw [pathOf_get (List.getElem?_eq_getElem (by omega))] at e
  simp [e] at this
theorem valid_differ {L : List DirV} (h : Valid L) {i j : Nat} (hi : i < L.length) (hj : j < L.length) (hne : i ≠ j) : pathOf L i ≠ pathOf L j := by
  rcases Nat.lt_or_ge i j with h1 | h1
  · exact valid_apart h h1 hj
  · exact fun e => valid_apart h (show j < i by omega) hi e.symm

theorem valid_dir {L : List DirV} (h : Valid L) {i : Nat} (hi : i < L.length) : Dots.directory (pathOf L i) = true ∧ plen L i ≤ 128 ∧ 1 ≤ plen L i := by
  have := (badAt_ok ((valid_parts h).2.1 i hi)).1
  refine ⟨this, ?_⟩
  unfold Dots.directory at this
  simp only [Bool.and_eq_true] at this
  have hn := this.1
  unfold Dots.normal at hn
  simp only [Bool.and_eq_true, decide_eq_true_eq] at hn
  refine ⟨hn.1.2, ?_⟩
  have hp := hn.1.1
  unfold Dots.isPath at hp
  unfold plen
  cases hx : pathOf L i with
  | nil => rw [hx] at hp; simp at hp
  | cons a t => simp

/-- Under a directory that is another path: a longer one. -/
theorem under_longer {p d : Bs} (h : under p d = true) (hne : p ≠ d) (hd : 1 ≤ d.length) : d.length < p.length := by
  unfold under Dots.under at h
  split at h
  · rename_i hc
    simp only [Bool.and_eq_true] at hc
    simp only at h
    unfold Dots.underB at h
    simp only [Bool.or_eq_true, beq_iff_eq] at h
    have hn := hc.1
    rcases h with (h | h) | h
    · subst h
      have hp : Dots.isPath p = true := by unfold Dots.normal at hn; simp only [Bool.and_eq_true] at hn; exact hn.1.1
      unfold Dots.isPath at hp
      rcases p with _ | ⟨a, _ | ⟨b, t⟩⟩
      · simp at hp
      · simp at hp; subst hp; exact absurd rfl hne
      · simp
    · exact absurd h hne
    · have := (List.isPrefixOf_iff_prefix.1 h).length_le
      simp at this
      omega
  · cases h

theorem above_shorter {L : List DirV} (h : Valid L) {d : Nat} (hd : d < L.length) (ha : 0 ≤ above L d) : (above L d).toNat < L.length ∧ plen L (above L d).toNat < plen L d := by
  have hr := above_range L d
  have ht := deepTo_true L (aboveF L d) L.length ha
  have hlt : (above L d).toNat < L.length := by omega
  refine ⟨hlt, ?_⟩
  unfold aboveF at ht
  simp only [Bool.and_eq_true, Bool.not_eq_true', decide_eq_false_iff_not] at ht
  exact under_longer ht.1 (valid_differ h hd hlt (fun e => ht.2 e.symm)) (valid_dir h hlt).2.2

/-! ### The chain upwards, the rule sets -/
def chainN (L : List DirV) : Nat → Int → List Nat
  | 0, _ => []
  | n + 1, d => if d < 0 then [] else d.toNat :: chainN L n (above L d.toNat)
def chain (L : List DirV) (d : Int) : List Nat := chainN L 200 d

theorem chainN_more {L : List DirV} (h : Valid L) : ∀ (n m : Nat) (d : Int), d < L.length → plen L d.toNat < n → plen L d.toNat < m → chainN L n d = chainN L m d
  | 0, _, _, _, h1, _ => by omega
  | _, 0, _, _, _, h2 => by omega
  | n + 1, m + 1, d, hd, h1, h2 => by
    unfold chainN
    by_cases hneg : d < 0
    · rw [if_pos hneg, if_pos hneg]
    · rw [if_neg hneg, if_neg hneg]
      congr 1
      have hr := above_range L d.toNat
      by_cases ha : 0 ≤ above L d.toNat
      · have := above_shorter h (by omega) ha
        exact chainN_more h n m _ (by omega) (by omega) (by omega)
      · have : ∀ k, chainN L k (above L d.toNat) = [] := by intro k; cases k <;> unfold chainN; · rfl
                                                            · rw [if_pos (by omega)]
        rw [this, this]
theorem chainN_succ (L : List DirV) (n : Nat) (d : Int) : chainN L (n + 1) d = if d < 0 then [] else d.toNat :: chainN L n (above L d.toNat) := rfl
theorem chainN_neg (L : List DirV) (n : Nat) {d : Int} (h : d < 0) : chainN L n d = [] := by cases n <;> simp [chainN, h]
theorem chain_neg (L : List DirV) {d : Int} (h : d < 0) : chain L d = [] := chainN_neg L 200 h
theorem chainN_step {L : List DirV} (h : Valid L) {d : Nat} (hd : d < L.length) (n : Nat) (hn : 150 ≤ n) : chainN L (n + 1) d = d :: chainN L (n + 1) (above L d) := by
  have hp := valid_dir h hd
  rw [chainN_succ L n d, if_neg (by omega)]
  congr 1
  have hr := above_range L d
  show chainN L n (above L d) = _
  by_cases ha : 0 ≤ above L d
  · have := above_shorter h hd ha
    exact chainN_more h n (n + 1) _ (by omega) (by omega) (by omega)
  · rw [chainN_neg L n (by omega), chainN_neg L (n + 1) (by omega)]
theorem chain_step {L : List DirV} (h : Valid L) {d : Nat} (hd : d < L.length) : chain L d = d :: chain L (above L d) := chainN_step h hd 199 (by omega)

/-- A measure that the chain lowers. -/
def up (L : List DirV) (d : Int) : Nat := if d < 0 then 0 else plen L d.toNat + 1
theorem up_less {L : List DirV} (h : Valid L) {d : Nat} (hd : d < L.length) : up L (above L d) < up L d := by
  unfold up
  rw [if_neg (show ¬ (d : Int) < 0 by omega)]
  split
  · omega
  · have := above_shorter h hd (by omega)
    simp only [Int.toNat_natCast]
    omega
theorem chain_length {L : List DirV} (h : Valid L) : ∀ (n : Nat) (d : Int), d < L.length → up L d ≤ n → (chain L d).length ≤ n
  | n, d, hd, hn => by
    by_cases hneg : d < 0
    · rw [chain_neg L hneg]; simp
    · obtain ⟨k, rfl⟩ : ∃ k : Nat, d = k := ⟨d.toNat, by omega⟩
      have hk : k < L.length := by omega
      have hu := up_less h hk
      cases n with
      | zero => omega
      | succ n =>
        rw [chain_step h hk]
        have := chain_length h n (above L k) (above_range L k).2 (by omega)
        simp; omega

abbrev Spot := Nat × Nat
def own (L : List DirV) (d : Nat) : List Spot := (List.range (rnOf L d)).map fun r => (d, r)
/-- The rule set of the chain upwards. -/
def setOf (L : List DirV) : List Nat → List Spot
  | [] => []
  | d :: t => if modeOf L d = 1 then setOf L t ++ own L d else if modeOf L d = 2 then own L d ++ setOf L t else own L d
def set (L : List DirV) (d : Int) : List Spot := setOf L (chain L d)
def all (L : List DirV) : List Spot := (List.range L.length).flatMap (own L)

theorem own_length (L : List DirV) (d : Nat) : (own L d).length = rnOf L d := by unfold own; simp

/-- The order in which the directories of a chain give their rules: those before, those behind. -/
def orderTo (L : List DirV) : List Nat → List Nat × List Nat → List Nat × List Nat
  | [], x => x
  | d :: t, (b, z) => if modeOf L d = 1 then orderTo L t (b, d :: z) else if modeOf L d = 2 then orderTo L t (b ++ [d], z) else (b ++ [d], z)
theorem order_set (L : List DirV) : ∀ (c : List Nat) (b z : List Nat), ((orderTo L c (b, z)).1 ++ (orderTo L c (b, z)).2).flatMap (own L) = b.flatMap (own L) ++ setOf L c ++ z.flatMap (own L)
  | [], b, z => by simp [orderTo, setOf]
  | d :: t, b, z => by
    unfold orderTo setOf
    split
    · rw [order_set L t]; simp
    · split
      · rw [order_set L t]; simp
      · simp

end Go.Proofs.Ytajnkapnndhbaaa.Inh
