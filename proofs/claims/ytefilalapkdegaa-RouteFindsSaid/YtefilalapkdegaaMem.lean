/- Words for memory: a slice value that reads as a list, wherever it lies; what keeps it. -/
import Derived.Below
import Derived.Laws.OwnMore
import Derived.Laws.Rows
import Derived.WalkSmall
namespace Go.Proofs.Ytefilalapkdegaa.Mem
open Go.RowKit

/-- The slice's address a and its n elements (sz cells each) read as the cells cs; nil and empty let in. -/
structure Rd (w : World) (sz : Nat) (a : Option Addr) (n : Nat) (cs : List Value) : Prop where
  len : cs.length = n * sz
  get : 0 < n → ∃ ad : Addr, a = some ad ∧ ad.block < w.heap.size ∧ ∀ j u, cs[j]? = some u → w.cell? (ad.add j) = some u

theorem add_block (a : Addr) (k : Nat) : (a.add k).block = a.block := by
  unfold Addr.add; split <;> rfl
theorem add_twice (a : Addr) (i j : Nat) : (a.add i).add j = a.add (i + j) := by
  unfold Addr.add
  by_cases hi : i = 0 <;> by_cases hj : j = 0 <;> simp [hi, hj, Nat.add_assoc]
theorem add_flat (b o k : Nat) : (⟨b, o, none⟩ : Addr).add k = ⟨b, o + k, none⟩ := by
  unfold Addr.add; split <;> simp_all

section
variable {w w' : World} {sz n : Nat} {a : Option Addr} {cs : List Value}

theorem Rd.nil (w : World) (sz : Nat) (a : Option Addr) : Rd w sz a 0 [] := ⟨by simp, fun h => absurd h (by omega)⟩

theorem Rd.keep (h : Rd w sz a n cs) (hs : w.heap.size ≤ w'.heap.size) (hk : ∀ ad : Addr, a = some ad → 0 < n → ad.block < w.heap.size → w'.heap[ad.block]? = w.heap[ad.block]?) : Rd w' sz a n cs :=
  ⟨h.len, fun hn => by
    obtain ⟨ad, e, hb, hc⟩ := h.get hn
    refine ⟨ad, e, by omega, fun j u hu => ?_⟩
    rw [← hc j u hu]
    refine World.cell?_of_block (w := w) ?_
    rw [add_block]; exact hk ad e hn hb⟩

theorem Rd.below (h : Rd w sz a n cs) (hb : Below w.heap.size w w') : Rd w' sz a n cs := h.keep hb.size fun _ _ _ hlt => hb.block _ hlt
theorem Rd.alloc (h : Rd w sz a n cs) (o : Obj) : Rd (w.alloc o) sz a n cs := h.below ((Below.refl _ w).alloc (Nat.le_refl _) o)
theorem Rd.drew (h : Rd w sz a n cs) : Rd w.drew sz a n cs := ⟨h.len, h.get⟩
theorem Rd.drewN (h : Rd w sz a n cs) (k : Nat) : Rd (w.drewN k) sz a n cs := ⟨h.len, h.get⟩
/-- A store into another block. -/
theorem Rd.setCell (h : Rd w sz a n cs) {p : Addr} (hp : ∀ ad : Addr, a = some ad → ad.block ≠ p.block) (u : Value) : Rd (w.setCell p u) sz a n cs :=
  h.keep (by simp [World.setCell]) fun ad e _ _ => Below.heap_setCell w p u _ (hp ad e)
theorem Rd.grown (h : Rd w sz a n cs) {row : Option Nat} (hg : w.grownBy w' row) (hr : ∀ ad : Addr, a = some ad → some ad.block ≠ row) : Rd w' sz a n cs :=
  h.keep hg.size fun ad e _ hb => hg.block _ hb (hr ad e)

theorem Rd.of_own {base : Nat} {e : TypeId} {c : Nat} (h : w.ownsRow base e sz (.slice a n c) n cs) : Rd w sz a n cs :=
  ⟨h.1, fun hn => by
    rcases h.2 with ⟨_, h0⟩ | ⟨g, cap, cur, hv, _, hg, _⟩
    · omega
    · cases hv
      exact ⟨_, rfl, (Array.getElem?_eq_some_iff.1 hg).1, h.cells rfl⟩⟩

/-- The first k elements. -/
theorem Rd.take (h : Rd w sz a n cs) {k : Nat} (hk : k ≤ n) : Rd w sz a k (cs.take (k * sz)) :=
  ⟨by rw [List.length_take, h.len]; exact Nat.min_eq_left (Nat.mul_le_mul_right _ hk), fun h0 => by
    obtain ⟨ad, e, hb, hc⟩ := h.get (by omega)
    refine ⟨ad, e, hb, fun j u hu => hc j u ?_⟩
    rw [List.getElem?_take] at hu
    split at hu
    · exact hu
    · cases hu⟩

/-- From element k on; the model lets an empty rest at the end of the row keep the old address. -/
theorem Rd.drop (h : Rd w sz a n cs) {k : Nat} (hk : k ≤ n) (a' : Option Addr) (ha : k < n → a' = a.map (·.add (k * sz))) : Rd w sz a' (n - k) (cs.drop (k * sz)) :=
  ⟨by rw [List.length_drop, h.len, Nat.sub_mul], fun h0 => by
    obtain ⟨ad, e, hb, hc⟩ := h.get (by omega)
    refine ⟨ad.add (k * sz), by rw [ha (by omega), e]; rfl, by rw [add_block]; exact hb, fun j u hu => ?_⟩
    rw [add_twice]
    refine hc _ u ?_
    rw [List.getElem?_drop] at hu
    exact hu⟩
end

/-- Strings as cells. -/
def sv (s : List UInt8) : Value := .string ⟨s.toArray⟩

/-- A []string that reads as a list of texts. -/
def Strs (w : World) (a : Option Addr) (n : Nat) (l : List (List UInt8)) : Prop := Rd w 1 a n (l.map sv)

section
variable {w w' : World} {n : Nat} {a : Option Addr} {l : List (List UInt8)}
theorem Strs.length (h : Strs w a n l) : l.length = n := by have := h.len; simpa using this
theorem Strs.get (h : Strs w a n l) {k : Nat} (hk : k < n) : ∃ (ad : Addr) (s : List UInt8), a = some ad ∧ ad.block < w.heap.size ∧ l[k]? = some s ∧ w.cell? (ad.add k) = some (.string ⟨s.toArray⟩) := by
  obtain ⟨ad, e, hb, hc⟩ := Rd.get h (by omega)
  have hkl : k < l.length := by rw [h.length]; exact hk
  refine ⟨ad, l[k], e, hb, List.getElem?_eq_getElem hkl, hc k _ ?_⟩
  simp [sv, hkl]
end

/-- A slice value that reads as a list of texts. -/
def SlStr (w : World) (v : Value) (l : List (List UInt8)) : Prop :=
  ∃ a c, v = .slice a l.length c ∧ l.length ≤ c ∧ c ≤ maxLen ∧ Strs w a l.length l

theorem SlStr.of_own {w : World} {base : Nat} {e : TypeId} {v : Value} {n : Nat} {l : List (List UInt8)} (h : w.ownsRow base e 1 v n (l.map sv)) : SlStr w v l := by
  have hl : l.length = n := by have := h.1; simpa using this
  subst hl
  rcases h.2 with ⟨rfl, h0⟩ | ⟨g, cap, cur, rfl, hb, hg, hnc, hcm, r⟩
  · have : l = [] := List.eq_nil_of_length_eq_zero h0
    subst this
    exact ⟨none, 0, rfl, Nat.le_refl _, by simp [maxLen], Rd.nil _ _ _⟩
  · exact ⟨_, cap, rfl, hnc, hcm, Rd.of_own ⟨h.1, h.2⟩⟩

theorem Strs.below {w w' : World} {a : Option Addr} {n : Nat} {l : List (List UInt8)} (h : Strs w a n l) (hb : Below w.heap.size w w') : Strs w' a n l := Rd.below h hb
theorem SlStr.below {w w' : World} {v : Value} {l : List (List UInt8)} (h : SlStr w v l) (hb : Below w.heap.size w w') : SlStr w' v l := by
  obtain ⟨a, c, h1, h2, h3, h4⟩ := h
  exact ⟨a, c, h1, h2, h3, h4.below hb⟩

end Go.Proofs.Ytefilalapkdegaa.Mem
