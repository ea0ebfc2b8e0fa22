/- Insertion from the right, plainly: what the stable sort of a short list makes. No program. -/
import Derived.Test.YtefilalapkdegaaRoutePlain
namespace Go.Proofs.Ytefilalapkdegaa.Route
set_option linter.unusedVariables false
set_option linter.unusedSectionVars false

section
variable {α : Type} (lt : α → α → Bool)
def insRev (e : α) : List α → List α
  | [] => [e]
  | x :: t => if lt e x then x :: insRev e t else e :: x :: t
def insR (out : List α) (e : α) : List α := (insRev lt e out.reverse).reverse
def sorted (F : List α) : List α := F.foldl (insR lt) []
theorem insRev_length (e : α) : ∀ l : List α, (insRev lt e l).length = l.length + 1
  | [] => rfl
  | x :: t => by unfold insRev; split <;> simp [insRev_length e t]
theorem insR_length (out : List α) (e : α) : (insR lt out e).length = out.length + 1 := by unfold insR; rw [List.length_reverse, insRev_length, List.length_reverse]
theorem insRev_append (e : α) : ∀ (a b : List α), (∀ x ∈ a, lt e x = true) → insRev lt e (a ++ b) = a ++ insRev lt e b
  | [], b, _ => rfl
  | x :: t, b, h => by
    rw [List.cons_append, insRev, if_pos (h x (by simp)), insRev_append e t b fun y hy => h y (by simp [hy])]; rfl
/-- Where it is put. -/
theorem insR_at {out : List α} {e : α} {k : Nat} (hk : k ≤ out.length) (h1 : ∀ x ∈ out.drop k, lt e x = true) (h2 : k = 0 ∨ ∃ x, out[k - 1]? = some x ∧ lt e x = false) : insR lt out e = out.take k ++ e :: out.drop k := by
  have e0 : out.reverse = (out.drop k).reverse ++ (out.take k).reverse := by rw [← List.reverse_append, List.take_append_drop]
  unfold insR
  rw [e0, insRev_append lt e _ _ fun x hx => h1 x (by simpa using hx), List.reverse_append, List.reverse_reverse]
  have e1 : insRev lt e (out.take k).reverse = e :: (out.take k).reverse := by
    rcases Nat.eq_zero_or_pos k with rfl | hp
    · simp [insRev]
    · rcases h2 with rfl | ⟨x, hx, hl⟩
      · omega
      · have : out.take k = out.take (k - 1) ++ [x] := by
          obtain ⟨hx1, hx2⟩ := List.getElem?_eq_some_iff.1 hx
          conv => lhs; rw [show k = k - 1 + 1 by omega]
          rw [← List.take_append_getElem hx1, hx2]
        rw [this, List.reverse_append]
        simp [insRev, hl]
  rw [e1, List.reverse_cons, List.reverse_reverse]
  simp
theorem sorted_length (F : List α) : (sorted lt F).length = F.length := by
  unfold sorted
  suffices h : ∀ (F : List α) (o : List α), (F.foldl (insR lt) o).length = o.length + F.length by have := h F []; simpa using this
  intro F
  induction F with
  | nil => intro o; simp
  | cons a t ih => intro o; rw [List.foldl_cons, ih, insR_length]; simp; omega
theorem sorted_snoc (F : List α) (e : α) : sorted lt (F ++ [e]) = insR lt (sorted lt F) e := by unfold sorted; rw [List.foldl_append]; rfl
theorem insRev_mem (e : α) : ∀ (l : List α) (x : α), x ∈ insRev lt e l ↔ x = e ∨ x ∈ l
  | [], x => by simp [insRev]
  | y :: t, x => by
    unfold insRev
    split
    · rw [List.mem_cons, insRev_mem e t x, List.mem_cons]
      constructor
      · rintro (h | h | h) <;> simp [h]
      · rintro (h | h | h) <;> simp [h]
    · simp
theorem insR_mem (out : List α) (e x : α) : x ∈ insR lt out e ↔ x = e ∨ x ∈ out := by unfold insR; rw [List.mem_reverse, insRev_mem, List.mem_reverse]
theorem sorted_mem (F : List α) (x : α) : x ∈ sorted lt F ↔ x ∈ F := by
  unfold sorted
  suffices h : ∀ (F : List α) (o : List α), x ∈ F.foldl (insR lt) o ↔ x ∈ o ∨ x ∈ F by have := h F []; simpa using this
  intro F
  induction F with
  | nil => intro o; simp
  | cons a t ih =>
    intro o
    rw [List.foldl_cons, ih, insR_mem, List.mem_cons]
    constructor
    · rintro ((h | h) | h) <;> simp [h]
    · rintro (h | h | h) <;> simp [h]
end
end Go.Proofs.Ytefilalapkdegaa.Route
