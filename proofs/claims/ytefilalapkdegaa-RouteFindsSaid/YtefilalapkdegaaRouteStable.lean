/- The merge of two sorted rows, plainly: sorted (A ++ B) is the merge of both sorted; where a merge may be cut in two. No program. -/
import Derived.Test.YtefilalapkdegaaRouteSort
import Derived.Test.YtefilalapkdegaaRouteIns
import Derived.Deep.Cut
import Derived.WalkArith
import Derived.Deep.CutRange
import Derived.Test.YtefilalapkdegaaRouteTop
import Derived.Test.YtefilalapkdegaaRouteList
namespace Go.Proofs.Ytefilalapkdegaa.Route
set_option linter.unusedVariables false
set_option linter.unusedSectionVars false

section
variable {α : Type} (lt : α → α → Bool)
def merge : List α → List α → List α
  | [], T => T
  | s :: S, [] => s :: S
  | s :: S, t :: T => if lt t s then t :: merge (s :: S) T else s :: merge S (t :: T)
  termination_by S T => S.length + T.length
def insL (e : α) : List α → List α
  | [] => [e]
  | x :: L => if lt e x then e :: x :: L else x :: insL e L
structure Weak : Prop where
  asymm : ∀ x y, lt x y = true → lt y x = false
  neg : ∀ x y z, lt x y = false → lt y z = false → lt x z = false
def Up (L : List α) : Prop := L.Pairwise fun x y => lt y x = false
variable {lt}
theorem merge_nil (T : List α) : merge lt [] T = T := by rw [merge]
theorem merge_nil' (S : List α) : merge lt S [] = S := by cases S <;> rw [merge]
theorem merge_cons (s t : α) (S T : List α) : merge lt (s :: S) (t :: T) = if lt t s then t :: merge lt (s :: S) T else s :: merge lt S (t :: T) := by rw [merge]
theorem insL_merge (h : Weak lt) (e : α) : ∀ (n : Nat) (S T : List α), S.length + T.length ≤ n → insL lt e (merge lt S T) = merge lt S (insL lt e T)
  | _, [], T, _ => by rw [merge_nil, merge_nil]
  | n, s :: S, [], hn => by
    rw [merge_nil']
    show insL lt e (s :: S) = merge lt (s :: S) [e]
    rw [merge_cons, insL]
    by_cases hes : lt e s = true
    · rw [if_pos hes, if_pos hes, merge_nil']
    · rw [if_neg hes, if_neg hes]
      rcases n with _ | n
      · simp at hn
      · have := insL_merge h e n S [] (by simp at hn ⊢; omega)
        rw [merge_nil'] at this
        rw [this]
        rfl
  | 0, s :: S, t :: T, hn => by simp at hn
  | n + 1, s :: S, t :: T, hn => by
    have ih1 := insL_merge h e n (s :: S) T (by simp at hn ⊢; omega)
    have ih2 := insL_merge h e n S (t :: T) (by simp at hn ⊢; omega)
    rw [merge_cons]
    by_cases hts : lt t s = true
    · rw [if_pos hts, insL, insL]
      by_cases het : lt e t = true
      · rw [if_pos het, if_pos het, merge_cons]
        have hes : lt e s = true := by
          rcases hq : lt e s with _ | _
          · have := h.neg t e s (h.asymm _ _ het) hq
            rw [hts] at this; cases this
          · rfl
        rw [if_pos hes, merge_cons, if_pos hts]
      · rw [if_neg het, if_neg het, merge_cons, if_pos hts, ih1]
    · have hts' : lt t s = false := by simpa using hts
      rw [if_neg hts, insL]
      by_cases hes : lt e s = true
      · have het : lt e t = true := by
          rcases hq : lt e t with _ | _
          · have := h.neg e t s hq hts'
            rw [hes] at this; cases this
          · rfl
        rw [if_pos hes, insL, if_pos het, merge_cons, if_pos hes, merge_cons, if_neg hts]
      · rw [if_neg hes, ih2, insL]
        by_cases het : lt e t = true
        · rw [if_pos het, merge_cons, if_neg hes]
        · rw [if_neg het, merge_cons, if_neg hts]
theorem insRev_last (e x : α) (hx : lt e x = false) : ∀ r : List α, insRev lt e (r ++ [x]) = insRev lt e r ++ [x]
  | [] => by simp [insRev, hx]
  | y :: r => by
    rw [List.cons_append, insRev, insRev]
    split
    · rw [insRev_last e x hx r]; rfl
    · rfl
theorem insR_insL (h : Weak lt) (e : α) : ∀ L : List α, Up lt L → insR lt L e = insL lt e L
  | [], _ => rfl
  | x :: L, hu => by
    obtain ⟨h1, h2⟩ := List.pairwise_cons.1 hu
    rw [insL]
    by_cases hex : lt e x = true
    · rw [if_pos hex, insR_at lt (k := 0) (by omega) (fun y hy => ?_) (Or.inl rfl)]
      · rfl
      · rcases List.mem_cons.1 (show y ∈ x :: L from hy) with rfl | hy
        · exact hex
        · rcases hq : lt e y with _ | _
          · have := h.neg e y x hq (h1 y hy)
            rw [hex] at this; cases this
          · rfl
    · rw [if_neg hex, ← insR_insL h e L h2]
      unfold insR
      rw [List.reverse_cons, insRev_last e x (by simpa using hex), List.reverse_append]
      rfl
theorem insL_mem (e : α) : ∀ (L : List α) (y : α), y ∈ insL lt e L → y = e ∨ y ∈ L
  | [], y, hy => by simpa [insL] using hy
  | x :: L, y, hy => by
    rw [insL] at hy
    split at hy
    · simpa using hy
    · rcases List.mem_cons.1 hy with rfl | hy
      · simp
      · rcases insL_mem e L y hy with h | h <;> simp [h]
theorem Up.insL (h : Weak lt) (e : α) : ∀ {L : List α}, Up lt L → Up lt (insL lt e L)
  | [], _ => List.pairwise_singleton _ _
  | x :: L, hu => by
    obtain ⟨h1, h2⟩ := List.pairwise_cons.1 hu
    rw [Route.insL]
    by_cases hex : lt e x = true
    · rw [if_pos hex]
      refine List.pairwise_cons.2 ⟨fun y hy => ?_, hu⟩
      rcases List.mem_cons.1 hy with rfl | hy
      · exact h.asymm _ _ hex
      · exact h.neg _ _ _ (h1 y hy) (h.asymm _ _ hex)
    · rw [if_neg hex]
      refine List.pairwise_cons.2 ⟨fun y hy => ?_, Up.insL h e h2⟩
      rcases insL_mem e L y hy with rfl | hy
      · simpa using hex
      · exact h1 y hy
theorem fold_up (h : Weak lt) : ∀ (F o : List α), Up lt o → F.foldl (insR lt) o = F.foldl (fun l e => insL lt e l) o ∧ Up lt (F.foldl (insR lt) o)
  | [], o, ho => ⟨rfl, ho⟩
  | e :: F, o, ho => by
    rw [List.foldl_cons, List.foldl_cons, insR_insL h e o ho]
    exact fold_up h F _ (ho.insL h e)
theorem sorted_up (h : Weak lt) (F : List α) : Up lt (sorted lt F) := (fold_up h F [] List.Pairwise.nil).2
theorem fold_merge (h : Weak lt) (S : List α) : ∀ (F T : List α), F.foldl (fun l e => insL lt e l) (merge lt S T) = merge lt S (F.foldl (fun l e => insL lt e l) T)
  | [], T => rfl
  | e :: F, T => by rw [List.foldl_cons, List.foldl_cons, insL_merge h e _ S T (Nat.le_refl _), fold_merge h S F]
/-- Sorted by blocks and merged: the stable sort of the whole. -/
theorem sorted_merge (h : Weak lt) (A B : List α) : sorted lt (A ++ B) = merge lt (sorted lt A) (sorted lt B) := by
  have e1 : sorted lt (A ++ B) = B.foldl (insR lt) (sorted lt A) := by unfold sorted; rw [List.foldl_append]
  rw [e1, (fold_up h B _ (sorted_up h A)).1]
  conv => lhs; rw [← merge_nil' (lt := lt) (sorted lt A)]
  rw [fold_merge h]
  congr 1
  exact (fold_up h B [] List.Pairwise.nil).1.symm
theorem merge_right : ∀ (B1 A2 B2 : List α), (∀ b ∈ B1, ∀ a ∈ A2, lt b a = true) → merge lt A2 (B1 ++ B2) = B1 ++ merge lt A2 B2
  | [], _, _, _ => rfl
  | t :: T, [], B2, _ => by rw [merge_nil, merge_nil]
  | t :: T, s :: S, B2, h => by
    rw [List.cons_append, merge_cons, if_pos (h t (by simp) s (by simp)), merge_right T (s :: S) B2 fun b hb => h b (by simp [hb])]
    rfl
theorem merge_left : ∀ (A1 A2 B2 : List α), (∀ a ∈ A1, ∀ b ∈ B2, lt b a = false) → merge lt (A1 ++ A2) B2 = A1 ++ merge lt A2 B2
  | [], _, _, _ => rfl
  | s :: S, A2, [], _ => by rw [merge_nil', merge_nil']
  | s :: S, A2, t :: T, h => by
    rw [List.cons_append, merge_cons, if_neg (by rw [h s (by simp) t (by simp)]; decide), merge_left S A2 (t :: T) fun a ha => h a (by simp [ha])]
    rfl
/-- Where a merge may be cut. -/
theorem merge_cut : ∀ (n : Nat) (A1 A2 B1 B2 : List α), A1.length + B1.length ≤ n → (∀ b ∈ B1, ∀ a ∈ A2, lt b a = true) → (∀ a ∈ A1, ∀ b ∈ B2, lt b a = false) → merge lt (A1 ++ A2) (B1 ++ B2) = merge lt A1 B1 ++ merge lt A2 B2
  | _, [], A2, B1, B2, _, h1, _ => by rw [merge_nil]; exact merge_right B1 A2 B2 h1
  | _, s :: S, A2, [], B2, _, _, h2 => by rw [merge_nil']; exact merge_left (s :: S) A2 B2 h2
  | 0, s :: S, A2, t :: T, B2, hn, _, _ => by simp at hn
  | n + 1, s :: S, A2, t :: T, B2, hn, h1, h2 => by
    have ih1 := merge_cut n (s :: S) A2 T B2 (by simp at hn ⊢; omega) (fun b hb => h1 b (by simp [hb])) h2
    have ih2 := merge_cut n S A2 (t :: T) B2 (by simp at hn ⊢; omega) h1 (fun a ha => h2 a (by simp [ha]))
    rw [List.cons_append, List.cons_append, merge_cons, merge_cons]
    split
    · rw [← List.cons_append, ih1]; rfl
    · rw [← List.cons_append, ih2]; rfl
theorem Up.get {L : List α} (h : Up lt L) {i j : Nat} {x y : α} (hij : i < j) (hx : L[i]? = some x) (hy : L[j]? = some y) : lt y x = false := by
  obtain ⟨h1, rfl⟩ := List.getElem?_eq_some_iff.1 hx
  obtain ⟨h2, rfl⟩ := List.getElem?_eq_some_iff.1 hy
  exact List.pairwise_iff_getElem.1 h i j h1 h2 hij
theorem Weak.irr (h : Weak lt) (x : α) : lt x x = false := by
  rcases hq : lt x x with _ | _
  · rfl
  · have := h.asymm x x hq; rw [hq] at this; cases this
/-- What a search found: the right end of the first part, the left end of the second. -/
theorem cut_true (h : Weak lt) {A B : List α} (hA : Up lt A) (hB : Up lt B) {i j : Nat} (hjl : j ≤ B.length) (hs : ∀ x y, A[i]? = some x → B[j - 1]? = some y → 0 < j → lt y x = true) : ∀ b ∈ B.take j, ∀ a ∈ A.drop i, lt b a = true := by
  intro b hb a ha
  obtain ⟨k, hk, rfl⟩ := List.mem_iff_getElem.1 hb
  obtain ⟨m, hm, rfl⟩ := List.mem_iff_getElem.1 ha
  rw [List.length_take] at hk
  rw [List.length_drop] at hm
  rw [List.getElem_take, List.getElem_drop]
  have hi : i < A.length := by omega
  have hj : j - 1 < B.length := by omega
  have h0 := hs A[i] B[j - 1] (List.getElem?_eq_getElem hi) (List.getElem?_eq_getElem hj) (by omega)
  have h1 : lt B[j - 1] B[k] = false := by
    rcases Nat.lt_or_ge k (j - 1) with q | q
    · exact hB.get q (List.getElem?_eq_getElem (by omega)) (List.getElem?_eq_getElem hj)
    · have : k = j - 1 := by omega
      subst this; exact h.irr _
  have h2 : lt A[i + m] A[i] = false := by
    rcases Nat.eq_zero_or_pos m with rfl | q
    · exact h.irr _
    · exact hA.get (by omega) (List.getElem?_eq_getElem hi) (List.getElem?_eq_getElem (by omega))
  rcases hq : lt B[k] A[i + m] with _ | _
  · have := h.neg _ _ _ (h.neg _ _ _ h1 hq) h2
    rw [h0] at this; cases this
  · rfl
theorem cut_false (h : Weak lt) {A B : List α} (hA : Up lt A) (hB : Up lt B) {i j : Nat} (hil : i ≤ A.length) (hs : ∀ x y, A[i - 1]? = some x → B[j]? = some y → 0 < i → lt y x = false) : ∀ a ∈ A.take i, ∀ b ∈ B.drop j, lt b a = false := by
  intro a ha b hb
  obtain ⟨k, hk, rfl⟩ := List.mem_iff_getElem.1 ha
  obtain ⟨m, hm, rfl⟩ := List.mem_iff_getElem.1 hb
  rw [List.length_take] at hk
  rw [List.length_drop] at hm
  rw [List.getElem_take, List.getElem_drop]
  have hi : i - 1 < A.length := by omega
  have hj : j < B.length := by omega
  have h0 := hs A[i - 1] B[j] (List.getElem?_eq_getElem hi) (List.getElem?_eq_getElem hj) (by omega)
  have h1 : lt A[i - 1] A[k] = false := by
    rcases Nat.lt_or_ge k (i - 1) with q | q
    · exact hA.get q (List.getElem?_eq_getElem (by omega)) (List.getElem?_eq_getElem hi)
    · have : k = i - 1 := by omega
      subst this; exact h.irr _
  have h2 : lt B[j + m] B[j] = false := by
    rcases Nat.eq_zero_or_pos m with rfl | q
    · exact h.irr _
    · exact hB.get (by omega) (List.getElem?_eq_getElem hj) (List.getElem?_eq_getElem (by omega))
  exact h.neg _ _ _ (h.neg _ _ _ h2 h0) h1
/-- The cut of a merge by a search: the i least of A and the j least of B come first. -/
theorem merge_at (h : Weak lt) {A B : List α} (hA : Up lt A) (hB : Up lt B) {i j : Nat} (hil : i ≤ A.length) (hjl : j ≤ B.length) (h1 : ∀ x y, A[i]? = some x → B[j - 1]? = some y → 0 < j → lt y x = true) (h2 : ∀ x y, A[i - 1]? = some x → B[j]? = some y → 0 < i → lt y x = false) :
    merge lt A B = merge lt (A.take i) (B.take j) ++ merge lt (A.drop i) (B.drop j) := by
  have := merge_cut (lt := lt) _ (A.take i) (A.drop i) (B.take j) (B.drop j) (Nat.le_refl _) (cut_true h hA hB hjl h1) (cut_false h hA hB hil h2)
  rwa [List.take_append_drop, List.take_append_drop] at this
theorem merge_one (h : Weak lt) {x : α} {B : List α} (hB : Up lt B) {j : Nat} (hjl : j ≤ B.length) (h1 : ∀ y, B[j - 1]? = some y → 0 < j → lt y x = true) (h2 : ∀ y, B[j]? = some y → lt y x = false) : merge lt [x] B = B.take j ++ x :: B.drop j := by
  rw [merge_at h (List.pairwise_singleton _ x) hB (i := 0) (j := j) (by omega) hjl (fun u y hu hy hj => by simp at hu; subst hu; exact h1 y hy hj) (fun u y hu hy hi => by omega)]
  rw [List.take_zero, merge_nil, List.drop_zero]
  congr 1
  have := merge_left (lt := lt) [x] [] (B.drop j) (fun a ha b hb => by
    have := cut_false h (A := [x]) (B := B) (List.pairwise_singleton _ x) hB (i := 1) (j := j) (by simp) (fun u y hu hy _ => by simp at hu; subst hu; exact h2 y hy)
    exact this a (by simpa using ha) b hb)
  rw [List.append_nil, merge_nil] at this
  exact this
theorem merge_one' (h : Weak lt) {y : α} {A : List α} (hA : Up lt A) {i : Nat} (hil : i ≤ A.length) (h1 : ∀ x, A[i]? = some x → lt y x = true) (h2 : ∀ x, A[i - 1]? = some x → 0 < i → lt y x = false) : merge lt A [y] = A.take i ++ y :: A.drop i := by
  rw [merge_at h hA (List.pairwise_singleton _ y) (i := i) (j := 0) hil (by omega) (fun x u hx hu hj => by omega) (fun x u hx hu hi => by simp at hu; subst hu; exact h2 x hx hi)]
  rw [List.take_zero, merge_nil', List.drop_zero]
  congr 1
  have := merge_right (lt := lt) [y] (A.drop i) [] (fun b hb a ha => by
    have := cut_true h (A := A) (B := [y]) hA (List.pairwise_singleton _ y) (i := i) (j := 1) (by simp) (fun x u hx hu _ => by simp at hu; subst hu; exact h1 x hx)
    exact this b (by simpa using hb) a ha)
  rw [List.append_nil, merge_nil'] at this
  exact this
theorem merge_length : ∀ (n : Nat) (S T : List α), S.length + T.length ≤ n → (merge lt S T).length = S.length + T.length
  | _, [], T, _ => by rw [merge_nil]; simp
  | _, s :: S, [], _ => by rw [merge_nil']; simp
  | 0, s :: S, t :: T, hn => by simp at hn
  | n + 1, s :: S, t :: T, hn => by
    rw [merge_cons]
    split
    · rw [List.length_cons, merge_length n (s :: S) T (by simp at hn ⊢; omega)]; simp; omega
    · rw [List.length_cons, merge_length n S (t :: T) (by simp at hn ⊢; omega)]; simp; omega
end
end Go.Proofs.Ytefilalapkdegaa.Route
namespace Go.Proofs.Ytefilalapkdegaa
open Go.RowKit Str Mem
set_option linter.unusedVariables false
set_option linter.unusedSimpArgs false

def swapTo (a b : Nat) : Nat → List Int → List Int
  | 0, Y => Y
  | k + 1, Y => ((swapTo a b k Y).set (a + k) ((swapTo a b k Y)[b + k]?.getD 0)).set (b + k) ((swapTo a b k Y)[a + k]?.getD 0)
theorem swapTo_length (a b : Nat) (Y : List Int) : ∀ k, (swapTo a b k Y).length = Y.length
  | 0 => rfl
  | k + 1 => by rw [swapTo, List.length_set, List.length_set, swapTo_length a b Y k]
set_option maxRecDepth 20000 in
set_option maxHeartbeats 8000000 in
theorem swap_any (Y : List Int) (g cap n a b k : Nat) (rest : List Value) (fv : Value) (w u w0 : World) (hn : Y.length = n) (hX : n ≤ 100000) (hc : n ≤ cap) (hab : a + k ≤ b) (hbk : b + k ≤ n)
    (hrow : w.heap[g]? = some (.cells (Y.map iv ++ rest).toArray 3 (0, 0))) (hk : Kp g u w) (hg : g < u.heap.size) (hb : Below w0.heap.size w0 w) (hg0 : w0.heap.size ≤ g) :
    Calls Try.prog 114 #[.slice (some ⟨g, 0, none⟩) n cap, .int .i64 a, .int .i64 b, .int .i64 k, fv] w fun e w' =>
      (∃ v, e = .returned v) ∧ w'.heap[g]? = some (.cells ((swapTo a b k Y).map iv ++ rest).toArray 3 (0, 0)) ∧ Kp g u w' ∧ Below w0.heap.size w0 w' := by
  have Hn := Lib.hid hn
  clear hn
  go_enter Try.func114, Try.ntmps114
  go_wp2
  go_loopw [10] (fun i wr => ∃ j : Nat, i = .int .i64 j ∧ j ≤ k ∧ wr.heap[g]? = some (.cells ((swapTo a b j Y).map iv ++ rest).toArray 3 (0, 0)) ∧ Kp g u wr ∧ Below w0.heap.size w0 wr) (fun i _ => k - (intOf i).toNat)
  case atStart => exact ⟨0, rfl, by omega, hrow, hk, hb⟩
  case round =>
    clear hrow hk hb
    obtain ⟨j, rfl, hj, hrow, hk, hb⟩ := hrel
    by_cases hlt : j < k
    · have i1 : (j : Int) < (k : Int) := by omega
      have hzl : (swapTo a b j Y).length = n := by rw [swapTo_length, Hn.out]
      obtain ⟨A, hA⟩ : ∃ A, A = a + j := ⟨_, rfl⟩
      obtain ⟨B, hB⟩ : ∃ B, B = b + j := ⟨_, rfl⟩
      have hwa : IntKind.i64.wrap ((a : Int) + (j : Int)) = (A : Int) := by rw [IntWalk.i64_in _ ⟨by omega, by omega⟩]; omega
      have hwb : IntKind.i64.wrap ((b : Int) + (j : Int)) = (B : Int) := by rw [IntWalk.i64_in _ ⟨by omega, by omega⟩]; omega
      have a0 : (0 : Int) ≤ (A : Int) := Int.natCast_nonneg _
      have a1 : (A : Int) < (n : Int) := by omega
      have a2 : A < n := by omega
      have b0 : (0 : Int) ≤ (B : Int) := Int.natCast_nonneg _
      have b1 : (B : Int) < (n : Int) := by omega
      have b2 : B < n := by omega
      have hne : A ≠ B := by omega
      have ad0 : (⟨g, 0, none⟩ : Addr).add A = ⟨g, A, none⟩ := by rw [add_flat, Nat.zero_add]
      have ad1 : (⟨g, 0, none⟩ : Addr).add B = ⟨g, B, none⟩ := by rw [add_flat, Nat.zero_add]
      obtain ⟨s, hs⟩ : ∃ s, (swapTo a b j Y)[A]? = some s := ⟨_, List.getElem?_eq_getElem (by omega)⟩
      obtain ⟨e, he⟩ : ∃ e, (swapTo a b j Y)[B]? = some e := ⟨_, List.getElem?_eq_getElem (by omega)⟩
      have q0 := row_iv hrow hs
      have q1 := row_iv hrow he
      have fz : ∀ j, wr.frozen? ⟨g, j, none⟩ = false := fun j => row_frozen hrow j
      have hrowA := set_row hrow A (.int .i64 e)
      have fzA : ∀ j, (wr.setCell ⟨g, A, none⟩ (.int .i64 e)).frozen? ⟨g, j, none⟩ = false := fun j => row_frozen hrowA j
      have cA : (wr.setCell ⟨g, A, none⟩ (.int .i64 e)).cell? ⟨g, B, none⟩ = some (.int .i64 e) := by
        rw [row_cell hrowA, List.getElem?_set_ne hne, ← row_cell hrow]; exact q1
      have hrowB := set_row hrowA B (.int .i64 s)
      rw [show (Value.int .i64 s) = iv s from rfl, show (Value.int .i64 e) = iv e from rfl, set_iv _ _ _ _ (by rw [hzl]; exact a2), set_iv _ _ _ _ (by rw [List.length_set, hzl]; exact b2)] at hrowB
      have hz : swapTo a b (j + 1) Y = ((swapTo a b j Y).set A e).set B s := by rw [swapTo, ← hA, ← hB, hs, he]; rfl
      rw [← hz] at hrowB
      have HRB := Lib.hid hrowB
      have HA := Lib.hid hA
      have HB := Lib.hid hB
      clear hrowB hz hzl hs he hA hB hrowA
      go_wp2
      refine wp_region_noPanic ?_
      refine wp_region_held_drew (S := fun _ => True) (by kernel_rfl) trivial (fun hH => ?_)
      refine Reg.take (i := 0) (u := ?icv0) rfl rfl rfl (by kernel_rfl) (by kernel_rfl) (by kernel_rfl) hH ?icy0 ?icr0
      case icy0 => (intro w hSw; (try dsimp only at hSw); go_simp; try (with_reducible rfl))
      case' icr0 => simp only [List.setIfInBounds_toArray, List.set_cons_zero, List.set_cons_succ]
      refine Reg.take (i := 1) (u := ?icv1) rfl rfl rfl (by kernel_rfl) (by kernel_rfl) (by kernel_rfl) hH ?icy1 ?icr1
      case icy1 => (intro w hSw; (try dsimp only at hSw); go_simp; try (with_reducible rfl))
      case' icr1 => simp only [List.setIfInBounds_toArray, List.set_cons_zero, List.set_cons_succ]
      refine Reg.take (i := 2) (u := ?icv2) rfl rfl rfl (by kernel_rfl) (by kernel_rfl) (by kernel_rfl) hH ?icy2 ?icr2
      case icy2 => (intro w hSw; (try dsimp only at hSw); go_simp; try (with_reducible rfl))
      case' icr2 => simp only [List.setIfInBounds_toArray, List.set_cons_zero, List.set_cons_succ]
      refine Reg.take (i := 3) (u := ?icv3) rfl rfl rfl (by kernel_rfl) (by kernel_rfl) (by kernel_rfl) hH ?icy3 ?icr3
      case icy3 => (intro w hSw; (try dsimp only at hSw); go_simp; try (with_reducible rfl))
      case' icr3 => simp only [List.setIfInBounds_toArray, List.set_cons_zero, List.set_cons_succ]
      refine Reg.take (i := 4) (u := ?icv4) rfl rfl rfl (by kernel_rfl) (by kernel_rfl) (by kernel_rfl) hH ?icy4 ?icr4
      case icy4 => (intro w hSw; (try dsimp only at hSw); go_simp; try (with_reducible rfl))
      case' icr4 => simp only [List.setIfInBounds_toArray, List.set_cons_zero, List.set_cons_succ]
      refine Reg.take (i := 5) (u := ?icv5) rfl rfl rfl (by kernel_rfl) (by kernel_rfl) (by kernel_rfl) hH ?icy5 ?icr5
      case icy5 => (intro w hSw; (try dsimp only at hSw); go_simp; try (with_reducible rfl))
      case' icr5 => simp only [List.setIfInBounds_toArray, List.set_cons_zero, List.set_cons_succ]
      refine Reg.take (i := 6) (u := ?icv6) rfl rfl rfl (by kernel_rfl) (by kernel_rfl) (by kernel_rfl) hH ?icy6 ?icr6
      case icy6 => (intro w hSw; (try dsimp only at hSw); go_simp; try (with_reducible rfl))
      case' icr6 => simp only [List.setIfInBounds_toArray, List.set_cons_zero, List.set_cons_succ]
      refine Reg.take (i := 7) (u := ?icv7) rfl rfl rfl (by kernel_rfl) (by kernel_rfl) (by kernel_rfl) hH ?icy7 ?icr7
      case icy7 => (intro w hSw; (try dsimp only at hSw); go_simp; try (with_reducible rfl))
      case' icr7 => simp only [List.setIfInBounds_toArray, List.set_cons_zero, List.set_cons_succ]
      refine Reg.take (i := 8) (u := ?icv8) rfl rfl rfl (by kernel_rfl) (by kernel_rfl) (by kernel_rfl) hH ?icy8 ?icr8
      case icy8 => (intro w hSw; (try dsimp only at hSw); go_simp; try (with_reducible rfl))
      case' icr8 => simp only [List.setIfInBounds_toArray, List.set_cons_zero, List.set_cons_succ]
      refine Reg.take (i := 9) (u := ?icv9) rfl rfl rfl (by kernel_rfl) (by kernel_rfl) (by kernel_rfl) hH ?icy9 ?icr9
      case icy9 => (intro w hSw; (try dsimp only at hSw); go_simp; try (with_reducible rfl))
      case' icr9 => simp only [List.setIfInBounds_toArray, List.set_cons_zero, List.set_cons_succ]
      refine Reg.take (i := 10) (u := ?icv10) rfl rfl rfl (by kernel_rfl) (by kernel_rfl) (by kernel_rfl) hH ?icy10 ?icr10
      case icy10 => (intro w hSw; (try dsimp only at hSw); go_simp; try (with_reducible rfl))
      case' icr10 => simp only [List.setIfInBounds_toArray, List.set_cons_zero, List.set_cons_succ]
      refine Reg.take (i := 11) (u := ?icv11) rfl rfl rfl (by kernel_rfl) (by kernel_rfl) (by kernel_rfl) hH ?icy11 ?icr11
      case icy11 => (intro w hSw; (try dsimp only at hSw); go_simp; try (with_reducible rfl))
      case' icr11 => simp only [List.setIfInBounds_toArray, List.set_cons_zero, List.set_cons_succ]
      refine Reg.take (i := 12) (u := ?icv12) rfl rfl rfl (by kernel_rfl) (by kernel_rfl) (by kernel_rfl) hH ?icy12 ?icr12
      case icy12 => (intro w hSw; (try dsimp only at hSw); go_simp; try (with_reducible rfl))
      case' icr12 => simp only [List.setIfInBounds_toArray, List.set_cons_zero, List.set_cons_succ]
      refine Reg.take (i := 14) (u := ?icv14) rfl rfl rfl (by kernel_rfl) (by kernel_rfl) (by kernel_rfl) hH ?icy14 ?icr14
      case icy14 => (intro w hSw; (try dsimp only at hSw); go_simp; try (with_reducible rfl))
      case' icr14 => simp only [List.setIfInBounds_toArray, List.set_cons_zero, List.set_cons_succ]
      refine Reg.take (i := 15) (u := ?icv15) rfl rfl rfl (by kernel_rfl) (by kernel_rfl) (by kernel_rfl) hH ?icy15 ?icr15
      case icy15 => (intro w hSw; (try dsimp only at hSw); go_simp; try (with_reducible rfl))
      case' icr15 => simp only [List.setIfInBounds_toArray, List.set_cons_zero, List.set_cons_succ]
      refine Reg.take (i := 16) (u := ?icv16) rfl rfl rfl (by kernel_rfl) (by kernel_rfl) (by kernel_rfl) hH ?icy16 ?icr16
      case icy16 => (intro w hSw; (try dsimp only at hSw); go_simp; try (with_reducible rfl))
      case' icr16 => simp only [List.setIfInBounds_toArray, List.set_cons_zero, List.set_cons_succ]
      refine Reg.take (i := 17) (u := ?icv17) rfl rfl rfl (by kernel_rfl) (by kernel_rfl) (by kernel_rfl) hH ?icy17 ?icr17
      case icy17 => (intro w hSw; (try dsimp only at hSw); go_simp; try (with_reducible rfl))
      case' icr17 => simp only [List.setIfInBounds_toArray, List.set_cons_zero, List.set_cons_succ]
      refine Reg.take (i := 18) (u := ?icv18) rfl rfl rfl (by kernel_rfl) (by kernel_rfl) (by kernel_rfl) hH ?icy18 ?icr18
      case icy18 => (intro w hSw; (try dsimp only at hSw); go_simp; try (with_reducible rfl))
      case' icr18 => simp only [List.setIfInBounds_toArray, List.set_cons_zero, List.set_cons_succ]
      refine Reg.pair (i := 13) (j := 19) (u := .int .i64 e) (x := .int .i64 s) (w1 := wr.drew) rfl rfl rfl rfl rfl rfl (by kernel_rfl) (by kernel_rfl) (by kernel_rfl) trivial trivial (by decide) (by decide) ?icy1 ?icy2 ?icy3 ?icy4 ?icgo
      case icy1 => (go_simp; try (with_reducible rfl))
      case icy2 => (go_simp; try (with_reducible rfl))
      case icy3 => (go_simp; try (with_reducible rfl))
      case icy4 => (go_simp; try (with_reducible rfl))
      case' icgo => simp only [List.setIfInBounds_toArray, List.set_cons_zero, List.set_cons_succ]
      refine Reg.only (i := 20) rfl (Reg.wanted_free rfl) (by kernel_rfl) (fun K hK => ?_)
      go_simp
      refine hK.out _ _ trivial (fun hH2 => ?_)
      clear hK hH
      have hH := hH2; clear hH2
      try simp only [Act.put, List.setIfInBounds_toArray, List.set_cons_zero, List.set_cons_succ]
      refine Reg.only (i := 21) rfl (Reg.wanted_free rfl) (by kernel_rfl) (fun K hK => ?_)
      go_simp
      refine hK.out _ _ trivial (fun hH2 => ?_)
      clear hK hH
      have hH := hH2; clear hH2
      try simp only [Act.put, List.setIfInBounds_toArray, List.set_cons_zero, List.set_cons_succ]
      refine Reg.only (i := 22) rfl (Reg.wanted_free rfl) (by kernel_rfl) (fun K hK => ?_)
      go_simp
      refine hK.out _ _ trivial (fun hH2 => ?_)
      clear hK hH
      have hH := hH2; clear hH2
      try simp only [Act.put, List.setIfInBounds_toArray, List.set_cons_zero, List.set_cons_succ]
      refine Reg.only (i := 23) rfl (Reg.wanted_free rfl) (by kernel_rfl) (fun K hK => ?_)
      go_simp
      refine hK.out _ _ trivial (fun hH2 => ?_)
      clear hK hH
      have hH := hH2; clear hH2
      try simp only [Act.put, List.setIfInBounds_toArray, List.set_cons_zero, List.set_cons_succ]
      refine wpAnyH_done (by kernel_rfl) ?_ _
      refine NoPanic.normal ?_
      go_wp2
      refine ⟨⟨j + 1, by first | go_num | (congr 1; omega), by omega, HRB.out, ((hk.setD A _).setD B _).drew, ((hb.setCell (p := ⟨g, A, none⟩) hg0 _).setCell (p := ⟨g, B, none⟩) hg0 _).drew⟩, by simp [intOf]; omega⟩
    · obtain rfl : j = k := by omega
      go_wp2
      go_end0
      exact ⟨⟨_, rfl⟩, hrow, hk, hb⟩
end Go.Proofs.Ytefilalapkdegaa
namespace Go.Proofs.Ytefilalapkdegaa
open Go.RowKit Str Mem
set_option linter.unusedVariables false
set_option linter.unusedSimpArgs false

theorem get_mid {L R : List Int} {x : Int} {n : Nat} (h : n = L.length) : (L ++ x :: R)[n]? = some x := by subst h; simp
theorem set_mid {L R : List Int} {x y : Int} {n : Nat} (h : n = L.length) : (L ++ x :: R).set n y = L ++ y :: R := by subst h; simp
/-- Two blocks of one length change places. -/
theorem swap_blocks : ∀ (k : Nat) (P U M V Q : List Int), U.length = k → V.length = k → swapTo P.length (P.length + k + M.length) k (P ++ (U ++ (M ++ (V ++ Q)))) = P ++ (V ++ (M ++ (U ++ Q)))
  | 0, P, U, M, V, Q, hU, hV => by
    rw [List.length_eq_zero_iff.1 hU, List.length_eq_zero_iff.1 hV]; rfl
  | k + 1, P, U, M, V, Q, hU, hV => by
    obtain ⟨U', x, rfl⟩ : ∃ U' x, U = U' ++ [x] := ⟨U.dropLast, U.getLast (by intro h; simp [h] at hU), (List.dropLast_concat_getLast _).symm⟩
    obtain ⟨V', y, rfl⟩ : ∃ V' y, V = V' ++ [y] := ⟨V.dropLast, V.getLast (by intro h; simp [h] at hV), (List.dropLast_concat_getLast _).symm⟩
    have hU' : U'.length = k := by simpa using hU
    have hV' : V'.length = k := by simpa using hV
    have ih := swap_blocks k P U' (x :: M) V' (y :: Q) hU' hV'
    have e0 : P ++ (U' ++ [x] ++ (M ++ (V' ++ [y] ++ Q))) = P ++ (U' ++ (x :: M ++ (V' ++ y :: Q))) := by simp
    have e1 : P.length + (k + 1) + M.length = P.length + k + (x :: M).length := by simp; omega
    rw [e0, e1, swapTo, ih]
    have z1 : P ++ (V' ++ (x :: M ++ (U' ++ y :: Q))) = (P ++ V') ++ x :: (M ++ (U' ++ y :: Q)) := by simp
    have z2 : P ++ (V' ++ (x :: M ++ (U' ++ y :: Q))) = (P ++ (V' ++ (x :: M ++ U'))) ++ y :: Q := by simp
    have g1 : (P ++ (V' ++ (x :: M ++ (U' ++ y :: Q))))[P.length + k]? = some x := by rw [z1]; exact get_mid (by simp [hV'])
    have g2 : (P ++ (V' ++ (x :: M ++ (U' ++ y :: Q))))[P.length + k + (x :: M).length + k]? = some y := by rw [z2]; exact get_mid (by simp [hV', hU']; omega)
    rw [g1, g2]
    show ((P ++ (V' ++ (x :: M ++ (U' ++ y :: Q)))).set (P.length + k) y).set (P.length + k + (x :: M).length + k) x = _
    rw [z1, set_mid (by simp [hV']), show P ++ V' ++ y :: (M ++ (U' ++ y :: Q)) = (P ++ (V' ++ (y :: M ++ U'))) ++ y :: Q by simp, set_mid (by simp [hV', hU']; omega)]
    simp
def RotI (w0 u : World) (T : List Int) (g m n : Nat) (rest : List Value) (iv' jv : Value) (wr : World) : Prop :=
  ∃ (i j : Nat) (P U V Q : List Int), iv' = .int .i64 i ∧ jv = .int .i64 j ∧ U.length = i ∧ V.length = j ∧ P.length + i = m ∧ 0 < i ∧ 0 < j ∧ m + j ≤ n ∧ (P ++ (U ++ (V ++ Q))).length = n ∧ P ++ (V ++ (U ++ Q)) = T ∧ wr.heap[g]? = some (.cells ((P ++ (U ++ (V ++ Q))).map iv ++ rest).toArray 3 (0, 0)) ∧ Kp g u wr ∧ Below w0.heap.size w0 wr
set_option maxRecDepth 20000 in
set_option maxHeartbeats 8000000 in
theorem rot_any (P U V Q : List Int) (g cap n a m b : Nat) (rest : List Value) (fv : Value) (w u w0 : World) (hn : (P ++ (U ++ (V ++ Q))).length = n) (hX : n ≤ 100000) (hc : n ≤ cap) (ha : a = P.length) (hm : m = P.length + U.length) (hb' : b = P.length + U.length + V.length) (hU : 0 < U.length) (hV : 0 < V.length)
    (hrow : w.heap[g]? = some (.cells ((P ++ (U ++ (V ++ Q))).map iv ++ rest).toArray 3 (0, 0))) (hk : Kp g u w) (hg : g < u.heap.size) (hb : Below w0.heap.size w0 w) (hg0 : w0.heap.size ≤ g) :
    Calls Try.prog 104 #[.slice (some ⟨g, 0, none⟩) n cap, .int .i64 a, .int .i64 m, .int .i64 b, fv] w fun e w' =>
      (∃ v, e = .returned v) ∧ w'.heap[g]? = some (.cells ((P ++ (V ++ (U ++ Q))).map iv ++ rest).toArray 3 (0, 0)) ∧ Kp g u w' ∧ Below w0.heap.size w0 w' := by
  have hn2 : P.length + U.length + V.length + Q.length = n := by rw [← hn]; simp; omega
  have w1 : IntKind.i64.wrap ((m : Int) - (a : Int)) = (U.length : Int) := by rw [IntWalk.i64_in _ ⟨by omega, by omega⟩]; omega
  have w2 : IntKind.i64.wrap ((b : Int) - (m : Int)) = (V.length : Int) := by rw [IntWalk.i64_in _ ⟨by omega, by omega⟩]; omega
  obtain ⟨T, hT⟩ : ∃ T, P ++ (V ++ (U ++ Q)) = T := ⟨_, rfl⟩
  have HS := Lib.hid (show RotI w0 u T g m n rest (.int .i64 U.length) (.int .i64 V.length) w from ⟨_, _, P, U, V, Q, rfl, rfl, rfl, rfl, by omega, hU, hV, by omega, hn, hT, hrow, hk, hb⟩)
  rw [hT]
  clear hn hn2 ha hm hb' hU hV hrow hk hb hT
  go_enter Try.func104, Try.ntmps104
  go_wp2_with fail
  go_loopw [10, 11] (fun i j wr => RotI w0 u T g m n rest i j wr) (fun i j _ => (intOf i).toNat + (intOf j).toNat)
  case atStart => exact HS.out
  case round =>
    clear HS w1 w2
    obtain ⟨i, j, P, U, V, Q, rfl, rfl, hUl, hVl, hPl, hi0, hj0, hmj, hnl, hT, hrow, hk, hb⟩ := hrel
    have m0 : IntKind.i64.wrap ((m : Int) - (i : Int)) = (P.length : Int) := by rw [IntWalk.i64_in _ ⟨by omega, by omega⟩]; omega
    have HT := Lib.hid hT
    have HU := Lib.hid hUl
    have HV := Lib.hid hVl
    have HP := Lib.hid hPl
    have HN := Lib.hid hnl
    have HR := Lib.hid hrow
    clear hT hrow
    rcases Nat.lt_trichotomy i j with hlt | heq | hgt
    · obtain ⟨V1, V2, rfl, hv1, hv2⟩ : ∃ V1 V2, V = V1 ++ V2 ∧ V1.length = j - i ∧ V2.length = i := ⟨V.take (j - i), V.drop (j - i), (List.take_append_drop _ _).symm, by rw [List.length_take]; omega, by rw [List.length_drop]; omega⟩
      obtain ⟨B, hB⟩ : ∃ B, B = m + j - i := ⟨_, rfl⟩
      have m1 : IntKind.i64.wrap ((m : Int) + (j : Int)) = ((m + j : Nat) : Int) := by rw [IntWalk.i64_in _ ⟨by omega, by omega⟩]; omega
      have m2 : IntKind.i64.wrap (((m : Int) + (j : Int)) - (i : Int)) = (B : Int) := by rw [IntWalk.i64_in _ ⟨by omega, by omega⟩]; omega
      have m2b : IntKind.i64.wrap ((m : Int) + (j : Int)) = (m : Int) + (j : Int) := by rw [IntWalk.i64_in _ ⟨by omega, by omega⟩]
      have m3 : IntKind.i64.wrap ((j : Int) - (i : Int)) = ((j - i : Nat) : Int) := by rw [IntWalk.i64_in _ ⟨by omega, by omega⟩]; omega
      have c1 : ((i : Int) != (j : Int)) = true := by simp; omega
      have c2 : ¬ (j : Int) < (i : Int) := by omega
      have c3 : ¬ (i : Int) = (j : Int) := by omega
      have hs := swap_any _ g cap n P.length B i rest fv wr u w0 hnl hX hc (by omega) (by omega) HR.out hk hg hb hg0
      have hsb := swap_blocks i P U V1 V2 Q hUl hv2
      rw [show P.length + i + V1.length = B by omega] at hsb
      rw [show P ++ (U ++ (V1 ++ V2 ++ Q)) = P ++ (U ++ (V1 ++ (V2 ++ Q))) by simp, hsb] at hs
      have HSt := Lib.hid (show P ++ (V1 ++ (V2 ++ (U ++ Q))) = T by rw [← HT.out]; simp)
      have HL := Lib.hid (show (P ++ (V2 ++ (V1 ++ (U ++ Q)))).length = n by rw [← hnl]; simp; omega)
      clear hsb hk hb hUl hVl hnl m1 hB
      go_wp2_with fail
      refine hs.mono ?_
      rintro e5 w5 ⟨⟨v, rfl⟩, hr5, hk5, hb5⟩
      go_wp2_with fail
      refine ⟨⟨i, j - i, P, V2, V1, U ++ Q, rfl, by go_num, hv2, hv1, HP.out, hi0, by omega, by omega, HL.out, HSt.out, hr5, hk5, hb5⟩, by simp [intOf]; omega⟩
    · subst heq
      have c1 : ((i : Int) != (i : Int)) = false := by simp
      have hs := swap_any _ g cap n P.length m i rest fv wr u w0 hnl hX hc (by omega) (by omega) HR.out hk hg hb hg0
      have hsb := swap_blocks i P U [] V Q hUl hVl
      rw [show P.length + i + ([] : List Int).length = m by simp; omega, List.nil_append, List.nil_append, HT.out] at hsb
      rw [hsb] at hs
      clear hsb hk hb hUl hVl hnl
      go_wp2_with fail
      refine hs.mono ?_
      rintro e5 w5 ⟨⟨v, rfl⟩, hr5, hk5, hb5⟩
      go_wp2_with fail
      go_end0
      exact ⟨⟨_, rfl⟩, hr5, hk5, hb5⟩
    · obtain ⟨U1, U2, rfl, hu1, hu2⟩ : ∃ U1 U2, U = U1 ++ U2 ∧ U1.length = j ∧ U2.length = i - j := ⟨U.take j, U.drop j, (List.take_append_drop _ _).symm, by rw [List.length_take]; omega, by rw [List.length_drop]; omega⟩
      have m3 : IntKind.i64.wrap ((i : Int) - (j : Int)) = ((i - j : Nat) : Int) := by rw [IntWalk.i64_in _ ⟨by omega, by omega⟩]; omega
      have c1 : ((i : Int) != (j : Int)) = true := by simp; omega
      have c2 : (j : Int) < (i : Int) := by omega
      have c3 : ¬ (i : Int) = (j : Int) := by omega
      have hs := swap_any _ g cap n P.length m j rest fv wr u w0 hnl hX hc (by omega) (by omega) HR.out hk hg hb hg0
      have hsb := swap_blocks j P U1 U2 V Q hu1 hVl
      rw [show P.length + j + U2.length = m by omega] at hsb
      rw [show P ++ (U1 ++ U2 ++ (V ++ Q)) = P ++ (U1 ++ (U2 ++ (V ++ Q))) by simp, hsb] at hs
      have HSt := Lib.hid (show (P ++ V) ++ (U1 ++ (U2 ++ Q)) = T by rw [← HT.out]; simp)
      have HL := Lib.hid (show ((P ++ V) ++ (U2 ++ (U1 ++ Q))).length = n by rw [← hnl]; simp; omega)
      rw [show P ++ (V ++ (U2 ++ (U1 ++ Q))) = (P ++ V) ++ (U2 ++ (U1 ++ Q)) by simp] at hs
      have HPV := Lib.hid (show (P ++ V).length + (i - j) = m by simp; omega)
      clear hsb hk hb hUl hVl hnl
      go_wp2_with fail
      refine hs.mono ?_
      rintro e5 w5 ⟨⟨v, rfl⟩, hr5, hk5, hb5⟩
      go_wp2_with fail
      refine ⟨⟨i - j, j, P ++ V, U2, U1, Q, by go_num, rfl, hu2, hu1, HPV.out, by omega, hj0, hmj, HL.out, HSt.out, hr5, hk5, hb5⟩, by simp [intOf]; omega⟩
end Go.Proofs.Ytefilalapkdegaa
namespace Go.Proofs.Ytefilalapkdegaa
open Go.RowKit Str Mem
set_option linter.unusedVariables false
set_option linter.unusedSimpArgs false

def SeaI (w0 u : World) (X : List Int) (g : Nat) (rest : List Value) (lo hi : Nat) (T F : Nat → Prop) (iv' jv : Value) (wr : World) : Prop :=
  ∃ i j : Nat, iv' = .int .i64 i ∧ jv = .int .i64 j ∧ lo ≤ i ∧ i ≤ j ∧ j ≤ hi ∧ (lo < i → T (i - 1)) ∧ (j < hi → F j) ∧ wr.heap[g]? = some (.cells (X.map iv ++ rest).toArray 3 (0, 0)) ∧ Kp g u wr ∧ Below w0.heap.size w0 wr
set_option maxRecDepth 20000 in
set_option maxHeartbeats 8000000 in
theorem sym_one (f : Nat) (lb : Array Value) (ef : ∀ args w, (callFunc f args).run Try.prog w = .ok (.enter f args) w) (lt : Int → Int → Bool) (hW : Route.Weak lt) (P B Q : List Int) (x : Int) (g cap n a m b : Nat) (rest : List Value) (w u w0 : World) (hn : (P ++ (x :: (B ++ Q))).length = n) (hX : n ≤ 100000) (hc : n ≤ cap) (ha : a = P.length) (hm : m = P.length + 1) (hb' : b = P.length + 1 + B.length) (hB : 0 < B.length) (hup : Route.Up lt B)
    (hcmp : CmpOk f lb lt (P ++ (x :: (B ++ Q))) g u w0) (hrow : w.heap[g]? = some (.cells ((P ++ (x :: (B ++ Q))).map iv ++ rest).toArray 3 (0, 0))) (hk : Kp g u w) (hg : g < u.heap.size) (hb : Below w0.heap.size w0 w) (hg0 : w0.heap.size ≤ g) :
    Calls Try.prog 89 #[.slice (some ⟨g, 0, none⟩) n cap, .int .i64 a, .int .i64 m, .int .i64 b, .func (.func f) #[] lb] w fun e w' =>
      (∃ v, e = .returned v) ∧ w'.heap[g]? = some (.cells ((P ++ (Route.merge lt [x] B ++ Q)).map iv ++ rest).toArray 3 (0, 0)) ∧ Kp g u w' ∧ Below w0.heap.size w0 w' := by
  have hn2 : P.length + 1 + B.length + Q.length = n := by rw [← hn]; simp; omega
  have w1 : IntKind.i64.wrap ((m : Int) - (a : Int)) = 1 := by rw [IntWalk.i64_in _ ⟨by omega, by omega⟩]; omega
  obtain ⟨X, hXe⟩ : ∃ X, P ++ (x :: (B ++ Q)) = X := ⟨_, rfl⟩
  rw [hXe] at hcmp hrow hn
  have HX := Lib.hid hXe
  have HB0 := Lib.hid hn2
  have HA := Lib.hid (And.intro ha (And.intro hm hb'))
  have hle : a < m ∧ m < b ∧ b ≤ n := by omega
  have HS := Lib.hid (show SeaI w0 u X g rest m b (fun k => ∀ y, X[k]? = some y → lt y x = true) (fun k => ∀ y, X[k]? = some y → lt y x = false) (.int .i64 m) (.int .i64 b) w from ⟨m, b, rfl, rfl, Nat.le_refl _, by omega, Nat.le_refl _, fun h => by omega, fun h => by omega, hrow, hk, hb⟩)
  clear hXe ha hm hb' hrow hk hb hn2
  go_enter Try.func89, Try.ntmps89
  go_wp2_with fail
  go_loopw [10, 11] (fun i j wr => SeaI w0 u X g rest m b (fun k => ∀ y, X[k]? = some y → lt y x = true) (fun k => ∀ y, X[k]? = some y → lt y x = false) i j wr) (fun i j _ => (intOf j).toNat - (intOf i).toNat)
  case atStart => exact HS.out
  case round =>
    clear HS
    obtain ⟨i, j, rfl, rfl, h1, h2, h3, hT, hF, hrow, hk, hb⟩ := hrel
    have HT := Lib.hid hT
    have HF := Lib.hid hF
    clear hT hF
    by_cases hlt : i < j
    · have i1 : (i : Int) < (j : Int) := by omega
      have s0 : IntKind.i64.wrap ((i : Int) + (j : Int)) = (i : Int) + (j : Int) := by rw [IntWalk.i64_in _ ⟨by omega, by omega⟩]
      obtain ⟨H, hHd⟩ : ∃ H, H = (i + j) / 2 := ⟨_, rfl⟩
      have s1 : ((i : Int) + (j : Int)) / 2 = (H : Int) := by omega
      have hHi : i ≤ H ∧ H < j := by omega
      have t0 : (0 : Int) ≤ (H : Int) := Int.natCast_nonneg _
      have t1 : (H : Int) < (n : Int) := by omega
      have t2 : H < n := by omega
      have t3 : (0 : Int) ≤ (a : Int) := Int.natCast_nonneg _
      have t4 : (a : Int) < (n : Int) := by omega
      have t5 : a < n := by omega
      have t6 : IntKind.i64.wrap ((H : Int) + 1) = ((H + 1 : Nat) : Int) := by rw [IntWalk.i64_in _ ⟨by omega, by omega⟩]; omega
      have ad0 : (⟨g, 0, none⟩ : Addr).add a = ⟨g, a, none⟩ := by rw [add_flat, Nat.zero_add]
      have ad1 : (⟨g, 0, none⟩ : Addr).add H = ⟨g, H, none⟩ := by rw [add_flat, Nat.zero_add]
      obtain ⟨y, hy⟩ : ∃ y, X[H]? = some y := ⟨_, List.getElem?_eq_getElem (by omega)⟩
      have hx : X[a]? = some x := by rw [← HX.out, HA.out.1]; simp
      have q0 := row_iv hrow hy
      have q1 := row_iv hrow hx
      have G0 := Lib.hid hy
      have G1 := Lib.hid hx
      have HX1 := Lib.hid (List.mem_of_getElem? hy)
      have HX2 := Lib.hid (List.mem_of_getElem? hx)
      have HHd := Lib.hid hHd
      clear hy hx hHd
      go_upto_region 5 with fail
      refine wp_region_noPanic ?_
      refine wp_region_held_drew (S := fun w' => w'.cell? ⟨g, H, none⟩ = some (.int .i64 y) ∧ w'.cell? ⟨g, a, none⟩ = some (.int .i64 x)) (by kernel_rfl) ?_ (fun hH => ?_)
      · exact ⟨q0, q1⟩
      refine Reg.take (i := 0) (u := ?sav0) rfl rfl rfl (by kernel_rfl) (by kernel_rfl) (by kernel_rfl) hH ?say0 ?sar0
      case say0 => (intro w hSw; (try dsimp only at hSw); go_simp; try (with_reducible rfl))
      case' sar0 => simp only [List.setIfInBounds_toArray, List.set_cons_zero, List.set_cons_succ]
      refine Reg.take (i := 1) (u := ?sav1) rfl rfl rfl (by kernel_rfl) (by kernel_rfl) (by kernel_rfl) hH ?say1 ?sar1
      case say1 => (intro w hSw; (try dsimp only at hSw); go_simp; try (with_reducible rfl))
      case' sar1 => simp only [List.setIfInBounds_toArray, List.set_cons_zero, List.set_cons_succ]
      refine Reg.take (i := 2) (u := ?sav2) rfl rfl rfl (by kernel_rfl) (by kernel_rfl) (by kernel_rfl) hH ?say2 ?sar2
      case say2 => (intro w hSw; (try dsimp only at hSw); go_simp; try (with_reducible rfl))
      case' sar2 => simp only [List.setIfInBounds_toArray, List.set_cons_zero, List.set_cons_succ]
      refine Reg.take (i := 3) (u := ?sav3) rfl rfl rfl (by kernel_rfl) (by kernel_rfl) (by kernel_rfl) hH ?say3 ?sar3
      case say3 => (intro w hSw; (try dsimp only at hSw); go_simp; try (with_reducible rfl))
      case' sar3 => simp only [List.setIfInBounds_toArray, List.set_cons_zero, List.set_cons_succ]
      refine Reg.take (i := 4) (u := ?sav4) rfl rfl rfl (by kernel_rfl) (by kernel_rfl) (by kernel_rfl) hH ?say4 ?sar4
      case say4 => (intro w hSw; (try dsimp only at hSw); go_simp; try (with_reducible rfl))
      case' sar4 => simp only [List.setIfInBounds_toArray, List.set_cons_zero, List.set_cons_succ]
      refine Reg.take (i := 5) (u := ?sav5) rfl rfl rfl (by kernel_rfl) (by kernel_rfl) (by kernel_rfl) hH ?say5 ?sar5
      case say5 => (intro w hSw; (try dsimp only at hSw); go_simp; try (with_reducible rfl))
      case' sar5 => simp only [List.setIfInBounds_toArray, List.set_cons_zero, List.set_cons_succ]
      refine Reg.take (i := 6) (u := ?sav6) rfl rfl rfl (by kernel_rfl) (by kernel_rfl) (by kernel_rfl) hH ?say6 ?sar6
      case say6 => (intro w hSw; (try dsimp only at hSw); go_simp; try (with_reducible rfl))
      case' sar6 => simp only [List.setIfInBounds_toArray, List.set_cons_zero, List.set_cons_succ]
      refine Reg.take (i := 7) (u := ?sav7) rfl rfl rfl (by kernel_rfl) (by kernel_rfl) (by kernel_rfl) hH ?say7 ?sar7
      case say7 => (intro w hSw; (try dsimp only at hSw); go_simp; try (with_reducible rfl))
      case' sar7 => simp only [List.setIfInBounds_toArray, List.set_cons_zero, List.set_cons_succ]
      refine Reg.take (i := 8) (u := ?sav8) rfl rfl rfl (by kernel_rfl) (by kernel_rfl) (by kernel_rfl) hH ?say8 ?sar8
      case say8 => (intro w hSw; (try dsimp only at hSw); go_simp; try (with_reducible rfl))
      case' sar8 => simp only [List.setIfInBounds_toArray, List.set_cons_zero, List.set_cons_succ]
      refine Reg.only (i := 9) rfl (Reg.wanted_free rfl) (by kernel_rfl) (fun K hK => ?_)
      go_simp
      refine (hcmp y HX1.out x HX2.out wr.drew hk.drew hb.drew).mono ?_
      rintro e6 w6 ⟨v, rfl, hv, g6⟩
      go_simp
      have hk6 := hk.drew.below g6 (Nat.le_refl _)
      have hb6 : Below w0.heap.size w0 w6 := hb.drew.trans (g6.mono (by have := hb.size; exact this))
      have hrow6 : w6.heap[g]? = _ := (g6.block g (by have := hk.size; show g < wr.heap.size; omega)).trans hrow
      have z0 := row_iv hrow6 G0.out
      have z1 := row_iv hrow6 G1.out
      refine hK.out _ _ ⟨z0, z1⟩ (fun hH2 => ?_)
      clear hK hH q0 q1
      have hH := hH2; clear hH2
      try simp only [Act.put, List.setIfInBounds_toArray, List.set_cons_zero, List.set_cons_succ]
      refine Reg.take (i := 10) (u := ?sbv10) rfl rfl rfl (by kernel_rfl) (by kernel_rfl) (by kernel_rfl) hH ?sby10 ?sbr10
      case sby10 => (intro w hSw; (try dsimp only at hSw); go_simp; try (with_reducible rfl))
      case' sbr10 => simp only [List.setIfInBounds_toArray, List.set_cons_zero, List.set_cons_succ]
      refine wpAnyH_done (by kernel_rfl) ?_ _
      refine NoPanic.normal ?_
      clear z0 z1
      clear hv
      rcases hls : lt y x with _ | _
      · have Hls := Lib.hid hls
        clear hls
        go_wp2_with fail
        refine ⟨⟨i, H, rfl, rfl, h1, hHi.1, by omega, HT.out, fun _ y' hy' => ?_, hrow6, hk6, hb6⟩, by simp [intOf]; omega⟩
        obtain rfl : y = y' := by have := G0.out.symm.trans hy'; injection this
        exact Hls.out
      · have Hls := Lib.hid hls
        clear hls
        go_wp2_with fail
        refine ⟨⟨H + 1, j, by first | go_num | rfl, rfl, by omega, by omega, h3, fun _ y' hy' => ?_, HF.out, hrow6, hk6, hb6⟩, by simp [intOf]; omega⟩
        obtain rfl : y = y' := by have := G0.out.symm.trans (by simpa using hy'); injection this
        exact Hls.out
    · obtain rfl : i = j := by omega
      have hd := HA.out
      obtain ⟨d, hdd⟩ : ∃ d, d = i - m := ⟨_, rfl⟩
      have hmg := Lib.hid (Route.merge_one hW (x := x) hup (j := d) (by omega) (fun y hy h0 => HT.out (by omega) y (by
        rw [← HX.out, List.getElem?_append_right (by omega), show i - 1 - P.length = (d - 1) + 1 by omega, List.getElem?_cons_succ, List.getElem?_append_left (by omega)]; exact hy)) (fun y hy => by
        have hl := (List.getElem?_eq_some_iff.1 hy).1
        exact HF.out (by omega) y (by
          rw [← HX.out, List.getElem?_append_right (by omega), show i - P.length = d + 1 by omega, List.getElem?_cons_succ, List.getElem?_append_left (by omega)]; exact hy)))
      have w3 : IntKind.i64.wrap ((i : Int) - 1) = ((i - 1 : Nat) : Int) := by rw [IntWalk.i64_in _ ⟨by omega, by omega⟩]; omega
      obtain ⟨D, hD⟩ : ∃ D, D = i - 1 := ⟨_, rfl⟩
      rw [← hD] at w3
      have HD := Lib.hid (show D = a + d by omega)
      have hdB : d ≤ B.length := by omega
      have hDn : D < n := by omega
      have HS2 := Lib.hid (show wr.heap[g]? = some (.cells ((P ++ (B.take 0 ++ x :: (B.drop 0 ++ Q))).map iv ++ rest).toArray 3 (0, 0)) from by rw [show P ++ (B.take 0 ++ x :: (B.drop 0 ++ Q)) = X by rw [← HX.out]; simp]; exact hrow)
      have hBk := HB0.out
      clear hD hdd hrow hd
      go_wp2_with fail
      go_loopw [13] (fun kk wr => ∃ k t : Nat, kk = .int .i64 k ∧ k = a + t ∧ t ≤ d ∧ wr.heap[g]? = some (.cells ((P ++ (B.take t ++ x :: (B.drop t ++ Q))).map iv ++ rest).toArray 3 (0, 0)) ∧ Kp g u wr ∧ Below w0.heap.size w0 wr) (fun kk _ => D - (intOf kk).toNat)
      case atStart => exact ⟨a, 0, rfl, rfl, Nat.zero_le _, HS2.out, hk, hb⟩
      case round =>
        clear HS2 hk hb
        obtain ⟨k, t, rfl, hkt, htd, hrow, hk, hb⟩ := hrel
        by_cases hlt : t < d
        · have j1 : (k : Int) < (D : Int) := by have := HD.out; omega
          have htB : t < B.length := by omega
          obtain ⟨e, he⟩ : ∃ e, B[t]? = some e := ⟨_, List.getElem?_eq_getElem htB⟩
          obtain ⟨L, hL⟩ : ∃ L, L = P ++ B.take t := ⟨_, rfl⟩
          obtain ⟨R, hR⟩ : ∃ R, R = B.drop (t + 1) ++ Q := ⟨_, rfl⟩
          have hLl : L.length = k := by rw [hL, List.length_append, List.length_take, hkt, HA.out.1]; omega
          have hdr : B.drop t = e :: B.drop (t + 1) := by obtain ⟨y1, y2⟩ := List.getElem?_eq_some_iff.1 he; rw [List.drop_eq_getElem_cons y1, y2]
          have hY : P ++ (B.take t ++ x :: (B.drop t ++ Q)) = L ++ x :: e :: R := by rw [hdr, hL, hR]; simp
          have hZ : L ++ e :: x :: R = P ++ (B.take (t + 1) ++ x :: (B.drop (t + 1) ++ Q)) := by
            rw [hL, hR, List.take_add_one, he]; simp
          rw [hY] at hrow
          obtain ⟨k1, hk1⟩ : ∃ k1, k1 = k + 1 := ⟨_, rfl⟩
          have m1 : IntKind.i64.wrap ((k : Int) + 1) = (k1 : Int) := by rw [IntWalk.i64_in _ ⟨by omega, by omega⟩]; omega
          have g0 : (L ++ x :: e :: R)[k]? = some x := get_mid hLl.symm
          have g1 : (L ++ x :: e :: R)[k1]? = some e := by rw [show L ++ x :: e :: R = (L ++ [x]) ++ e :: R by simp]; exact get_mid (by simp; omega)
          have hYl : (L ++ x :: e :: R).length = n := by rw [← hY, ← hn, ← HX.out]; simp; omega
          have q0 := row_iv hrow g0
          have q1 := row_iv hrow g1
          have a0 : (0 : Int) ≤ (k : Int) := Int.natCast_nonneg _
          have a1 : (k : Int) < (n : Int) := by omega
          have a2 : k < n := by omega
          have b0 : (0 : Int) ≤ (k1 : Int) := Int.natCast_nonneg _
          have b1 : (k1 : Int) < (n : Int) := by have := HD.out; omega
          have b2 : k1 < n := by omega
          have hne : k ≠ k1 := by omega
          have ad0 : (⟨g, 0, none⟩ : Addr).add k = ⟨g, k, none⟩ := by rw [add_flat, Nat.zero_add]
          have ad1 : (⟨g, 0, none⟩ : Addr).add k1 = ⟨g, k1, none⟩ := by rw [add_flat, Nat.zero_add]
          have fz : ∀ j, wr.frozen? ⟨g, j, none⟩ = false := fun j => row_frozen hrow j
          have hrowA := set_row hrow k (.int .i64 e)
          have fzA : ∀ j, (wr.setCell ⟨g, k, none⟩ (.int .i64 e)).frozen? ⟨g, j, none⟩ = false := fun j => row_frozen hrowA j
          have cA : (wr.setCell ⟨g, k, none⟩ (.int .i64 e)).cell? ⟨g, k1, none⟩ = some (.int .i64 e) := by
            rw [row_cell hrowA, List.getElem?_set_ne hne, ← row_cell hrow]; exact q1
          have hrowB := set_row hrowA k1 (.int .i64 x)
          rw [show (Value.int .i64 x) = iv x from rfl, show (Value.int .i64 e) = iv e from rfl, set_iv _ _ _ _ (by rw [hYl]; exact a2), set_iv _ _ _ _ (by rw [List.length_set, hYl]; exact b2), set_mid hLl.symm, show L ++ e :: e :: R = (L ++ [e]) ++ e :: R by simp, set_mid (by simp; omega), show (L ++ [e]) ++ x :: R = L ++ e :: x :: R by simp, hZ] at hrowB
          have HRB := Lib.hid hrowB
          have HK1 := Lib.hid hk1
          have HKT := Lib.hid hkt
          clear hrowB hrowA hZ hY hdr hR hL hLl he g0 g1 hYl hk1 hkt hBk
          go_wp2_with fail
          refine wp_region_noPanic ?_
          refine wp_region_held_drew (S := fun _ => True) (by kernel_rfl) trivial (fun hH => ?_)
          refine Reg.take (i := 0) (u := ?icv0) rfl rfl rfl (by kernel_rfl) (by kernel_rfl) (by kernel_rfl) hH ?icy0 ?icr0
          case icy0 => (intro w hSw; (try dsimp only at hSw); go_simp; try (with_reducible rfl))
          case' icr0 => simp only [List.setIfInBounds_toArray, List.set_cons_zero, List.set_cons_succ]
          refine Reg.take (i := 1) (u := ?icv1) rfl rfl rfl (by kernel_rfl) (by kernel_rfl) (by kernel_rfl) hH ?icy1 ?icr1
          case icy1 => (intro w hSw; (try dsimp only at hSw); go_simp; try (with_reducible rfl))
          case' icr1 => simp only [List.setIfInBounds_toArray, List.set_cons_zero, List.set_cons_succ]
          refine Reg.take (i := 2) (u := ?icv2) rfl rfl rfl (by kernel_rfl) (by kernel_rfl) (by kernel_rfl) hH ?icy2 ?icr2
          case icy2 => (intro w hSw; (try dsimp only at hSw); go_simp; try (with_reducible rfl))
          case' icr2 => simp only [List.setIfInBounds_toArray, List.set_cons_zero, List.set_cons_succ]
          refine Reg.take (i := 3) (u := ?icv3) rfl rfl rfl (by kernel_rfl) (by kernel_rfl) (by kernel_rfl) hH ?icy3 ?icr3
          case icy3 => (intro w hSw; (try dsimp only at hSw); go_simp; try (with_reducible rfl))
          case' icr3 => simp only [List.setIfInBounds_toArray, List.set_cons_zero, List.set_cons_succ]
          refine Reg.take (i := 4) (u := ?icv4) rfl rfl rfl (by kernel_rfl) (by kernel_rfl) (by kernel_rfl) hH ?icy4 ?icr4
          case icy4 => (intro w hSw; (try dsimp only at hSw); go_simp; try (with_reducible rfl))
          case' icr4 => simp only [List.setIfInBounds_toArray, List.set_cons_zero, List.set_cons_succ]
          refine Reg.take (i := 5) (u := ?icv5) rfl rfl rfl (by kernel_rfl) (by kernel_rfl) (by kernel_rfl) hH ?icy5 ?icr5
          case icy5 => (intro w hSw; (try dsimp only at hSw); go_simp; try (with_reducible rfl))
          case' icr5 => simp only [List.setIfInBounds_toArray, List.set_cons_zero, List.set_cons_succ]
          refine Reg.take (i := 6) (u := ?icv6) rfl rfl rfl (by kernel_rfl) (by kernel_rfl) (by kernel_rfl) hH ?icy6 ?icr6
          case icy6 => (intro w hSw; (try dsimp only at hSw); go_simp; try (with_reducible rfl))
          case' icr6 => simp only [List.setIfInBounds_toArray, List.set_cons_zero, List.set_cons_succ]
          refine Reg.take (i := 7) (u := ?icv7) rfl rfl rfl (by kernel_rfl) (by kernel_rfl) (by kernel_rfl) hH ?icy7 ?icr7
          case icy7 => (intro w hSw; (try dsimp only at hSw); go_simp; try (with_reducible rfl))
          case' icr7 => simp only [List.setIfInBounds_toArray, List.set_cons_zero, List.set_cons_succ]
          refine Reg.take (i := 8) (u := ?icv8) rfl rfl rfl (by kernel_rfl) (by kernel_rfl) (by kernel_rfl) hH ?icy8 ?icr8
          case icy8 => (intro w hSw; (try dsimp only at hSw); go_simp; try (with_reducible rfl))
          case' icr8 => simp only [List.setIfInBounds_toArray, List.set_cons_zero, List.set_cons_succ]
          refine Reg.take (i := 10) (u := ?icv10) rfl rfl rfl (by kernel_rfl) (by kernel_rfl) (by kernel_rfl) hH ?icy10 ?icr10
          case icy10 => (intro w hSw; (try dsimp only at hSw); go_simp; try (with_reducible rfl))
          case' icr10 => simp only [List.setIfInBounds_toArray, List.set_cons_zero, List.set_cons_succ]
          refine Reg.take (i := 11) (u := ?icv11) rfl rfl rfl (by kernel_rfl) (by kernel_rfl) (by kernel_rfl) hH ?icy11 ?icr11
          case icy11 => (intro w hSw; (try dsimp only at hSw); go_simp; try (with_reducible rfl))
          case' icr11 => simp only [List.setIfInBounds_toArray, List.set_cons_zero, List.set_cons_succ]
          refine Reg.take (i := 12) (u := ?icv12) rfl rfl rfl (by kernel_rfl) (by kernel_rfl) (by kernel_rfl) hH ?icy12 ?icr12
          case icy12 => (intro w hSw; (try dsimp only at hSw); go_simp; try (with_reducible rfl))
          case' icr12 => simp only [List.setIfInBounds_toArray, List.set_cons_zero, List.set_cons_succ]
          refine Reg.pair (i := 9) (j := 13) (u := .int .i64 e) (x := .int .i64 x) (w1 := wr.drew) rfl rfl rfl rfl rfl rfl (by kernel_rfl) (by kernel_rfl) (by kernel_rfl) trivial trivial (by decide) (by decide) ?icy1 ?icy2 ?icy3 ?icy4 ?icgo
          case icy1 => (go_simp; try (with_reducible rfl))
          case icy2 => (go_simp; try (with_reducible rfl))
          case icy3 => (go_simp; try (with_reducible rfl))
          case icy4 => (go_simp; try (with_reducible rfl))
          case' icgo => simp only [List.setIfInBounds_toArray, List.set_cons_zero, List.set_cons_succ]
          refine Reg.only (i := 14) rfl (Reg.wanted_free rfl) (by kernel_rfl) (fun K hK => ?_)
          go_simp
          refine hK.out _ _ trivial (fun hH2 => ?_)
          clear hK hH
          have hH := hH2; clear hH2
          try simp only [Act.put, List.setIfInBounds_toArray, List.set_cons_zero, List.set_cons_succ]
          refine Reg.only (i := 15) rfl (Reg.wanted_free rfl) (by kernel_rfl) (fun K hK => ?_)
          go_simp
          refine hK.out _ _ trivial (fun hH2 => ?_)
          clear hK hH
          have hH := hH2; clear hH2
          try simp only [Act.put, List.setIfInBounds_toArray, List.set_cons_zero, List.set_cons_succ]
          refine Reg.only (i := 16) rfl (Reg.wanted_free rfl) (by kernel_rfl) (fun K hK => ?_)
          go_simp
          refine hK.out _ _ trivial (fun hH2 => ?_)
          clear hK hH
          have hH := hH2; clear hH2
          try simp only [Act.put, List.setIfInBounds_toArray, List.set_cons_zero, List.set_cons_succ]
          refine Reg.only (i := 17) rfl (Reg.wanted_free rfl) (by kernel_rfl) (fun K hK => ?_)
          go_simp
          refine hK.out _ _ trivial (fun hH2 => ?_)
          clear hK hH
          have hH := hH2; clear hH2
          try simp only [Act.put, List.setIfInBounds_toArray, List.set_cons_zero, List.set_cons_succ]
          refine wpAnyH_done (by kernel_rfl) ?_ _
          refine NoPanic.normal ?_
          go_wp2_with fail
          refine ⟨⟨k1, t + 1, by first | go_num | rfl, by rw [HK1.out, HKT.out]; rfl, hlt, HRB.out, ((hk.setD k _).setD k1 _).drew, ((hb.setCell (p := ⟨g, k, none⟩) hg0 _).setCell (p := ⟨g, k1, none⟩) hg0 _).drew⟩, by have := HK1.out; simp [intOf]; omega⟩
        · obtain rfl : t = d := by omega
          have j1 : ¬ (k : Int) < (D : Int) := by have := HD.out; omega
          rw [show P ++ (B.take t ++ x :: (B.drop t ++ Q)) = P ++ (Route.merge lt [x] B ++ Q) by rw [hmg.out]; simp] at hrow
          clear hBk
          go_wp2_with fail
          refine bodyPost_ret (results_none rfl _ _ _) rfl ?_
          exact ⟨⟨_, rfl⟩, by simpa using hrow, hk, hb⟩
end Go.Proofs.Ytefilalapkdegaa
namespace Go.Proofs.Ytefilalapkdegaa
open Go.RowKit Str Mem
set_option linter.unusedVariables false
set_option linter.unusedSimpArgs false

set_option maxRecDepth 20000 in
set_option maxHeartbeats 8000000 in
theorem sym_one' (f : Nat) (lb : Array Value) (ef : ∀ args w, (callFunc f args).run Try.prog w = .ok (.enter f args) w) (lt : Int → Int → Bool) (hW : Route.Weak lt) (P A Q : List Int) (y : Int) (g cap n a m b : Nat) (rest : List Value) (w u w0 : World) (hn : (P ++ (A ++ (y :: Q))).length = n) (hX : n ≤ 100000) (hc : n ≤ cap) (ha : a = P.length) (hm : m = P.length + A.length) (hb' : b = P.length + A.length + 1) (hB : 1 < A.length) (hup : Route.Up lt A)
    (hcmp : CmpOk f lb lt (P ++ (A ++ (y :: Q))) g u w0) (hrow : w.heap[g]? = some (.cells ((P ++ (A ++ (y :: Q))).map iv ++ rest).toArray 3 (0, 0))) (hk : Kp g u w) (hg : g < u.heap.size) (hb : Below w0.heap.size w0 w) (hg0 : w0.heap.size ≤ g) :
    Calls Try.prog 89 #[.slice (some ⟨g, 0, none⟩) n cap, .int .i64 a, .int .i64 m, .int .i64 b, .func (.func f) #[] lb] w fun e w' =>
      (∃ v, e = .returned v) ∧ w'.heap[g]? = some (.cells ((P ++ (Route.merge lt A [y] ++ Q)).map iv ++ rest).toArray 3 (0, 0)) ∧ Kp g u w' ∧ Below w0.heap.size w0 w' := by
  have hn2 : P.length + A.length + 1 + Q.length = n := by rw [← hn]; simp; omega
  have w1 : IntKind.i64.wrap ((m : Int) - (a : Int)) = (A.length : Int) := by rw [IntWalk.i64_in _ ⟨by omega, by omega⟩]; omega
  have w2 : IntKind.i64.wrap ((b : Int) - (m : Int)) = 1 := by rw [IntWalk.i64_in _ ⟨by omega, by omega⟩]; omega
  have w1b : ¬ (A.length : Int) = 1 := by omega
  have w1c : ((A.length : Int) == 1) = false := by simp; omega
  have w1d : ¬ A.length = 1 := by omega
  obtain ⟨X, hXe⟩ : ∃ X, P ++ (A ++ (y :: Q)) = X := ⟨_, rfl⟩
  rw [hXe] at hcmp hrow hn
  have HX := Lib.hid hXe
  have HB0 := Lib.hid hn2
  have HA := Lib.hid (And.intro ha (And.intro hm hb'))
  have hle : a < m ∧ m < b ∧ b ≤ n := by omega
  have HS := Lib.hid (show SeaI w0 u X g rest a m (fun k => ∀ x, X[k]? = some x → lt y x = false) (fun k => ∀ x, X[k]? = some x → lt y x = true) (.int .i64 a) (.int .i64 m) w from ⟨a, m, rfl, rfl, Nat.le_refl _, by omega, Nat.le_refl _, fun h => by omega, fun h => by omega, hrow, hk, hb⟩)
  clear hXe ha hm hb' hrow hk hb hn2
  go_enter Try.func89, Try.ntmps89
  go_wp2_with fail
  clear w1 w2 w1b w1c w1d
  go_loopw [14, 15] (fun i j wr => SeaI w0 u X g rest a m (fun k => ∀ x, X[k]? = some x → lt y x = false) (fun k => ∀ x, X[k]? = some x → lt y x = true) i j wr) (fun i j _ => (intOf j).toNat - (intOf i).toNat)
  case atStart => exact HS.out
  case round =>
    clear HS
    obtain ⟨i, j, rfl, rfl, h1, h2, h3, hT, hF, hrow, hk, hb⟩ := hrel
    have HT := Lib.hid hT
    have HF := Lib.hid hF
    clear hT hF
    by_cases hlt : i < j
    · have i1 : (i : Int) < (j : Int) := by omega
      have s0 : IntKind.i64.wrap ((i : Int) + (j : Int)) = (i : Int) + (j : Int) := by rw [IntWalk.i64_in _ ⟨by omega, by omega⟩]
      obtain ⟨H, hHd⟩ : ∃ H, H = (i + j) / 2 := ⟨_, rfl⟩
      have s1 : ((i : Int) + (j : Int)) / 2 = (H : Int) := by omega
      have hHi : i ≤ H ∧ H < j := by omega
      have t0 : (0 : Int) ≤ (H : Int) := Int.natCast_nonneg _
      have t1 : (H : Int) < (n : Int) := by omega
      have t2 : H < n := by omega
      have t3 : (0 : Int) ≤ (m : Int) := Int.natCast_nonneg _
      have t4 : (m : Int) < (n : Int) := by omega
      have t5 : m < n := by omega
      have t6 : IntKind.i64.wrap ((H : Int) + 1) = ((H + 1 : Nat) : Int) := by rw [IntWalk.i64_in _ ⟨by omega, by omega⟩]; omega
      have ad0 : (⟨g, 0, none⟩ : Addr).add m = ⟨g, m, none⟩ := by rw [add_flat, Nat.zero_add]
      have ad1 : (⟨g, 0, none⟩ : Addr).add H = ⟨g, H, none⟩ := by rw [add_flat, Nat.zero_add]
      obtain ⟨x, hx⟩ : ∃ x, X[H]? = some x := ⟨_, List.getElem?_eq_getElem (by omega)⟩
      have hy : X[m]? = some y := by
        rw [← HX.out, List.getElem?_append_right (by have := HA.out.2.1; omega), List.getElem?_append_right (by have := HA.out.2.1; omega), show m - P.length - A.length = 0 by have := HA.out.2.1; omega]; rfl
      have q0 := row_iv hrow hy
      have q1 := row_iv hrow hx
      have G0 := Lib.hid hy
      have G1 := Lib.hid hx
      have HX1 := Lib.hid (List.mem_of_getElem? hy)
      have HX2 := Lib.hid (List.mem_of_getElem? hx)
      have HHd := Lib.hid hHd
      clear hy hx hHd
      go_upto_region 17 with fail
      refine wp_region_noPanic ?_
      refine wp_region_held_drew (S := fun w' => w'.cell? ⟨g, m, none⟩ = some (.int .i64 y) ∧ w'.cell? ⟨g, H, none⟩ = some (.int .i64 x)) (by kernel_rfl) ?_ (fun hH => ?_)
      · exact ⟨q0, q1⟩
      refine Reg.take (i := 0) (u := ?sav0) rfl rfl rfl (by kernel_rfl) (by kernel_rfl) (by kernel_rfl) hH ?say0 ?sar0
      case say0 => (intro w hSw; (try dsimp only at hSw); go_simp; try (with_reducible rfl))
      case' sar0 => simp only [List.setIfInBounds_toArray, List.set_cons_zero, List.set_cons_succ]
      refine Reg.take (i := 1) (u := ?sav1) rfl rfl rfl (by kernel_rfl) (by kernel_rfl) (by kernel_rfl) hH ?say1 ?sar1
      case say1 => (intro w hSw; (try dsimp only at hSw); go_simp; try (with_reducible rfl))
      case' sar1 => simp only [List.setIfInBounds_toArray, List.set_cons_zero, List.set_cons_succ]
      refine Reg.take (i := 2) (u := ?sav2) rfl rfl rfl (by kernel_rfl) (by kernel_rfl) (by kernel_rfl) hH ?say2 ?sar2
      case say2 => (intro w hSw; (try dsimp only at hSw); go_simp; try (with_reducible rfl))
      case' sar2 => simp only [List.setIfInBounds_toArray, List.set_cons_zero, List.set_cons_succ]
      refine Reg.take (i := 3) (u := ?sav3) rfl rfl rfl (by kernel_rfl) (by kernel_rfl) (by kernel_rfl) hH ?say3 ?sar3
      case say3 => (intro w hSw; (try dsimp only at hSw); go_simp; try (with_reducible rfl))
      case' sar3 => simp only [List.setIfInBounds_toArray, List.set_cons_zero, List.set_cons_succ]
      refine Reg.take (i := 4) (u := ?sav4) rfl rfl rfl (by kernel_rfl) (by kernel_rfl) (by kernel_rfl) hH ?say4 ?sar4
      case say4 => (intro w hSw; (try dsimp only at hSw); go_simp; try (with_reducible rfl))
      case' sar4 => simp only [List.setIfInBounds_toArray, List.set_cons_zero, List.set_cons_succ]
      refine Reg.take (i := 5) (u := ?sav5) rfl rfl rfl (by kernel_rfl) (by kernel_rfl) (by kernel_rfl) hH ?say5 ?sar5
      case say5 => (intro w hSw; (try dsimp only at hSw); go_simp; try (with_reducible rfl))
      case' sar5 => simp only [List.setIfInBounds_toArray, List.set_cons_zero, List.set_cons_succ]
      refine Reg.take (i := 6) (u := ?sav6) rfl rfl rfl (by kernel_rfl) (by kernel_rfl) (by kernel_rfl) hH ?say6 ?sar6
      case say6 => (intro w hSw; (try dsimp only at hSw); go_simp; try (with_reducible rfl))
      case' sar6 => simp only [List.setIfInBounds_toArray, List.set_cons_zero, List.set_cons_succ]
      refine Reg.take (i := 7) (u := ?sav7) rfl rfl rfl (by kernel_rfl) (by kernel_rfl) (by kernel_rfl) hH ?say7 ?sar7
      case say7 => (intro w hSw; (try dsimp only at hSw); go_simp; try (with_reducible rfl))
      case' sar7 => simp only [List.setIfInBounds_toArray, List.set_cons_zero, List.set_cons_succ]
      refine Reg.take (i := 8) (u := ?sav8) rfl rfl rfl (by kernel_rfl) (by kernel_rfl) (by kernel_rfl) hH ?say8 ?sar8
      case say8 => (intro w hSw; (try dsimp only at hSw); go_simp; try (with_reducible rfl))
      case' sar8 => simp only [List.setIfInBounds_toArray, List.set_cons_zero, List.set_cons_succ]
      refine Reg.only (i := 9) rfl (Reg.wanted_free rfl) (by kernel_rfl) (fun K hK => ?_)
      go_simp
      refine (hcmp y HX1.out x HX2.out wr.drew hk.drew hb.drew).mono ?_
      rintro e6 w6 ⟨v, rfl, hv, g6⟩
      go_simp
      have hk6 := hk.drew.below g6 (Nat.le_refl _)
      have hb6 : Below w0.heap.size w0 w6 := hb.drew.trans (g6.mono (by have := hb.size; exact this))
      have hrow6 : w6.heap[g]? = _ := (g6.block g (by have := hk.size; show g < wr.heap.size; omega)).trans hrow
      have z0 := row_iv hrow6 G0.out
      have z1 := row_iv hrow6 G1.out
      refine hK.out _ _ ⟨z0, z1⟩ (fun hH2 => ?_)
      clear hK hH q0 q1
      have hH := hH2; clear hH2
      try simp only [Act.put, List.setIfInBounds_toArray, List.set_cons_zero, List.set_cons_succ]
      refine Reg.take (i := 10) (u := ?sbv10) rfl rfl rfl (by kernel_rfl) (by kernel_rfl) (by kernel_rfl) hH ?sby10 ?sbr10
      case sby10 => (intro w hSw; (try dsimp only at hSw); go_simp; try (with_reducible rfl))
      case' sbr10 => simp only [List.setIfInBounds_toArray, List.set_cons_zero, List.set_cons_succ]
      refine Reg.take (i := 11) (u := ?sbv11) rfl rfl rfl (by kernel_rfl) (by kernel_rfl) (by kernel_rfl) hH ?sby11 ?sbr11
      case sby11 => (intro w hSw; (try dsimp only at hSw); go_simp; try (with_reducible rfl))
      case' sbr11 => simp only [List.setIfInBounds_toArray, List.set_cons_zero, List.set_cons_succ]
      refine wpAnyH_done (by kernel_rfl) ?_ _
      refine NoPanic.normal ?_
      clear z0 z1
      clear hv
      rcases hls : lt y x with _ | _
      · have Hls := Lib.hid hls
        clear hls
        go_wp2_with fail
        refine ⟨⟨H + 1, j, by first | go_num | rfl, rfl, by omega, by omega, h3, fun _ x' hx' => ?_, HF.out, hrow6, hk6, hb6⟩, by simp [intOf]; omega⟩
        obtain rfl : x = x' := by have := G1.out.symm.trans (by simpa using hx'); injection this
        exact Hls.out
      · have Hls := Lib.hid hls
        clear hls
        go_wp2_with fail
        refine ⟨⟨i, H, rfl, rfl, h1, hHi.1, by omega, HT.out, fun _ x' hx' => ?_, hrow6, hk6, hb6⟩, by simp [intOf]; omega⟩
        obtain rfl : x = x' := by have := G1.out.symm.trans hx'; injection this
        exact Hls.out
    · obtain rfl : i = j := by omega
      have hd := HA.out
      obtain ⟨d, hdd⟩ : ∃ d, d = i - a := ⟨_, rfl⟩
      have hmg := Lib.hid (Route.merge_one' hW (y := y) hup (i := d) (by omega) (fun x hx => by
        have hl := (List.getElem?_eq_some_iff.1 hx).1
        exact HF.out (by omega) x (by
          rw [← HX.out, List.getElem?_append_right (by omega), show i - P.length = d by omega, List.getElem?_append_left (by omega)]; exact hx)) (fun x hx h0 => HT.out (by omega) x (by
        rw [← HX.out, List.getElem?_append_right (by omega), show i - 1 - P.length = d - 1 by omega, List.getElem?_append_left (by omega)]; exact hx)))
      have hdA : d ≤ A.length := by omega
      have HD := Lib.hid (show i = a + d by omega)
      have HS2 := Lib.hid (show wr.heap[g]? = some (.cells ((P ++ (A.take A.length ++ y :: (A.drop A.length ++ Q))).map iv ++ rest).toArray 3 (0, 0)) from by rw [show P ++ (A.take A.length ++ y :: (A.drop A.length ++ Q)) = X by rw [← HX.out]; simp]; exact hrow)
      have hBk := HB0.out
      clear hdd hrow hd
      go_wp2_with fail
      go_loopw [17] (fun kk wr => ∃ k t : Nat, kk = .int .i64 k ∧ k = a + t ∧ d ≤ t ∧ t ≤ A.length ∧ wr.heap[g]? = some (.cells ((P ++ (A.take t ++ y :: (A.drop t ++ Q))).map iv ++ rest).toArray 3 (0, 0)) ∧ Kp g u wr ∧ Below w0.heap.size w0 wr) (fun kk _ => (intOf kk).toNat)
      case atStart => exact ⟨m, A.length, rfl, by have := HA.out; omega, hdA, Nat.le_refl _, HS2.out, hk, hb⟩
      case round =>
        clear HS2 hk hb
        obtain ⟨k, t, rfl, hkt, hdt, htA, hrow, hk, hb⟩ := hrel
        by_cases hlt : d < t
        · have j1 : (i : Int) < (k : Int) := by have := HD.out; omega
          obtain ⟨t1, rfl⟩ : ∃ t1, t = t1 + 1 := ⟨t - 1, by omega⟩
          have htB : t1 < A.length := by omega
          obtain ⟨e, he⟩ : ∃ e, A[t1]? = some e := ⟨_, List.getElem?_eq_getElem htB⟩
          obtain ⟨L, hL⟩ : ∃ L, L = P ++ A.take t1 := ⟨_, rfl⟩
          obtain ⟨R, hR⟩ : ∃ R, R = A.drop (t1 + 1) ++ Q := ⟨_, rfl⟩
          have hdr : A.drop t1 = e :: A.drop (t1 + 1) := by obtain ⟨y1, y2⟩ := List.getElem?_eq_some_iff.1 he; rw [List.drop_eq_getElem_cons y1, y2]
          have hY : P ++ (A.take (t1 + 1) ++ y :: (A.drop (t1 + 1) ++ Q)) = L ++ e :: y :: R := by
            rw [hL, hR, List.take_add_one, he]; simp
          have hZ : L ++ y :: e :: R = P ++ (A.take t1 ++ y :: (A.drop t1 ++ Q)) := by rw [hdr, hL, hR]; simp
          rw [hY] at hrow
          obtain ⟨k1, hk1⟩ : ∃ k1, k = k1 + 1 := ⟨k - 1, by omega⟩
          have hLl : L.length = k1 := by rw [hL, List.length_append, List.length_take]; have := HA.out.1; omega
          have m1 : IntKind.i64.wrap ((k : Int) - 1) = (k1 : Int) := by rw [IntWalk.i64_in _ ⟨by omega, by omega⟩]; omega
          have g0 : (L ++ e :: y :: R)[k]? = some y := by rw [show L ++ e :: y :: R = (L ++ [e]) ++ y :: R by simp]; exact get_mid (by simp; omega)
          have g1 : (L ++ e :: y :: R)[k1]? = some e := get_mid hLl.symm
          have hYl : (L ++ e :: y :: R).length = n := by rw [← hY, ← hn, ← HX.out]; simp; omega
          have q0 := row_iv hrow g0
          have q1 := row_iv hrow g1
          have a0 : (0 : Int) ≤ (k : Int) := Int.natCast_nonneg _
          have a2 : k < n := by have := HA.out; omega
          have a1 : (k : Int) < (n : Int) := by omega
          have b0 : (0 : Int) ≤ (k1 : Int) := Int.natCast_nonneg _
          have b2 : k1 < n := by omega
          have b1 : (k1 : Int) < (n : Int) := by omega
          have hne : k ≠ k1 := by omega
          have ad0 : (⟨g, 0, none⟩ : Addr).add k = ⟨g, k, none⟩ := by rw [add_flat, Nat.zero_add]
          have ad1 : (⟨g, 0, none⟩ : Addr).add k1 = ⟨g, k1, none⟩ := by rw [add_flat, Nat.zero_add]
          have fz : ∀ j, wr.frozen? ⟨g, j, none⟩ = false := fun j => row_frozen hrow j
          have hrowA := set_row hrow k (.int .i64 e)
          have fzA : ∀ j, (wr.setCell ⟨g, k, none⟩ (.int .i64 e)).frozen? ⟨g, j, none⟩ = false := fun j => row_frozen hrowA j
          have cA : (wr.setCell ⟨g, k, none⟩ (.int .i64 e)).cell? ⟨g, k1, none⟩ = some (.int .i64 e) := by
            rw [row_cell hrowA, List.getElem?_set_ne hne, ← row_cell hrow]; exact q1
          have hrowB := set_row hrowA k1 (.int .i64 y)
          rw [show (Value.int .i64 y) = iv y from rfl, show (Value.int .i64 e) = iv e from rfl, set_iv _ _ _ _ (by rw [hYl]; exact a2), set_iv _ _ _ _ (by rw [List.length_set, hYl]; exact b2), show L ++ e :: y :: R = (L ++ [e]) ++ y :: R by simp, set_mid (by simp; omega), show (L ++ [e]) ++ e :: R = L ++ e :: e :: R by simp, set_mid hLl.symm, hZ] at hrowB
          have HRB := Lib.hid hrowB
          have HK1 := Lib.hid hk1
          have HKT := Lib.hid hkt
          clear hrowB hrowA hZ hY hdr hR hL hLl he g0 g1 hYl hk1 hkt hBk
          go_wp2_with fail
          refine wp_region_noPanic ?_
          refine wp_region_held_drew (S := fun _ => True) (by kernel_rfl) trivial (fun hH => ?_)
          refine Reg.take (i := 0) (u := ?icv0) rfl rfl rfl (by kernel_rfl) (by kernel_rfl) (by kernel_rfl) hH ?icy0 ?icr0
          case icy0 => (intro w hSw; (try dsimp only at hSw); go_simp; try (with_reducible rfl))
          case' icr0 => simp only [List.setIfInBounds_toArray, List.set_cons_zero, List.set_cons_succ]
          refine Reg.take (i := 1) (u := ?icv1) rfl rfl rfl (by kernel_rfl) (by kernel_rfl) (by kernel_rfl) hH ?icy1 ?icr1
          case icy1 => (intro w hSw; (try dsimp only at hSw); go_simp; try (with_reducible rfl))
          case' icr1 => simp only [List.setIfInBounds_toArray, List.set_cons_zero, List.set_cons_succ]
          refine Reg.take (i := 2) (u := ?icv2) rfl rfl rfl (by kernel_rfl) (by kernel_rfl) (by kernel_rfl) hH ?icy2 ?icr2
          case icy2 => (intro w hSw; (try dsimp only at hSw); go_simp; try (with_reducible rfl))
          case' icr2 => simp only [List.setIfInBounds_toArray, List.set_cons_zero, List.set_cons_succ]
          refine Reg.take (i := 3) (u := ?icv3) rfl rfl rfl (by kernel_rfl) (by kernel_rfl) (by kernel_rfl) hH ?icy3 ?icr3
          case icy3 => (intro w hSw; (try dsimp only at hSw); go_simp; try (with_reducible rfl))
          case' icr3 => simp only [List.setIfInBounds_toArray, List.set_cons_zero, List.set_cons_succ]
          refine Reg.take (i := 4) (u := ?icv4) rfl rfl rfl (by kernel_rfl) (by kernel_rfl) (by kernel_rfl) hH ?icy4 ?icr4
          case icy4 => (intro w hSw; (try dsimp only at hSw); go_simp; try (with_reducible rfl))
          case' icr4 => simp only [List.setIfInBounds_toArray, List.set_cons_zero, List.set_cons_succ]
          refine Reg.take (i := 5) (u := ?icv5) rfl rfl rfl (by kernel_rfl) (by kernel_rfl) (by kernel_rfl) hH ?icy5 ?icr5
          case icy5 => (intro w hSw; (try dsimp only at hSw); go_simp; try (with_reducible rfl))
          case' icr5 => simp only [List.setIfInBounds_toArray, List.set_cons_zero, List.set_cons_succ]
          refine Reg.take (i := 6) (u := ?icv6) rfl rfl rfl (by kernel_rfl) (by kernel_rfl) (by kernel_rfl) hH ?icy6 ?icr6
          case icy6 => (intro w hSw; (try dsimp only at hSw); go_simp; try (with_reducible rfl))
          case' icr6 => simp only [List.setIfInBounds_toArray, List.set_cons_zero, List.set_cons_succ]
          refine Reg.take (i := 7) (u := ?icv7) rfl rfl rfl (by kernel_rfl) (by kernel_rfl) (by kernel_rfl) hH ?icy7 ?icr7
          case icy7 => (intro w hSw; (try dsimp only at hSw); go_simp; try (with_reducible rfl))
          case' icr7 => simp only [List.setIfInBounds_toArray, List.set_cons_zero, List.set_cons_succ]
          refine Reg.take (i := 8) (u := ?icv8) rfl rfl rfl (by kernel_rfl) (by kernel_rfl) (by kernel_rfl) hH ?icy8 ?icr8
          case icy8 => (intro w hSw; (try dsimp only at hSw); go_simp; try (with_reducible rfl))
          case' icr8 => simp only [List.setIfInBounds_toArray, List.set_cons_zero, List.set_cons_succ]
          refine Reg.take (i := 10) (u := ?icv10) rfl rfl rfl (by kernel_rfl) (by kernel_rfl) (by kernel_rfl) hH ?icy10 ?icr10
          case icy10 => (intro w hSw; (try dsimp only at hSw); go_simp; try (with_reducible rfl))
          case' icr10 => simp only [List.setIfInBounds_toArray, List.set_cons_zero, List.set_cons_succ]
          refine Reg.take (i := 11) (u := ?icv11) rfl rfl rfl (by kernel_rfl) (by kernel_rfl) (by kernel_rfl) hH ?icy11 ?icr11
          case icy11 => (intro w hSw; (try dsimp only at hSw); go_simp; try (with_reducible rfl))
          case' icr11 => simp only [List.setIfInBounds_toArray, List.set_cons_zero, List.set_cons_succ]
          refine Reg.take (i := 12) (u := ?icv12) rfl rfl rfl (by kernel_rfl) (by kernel_rfl) (by kernel_rfl) hH ?icy12 ?icr12
          case icy12 => (intro w hSw; (try dsimp only at hSw); go_simp; try (with_reducible rfl))
          case' icr12 => simp only [List.setIfInBounds_toArray, List.set_cons_zero, List.set_cons_succ]
          refine Reg.pair (i := 9) (j := 13) (u := .int .i64 e) (x := .int .i64 y) (w1 := wr.drew) rfl rfl rfl rfl rfl rfl (by kernel_rfl) (by kernel_rfl) (by kernel_rfl) trivial trivial (by decide) (by decide) ?icy1 ?icy2 ?icy3 ?icy4 ?icgo
          case icy1 => (go_simp; try (with_reducible rfl))
          case icy2 => (go_simp; try (with_reducible rfl))
          case icy3 => (go_simp; try (with_reducible rfl))
          case icy4 => (go_simp; try (with_reducible rfl))
          case' icgo => simp only [List.setIfInBounds_toArray, List.set_cons_zero, List.set_cons_succ]
          refine Reg.only (i := 14) rfl (Reg.wanted_free rfl) (by kernel_rfl) (fun K hK => ?_)
          go_simp
          refine hK.out _ _ trivial (fun hH2 => ?_)
          clear hK hH
          have hH := hH2; clear hH2
          try simp only [Act.put, List.setIfInBounds_toArray, List.set_cons_zero, List.set_cons_succ]
          refine Reg.only (i := 15) rfl (Reg.wanted_free rfl) (by kernel_rfl) (fun K hK => ?_)
          go_simp
          refine hK.out _ _ trivial (fun hH2 => ?_)
          clear hK hH
          have hH := hH2; clear hH2
          try simp only [Act.put, List.setIfInBounds_toArray, List.set_cons_zero, List.set_cons_succ]
          refine Reg.only (i := 16) rfl (Reg.wanted_free rfl) (by kernel_rfl) (fun K hK => ?_)
          go_simp
          refine hK.out _ _ trivial (fun hH2 => ?_)
          clear hK hH
          have hH := hH2; clear hH2
          try simp only [Act.put, List.setIfInBounds_toArray, List.set_cons_zero, List.set_cons_succ]
          refine Reg.only (i := 17) rfl (Reg.wanted_free rfl) (by kernel_rfl) (fun K hK => ?_)
          go_simp
          refine hK.out _ _ trivial (fun hH2 => ?_)
          clear hK hH
          have hH := hH2; clear hH2
          try simp only [Act.put, List.setIfInBounds_toArray, List.set_cons_zero, List.set_cons_succ]
          refine wpAnyH_done (by kernel_rfl) ?_ _
          refine NoPanic.normal ?_
          go_wp2_with fail
          refine ⟨⟨k1, t1, by first | go_num | rfl, by have := HK1.out; have := HKT.out; omega, by omega, by omega, HRB.out, ((hk.setD k _).setD k1 _).drew, ((hb.setCell (p := ⟨g, k, none⟩) hg0 _).setCell (p := ⟨g, k1, none⟩) hg0 _).drew⟩, by have := HK1.out; simp [intOf]; omega⟩
        · obtain rfl : t = d := by omega
          have j1 : ¬ (i : Int) < (k : Int) := by have := HD.out; omega
          rw [show P ++ (A.take t ++ y :: (A.drop t ++ Q)) = P ++ (Route.merge lt A [y] ++ Q) by rw [hmg.out]; simp] at hrow
          clear hBk
          go_wp2_with fail
          refine bodyPost_ret (results_none rfl _ _ _) rfl ?_
          exact ⟨⟨_, rfl⟩, by simpa using hrow, hk, hb⟩
end Go.Proofs.Ytefilalapkdegaa
namespace Go.Proofs.Ytefilalapkdegaa
open Go.RowKit Str Mem
set_option linter.unusedVariables false
set_option linter.unusedSimpArgs false

theorem at_A {P A B Q : List Int} {k j : Nat} (hj : j = P.length + k) (h : k < A.length) : (P ++ (A ++ (B ++ Q)))[j]? = A[k]? := by
  subst hj
  rw [List.getElem?_append_right (by omega), Nat.add_sub_cancel_left, List.getElem?_append_left h]
theorem at_B {P A B Q : List Int} {k j : Nat} (hj : j = P.length + A.length + k) (h : k < B.length) : (P ++ (A ++ (B ++ Q)))[j]? = B[k]? := by
  subst hj
  rw [List.getElem?_append_right (by omega), List.getElem?_append_right (by omega), show P.length + A.length + k - P.length - A.length = k by omega, List.getElem?_append_left h]
theorem merge_mem {lt : Int → Int → Bool} {x : Int} : ∀ (n : Nat) (S T : List Int), S.length + T.length ≤ n → x ∈ Route.merge lt S T → x ∈ S ∨ x ∈ T
  | _, [], T, _, h => by rw [Route.merge_nil] at h; exact .inr h
  | _, s :: S, [], _, h => by rw [Route.merge_nil'] at h; exact .inl h
  | 0, s :: S, t :: T, hn, _ => by simp at hn
  | n + 1, s :: S, t :: T, hn, h => by
    rw [Route.merge_cons] at h
    split at h
    · rcases List.mem_cons.1 h with rfl | h
      · simp
      · rcases merge_mem n (s :: S) T (by simp at hn ⊢; omega) h with h | h <;> simp_all
    · rcases List.mem_cons.1 h with rfl | h
      · simp
      · rcases merge_mem n S (t :: T) (by simp at hn ⊢; omega) h with h | h <;> simp_all
theorem CmpOk.sub {f : Nat} {lb : Array Value} {lt : Int → Int → Bool} {X Z : List Int} {g : Nat} {u w0 : World} (h : CmpOk f lb lt Z g u w0) (hs : ∀ x ∈ X, x ∈ Z) : CmpOk f lb lt X g u w0 :=
  fun x hx y hy => h x (hs x hx) y (hs y hy)
def SymAt (f : Nat) (lb : Array Value) (lt : Int → Int → Bool) (g cap n : Nat) (rest : List Value) (u w0 : World) (P A B Q : List Int) (a m b : Nat) : Prop :=
  ∀ w : World, w.heap[g]? = some (.cells ((P ++ (A ++ (B ++ Q))).map iv ++ rest).toArray 3 (0, 0)) → Kp g u w → Below w0.heap.size w0 w →
    Calls Try.prog 89 #[.slice (some ⟨g, 0, none⟩) n cap, .int .i64 a, .int .i64 m, .int .i64 b, .func (.func f) #[] lb] w fun e w' =>
      (∃ v, e = .returned v) ∧ w'.heap[g]? = some (.cells ((P ++ (Route.merge lt A B ++ Q)).map iv ++ rest).toArray 3 (0, 0)) ∧ Kp g u w' ∧ Below w0.heap.size w0 w'
set_option maxRecDepth 20000 in
set_option maxHeartbeats 8000000 in
theorem sym_gen (f : Nat) (lb : Array Value) (ef : ∀ args w, (callFunc f args).run Try.prog w = .ok (.enter f args) w) (lt : Int → Int → Bool) (hW : Route.Weak lt) (Z P A B Q : List Int) (g cap n a m b : Nat) (rest : List Value) (u w0 : World) (hn : (P ++ (A ++ (B ++ Q))).length = n) (hX : n ≤ 100000) (hc : n ≤ cap) (ha : a = P.length) (hm : m = P.length + A.length) (hb' : b = P.length + A.length + B.length) (hA1 : 1 < A.length) (hB1 : 1 < B.length) (hA : Route.Up lt A) (hB : Route.Up lt B)
    (hcmp : CmpOk f lb lt Z g u w0) (hZ : ∀ x ∈ P ++ (A ++ (B ++ Q)), x ∈ Z) (hg : g < u.heap.size) (hg0 : w0.heap.size ≤ g)
    (ih : ∀ (P' A' B' Q' : List Int) (a' m' b' : Nat), A'.length + B'.length < A.length + B.length → 0 < A'.length → 0 < B'.length → Route.Up lt A' → Route.Up lt B' → a' = P'.length → m' = P'.length + A'.length → b' = P'.length + A'.length + B'.length → (P' ++ (A' ++ (B' ++ Q'))).length = n → (∀ x ∈ P' ++ (A' ++ (B' ++ Q')), x ∈ Z) → SymAt f lb lt g cap n rest u w0 P' A' B' Q' a' m' b') :
    SymAt f lb lt g cap n rest u w0 P A B Q a m b := by
  intro w hrow hk hb
  have hn2 : P.length + A.length + B.length + Q.length = n := by rw [← hn]; simp; omega
  have w1 : IntKind.i64.wrap ((m : Int) - (a : Int)) = (A.length : Int) := by rw [IntWalk.i64_in _ ⟨by omega, by omega⟩]; omega
  have w2 : IntKind.i64.wrap ((b : Int) - (m : Int)) = (B.length : Int) := by rw [IntWalk.i64_in _ ⟨by omega, by omega⟩]; omega
  have w1b : ¬ (A.length : Int) = 1 := by omega
  have w1c : ((A.length : Int) == 1) = false := by simp; omega
  have w1d : ¬ A.length = 1 := by omega
  have w2b : ¬ (B.length : Int) = 1 := by omega
  have w2c : ((B.length : Int) == 1) = false := by simp; omega
  have w2d : ¬ B.length = 1 := by omega
  obtain ⟨mid, hmid⟩ : ∃ mid, mid = (a + b) / 2 := ⟨_, rfl⟩
  have s0 : IntKind.i64.wrap ((a : Int) + (b : Int)) = (a : Int) + (b : Int) := by rw [IntWalk.i64_in _ ⟨by omega, by omega⟩]
  have s1 : ((a : Int) + (b : Int)) / 2 = (mid : Int) := by omega
  obtain ⟨N0, hN0⟩ : ∃ N0, N0 = mid + m := ⟨_, rfl⟩
  have s2 : IntKind.i64.wrap ((mid : Int) + (m : Int)) = (N0 : Int) := by rw [IntWalk.i64_in _ ⟨by omega, by omega⟩]; omega
  obtain ⟨p0, hp0⟩ : ∃ p0, p0 = N0 - 1 := ⟨_, rfl⟩
  have s3 : IntKind.i64.wrap ((N0 : Int) - 1) = (p0 : Int) := by rw [IntWalk.i64_in _ ⟨by omega, by omega⟩]; omega
  obtain ⟨X, hXe⟩ : ∃ X, P ++ (A ++ (B ++ Q)) = X := ⟨_, rfl⟩
  rw [hXe] at hrow hn hZ
  have HX := Lib.hid hXe
  have HA := Lib.hid (show a = P.length ∧ m = a + A.length ∧ b = m + B.length ∧ b + Q.length = n ∧ 1 < A.length ∧ 1 < B.length from ⟨ha, by omega, by omega, by omega, hA1, hB1⟩)
  have HM := Lib.hid (show 2 * mid ≤ a + b ∧ a + b ≤ 2 * mid + 1 ∧ N0 = mid + m ∧ N0 = p0 + 1 by omega)
  have HUA := Lib.hid (And.intro hA hB)
  have hle : a < m ∧ m < b ∧ b ≤ n := by omega
  have hle2 : mid ≤ n ∧ N0 ≤ 200000 ∧ p0 ≤ 200000 := by omega
  have hb0 := Lib.hid hb
  have hk0 := Lib.hid hk
  have hrow0 := Lib.hid hrow
  clear hXe ha hm hb' hn2 hA1 hB1 hmid hN0 hp0 hA hB hb hk hrow
  go_enter Try.func89, Try.ntmps89
  go_upto_if 140 with fail
  clear w1 w2 w1b w1c w1d w2b w2c w2d
  go_cut [20, 21] from 138 to 146 (fun s r wc => ∃ S0 R0 : Nat, s = .int .i64 S0 ∧ r = .int .i64 R0 ∧ ((mid < m ∧ S0 = N0 - b ∧ R0 = mid) ∨ (m ≤ mid ∧ S0 = a ∧ R0 = m)) ∧ wc = w)
  case first =>
    by_cases hgt : mid < m
    · have hgt' : (mid : Int) < (m : Int) := by omega
      have s4 : IntKind.i64.wrap ((N0 : Int) - (b : Int)) = ((N0 - b : Nat) : Int) := by have := HA.out; have := HM.out; rw [IntWalk.i64_in _ ⟨by omega, by omega⟩]; omega
      go_wp2_with fail
      go_meet
      exact ⟨N0 - b, mid, rfl, rfl, .inl ⟨hgt, rfl, rfl⟩, rfl⟩
    · have hgt' : ¬ (mid : Int) < (m : Int) := by omega
      go_wp2_with fail
      go_meet
      exact ⟨a, m, rfl, rfl, .inr ⟨by omega, rfl, rfl⟩, rfl⟩
  case rest =>
    obtain ⟨S0, R0, rfl, rfl, hf, rfl⟩ := hcut
    have HF0 := Lib.hid hf
    have hle3 : S0 ≤ n ∧ R0 ≤ n := by have := HA.out; have := HM.out; omega
    have HS := Lib.hid (show SeaI w0 u X g rest S0 R0 (fun k => ∀ x y, X[k]? = some x → X[p0 - k]? = some y → lt y x = false) (fun k => ∀ x y, X[k]? = some x → X[p0 - k]? = some y → lt y x = true) (.int .i64 S0) (.int .i64 R0) _ from ⟨S0, R0, rfl, rfl, Nat.le_refl _, by have := HA.out; have := HM.out; omega, Nat.le_refl _, fun h => by omega, fun h => by omega, hrow0.out, hk0.out, hb0.out⟩)
    clear hf hrow0 hk0 hb0
    go_wp2_with fail
    go_loopw [20, 21] (fun i j wr => SeaI w0 u X g rest S0 R0 (fun k => ∀ x y, X[k]? = some x → X[p0 - k]? = some y → lt y x = false) (fun k => ∀ x y, X[k]? = some x → X[p0 - k]? = some y → lt y x = true) i j wr) (fun i j _ => (intOf j).toNat - (intOf i).toNat)
    case atStart => exact HS.out
    case round =>
      clear HS
      obtain ⟨i, j, rfl, rfl, h1, h2, h3, hT, hF, hrow, hk, hb⟩ := hrel
      have HT := Lib.hid hT
      have HF := Lib.hid hF
      clear hT hF
      by_cases hlt : i < j
      · have i1 : (i : Int) < (j : Int) := by omega
        have z1 := HA.out
        have z2 := HM.out
        have z3 := HF0.out
        have s5 : IntKind.i64.wrap ((i : Int) + (j : Int)) = (i : Int) + (j : Int) := by rw [IntWalk.i64_in _ ⟨by omega, by omega⟩]
        obtain ⟨H, hHd⟩ : ∃ H, H = (i + j) / 2 := ⟨_, rfl⟩
        have s6 : ((i : Int) + (j : Int)) / 2 = (H : Int) := by omega
        have hHi : i ≤ H ∧ H < j := by omega
        obtain ⟨Y0, hY0⟩ : ∃ Y0, Y0 = p0 - H := ⟨_, rfl⟩
        have s7 : IntKind.i64.wrap ((p0 : Int) - (H : Int)) = (Y0 : Int) := by rw [IntWalk.i64_in _ ⟨by omega, by omega⟩]; omega
        have t0 : (0 : Int) ≤ (H : Int) := Int.natCast_nonneg _
        have t1 : (H : Int) < (n : Int) := by omega
        have t2 : H < n := by omega
        have t3 : (0 : Int) ≤ (Y0 : Int) := Int.natCast_nonneg _
        have t4 : (Y0 : Int) < (n : Int) := by omega
        have t5 : Y0 < n := by omega
        have t6 : IntKind.i64.wrap ((H : Int) + 1) = ((H + 1 : Nat) : Int) := by rw [IntWalk.i64_in _ ⟨by omega, by omega⟩]; omega
        have ad0 : (⟨g, 0, none⟩ : Addr).add Y0 = ⟨g, Y0, none⟩ := by rw [add_flat, Nat.zero_add]
        have ad1 : (⟨g, 0, none⟩ : Addr).add H = ⟨g, H, none⟩ := by rw [add_flat, Nat.zero_add]
        obtain ⟨x, hx⟩ : ∃ x, X[H]? = some x := ⟨_, List.getElem?_eq_getElem (by omega)⟩
        obtain ⟨y, hy⟩ : ∃ y, X[Y0]? = some y := ⟨_, List.getElem?_eq_getElem (by omega)⟩
        have q0 := row_iv hrow hy
        have q1 := row_iv hrow hx
        have G0 := Lib.hid hy
        have G1 := Lib.hid hx
        have HX1 := Lib.hid (hZ _ (List.mem_of_getElem? hy))
        have HX2 := Lib.hid (hZ _ (List.mem_of_getElem? hx))
        have HHd := Lib.hid hHd
        have HYd := Lib.hid hY0
        clear hy hx hHd hY0 z1 z2 z3
        go_upto_region 35 with fail
        refine wp_region_noPanic ?_
        refine wp_region_held_drew (S := fun w' => w'.cell? ⟨g, Y0, none⟩ = some (.int .i64 y) ∧ w'.cell? ⟨g, H, none⟩ = some (.int .i64 x)) (by kernel_rfl) ?_ (fun hH => ?_)
        · exact ⟨q0, q1⟩
        refine Reg.take (i := 0) (u := ?sav0) rfl rfl rfl (by kernel_rfl) (by kernel_rfl) (by kernel_rfl) hH ?say0 ?sar0
        case say0 => (intro w hSw; (try dsimp only at hSw); go_simp; try (with_reducible rfl))
        case' sar0 => simp only [List.setIfInBounds_toArray, List.set_cons_zero, List.set_cons_succ]
        refine Reg.take (i := 1) (u := ?sav1) rfl rfl rfl (by kernel_rfl) (by kernel_rfl) (by kernel_rfl) hH ?say1 ?sar1
        case say1 => (intro w hSw; (try dsimp only at hSw); go_simp; try (with_reducible rfl))
        case' sar1 => simp only [List.setIfInBounds_toArray, List.set_cons_zero, List.set_cons_succ]
        refine Reg.take (i := 2) (u := ?sav2) rfl rfl rfl (by kernel_rfl) (by kernel_rfl) (by kernel_rfl) hH ?say2 ?sar2
        case say2 => (intro w hSw; (try dsimp only at hSw); go_simp; try (with_reducible rfl))
        case' sar2 => simp only [List.setIfInBounds_toArray, List.set_cons_zero, List.set_cons_succ]
        refine Reg.take (i := 3) (u := ?sav3) rfl rfl rfl (by kernel_rfl) (by kernel_rfl) (by kernel_rfl) hH ?say3 ?sar3
        case say3 => (intro w hSw; (try dsimp only at hSw); go_simp; try (with_reducible rfl))
        case' sar3 => simp only [List.setIfInBounds_toArray, List.set_cons_zero, List.set_cons_succ]
        refine Reg.take (i := 4) (u := ?sav4) rfl rfl rfl (by kernel_rfl) (by kernel_rfl) (by kernel_rfl) hH ?say4 ?sar4
        case say4 => (intro w hSw; (try dsimp only at hSw); go_simp; try (with_reducible rfl))
        case' sar4 => simp only [List.setIfInBounds_toArray, List.set_cons_zero, List.set_cons_succ]
        refine Reg.take (i := 5) (u := ?sav5) rfl rfl rfl (by kernel_rfl) (by kernel_rfl) (by kernel_rfl) hH ?say5 ?sar5
        case say5 => (intro w hSw; (try dsimp only at hSw); go_simp; try (with_reducible rfl))
        case' sar5 => simp only [List.setIfInBounds_toArray, List.set_cons_zero, List.set_cons_succ]
        refine Reg.take (i := 6) (u := ?sav6) rfl rfl rfl (by kernel_rfl) (by kernel_rfl) (by kernel_rfl) hH ?say6 ?sar6
        case say6 => (intro w hSw; (try dsimp only at hSw); go_simp; try (with_reducible rfl))
        case' sar6 => simp only [List.setIfInBounds_toArray, List.set_cons_zero, List.set_cons_succ]
        refine Reg.take (i := 7) (u := ?sav7) rfl rfl rfl (by kernel_rfl) (by kernel_rfl) (by kernel_rfl) hH ?say7 ?sar7
        case say7 => (intro w hSw; (try dsimp only at hSw); go_simp; try (with_reducible rfl))
        case' sar7 => simp only [List.setIfInBounds_toArray, List.set_cons_zero, List.set_cons_succ]
        refine Reg.take (i := 8) (u := ?sav8) rfl rfl rfl (by kernel_rfl) (by kernel_rfl) (by kernel_rfl) hH ?say8 ?sar8
        case say8 => (intro w hSw; (try dsimp only at hSw); go_simp; try (with_reducible rfl))
        case' sar8 => simp only [List.setIfInBounds_toArray, List.set_cons_zero, List.set_cons_succ]
        refine Reg.take (i := 9) (u := ?sav9) rfl rfl rfl (by kernel_rfl) (by kernel_rfl) (by kernel_rfl) hH ?say9 ?sar9
        case say9 => (intro w hSw; (try dsimp only at hSw); go_simp; try (with_reducible rfl))
        case' sar9 => simp only [List.setIfInBounds_toArray, List.set_cons_zero, List.set_cons_succ]
        refine Reg.take (i := 10) (u := ?sav10) rfl rfl rfl (by kernel_rfl) (by kernel_rfl) (by kernel_rfl) hH ?say10 ?sar10
        case say10 => (intro w hSw; (try dsimp only at hSw); go_simp; try (with_reducible rfl))
        case' sar10 => simp only [List.setIfInBounds_toArray, List.set_cons_zero, List.set_cons_succ]
        refine Reg.only (i := 11) rfl (Reg.wanted_free rfl) (by kernel_rfl) (fun K hK => ?_)
        go_simp
        refine (hcmp y HX1.out x HX2.out wr.drew hk.drew hb.drew).mono ?_
        rintro e6 w6 ⟨v, rfl, hv, g6⟩
        go_simp
        have hk6 := hk.drew.below g6 (Nat.le_refl _)
        have hb6 : Below w0.heap.size w0 w6 := hb.drew.trans (g6.mono (by have := hb.size; exact this))
        have hrow6 : w6.heap[g]? = _ := (g6.block g (by have := hk.size; show g < wr.heap.size; omega)).trans hrow
        have z0 := row_iv hrow6 G0.out
        have z1 := row_iv hrow6 G1.out
        refine hK.out _ _ ⟨z0, z1⟩ (fun hH2 => ?_)
        clear hK hH q0 q1
        have hH := hH2; clear hH2
        try simp only [Act.put, List.setIfInBounds_toArray, List.set_cons_zero, List.set_cons_succ]
        refine Reg.take (i := 12) (u := ?sbv12) rfl rfl rfl (by kernel_rfl) (by kernel_rfl) (by kernel_rfl) hH ?sby12 ?sbr12
        case sby12 => (intro w hSw; (try dsimp only at hSw); go_simp; try (with_reducible rfl))
        case' sbr12 => simp only [List.setIfInBounds_toArray, List.set_cons_zero, List.set_cons_succ]
        refine Reg.take (i := 13) (u := ?sbv13) rfl rfl rfl (by kernel_rfl) (by kernel_rfl) (by kernel_rfl) hH ?sby13 ?sbr13
        case sby13 => (intro w hSw; (try dsimp only at hSw); go_simp; try (with_reducible rfl))
        case' sbr13 => simp only [List.setIfInBounds_toArray, List.set_cons_zero, List.set_cons_succ]
        refine wpAnyH_done (by kernel_rfl) ?_ _
        refine NoPanic.normal ?_
        clear z0 z1
        clear hv
        rcases hls : lt y x with _ | _
        · have Hls := Lib.hid hls
          clear hls
          go_wp2_with fail
          refine ⟨⟨H + 1, j, by first | go_num | rfl, rfl, by omega, by omega, h3, fun _ x' y' hx' hy' => ?_, HF.out, hrow6, hk6, hb6⟩, by simp [intOf]; omega⟩
          obtain rfl : x = x' := by have := G1.out.symm.trans (by simpa using hx'); injection this
          obtain rfl : y = y' := by have e := G0.out; rw [HYd.out] at e; have := e.symm.trans (by simpa using hy'); injection this
          exact Hls.out
        · have Hls := Lib.hid hls
          clear hls
          go_wp2_with fail
          refine ⟨⟨i, H, rfl, rfl, h1, hHi.1, by omega, HT.out, fun _ x' y' hx' hy' => ?_, hrow6, hk6, hb6⟩, by simp [intOf]; omega⟩
          obtain rfl : x = x' := by have := G1.out.symm.trans hx'; injection this
          obtain rfl : y = y' := by have e := G0.out; rw [HYd.out] at e; have := e.symm.trans hy'; injection this
          exact Hls.out
      · obtain rfl : i = j := by omega
        have z1 := HA.out
        have z2 := HM.out
        have z3 := HF0.out
        have j1 : ¬ (i : Int) < (i : Int) := by omega
        obtain ⟨e0, he0⟩ : ∃ e0, e0 = N0 - i := ⟨_, rfl⟩
        have s8 : IntKind.i64.wrap ((N0 : Int) - (i : Int)) = (e0 : Int) := by rw [IntWalk.i64_in _ ⟨by omega, by omega⟩]; omega
        obtain ⟨d, hd⟩ : ∃ d, i = a + d := ⟨i - a, by omega⟩
        obtain ⟨r, hr⟩ : ∃ r, mid = i + r := ⟨mid - i, by omega⟩
        have hdl : d ≤ A.length := by omega
        have hrl : r ≤ B.length := by omega
        have he0' : e0 = m + r := by omega
        have hmg := Route.merge_at hW HUA.out.1 HUA.out.2 (i := d) (j := r) hdl hrl
          (fun x y hx hy h0 => by
            have l1 := (List.getElem?_eq_some_iff.1 hx).1
            exact HF.out (by omega) x y (by rw [← HX.out, at_A (k := d) (by omega) l1]; exact hx) (by rw [← HX.out, at_B (k := r - 1) (by omega) (by omega)]; exact hy))
          (fun x y hx hy h0 => by
            have l1 := (List.getElem?_eq_some_iff.1 hy).1
            exact HT.out (by omega) x y (by rw [← HX.out, at_A (k := d - 1) (by omega) (by omega)]; exact hx) (by rw [← HX.out, at_B (k := r) (by omega) l1]; exact hy))
        obtain ⟨A1, hA1⟩ : ∃ A1, A1 = A.take d := ⟨_, rfl⟩
        obtain ⟨A2, hA2⟩ : ∃ A2, A2 = A.drop d := ⟨_, rfl⟩
        obtain ⟨B1, hB1⟩ : ∃ B1, B1 = B.take r := ⟨_, rfl⟩
        obtain ⟨B2, hB2⟩ : ∃ B2, B2 = B.drop r := ⟨_, rfl⟩
        have eA : A = A1 ++ A2 := by rw [hA1, hA2, List.take_append_drop]
        have eB : B = B1 ++ B2 := by rw [hB1, hB2, List.take_append_drop]
        have lA1 : A1.length = d := by rw [hA1, List.length_take]; omega
        have lA2 : A2.length = A.length - d := by rw [hA2, List.length_drop]
        have lB1 : B1.length = r := by rw [hB1, List.length_take]; omega
        have lB2 : B2.length = B.length - r := by rw [hB2, List.length_drop]
        rw [← hA1, ← hA2, ← hB1, ← hB2] at hmg
        have HMG := Lib.hid hmg
        have uA := HUA.out.1
        have uB := HUA.out.2
        unfold Route.Up at uA uB
        rw [eA, List.pairwise_append] at uA
        rw [eB, List.pairwise_append] at uB
        have HU := Lib.hid (show (Route.Up lt A1 ∧ Route.Up lt A2) ∧ Route.Up lt B1 ∧ Route.Up lt B2 from ⟨⟨uA.1, uA.2.1⟩, uB.1, uB.2.1⟩)
        have HL := Lib.hid (show A1.length = d ∧ A2.length = A.length - d ∧ B1.length = r ∧ B2.length = B.length - r from ⟨lA1, lA2, lB1, lB2⟩)
        have HD := Lib.hid (show i = a + d ∧ mid = a + d + r ∧ e0 = m + r ∧ d ≤ A.length ∧ r ≤ B.length by omega)
        have HX3 := Lib.hid (show X = P ++ (A1 ++ (A2 ++ (B1 ++ (B2 ++ Q)))) by rw [← HX.out, eA, eB]; simp)
        have le0 : e0 ≤ n := by omega
        clear uA uB hmg lA1 lA2 lB1 lB2 eA eB hA1 hA2 hB1 hB2 he0 he0' hd hr hdl hrl z1 z2 z3
        go_upto_region 39 with fail
        obtain ⟨b1, hb1⟩ : ∃ b1, b1 = decide (i < m ∧ m < e0) := ⟨_, rfl⟩
        have HB1 := Lib.hid hb1
        clear hb1
        go_cut [185] from 178 to 184 (fun c wc => c = .bool b1 ∧ wc = wr)
        case first =>
          by_cases c1 : i < m
          · have d1 : (i : Int) < (m : Int) := by omega
            by_cases c2 : m < e0
            · have d2 : (m : Int) < (e0 : Int) := by omega
              obtain rfl : b1 = true := by rw [HB1.out]; exact decide_eq_true ⟨c1, c2⟩
              go_wp2_with fail
              go_meet
              case rel => exact ⟨rfl, rfl⟩
            · have d2 : ¬ (m : Int) < (e0 : Int) := by omega
              obtain rfl : b1 = false := by rw [HB1.out]; exact decide_eq_false (fun h => c2 h.2)
              go_wp2_with fail
              go_meet
              case rel => exact ⟨rfl, rfl⟩
          · have d1 : ¬ (i : Int) < (m : Int) := by omega
            obtain rfl : b1 = false := by rw [HB1.out]; exact decide_eq_false (fun h => c1 h.1)
            go_wp2_with fail
            go_meet
            case rel => exact ⟨rfl, rfl⟩
        case rest =>
          obtain ⟨rfl, rfl⟩ := hcut
          go_upto_if 185 with fail
          go_cut [] from 178 to 191 (fun wc => wc.heap[g]? = some (.cells ((P ++ (A1 ++ (B1 ++ (A2 ++ (B2 ++ Q))))).map iv ++ rest).toArray 3 (0, 0)) ∧ Kp g u wc ∧ Below w0.heap.size w0 wc)
          case first =>
            have hcond := HB1.out
            rw [HX3.out] at hrow hn hZ
            rcases b1 with _ | _
            · have hz : A2.length = 0 ∨ B1.length = 0 := by
                have := of_decide_eq_false hcond.symm
                have := HL.out; have := HD.out; have := HA.out; omega
              have hrow' : wc.heap[g]? = some (.cells ((P ++ (A1 ++ (B1 ++ (A2 ++ (B2 ++ Q))))).map iv ++ rest).toArray 3 (0, 0)) := by
                rcases hz with hz | hz
                · rw [List.length_eq_zero_iff.1 hz] at hrow ⊢; simpa using hrow
                · rw [List.length_eq_zero_iff.1 hz] at hrow ⊢; simpa using hrow
              have HR := Lib.hid hrow'
              clear hrow hrow' hz hcond
              go_wp2_with fail
              go_meet
              case rel => exact ⟨HR.out, hk, hb⟩
            · have hz := of_decide_eq_true hcond.symm
              have z1 := HL.out
              have z2 := HD.out
              have z3 := HA.out
              have hrt := rot_any (P ++ A1) A2 B1 (B2 ++ Q) g cap n i m e0 rest (.func (.func f) #[] lb) wc u w0 (by rw [← hn]; simp) hX hc (by simp; omega) (by simp; omega) (by simp; omega) (by omega) (by omega) (by rw [hrow]; simp) hk hg hb hg0
              clear hrow hz hcond z1 z2 z3 hn hZ
              go_wp2_with fail
              refine hrt.mono ?_
              rintro e7 w7 ⟨⟨v7, rfl⟩, hr7, hk7, hb7⟩
              go_wp2_with fail
              go_meet
              case rel => exact ⟨by rw [hr7]; simp, hk7, hb7⟩
          case rest =>
            clear hrow hk hb
            obtain ⟨hrow, hk, hb⟩ := hcut
            clear HB1
            have hl4 : P.length + A1.length + A2.length + B1.length + B2.length + Q.length = n := by
              have := HX3.out; rw [← hn, this]; simp; omega
            have HL4 := Lib.hid hl4
            have hmem : ∀ x, (x ∈ P ∨ x ∈ A1 ∨ x ∈ A2 ∨ x ∈ B1 ∨ x ∈ B2 ∨ x ∈ Q) → x ∈ Z := fun x hx => hZ x (by rw [HX3.out]; simp only [List.mem_append]; exact hx)
            have HZ := Lib.hid hmem
            clear hZ hmem hl4
            go_upto_region 41 with fail
            obtain ⟨b2, hb2⟩ : ∃ b2, b2 = decide (a < i ∧ i < mid) := ⟨_, rfl⟩
            have HB2 := Lib.hid hb2
            clear hb2
            go_cut [199] from 192 to 198 (fun c wx => c = .bool b2 ∧ wx = wc)
            case first =>
              by_cases c1 : a < i
              · have d1 : (a : Int) < (i : Int) := by omega
                by_cases c2 : i < mid
                · have d2 : (i : Int) < (mid : Int) := by omega
                  obtain rfl : b2 = true := by rw [HB2.out]; exact decide_eq_true ⟨c1, c2⟩
                  go_wp2_with fail
                  go_meet
                  case rel => exact ⟨rfl, rfl⟩
                · have d2 : ¬ (i : Int) < (mid : Int) := by omega
                  obtain rfl : b2 = false := by rw [HB2.out]; exact decide_eq_false (fun h => c2 h.2)
                  go_wp2_with fail
                  go_meet
                  case rel => exact ⟨rfl, rfl⟩
              · have d1 : ¬ (a : Int) < (i : Int) := by omega
                obtain rfl : b2 = false := by rw [HB2.out]; exact decide_eq_false (fun h => c1 h.1)
                go_wp2_with fail
                go_meet
                case rel => exact ⟨rfl, rfl⟩
            case rest =>
              have HRW := Lib.hid (And.intro hrow (And.intro hk hb))
              clear hrow hk hb
              obtain ⟨rfl, hwx⟩ := hcut
              rw [← hwx] at HRW
              clear hwx
              go_upto_if 199 with fail
              go_cut [] from 192 to 205 (fun wx => wx.heap[g]? = some (.cells (((P ++ Route.merge lt A1 B1) ++ (A2 ++ (B2 ++ Q))).map iv ++ rest).toArray 3 (0, 0)) ∧ Kp g u wx ∧ Below w0.heap.size w0 wx)
              case first =>
                have hcond := HB2.out
                obtain ⟨hrow, hk, hb⟩ := HRW.out
                rcases b2 with _ | _
                · have hz : A1.length = 0 ∨ B1.length = 0 := by
                    have := of_decide_eq_false hcond.symm
                    have := HL.out; have := HD.out; have := HA.out; omega
                  have hmz : Route.merge lt A1 B1 = A1 ++ B1 := by
                    rcases hz with hz | hz
                    · rw [List.length_eq_zero_iff.1 hz, Route.merge_nil]; rfl
                    · rw [List.length_eq_zero_iff.1 hz, Route.merge_nil']; simp
                  have HR := Lib.hid hrow
                  have HMZ := Lib.hid hmz
                  clear hrow hz hcond hmz
                  go_wp2_with fail
                  go_meet
                  case rel => exact ⟨by rw [HR.out, HMZ.out]; simp, hk, hb⟩
                · have hz := of_decide_eq_true hcond.symm
                  have z1 := HL.out
                  have z2 := HD.out
                  have z3 := HA.out
                  have z4 := HL4.out
                  have hrt := ih P A1 B1 (A2 ++ (B2 ++ Q)) a i mid (by omega) (by omega) (by omega) HU.out.1.1 HU.out.2.1 (by omega) (by omega) (by omega) (by simp; omega) (fun x hx => HZ.out x (by simp only [List.mem_append] at hx; rcases hx with h | h | h | h | h | h <;> simp [h])) _ hrow hk hb
                  clear hrow hz hcond z1 z2 z3 z4 HRW
                  go_wp2_with fail
                  refine hrt.mono ?_
                  rintro e7 w7 ⟨⟨v7, rfl⟩, hr7, hk7, hb7⟩
                  go_wp2_with fail
                  go_meet
                  case rel => exact ⟨by rw [hr7]; simp, hk7, hb7⟩
              case rest =>
                obtain ⟨hrow, hk, hb⟩ := hcut
                have hml := Route.merge_length (lt := lt) _ A1 B1 (Nat.le_refl _)
                have hP2 : (P ++ Route.merge lt A1 B1).length = mid := by
                  rw [List.length_append, hml]; have := HL.out; have := HD.out; have := HA.out; omega
                have HP2 := Lib.hid hP2
                clear HRW HB2 hP2 hml
                by_cases c1 : mid < e0
                · have d1 : (mid : Int) < (e0 : Int) := by omega
                  by_cases c2 : e0 < b
                  · have d2 : (e0 : Int) < (b : Int) := by omega
                    have z1 := HL.out
                    have z2 := HD.out
                    have z3 := HA.out
                    have z4 := HL4.out
                    have z5 := HP2.out
                    have hrt := ih (P ++ Route.merge lt A1 B1) A2 B2 Q mid e0 b (by omega) (by omega) (by omega) HU.out.1.2 HU.out.2.2 (by omega) (by omega) (by omega) (by rw [List.length_append, z5]; simp; omega) (fun x hx => by
                      refine HZ.out x ?_
                      simp only [List.mem_append] at hx
                      rcases hx with (hx | hx) | hx
                      · exact .inl hx
                      · rcases merge_mem _ _ _ (Nat.le_refl _) hx with hx | hx <;> simp [hx]
                      · rcases hx with h | h | h <;> simp [h]) _ hrow hk hb
                    clear hrow z1 z2 z3 z4 z5
                    go_wp2_with fail
                    refine hrt.mono ?_
                    rintro e7 w7 ⟨⟨v7, rfl⟩, hr7, hk7, hb7⟩
                    go_wp2_with fail
                    go_end0
                    exact ⟨⟨_, rfl⟩, by rw [hr7, HMG.out]; simp, hk7, hb7⟩
                  · have d2 : ¬ (e0 : Int) < (b : Int) := by omega
                    have hz : B2 = [] := List.length_eq_zero_iff.1 (by have := HL.out; have := HD.out; have := HA.out; omega)
                    have HR := Lib.hid hrow
                    have HZ2 := Lib.hid hz
                    clear hrow hz
                    go_wp2_with fail
                    go_end0
                    exact ⟨⟨_, rfl⟩, by rw [HR.out, HMG.out, HZ2.out, Route.merge_nil']; simp, hk, hb⟩
                · have d1 : ¬ (mid : Int) < (e0 : Int) := by omega
                  have hz : A2 = [] := List.length_eq_zero_iff.1 (by have := HL.out; have := HD.out; have := HA.out; omega)
                  have HR := Lib.hid hrow
                  have HZ2 := Lib.hid hz
                  clear hrow hz
                  go_wp2_with fail
                  go_end0
                  exact ⟨⟨_, rfl⟩, by rw [HR.out, HMG.out, HZ2.out, Route.merge_nil]; simp, hk, hb⟩
/-- symMerge merges. -/
theorem sym_any (f : Nat) (lb : Array Value) (ef : ∀ args w, (callFunc f args).run Try.prog w = .ok (.enter f args) w) (lt : Int → Int → Bool) (hW : Route.Weak lt) (Z : List Int) (g cap n : Nat) (rest : List Value) (u w0 : World) (hX : n ≤ 100000) (hc : n ≤ cap) (hcmp : CmpOk f lb lt Z g u w0) (hg : g < u.heap.size) (hg0 : w0.heap.size ≤ g) :
    ∀ (N : Nat) (P A B Q : List Int) (a m b : Nat), A.length + B.length ≤ N → 0 < A.length → 0 < B.length → Route.Up lt A → Route.Up lt B → a = P.length → m = P.length + A.length → b = P.length + A.length + B.length → (P ++ (A ++ (B ++ Q))).length = n → (∀ x ∈ P ++ (A ++ (B ++ Q)), x ∈ Z) → SymAt f lb lt g cap n rest u w0 P A B Q a m b
  | 0, P, A, B, Q, a, m, b, hN, hA0, hB0, _, _, _, _, _, _, _ => by omega
  | N + 1, P, A, B, Q, a, m, b, hN, hA0, hB0, hA, hB, ha, hm, hb', hn, hZ => by
    by_cases hA1 : A.length = 1
    · obtain ⟨x, rfl⟩ := List.length_eq_one_iff.1 hA1
      intro w hrow hk hb
      exact sym_one f lb ef lt hW P B Q x g cap n a m b rest w u w0 hn hX hc ha hm hb' hB0 hB (hcmp.sub hZ) hrow hk hg hb hg0
    · by_cases hB1 : B.length = 1
      · obtain ⟨y, rfl⟩ := List.length_eq_one_iff.1 hB1
        intro w hrow hk hb
        exact sym_one' f lb ef lt hW P A Q y g cap n a m b rest w u w0 hn hX hc ha hm hb' (by omega) hA (hcmp.sub hZ) hrow hk hg hb hg0
      · exact sym_gen f lb ef lt hW Z P A B Q g cap n a m b rest u w0 hn hX hc ha hm hb' (by omega) (by omega) hA hB hcmp hZ hg hg0
          (fun P' A' B' Q' a' m' b' h1 h2 h3 h4 h5 h6 h7 h8 h9 h10 => sym_any f lb ef lt hW Z g cap n rest u w0 hX hc hcmp hg hg0 N P' A' B' Q' a' m' b' (by omega) h2 h3 h4 h5 h6 h7 h8 h9 h10)
end Go.Proofs.Ytefilalapkdegaa
namespace Go.Proofs.Ytefilalapkdegaa.Route
set_option linter.unusedVariables false
set_option linter.unusedSectionVars false

/-- At the first place at which they differ, the first is less. -/
def Lx (a b : List Bs) : Prop := ∃ k : Nat, (∀ j, j < k → place a[j]? = place b[j]?) ∧ place a[k]? < place b[k]?
def Eqp (a b : List Bs) : Prop := ∀ k : Nat, place a[k]? = place b[k]?
theorem diffTo_eq {a b : List Bs} : ∀ {n : Nat}, (∀ j, j < n → place a[j]? = place b[j]?) → diffTo a b n = 0
  | 0, _ => rfl
  | n + 1, h => by
    rw [diffTo_succ (diffTo_eq fun j hj => h j (by omega)), h n (by omega), sign_eq]
theorem diffTo_cases (a b : List Bs) : ∀ n : Nat, (diffTo a b n = 0 ∧ ∀ j, j < n → place a[j]? = place b[j]?) ∨ (diffTo a b n = -1 ∧ Lx a b) ∨ (diffTo a b n = 1 ∧ Lx b a)
  | 0 => .inl ⟨rfl, fun j hj => by omega⟩
  | n + 1 => by
    rcases diffTo_cases a b n with ⟨h1, h2⟩ | ⟨h1, h2⟩ | ⟨h1, h2⟩
    · rw [diffTo_succ h1]
      rcases Nat.lt_trichotomy (place a[n]?) (place b[n]?) with h | h | h
      · exact .inr (.inl ⟨sign_lt h, n, h2, h⟩)
      · refine .inl ⟨by rw [h, sign_eq], fun j hj => ?_⟩
        rcases Nat.lt_or_ge j n with hj2 | hj2
        · exact h2 j hj2
        · rw [show j = n by omega]; exact h
      · exact .inr (.inr ⟨sign_gt h, n, fun j hj => (h2 j hj).symm, h⟩)
    · exact .inr (.inl ⟨by rw [diffTo_stays (k := n) (by rw [h1]; decide) (n + 1) (by omega), h1], h2⟩)
    · exact .inr (.inr ⟨by rw [diffTo_stays (k := n) (by rw [h1]; decide) (n + 1) (by omega), h1], h2⟩)
theorem Lx.not_eq {a b : List Bs} (h : Lx a b) : ¬ Eqp a b := fun e => by
  obtain ⟨k, _, h2⟩ := h
  rw [e k] at h2; omega
theorem Lx.asymm {a b : List Bs} (h : Lx a b) : ¬ Lx b a := fun h' => by
  obtain ⟨k, h1, h2⟩ := h
  obtain ⟨m, g1, g2⟩ := h'
  rcases Nat.lt_trichotomy k m with e | e | e
  · have := g1 k e; omega
  · subst e; omega
  · have := h1 m e; omega
theorem Lx.trans {a b c : List Bs} (h : Lx a b) (h' : Lx b c) : Lx a c := by
  obtain ⟨k, h1, h2⟩ := h
  obtain ⟨m, g1, g2⟩ := h'
  rcases Nat.lt_trichotomy k m with e | e | e
  · exact ⟨k, fun j hj => (h1 j hj).trans (g1 j (by omega)), by rw [← g1 k e]; exact h2⟩
  · subst e; exact ⟨k, fun j hj => (h1 j hj).trans (g1 j hj), by omega⟩
  · exact ⟨m, fun j hj => (h1 j (by omega)).trans (g1 j hj), by rw [h1 m e]; exact g2⟩
theorem Lx.eq {a b c : List Bs} (h : Lx a b) (h' : Eqp b c) : Lx a c := by
  obtain ⟨k, h1, h2⟩ := h
  exact ⟨k, fun j hj => (h1 j hj).trans (h' j), by rw [← h' k]; exact h2⟩
theorem Eqp.lx {a b c : List Bs} (h : Eqp a b) (h' : Lx b c) : Lx a c := by
  obtain ⟨k, h1, h2⟩ := h'
  exact ⟨k, fun j hj => (h j).trans (h1 j hj), by rw [h k]; exact h2⟩
theorem Eqp.symm {a b : List Bs} (h : Eqp a b) : Eqp b a := fun k => (h k).symm
theorem better_cases (a b : List Bs) : (better a b = 0 ∧ Eqp a b) ∨ (better a b = -1 ∧ Lx a b) ∨ (better a b = 1 ∧ Lx b a) := by
  unfold better
  rcases diffTo_cases a b (max a.length b.length) with ⟨h1, h2⟩ | h | h
  · refine .inl ⟨h1, fun k => ?_⟩
    rcases Nat.lt_or_ge k (max a.length b.length) with hk | hk
    · exact h2 k hk
    · rw [place_none (by omega), place_none (by omega)]
  · exact .inr (.inl h)
  · exact .inr (.inr h)
theorem better_neg {a b : List Bs} : better a b < 0 ↔ Lx a b := by
  rcases better_cases a b with ⟨h1, h2⟩ | ⟨h1, h2⟩ | ⟨h1, h2⟩
  · rw [h1]; exact ⟨fun h => absurd h (by decide), fun h => absurd h2 h.not_eq⟩
  · rw [h1]; exact ⟨fun _ => h2, fun _ => by decide⟩
  · rw [h1]; exact ⟨fun h => absurd h (by decide), fun h => absurd h h2.asymm⟩
theorem not_lx {a b : List Bs} (h : ¬ Lx a b) : Eqp a b ∨ Lx b a := by
  rcases better_cases a b with ⟨h1, h2⟩ | ⟨h1, h2⟩ | ⟨h1, h2⟩
  · exact .inl h2
  · exact absurd h2 h
  · exact .inr h2
/-- Not less is transitive. -/
theorem not_lx_trans {a b c : List Bs} (h : ¬ Lx a b) (h' : ¬ Lx b c) : ¬ Lx a c := fun g => by
  rcases not_lx h with e | e
  · exact h' (e.symm.lx g)
  · exact h' (e.trans g)
theorem better_of {a b : List Bs} (h : ¬ Lx b a) (h2 : ¬ Eqp a b) : better a b = -1 := by
  rcases better_cases a b with ⟨h1, h3⟩ | ⟨h1, h3⟩ | ⟨h1, h3⟩
  · exact absurd h3 h2
  · exact h1
  · exact absurd h3 h

end Go.Proofs.Ytefilalapkdegaa.Route
namespace Go.Proofs.Ytefilalapkdegaa
open Go.RowKit Str Mem
set_option linter.unusedVariables false
set_option linter.unusedSimpArgs false

theorem ltR_asymm (L : List RtV) (x y : Int) (h : ltR L x y = true) : ltR L y x = false := by
  unfold ltR at *
  have := Route.better_neg.1 (of_decide_eq_true h)
  exact decide_eq_false fun h2 => this.asymm (Route.better_neg.1 h2)
theorem ltR_trans (L : List RtV) (x y z : Int) (h : ltR L x y = false) (h2 : ltR L y z = false) : ltR L x z = false := by
  unfold ltR at *
  exact decide_eq_false fun h3 => Route.not_lx_trans (fun h4 => of_decide_eq_false h (Route.better_neg.2 h4)) (fun h4 => of_decide_eq_false h2 (Route.better_neg.2 h4)) (Route.better_neg.1 h3)
theorem ltR_weak (L : List RtV) : Route.Weak (ltR L) := ⟨ltR_asymm L, ltR_trans L⟩

def StA (w0 u : World) (g : Nat) (rest Y : List Value) (wr : World) : Prop := wr.heap[g]? = some (.cells (Y ++ rest).toArray 3 (0, 0)) ∧ Kp g u wr ∧ Below w0.heap.size w0 wr
set_option maxRecDepth 20000 in
set_option maxHeartbeats 4000000 in
theorem stable_big (f : Nat) (lb : Array Value) (ef : ∀ args w, (callFunc f args).run Try.prog w = .ok (.enter f args) w) (lt : Int → Int → Bool) (hW : Route.Weak lt) (M : List Int) (g cap n : Nat) (rest : List Value) (w u : World) (hn : M.length = n) (h20 : 20 ≤ n) (h32 : n ≤ 32) (hc : n ≤ cap)
    (w0 : World) (hcmp : CmpOk f lb lt M g u w0) (hrow : w.heap[g]? = some (.cells (M.map iv ++ rest).toArray 3 (0, 0))) (hk : Kp g u w) (hg : g < u.heap.size) (hb : Below w0.heap.size w0 w) (hg0 : w0.heap.size ≤ g) :
    Calls Try.prog 60 #[.slice (some ⟨g, 0, none⟩) n cap, .int .i64 n, .func (.func f) #[] lb] w fun e w' =>
      (∃ v, e = .returned v) ∧ w'.heap[g]? = some (.cells ((Route.sorted lt M).map iv ++ rest).toArray 3 (0, 0)) ∧ Kp g u w' ∧ Below w0.heap.size w0 w' := by
  obtain ⟨M1, M2, rfl, l1, l2⟩ : ∃ M1 M2, M = M1 ++ M2 ∧ M1.length = 20 ∧ M2.length = n - 20 := ⟨M.take 20, M.drop 20, (List.take_append_drop _ _).symm, by rw [List.length_take]; omega, by rw [List.length_drop]; omega⟩
  have hs1 : (Route.sorted lt M1).length = 20 := by rw [Route.sorted_length, l1]
  have hs2 : (Route.sorted lt M2).length = n - 20 := by rw [Route.sorted_length, l2]
  have hi1 := fun W (h : StA w0 u g rest ((M1 ++ M2).map iv) W) => ins_any f lb ef lt [] M1 M2 g cap rest W u n 0 20 (by simpa using hn) rfl (by simp [l1]) (by omega) hc w0 (by simpa using hcmp) (by simpa using h.1) h.2.1 hg h.2.2 hg0
  have hi2 := fun W (h : StA w0 u g rest ((Route.sorted lt M1 ++ M2).map iv) W) => ins_any f lb ef lt (Route.sorted lt M1) M2 [] g cap rest W u n 20 n (by simp [hs1, l2]; omega) (by omega) (by omega) (by omega) hc w0
    (hcmp.sub fun x hx => by
      simp only [List.append_nil, List.mem_append, Route.sorted_mem] at hx ⊢
      exact hx) (by simpa using h.1) h.2.1 hg h.2.2 hg0
  have hi3 := fun W (h : StA w0 u g rest ((Route.sorted lt M1 ++ Route.sorted lt M2).map iv) W) (hlt : 20 < n) => sym_any f lb ef lt hW (M1 ++ M2) g cap n rest u w0 (by omega) hc hcmp hg hg0 n [] (Route.sorted lt M1) (Route.sorted lt M2) [] 0 20 n (by omega) (by omega) (by omega) (Route.sorted_up hW _) (Route.sorted_up hW _) rfl (by simp [hs1]) (by simp; omega) (by simp; omega)
    (fun x hx => by
      simp only [List.nil_append, List.append_nil, List.mem_append, Route.sorted_mem] at hx ⊢
      exact hx) W (by simpa using h.1) h.2.1 h.2.2
  have hsm := Route.sorted_merge hW M1 M2
  have H0 := Lib.hid (show StA w0 u g rest ((M1 ++ M2).map iv) w from ⟨hrow, hk, hb⟩)
  have HI1 := Lib.hid hi1
  have HI2 := Lib.hid hi2
  have HI3 := Lib.hid hi3
  have HSM := Lib.hid hsm
  have HL2 := Lib.hid l2
  have c1 : (20 : Int) ≤ (n : Int) := by omega
  have c2 : ¬ (40 : Int) ≤ (n : Int) := by omega
  clear hrow hk hb hi1 hi2 hi3 hsm hcmp l1 l2 hs1 hs2 hn
  go_enter Try.func60, Try.ntmps60
  go_wp2_with fail
  go_loopw [7, 8] (fun a b wr => (a = .int .i64 0 ∧ b = .int .i64 20 ∧ StA w0 u g rest ((M1 ++ M2).map iv) wr) ∨ (a = .int .i64 20 ∧ b = .int .i64 40 ∧ StA w0 u g rest ((Route.sorted lt M1 ++ M2).map iv) wr)) (fun _ b _ => 40 - (intOf b).toNat)
  case atStart => exact .inl ⟨rfl, rfl, H0.out⟩
  case round =>
    clear H0
    rcases hrel with ⟨rfl, rfl, hst⟩ | ⟨rfl, rfl, hst⟩
    · have HST := Lib.hid hst
      clear hst
      go_wp2_with fail
      refine (HI1.out _ HST.out).mono ?_
      rintro e w1 ⟨⟨v, rfl⟩, h1, h2, h3⟩
      go_wp2_with fail
      exact ⟨.inr ⟨rfl, rfl, ⟨by simpa using h1, h2, h3⟩⟩, by simp [intOf]⟩
    · have HST := Lib.hid hst
      clear hst
      go_wp2_with fail
      refine (HI2.out _ HST.out).mono ?_
      rintro e w1 ⟨⟨v, rfl⟩, h1, h2, h3⟩
      have HS2 := Lib.hid (show StA w0 u g rest ((Route.sorted lt M1 ++ Route.sorted lt M2).map iv) w1 from ⟨by simpa using h1, h2, h3⟩)
      clear h1 h2 h3 HST
      go_wp2_with fail
      go_loopw [6, 7, 8, 9] (fun s _ _ _ wr => (s = .int .i64 20 ∧ StA w0 u g rest ((Route.sorted lt M1 ++ Route.sorted lt M2).map iv) wr) ∨ (s = .int .i64 40 ∧ StA w0 u g rest ((Route.sorted lt (M1 ++ M2)).map iv) wr)) (fun s _ _ _ _ => 40 - (intOf s).toNat)
      case atStart => exact .inl ⟨rfl, HS2.out⟩
      case round =>
        clear HS2
        rcases hrel with ⟨rfl, hst⟩ | ⟨rfl, hst⟩
        · have HST := Lib.hid hst
          clear hst
          by_cases hlt : 20 < n
          · have d1 : (20 : Int) < (n : Int) := by omega
            go_wp2_with fail
            go_loopw [7, 8] (fun a b W => a = .int .i64 0 ∧ b = .int .i64 40 ∧ StA w0 u g rest ((Route.sorted lt M1 ++ Route.sorted lt M2).map iv) W) (fun _ _ _ => 0)
            case atStart => exact ⟨rfl, rfl, HST.out⟩
            case round =>
              clear HST
              obtain ⟨rfl, rfl, hst⟩ := hrel
              have HST := Lib.hid hst
              clear hst
              go_wp2_with fail
              refine (HI3.out _ HST.out hlt).mono ?_
              rintro e w2 ⟨⟨v2, rfl⟩, h1, h2, h3⟩
              go_wp2_with fail
              exact ⟨.inr ⟨rfl, ⟨by rw [HSM.out]; simpa using h1, h2, h3⟩⟩, by simp [intOf]⟩
          · have d1 : ¬ (20 : Int) < (n : Int) := by omega
            have hz : M2 = [] := List.length_eq_zero_iff.1 (by have := HL2.out; omega)
            subst hz
            go_wp2_with fail
            go_end0
            obtain ⟨h1, h2, h3⟩ := HST.out
            exact ⟨⟨_, rfl⟩, by simpa [show Route.sorted lt ([] : List Int) = [] from rfl] using h1, h2, h3⟩
        · have d1 : ¬ (40 : Int) < (n : Int) := by omega
          have HST := Lib.hid hst
          clear hst
          go_wp2_with fail
          go_end0
          obtain ⟨h1, h2, h3⟩ := HST.out
          exact ⟨⟨_, rfl⟩, h1, h2, h3⟩
set_option maxRecDepth 20000 in
set_option maxHeartbeats 4000000 in
/-- The stable sort of at most 32 numbers. -/
theorem stable_all (f : Nat) (lb : Array Value) (ef : ∀ args w, (callFunc f args).run Try.prog w = .ok (.enter f args) w) (lt : Int → Int → Bool) (hW : Route.Weak lt) (M : List Int) (g cap : Nat) (rest : List Value) (w u : World) (hn : M.length ≤ 32) (hc : M.length ≤ cap)
    (w0 : World) (hcmp : CmpOk f lb lt M g u w0) (hrow : w.heap[g]? = some (.cells (M.map iv ++ rest).toArray 3 (0, 0))) (hk : Kp g u w) (hg : g < u.heap.size) (hb : Below w0.heap.size w0 w) (hg0 : w0.heap.size ≤ g) :
    Calls Try.prog 37 #[.slice (some ⟨g, 0, none⟩) M.length cap, .func (.func f) #[] lb] w fun e w' =>
      (∃ v, e = .returned v) ∧ w'.heap[g]? = some (.cells ((Route.sorted lt M).map iv ++ rest).toArray 3 (0, 0)) ∧ Kp g u w' ∧ Below w0.heap.size w0 w' := by
  by_cases h20 : M.length < 20
  · exact stable_any f lb ef lt M g cap rest w u h20 hc w0 hcmp hrow hk hg hb hg0
  · obtain ⟨n, hnn⟩ : ∃ n, M.length = n := ⟨_, rfl⟩
    rw [hnn] at hn hc h20 ⊢
    have hin := stable_big f lb ef lt hW M g cap n rest w u hnn (by omega) hn hc w0 hcmp hrow hk hg hb hg0
    clear hcmp hrow hnn
    go_enter Try.func37, Try.ntmps37
    go_wp2_with fail
    refine hin.mono ?_
    rintro e w1 ⟨⟨v, rfl⟩, h1, h2, h3⟩
    go_wp2
    go_end0
    exact ⟨⟨_, rfl⟩, h1, h2, h3⟩
end Go.Proofs.Ytefilalapkdegaa
