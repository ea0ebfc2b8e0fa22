/- Arguments that came in: structs, slices of structs, opened. -/
import Derived.Test.YteppipkokeaijaaRowOpen
import Derived.Deep.Slices
import Derived.ChangeArms
import Derived.ChangeSlices
import Derived.OpenShut
import Derived.Lib.SmallJoins
namespace Go.Proofs.Yteppipkokeaijaa.Gen
open Go.RowKit Go.WideShapes Go.ChangeShapes Mem
set_option linter.unusedVariables false
set_option linter.unusedSimpArgs false

section
variable {α : Type} {f : α → List Value} {sz : Nat} (hf : ∀ x, (f x).length = sz)
  include hf
theorem flat_length (L : List α) : (L.flatMap f).length = L.length * sz := by
  induction L with
  | nil => simp
  | cons a t ih => rw [List.flatMap_cons, List.length_append, ih, hf, List.length_cons, Nat.succ_mul]; omega
theorem flat_get : ∀ (L : List α) (k j : Nat) (x : α), L[k]? = some x → j < sz → (L.flatMap f)[k * sz + j]? = (f x)[j]?
  | [], k, j, x, h, _ => by simp at h
  | a :: t, 0, j, x, h, hj => by
    simp at h; subst h
    rw [List.flatMap_cons, List.getElem?_append_left (by rw [hf]; omega)]
    simp
  | a :: t, k + 1, j, x, h, hj => by
    have := flat_get t k j x (by simpa using h) hj
    rw [List.flatMap_cons, List.getElem?_append_right (by rw [hf, Nat.succ_mul]; omega), ← this, hf]
    congr 1
    rw [Nat.succ_mul]; omega
end

section
variable {H : Type} {enc : TypeId × Value → H} {P : Program} {W : World} {base : Nat} {sp : Nat → Bool} {held : Bool}

/-- A struct's fields, each with its reading. -/
theorem fields {t : TypeId} {fs : Array Field} {fuel : Nat} {cs : List Value} {x : DataW H × List MemPlace} (ht : P.underlying t = some (.struct fs)) (h : DataW.trod enc P W base sp held fuel t cs = some x) :
    ∃ n, cs.length = P.cellsOf t ∧ ∀ (i : Nat) (f : Field), fs[i]? = some f → ∃ y, DataW.trod enc P W base sp held n f.type ((cs.drop f.offset).take (P.cellsOf f.type)) = some y ∧ (∀ p ∈ y.2, p ∈ x.2) := by
  obtain ⟨xs, n, _, rfl, hl, hlen, hf⟩ := DataW.trod_struct ht h
  refine ⟨n, hl, fun i f hi => ?_⟩
  have hil : i < xs.length := by rw [hlen]; exact (Array.getElem?_eq_some_iff.1 hi).1
  refine ⟨xs[i], ?_, fun p hp => ?_⟩
  · rw [hf i f hi, List.getElem?_eq_getElem hil]
  · exact List.mem_flatMap.2 ⟨xs[i], List.getElem_mem hil, hp⟩

/-- A slice of elements of sz cells, each opened. -/
theorem rows {α : Type} [Inhabited α] {t e : TypeId} (sz : Nat) (hsz : 0 < sz) (ht : P.underlying t = some (.slice e)) (hc : P.cellsOf e = sz) (f : α → List Value) (hf : ∀ x, (f x).length = sz) (Q : α → Prop)
    (each : ∀ n cs y, DataW.trod enc P W 0 (fun _ => true) true n e cs = some y → (∀ p ∈ y.2, p.block < W.heap.size) → ∃ v, cs = f v ∧ Q v)
    {fuel : Nat} {cs : List Value} {x : DataW H × List MemPlace} (h : DataW.trod enc P W 0 (fun _ => true) true fuel t cs = some x) (hlt : ∀ p ∈ x.2, p.block < W.heap.size) :
    ∃ a c, ∃ l : List α, cs = [.slice a l.length c] ∧ l.length ≤ c ∧ c ≤ maxLen ∧ Rd W sz a l.length (l.flatMap f) ∧ ∀ v ∈ l, Q v := by
  rcases Go.Deep.open_slice ht h with ⟨rfl, rfl⟩ | ⟨a, len, cap, m, n, D, Pl, rfl, _, hl, hm, hmm, rfl, hx⟩
  · exact ⟨none, 0, [], rfl, Nat.le_refl _, by simp [maxLen], Rd.nil _ _ _, by simp⟩
  · simp only [if_true] at hmm
    subst hmm
    have each2 : ∀ i, i < len → ∃ v : α, W.cells? 0 (a.add (i * P.cellsOf e)) (P.cellsOf e) = some (f v) ∧ Q v := by
      intro i hi
      obtain ⟨cs', h1, h2⟩ := hx i (by omega)
      obtain ⟨v, rfl, hq⟩ := each n cs' _ h2 (fun p hp => hlt p (List.mem_append_right _ (List.mem_flatMap.2 ⟨i, List.mem_range.2 (by omega), hp⟩)))
      exact ⟨v, h1, hq⟩
    obtain ⟨V, hV⟩ := Go.Deep.choose_lt each2
    have hlen : ((List.range len).map V).length = len := by simp
    refine ⟨some a, m, (List.range len).map V, by rw [hlen], by rw [hlen]; exact hl, hm, ?_, ?_⟩
    · rw [hlen]
      refine ⟨by rw [flat_length hf, hlen], fun h0 => ⟨a, rfl, ?_, fun j u hu => ?_⟩⟩
      · exact World.cells?_block (hV 0 h0).1 (by omega) |> fun h => by rwa [add_block] at h
      · have hj : j < len * sz := by
          have := (List.getElem?_eq_some_iff.1 hu).1
          rw [flat_length hf, hlen] at this
          exact this
        have hk : j / sz < len := (Nat.div_lt_iff_lt_mul hsz).2 hj
        have hr : j % sz < sz := Nat.mod_lt _ hsz
        have ej : j / sz * sz + j % sz = j := by rw [Nat.mul_comm]; exact Nat.div_add_mod j sz
        have hg : ((List.range len).map V)[j / sz]? = some (V (j / sz)) := by simp [hk]
        have e2 := flat_get hf _ _ (j % sz) _ hg hr
        rw [ej] at e2
        obtain ⟨_, _, hcell⟩ := World.cells?_some (hV _ hk).1
        have := hcell (j % sz) (by rw [hc]; exact hr)
        rw [hc, add_twice, ej] at this
        rw [this, ← e2, hu]
    · intro v hv
      obtain ⟨i, hi, rfl⟩ := List.mem_map.1 hv
      exact (hV i (List.mem_range.1 hi)).2

/-- A []string's cell. -/
theorem texts_at {t e : TypeId} {fuel : Nat} {cs : List Value} {x : DataW H × List MemPlace} (ht : P.underlying t = some (.slice e)) (he : P.underlying e = some .string) (hc : P.cellsOf e = 1)
    (hf : DataW.trod enc P W 0 (fun _ => true) true fuel t cs = some x) (hlt : ∀ p ∈ x.2, p.block < W.heap.size) :
    ∃ a c, ∃ l : List (List UInt8), cs = [.slice a l.length c] ∧ l.length ≤ c ∧ c ≤ maxLen ∧ Strs W a l.length l := by
  rcases open_strings ht he hc hf with ⟨hcs, hx⟩ | ⟨a, len', cap', ss, hcs, _, hl, hm, hz, hx, hcell, hws⟩
  · exact ⟨none, 0, [], by simpa using hcs, Nat.le_refl _, by simp [maxLen], Mem.Rd.nil _ _ _⟩
  · simp only [if_true] at hz
    have hlen : ((ss.take len').map (·.data.toList)).length = len' := by simp; omega
    refine ⟨some a, cap', (ss.take len').map (·.data.toList), by rw [hlen]; exact hcs, by rw [hlen]; exact hl, hm, ?_⟩
    rw [hlen]
    refine ⟨by simp; omega, fun h0 => ⟨a, rfl, ?_, ?_⟩⟩
    · have hx2 := congrArg (·.2) hx
      simp only at hx2
      exact hlt (.cell a.block a.off) (by rw [hx2, MemPlace.mem_row]; exact ⟨0, by omega, by simp⟩)
    · intro j u hu
      have hj : j < len' := by
        have := (List.getElem?_eq_some_iff.1 hu).1
        simp at this; omega
      rw [hcell j (by omega)]
      rw [← hu, List.getElem?_map, List.getElem?_map, List.getElem?_take, if_pos hj, List.getElem?_eq_getElem (by omega)]
      simp [Mem.sv, List.getD_eq_getElem?_getD]
      rw [List.getElem?_eq_getElem (by omega)]
      rfl
theorem str_at {n : Nat} {c : Value} {t : TypeId} {y : DataW H × List MemPlace} (ht : P.underlying t = some .string) (h : DataW.trod enc P W base sp held n t [c] = some y) : ∃ s : List UInt8, c = sv s ∧ s.length ≤ maxLen := by
  obtain ⟨s, h1, h2, h3⟩ := DataW.trod_string ht h
  refine ⟨s.data.toList, ?_, by rw [← Str.size_data]; exact h3⟩
  simp only [List.cons.injEq, and_true] at h1
  rw [h1]; rfl
theorem bool_at {n : Nat} {c : Value} {t : TypeId} {y : DataW H × List MemPlace} (ht : P.underlying t = some .bool) (h : DataW.trod enc P W base sp held n t [c] = some y) : ∃ b : Bool, c = .bool b := by
  obtain ⟨b, h1, h2⟩ := DataW.trod_bool ht h
  simp only [List.cons.injEq, and_true] at h1
  exact ⟨b, h1⟩
theorem int_at {n : Nat} {c : Value} {t : TypeId} {y : DataW H × List MemPlace} (ht : P.underlying t = some (.int .i64)) (h : DataW.trod enc P W base sp held n t [c] = some y) : ∃ i : Int, c = .int .i64 i ∧ (Lit.int .i64 i).wf = true := by
  obtain ⟨b, h1, h2, h3⟩ := DataW.trod_int ht h
  simp only [List.cons.injEq, and_true] at h1
  exact ⟨b, h1, h3⟩
theorem cs1 {cs : List Value} (h : cs.length = 1) : ∃ c0, cs = [c0] := by
  match cs, h with
  | [c0], _ => exact ⟨_, rfl⟩
theorem cs2 {cs : List Value} (h : cs.length = 2) : ∃ c0 c1, cs = [c0, c1] := by
  match cs, h with
  | [c0, c1], _ => exact ⟨_, _, rfl⟩
theorem cs3 {cs : List Value} (h : cs.length = 3) : ∃ c0 c1 c2, cs = [c0, c1, c2] := by
  match cs, h with
  | [c0, c1, c2], _ => exact ⟨_, _, _, rfl⟩
theorem cs4 {cs : List Value} (h : cs.length = 4) : ∃ c0 c1 c2 c3, cs = [c0, c1, c2, c3] := by
  match cs, h with
  | [c0, c1, c2, c3], _ => exact ⟨_, _, _, _, rfl⟩
theorem cs6 {cs : List Value} (h : cs.length = 6) : ∃ c0 c1 c2 c3 c4 c5, cs = [c0, c1, c2, c3, c4, c5] := by
  match cs, h with
  | [c0, c1, c2, c3, c4, c5], _ => exact ⟨_, _, _, _, _, _, rfl⟩
end
end Go.Proofs.Yteppipkokeaijaa.Gen
