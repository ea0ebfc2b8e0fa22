/- A route, and a path with values and a rest, that came in. -/
import Derived.Test.YtefilalapkdegaaGreatRowOpen
import Derived.Test.YtefilalapkdegaaGreatLawFits
import Derived.Deep.Slices
import Derived.ChangeArms
import Derived.ChangeSlices
import Derived.OpenShut
import Derived.Lib.SmallJoins
namespace Go.Proofs.YtefilalapkdegaaGreat
open Go.RowKit Go.WideShapes Go.ChangeShapes Mem
set_option linter.unusedVariables false
set_option linter.unusedSimpArgs false

section
variable {H : Type} {enc : TypeId × Value → H} {P : Program} {W : World} {base : Nat} {sp : Nat → Bool} {held : Bool}

/-- A struct's fields, each with its reading. -/
theorem fields1 {t : TypeId} {fs : Array Field} {fuel : Nat} {cs : List Value} {x : DataW H × List MemPlace} (ht : P.underlying t = some (.struct fs)) (h : DataW.trod enc P W base sp held fuel t cs = some x) :
    ∃ n, cs.length = P.cellsOf t ∧ ∀ (i : Nat) (f : Field), fs[i]? = some f → ∃ y, DataW.trod enc P W base sp held n f.type ((cs.drop f.offset).take (P.cellsOf f.type)) = some y ∧ (∀ p ∈ y.2, p ∈ x.2) := by
  obtain ⟨xs, n, _, rfl, hl, hlen, hf⟩ := DataW.trod_struct ht h
  refine ⟨n, hl, fun i f hi => ?_⟩
  have hil : i < xs.length := by rw [hlen]; exact (Array.getElem?_eq_some_iff.1 hi).1
  refine ⟨xs[i], ?_, fun p hp => ?_⟩
  · rw [hf i f hi, List.getElem?_eq_getElem hil]
  · exact List.mem_flatMap.2 ⟨xs[i], List.getElem_mem hil, hp⟩

/-- A []string's cell. -/
theorem open_texts_at {t e : TypeId} {fuel : Nat} {cs : List Value} {x : DataW H × List MemPlace} (ht : P.underlying t = some (.slice e)) (he : P.underlying e = some .string) (hc : P.cellsOf e = 1)
    (hf : DataW.trod enc P W 0 (fun _ => true) true fuel t cs = some x) (hlt : ∀ p ∈ x.2, p.block < W.heap.size) :
    ∃ a c, ∃ l : List (List UInt8), cs = [.slice a l.length c] ∧ l.length ≤ c ∧ c ≤ maxLen ∧ Strs W a l.length l := by
  rcases open_strings ht he hc hf with ⟨hcs, hx⟩ | ⟨a, len', cap', ss, hcs, _, hl, hm, hz, hx, hcell, hws⟩
  · exact ⟨none, 0, [], by simpa using hcs, Nat.le_refl _, by simp [maxLen], Mem.Rd.nil _ _ _⟩
  · simp only [if_true] at hz
    have hlen : ((ss.take len').map (·.data.toList)).length = len' := by simp; omega
    refine ⟨some a, cap', (ss.take len').map (·.data.toList), by rw [hlen]; exact hcs, by rw [hlen]; exact hl, hm, ?_⟩
    rw [hlen]
    refine ⟨by simp; omega, fun h0 => ⟨a, rfl, ?_, ?_⟩⟩
    · have hx2 := congrArg (·.2) hx
      simp only at hx2
      exact hlt (.cell a.block a.off) (by rw [hx2, MemPlace.mem_row]; exact ⟨0, by omega, by simp⟩)
    · intro j u hu
      have hj : j < len' := by
        have := (List.getElem?_eq_some_iff.1 hu).1
        simp at this; omega
      rw [hcell j (by omega)]
      rw [← hu, List.getElem?_map, List.getElem?_map, List.getElem?_take, if_pos hj, List.getElem?_eq_getElem (by omega)]
      simp [Mem.sv, List.getD_eq_getElem?_getD]
      rw [List.getElem?_eq_getElem (by omega)]
      rfl
end

section
variable {H : Type} {enc : TypeId × Value → H} {W : World}
theorem cells3 {cs : List Value} (h : cs.length = 3) : ∃ c0 c1 c2, cs = [c0, c1, c2] := by
  match cs, h with
  | [c0, c1, c2], _ => exact ⟨_, _, _, rfl⟩
theorem cellsStr : Tryz.prog.cellsOf 9 = 1 := by kernel_rfl
theorem cellsInt : Tryz.prog.cellsOf 3 = 1 := by kernel_rfl
theorem cellsTexts : Tryz.prog.cellsOf 22 = 1 := by kernel_rfl
theorem cellsRoute : Tryz.prog.cellsOf 24 = 3 := by kernel_rfl
theorem cellsAsk : Tryz.prog.cellsOf 26 = 3 := by kernel_rfl

set_option maxRecDepth 100000 in
/-- A Route that came in. -/
theorem open_route {b0 : Nat} {v : Value} {d : DataW H} {p : List MemPlace} (h : DataW.Trod enc Tryz.prog W 0 (fun _ => true) true 24 v d p) (hv : Value.okWide Tryz.prog W .any b0 24 v) (hlt : ∀ x ∈ p, x.block < W.heap.size) :
    ∃ a c, ∃ l : List (List UInt8), ∃ (kd : Int) (t : List UInt8), v = rtv a l.length c kd t ∧ l.length ≤ c ∧ c ≤ maxLen ∧ Strs W a l.length l := by
  obtain ⟨cs, rfl, hsz⟩ := okWide_struct Tryz.underlying24 hv
  obtain ⟨fuel, hf⟩ := h
  obtain ⟨m, hl, hf⟩ := fields1 Tryz.underlying24 hf
  rw [cellsRoute] at hl
  obtain ⟨c0, c1, c2, hcs⟩ := cells3 hl
  obtain ⟨y0, h0, p0⟩ := hf 0 _ rfl
  obtain ⟨y1, h1, -⟩ := hf 1 _ rfl
  obtain ⟨y2, h2, -⟩ := hf 2 _ rfl
  rw [hcs] at h0 h1 h2
  simp only [List.getElem_toArray, List.getElem_cons_zero, List.getElem_cons_succ, cellsStr, cellsInt, cellsTexts, List.drop, List.take] at h0 h1 h2
  obtain ⟨a, c, l, e0, hlc, hcm, hS⟩ := open_texts_at Tryz.underlying22 Tryz.underlying9 (by kernel_rfl) h0 (fun q hq => hlt q (p0 q hq))
  obtain ⟨n1, e1, -⟩ := DataW.trod_int Tryz.underlying3 h1
  obtain ⟨s, e2, -, -⟩ := DataW.trod_string Tryz.underlying9 h2
  simp only [List.cons.injEq, and_true] at e0 e1 e2
  subst e0 e1 e2
  refine ⟨a, c, l, n1, s.data.toList, ?_, hlc, hcm, hS⟩
  unfold rtv
  have : (⟨s.data.toList.toArray⟩ : ByteArray) = s := by cases s; simp
  rw [this]
  congr 1
  exact Array.toList_inj.1 (by simpa [Value.cells] using hcs)

set_option maxRecDepth 100000 in
/-- An Ask that came in. -/
theorem open_ask {b0 : Nat} {v : Value} {d : DataW H} {p : List MemPlace} (h : DataW.Trod enc Tryz.prog W 0 (fun _ => true) true 26 v d p) (hv : Value.okWide Tryz.prog W .any b0 26 v) (hlt : ∀ x ∈ p, x.block < W.heap.size) :
    ∃ (xp xr : ByteArray) (a : Option Addr) (c : Nat) (l : List (List UInt8)), v = askv xp xr a l.length c ∧ l.length ≤ c ∧ c ≤ maxLen ∧ Strs W a l.length l := by
  obtain ⟨cs, rfl, hsz⟩ := okWide_struct Tryz.underlying26 hv
  obtain ⟨fuel, hf⟩ := h
  obtain ⟨m, hl, hf⟩ := fields1 Tryz.underlying26 hf
  rw [cellsAsk] at hl
  obtain ⟨c0, c1, c2, hcs⟩ := cells3 hl
  obtain ⟨y0, h0, -⟩ := hf 0 _ rfl
  obtain ⟨y1, h1, p1⟩ := hf 1 _ rfl
  obtain ⟨y2, h2, -⟩ := hf 2 _ rfl
  rw [hcs] at h0 h1 h2
  simp only [List.getElem_toArray, List.getElem_cons_zero, List.getElem_cons_succ, cellsStr, cellsInt, cellsTexts, List.drop, List.take] at h0 h1 h2
  obtain ⟨a, c, l, e1, hlc, hcm, hS⟩ := open_texts_at Tryz.underlying22 Tryz.underlying9 (by kernel_rfl) h1 (fun q hq => hlt q (p1 q hq))
  obtain ⟨s0, e0, -, -⟩ := DataW.trod_string Tryz.underlying9 h0
  obtain ⟨s2, e2, -, -⟩ := DataW.trod_string Tryz.underlying9 h2
  simp only [List.cons.injEq, and_true] at e0 e1 e2
  subst e0 e1 e2
  refine ⟨s0, s2, a, c, l, ?_, hlc, hcm, hS⟩
  unfold askv
  congr 1
  exact Array.toList_inj.1 (by simpa [Value.cells] using hcs)
end
end Go.Proofs.YtefilalapkdegaaGreat
