/- A splitter, and lines, that came in. -/
import Derived.Test.YteppipkokeaijaaRowGen
import Derived.Test.YteppipkokeaijaaLineSplit
namespace Go.Proofs.Yteppipkokeaijaa
open Go.RowKit Go.WideShapes Go.ChangeShapes Mem
set_option linter.unusedVariables false
set_option linter.unusedSimpArgs false
section
variable {H : Type} {enc : TypeId × Value → H} {W : World}
theorem cellsStr : Try.prog.cellsOf 9 = 1 := by kernel_rfl
theorem cellsBool : Try.prog.cellsOf 4 = 1 := by kernel_rfl
theorem cellsInt : Try.prog.cellsOf 3 = 1 := by kernel_rfl
theorem cellsLine : Try.prog.cellsOf 36 = 2 := by kernel_rfl
theorem cellsLines : Try.prog.cellsOf 25 = 3 := by kernel_rfl
def lcells (x : List UInt8 × Bool) : List Value := [.string (Str.bs x.1), .bool x.2]

set_option maxRecDepth 100000 in
/-- A splitter that came in. -/
theorem open_lines {b0 : Nat} {v : Value} {d : DataW H} {p : List MemPlace} (h : DataW.Trod enc Try.prog W 0 (fun _ => true) true 25 v d p) (hv : Value.okWide Try.prog W .any b0 25 v) :
    ∃ (lim : Int) (T : List UInt8) (g : Bool), v = linesV lim T g ∧ T.length ≤ maxLen := by
  obtain ⟨cs, rfl, hsz⟩ := okWide_struct Try.underlying25 hv
  obtain ⟨fuel, hf⟩ := h
  obtain ⟨m, hl, hf⟩ := Gen.fields Try.underlying25 hf
  rw [cellsLines] at hl
  obtain ⟨c0, c1, c2, hcs⟩ := Gen.cs3 hl
  obtain ⟨y0, h0, -⟩ := hf 0 _ rfl
  obtain ⟨y1, h1, -⟩ := hf 1 _ rfl
  obtain ⟨y2, h2, -⟩ := hf 2 _ rfl
  rw [hcs] at h0 h1 h2
  simp only [List.getElem_toArray, List.getElem_cons_zero, List.getElem_cons_succ, cellsStr, cellsInt, cellsBool, List.drop, List.take] at h0 h1 h2
  obtain ⟨n0, rfl, -⟩ := Gen.int_at Try.underlying3 h0
  obtain ⟨s1, rfl, hs⟩ := Gen.str_at Try.underlying9 h1
  obtain ⟨b2, rfl⟩ := Gen.bool_at Try.underlying4 h2
  refine ⟨n0, s1, b2, ?_, hs⟩
  unfold linesV
  congr 1
  exact Array.toList_inj.1 (by simp [Value.cells] at hcs; exact hcs)
instance : Inhabited (List UInt8 × Bool) := ⟨([], false)⟩
set_option maxRecDepth 100000 in
/-- Lines that came in. -/
theorem open_linelist {b0 : Nat} {v : Value} {d : DataW H} {p : List MemPlace} (h : DataW.Trod enc Try.prog W 0 (fun _ => true) true 30 v d p) (hv : Value.okWide Try.prog W .any b0 30 v) (hlt : ∀ x ∈ p, x.block < W.heap.size) :
    ∃ a c, ∃ L : List (List UInt8 × Bool), v = .slice a L.length c ∧ L.length ≤ c ∧ c ≤ maxLen ∧ Lines W a L.length L := by
  obtain ⟨a0, len, cap, rfl⟩ := okWide_slice Try.underlying30 hv
  obtain ⟨fuel, hf⟩ := h
  have hf' : DataW.trod enc Try.prog W 0 (fun _ => true) true fuel 30 [.slice a0 len cap] = some (d, p) := by simpa [Value.cells] using hf
  obtain ⟨a, c, L, e, hlc, hcm, hrd, -⟩ := Gen.rows 2 (by omega) Try.underlying30 cellsLine lcells (fun _ => rfl) (fun _ => True) (fun n cs y h hp => by
    obtain ⟨m, hl, hf⟩ := Gen.fields Try.underlying36 h
    rw [cellsLine] at hl
    obtain ⟨c0, c1, rfl⟩ := Gen.cs2 hl
    obtain ⟨y0, h0, -⟩ := hf 0 _ rfl
    obtain ⟨y1, h1, -⟩ := hf 1 _ rfl
    simp only [List.getElem_toArray, List.getElem_cons_zero, List.getElem_cons_succ, cellsStr, cellsInt, cellsBool, List.drop, List.take] at h0 h1
    obtain ⟨s0, rfl, hs⟩ := Gen.str_at Try.underlying9 h0
    obtain ⟨b1, rfl⟩ := Gen.bool_at Try.underlying4 h1
    exact ⟨(s0, b1), rfl, trivial⟩) hf' hlt
  simp only [List.cons.injEq, and_true] at e
  exact ⟨a, c, L, e, hlc, hcm, hrd⟩
end
end Go.Proofs.Yteppipkokeaijaa
