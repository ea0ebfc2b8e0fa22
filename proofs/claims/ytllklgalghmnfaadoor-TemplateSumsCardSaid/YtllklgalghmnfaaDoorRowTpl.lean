/- Parts, and a target, that came in. -/
import Derived.Test.YtllklgalghmnfaaDoorRowGen
import Derived.Test.YtllklgalghmnfaaDoorTplSame
import Derived.Test.YtllklgalghmnfaaDoorTplValueRow
import Derived.OpenShut
namespace Go.Proofs.YtllklgalghmnfaaDoor
open Go.RowKit Go.WideShapes Go.ChangeShapes Mem Tp
set_option linter.unusedVariables false
set_option linter.unusedSimpArgs false
section
variable {H : Type} {enc : TypeId × Value → H} {W : World}
theorem cellsStr25 : Tryd.prog.cellsOf 9 = 1 := by kernel_rfl
theorem cellsBool25 : Tryd.prog.cellsOf 4 = 1 := by kernel_rfl
theorem cellsInt25 : Tryd.prog.cellsOf 3 = 1 := by kernel_rfl
theorem cellsParts25 : Tryd.prog.cellsOf 23 = 1 := by kernel_rfl
theorem cellsPart25 : Tryd.prog.cellsOf 59 = 3 := by kernel_rfl
theorem cellsTarget25 : Tryd.prog.cellsOf 30 = 6 := by kernel_rfl
instance : Inhabited Part := ⟨⟨0, [], 0⟩⟩
set_option maxRecDepth 100000 in
/-- Parts out of one cell that reads as parts. -/
theorem parts_at {fuel : Nat} {c0 : Value} {y : DataW H × List MemPlace} (hf : DataW.trod enc Tryd.prog W 0 (fun _ => true) true fuel 23 [c0] = some y) (hlt : ∀ x ∈ y.2, x.block < W.heap.size) :
    ∃ a c, ∃ L : List Part, c0 = .slice a L.length c ∧ L.length ≤ c ∧ c ≤ maxLen ∧ Parts W a L.length L ∧ ∀ p ∈ L, p.t.length ≤ maxLen := by
  obtain ⟨a, c, L, e, hlc, hcm, hrd, hQ⟩ := Gen.rows 3 (by omega) Tryd.underlying23 cellsPart25 pcells (fun _ => rfl) (fun p => p.t.length ≤ maxLen) (fun n cs y h hp => by
    obtain ⟨m, hl, hf⟩ := Gen.fields Tryd.underlying59 h
    rw [cellsPart25] at hl
    obtain ⟨c0, c1, c2, rfl⟩ := Gen.cs3 hl
    obtain ⟨y0, h0, -⟩ := hf 0 _ rfl
    obtain ⟨y1, h1, -⟩ := hf 1 _ rfl
    obtain ⟨y2, h2, -⟩ := hf 2 _ rfl
    simp only [List.getElem_toArray, List.getElem_cons_zero, List.getElem_cons_succ, cellsStr25, cellsInt25, cellsBool25, List.drop, List.take] at h0 h1 h2
    obtain ⟨n0, rfl, -⟩ := Gen.int_at Tryd.underlying3 h0
    obtain ⟨s1, rfl, hs⟩ := Gen.str_at Tryd.underlying9 h1
    obtain ⟨n2, rfl, -⟩ := Gen.int_at Tryd.underlying3 h2
    exact ⟨⟨n0, s1, n2⟩, rfl, hs⟩) hf hlt
  simp only [List.cons.injEq, and_true] at e
  exact ⟨a, c, L, e, hlc, hcm, hrd, hQ⟩
set_option maxRecDepth 100000 in
/-- Parts that came in. -/
theorem open_parts {b0 : Nat} {v : Value} {d : DataW H} {p : List MemPlace} (h : DataW.Trod enc Tryd.prog W 0 (fun _ => true) true 23 v d p) (hv : Value.okWide Tryd.prog W .any b0 23 v) (hlt : ∀ x ∈ p, x.block < W.heap.size) :
    ∃ a c, ∃ L : List Part, v = .slice a L.length c ∧ L.length ≤ c ∧ c ≤ maxLen ∧ Parts W a L.length L ∧ ∀ p ∈ L, p.t.length ≤ maxLen := by
  obtain ⟨a0, len, cap, rfl⟩ := okWide_slice Tryd.underlying23 hv
  obtain ⟨fuel, hf⟩ := h
  have hf' : DataW.trod enc Tryd.prog W 0 (fun _ => true) true fuel 23 [.slice a0 len cap] = some (d, p) := by simpa [Value.cells] using hf
  exact parts_at hf' hlt
set_option maxRecDepth 100000 in
/-- A target that came in. -/
theorem open_target {b0 : Nat} {v : Value} {d : DataW H} {p : List MemPlace} (h : DataW.Trod enc Tryd.prog W 0 (fun _ => true) true 30 v d p) (hv : Value.okWide Tryd.prog W .any b0 30 v) (hlt : ∀ x ∈ p, x.block < W.heap.size) :
    ∃ (sm ex hq : Bool) (hb : List UInt8) (pa qa : Option Addr) (pc qc : Nat) (L M : List Part), v = tgtV sm ex hb pa L.length pc hq qa M.length qc ∧ hb.length ≤ maxLen ∧ L.length ≤ pc ∧ pc ≤ maxLen ∧ Parts W pa L.length L ∧ M.length ≤ qc ∧ qc ≤ maxLen ∧ Parts W qa M.length M := by
  obtain ⟨cs, rfl, hsz⟩ := okWide_struct Tryd.underlying30 hv
  obtain ⟨fuel, hf⟩ := h
  obtain ⟨m, hl, hf⟩ := Gen.fields Tryd.underlying30 hf
  rw [cellsTarget25] at hl
  obtain ⟨c0, c1, c2, c3, c4, c5, hcs⟩ : ∃ c0 c1 c2 c3 c4 c5, (Value.agg cs).cells.toList = [c0, c1, c2, c3, c4, c5] := by
    match (Value.agg cs).cells.toList, hl with
    | [c0, c1, c2, c3, c4, c5], _ => exact ⟨c0, c1, c2, c3, c4, c5, rfl⟩
  obtain ⟨y0, h0, -⟩ := hf 0 _ rfl
  obtain ⟨y1, h1, -⟩ := hf 1 _ rfl
  obtain ⟨y2, h2, -⟩ := hf 2 _ rfl
  obtain ⟨y3, h3, g3⟩ := hf 3 _ rfl
  obtain ⟨y4, h4, -⟩ := hf 4 _ rfl
  obtain ⟨y5, h5, g5⟩ := hf 5 _ rfl
  rw [hcs] at h0 h1 h2 h3 h4 h5
  simp only [List.getElem_toArray, List.getElem_cons_zero, List.getElem_cons_succ, cellsStr25, cellsInt25, cellsBool25, cellsParts25, List.drop, List.take] at h0 h1 h2 h3 h4 h5
  obtain ⟨b0', rfl⟩ := Gen.bool_at Tryd.underlying4 h0
  obtain ⟨b1, rfl⟩ := Gen.bool_at Tryd.underlying4 h1
  obtain ⟨s2, rfl, hs⟩ := Gen.str_at Tryd.underlying9 h2
  obtain ⟨pa, pc, L, rfl, hLc, hpc, hP, -⟩ := parts_at h3 (fun x hx => hlt x (g3 x hx))
  obtain ⟨b4, rfl⟩ := Gen.bool_at Tryd.underlying4 h4
  obtain ⟨qa, qc, M, rfl, hMc, hqc, hQ, -⟩ := parts_at h5 (fun x hx => hlt x (g5 x hx))
  refine ⟨b0', b1, b4, s2, pa, qa, pc, qc, L, M, ?_, hs, hLc, hpc, hP, hMc, hqc, hQ⟩
  unfold tgtV
  congr 1
  exact Array.toList_inj.1 (by simp [Value.cells] at hcs; exact hcs)
end
end Go.Proofs.YtllklgalghmnfaaDoor
namespace Go.Proofs.YtllklgalghmnfaaDoor
open Go.RowKit Go.WideShapes Go.ChangeShapes Mem Tp
set_option linter.unusedVariables false
set_option linter.unusedSimpArgs false
section
variable {H : Type} {enc : TypeId × Value → H} {W : World}
theorem cellsStrV : Tryd.prog.cellsOf 9 = 1 := by kernel_rfl
theorem cellsTextsV : Tryd.prog.cellsOf 50 = 1 := by kernel_rfl
theorem cellsFourV : Tryd.prog.cellsOf 51 = 4 := by kernel_rfl
theorem cellsValues : Tryd.prog.cellsOf 53 = 6 := by kernel_rfl
set_option maxRecDepth 100000 in
/-- The values of a template that came in. -/
theorem open_values {b0 : Nat} {v : Value} {d : DataW H} {p : List MemPlace} (h : DataW.Trod enc Tryd.prog W 0 (fun _ => true) true 53 v d p) (hv : Value.okWide Tryd.prog W .any b0 53 v) (hlt : ∀ x ∈ p, x.block < W.heap.size) :
    ∃ (a b : Option Addr) (c d : Nat) (R C : List (List UInt8)) (x1 x2 x3 x4 : List UInt8), v = valsV a R.length c b C.length d x1 x2 x3 x4 ∧ R.length ≤ c ∧ c ≤ maxLen ∧ Strs W a R.length R ∧ C.length ≤ d ∧ d ≤ maxLen ∧ Strs W b C.length C := by
  obtain ⟨cs, rfl, hsz⟩ := okWide_struct Tryd.underlying53 hv
  obtain ⟨fuel, hf⟩ := h
  obtain ⟨m, hl, hf⟩ := Gen.fields Tryd.underlying53 hf
  rw [cellsValues] at hl
  obtain ⟨c0, c1, c2, c3, c4, c5, hcs⟩ : ∃ c0 c1 c2 c3 c4 c5, (Value.agg cs).cells.toList = [c0, c1, c2, c3, c4, c5] := by
    match (Value.agg cs).cells.toList, hl with
    | [c0, c1, c2, c3, c4, c5], _ => exact ⟨c0, c1, c2, c3, c4, c5, rfl⟩
  obtain ⟨y0, h0, g0⟩ := hf 0 _ rfl
  obtain ⟨y1, h1, g1⟩ := hf 1 _ rfl
  obtain ⟨y2, h2, g2⟩ := hf 2 _ rfl
  rw [hcs] at h0 h1 h2
  simp only [List.getElem_toArray, List.getElem_cons_zero, List.getElem_cons_succ, cellsTextsV, cellsFourV, List.drop, List.take] at h0 h1 h2
  obtain ⟨a, c, R, e0, hRc, hc, hR⟩ := Gen.texts_at Tryd.underlying50 Tryd.underlying9 cellsStrV h0 (fun x hx => hlt x (g0 x hx))
  obtain ⟨b, d', C, e1, hCd, hd, hC⟩ := Gen.texts_at Tryd.underlying50 Tryd.underlying9 cellsStrV h1 (fun x hx => hlt x (g1 x hx))
  obtain ⟨xs, m2, _, ex, hl2, hlen, hel⟩ := DataW.trod_array Tryd.underlying51 h2
  have hx : ∀ i, i < 4 → ∃ y, DataW.trod enc Tryd.prog W 0 (fun _ => true) true m2 9 (([c2, c3, c4, c5].drop (i * Tryd.prog.cellsOf 9)).take (Tryd.prog.cellsOf 9)) = some y := fun i hi => ⟨_, (hel i hi).trans (List.getElem?_eq_getElem (by omega))⟩
  obtain ⟨z0, k0⟩ := hx 0 (by omega)
  obtain ⟨z1, k1⟩ := hx 1 (by omega)
  obtain ⟨z2, k2⟩ := hx 2 (by omega)
  obtain ⟨z3, k3⟩ := hx 3 (by omega)
  rw [cellsStrV] at k0 k1 k2 k3
  obtain ⟨s0, rfl, -⟩ := Gen.str_at Tryd.underlying9 (show DataW.trod enc Tryd.prog W 0 (fun _ => true) true m2 9 [c2] = some z0 from k0)
  obtain ⟨s1, rfl, -⟩ := Gen.str_at Tryd.underlying9 (show DataW.trod enc Tryd.prog W 0 (fun _ => true) true m2 9 [c3] = some z1 from k1)
  obtain ⟨s2, rfl, -⟩ := Gen.str_at Tryd.underlying9 (show DataW.trod enc Tryd.prog W 0 (fun _ => true) true m2 9 [c4] = some z2 from k2)
  obtain ⟨s3, rfl, -⟩ := Gen.str_at Tryd.underlying9 (show DataW.trod enc Tryd.prog W 0 (fun _ => true) true m2 9 [c5] = some z3 from k3)
  simp only [List.cons.injEq, and_true] at e0 e1
  subst e0 e1
  refine ⟨a, b, c, d', R, C, s0, s1, s2, s3, ?_, hRc, hc, hR, hCd, hd, hC⟩
  unfold valsV
  congr 1
  exact Array.toList_inj.1 (by simp [Value.cells] at hcs; exact hcs)
end
end Go.Proofs.YtllklgalghmnfaaDoor
