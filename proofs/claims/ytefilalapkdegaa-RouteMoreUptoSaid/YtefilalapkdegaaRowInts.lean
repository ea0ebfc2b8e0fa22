/- A []int that came in, as a list of integers. -/
import Derived.Test.YtefilalapkdegaaRowOpen
import Derived.Test.YtefilalapkdegaaInts
import Derived.ChangeSlices
import Derived.OpenShut
namespace Go.Proofs.Ytefilalapkdegaa
open Go.RowKit Go.WideShapes Go.ChangeShapes

/-- A []int that came in. -/
theorem open_nums {H : Type} {enc : TypeId × Value → H} {P : Program} {W : World} {base : Nat} {t e : TypeId} {v : Value} {d : DataW H} {p : List MemPlace} (ht : P.underlying t = some (.slice e)) (he : P.underlying e = some (.int .i64)) (hc : P.cellsOf e = 1)
    (hv : Value.okWide P W .any base t v) (h : DataW.Trod enc P W 0 (fun _ => true) true t v d p) (hlt : ∀ x ∈ p, x.block < W.heap.size) :
    ∃ a c l, v = .slice a l.length c ∧ l.length ≤ c ∧ c ≤ maxLen ∧ Mem.Ints W a l.length l ∧ ∀ n ∈ l, (Lit.int .i64 n).wf = true := by
  obtain ⟨a0, len, cap, rfl⟩ := okWide_slice ht hv
  obtain ⟨fuel, hf⟩ := h
  rcases Go.ChangeShapes.open_ints ht he hc hf with ⟨hcs, hx⟩ | ⟨a, len', cap', zs, hcs, _, hl, hm, hz, hx, hcell, hws⟩
  · simp [Value.cells] at hcs
    obtain ⟨rfl, rfl, rfl⟩ := hcs
    exact ⟨none, 0, [], rfl, Nat.le_refl _, by simp [maxLen], Mem.Rd.nil _ _ _, by simp⟩
  · simp [Value.cells] at hcs
    obtain ⟨rfl, rfl, rfl⟩ := hcs
    simp only [if_true] at hz
    have hlen : (zs.take len).length = len := by simp; omega
    refine ⟨some a, cap, zs.take len, by rw [hlen], by rw [hlen]; exact hl, hm, ?_, fun n hn => hws n (List.mem_of_mem_take hn)⟩
    rw [hlen]
    refine ⟨by simp; omega, fun h0 => ⟨a, rfl, ?_, ?_⟩⟩
    · have hx2 := congrArg (·.2) hx
      simp only at hx2
      subst hx2
      exact hlt (.cell a.block a.off) (by rw [MemPlace.mem_row]; exact ⟨0, by omega, by simp⟩)
    · intro j u hu
      have hj : j < len := by
        have := (List.getElem?_eq_some_iff.1 hu).1
        simp at this; omega
      rw [hcell j (by omega)]
      rw [← hu, List.getElem?_map, List.getElem?_take, if_pos hj, List.getElem?_eq_getElem (by omega)]
      simp [Mem.iv, List.getD_eq_getElem?_getD]
      rw [List.getElem?_eq_getElem (by omega)]
      rfl

end Go.Proofs.Ytefilalapkdegaa
