/- A []int that came in, of bounded bulk, as a list of integers. -/
import Derived.Test.YtefilalapkdegaaRows
import Derived.Test.YtefilalapkdegaaRowInts
namespace Go.Proofs.Ytefilalapkdegaa
open Go.RowKit Go.WideShapes Go.ChangeShapes
set_option linter.unusedVariables false
set_option linter.unusedSimpArgs false
theorem bulk_pos {H : Type} (d : DataW H) : 1 ≤ Rows.uptoBulk d := by
  cases d with
  | lit l => cases l <;> simp [Rows.uptoBulk]
  | _ => simp [Rows.uptoBulk]
theorem bulk_part {H : Type} {d : DataW H} : ∀ {l : List (DataW H)}, d ∈ l → Rows.uptoBulk d ≤ Rows.uptoBulkAll l
  | x :: r, h => by
    simp only [Rows.uptoBulkAll]
    rcases List.mem_cons.1 h with rfl | e
    · omega
    · have := bulk_part e; omega
theorem bulk_length {H : Type} : ∀ (l : List (DataW H)), l.length ≤ Rows.uptoBulkAll l
  | [] => by simp [Rows.uptoBulkAll]
  | x :: r => by have := bulk_pos x; have := bulk_length r; simp only [Rows.uptoBulkAll, List.length_cons]; omega
theorem open_nums_small {H : Type} {enc : TypeId × Value → H} {P : Program} {W : World} {base : Nat} {t e : TypeId} {v : Value} {d : DataW H} {p : List MemPlace} (ht : P.underlying t = some (.slice e)) (he : P.underlying e = some (.int .i64)) (hc : P.cellsOf e = 1)
    (hv : Value.okWide P W .any base t v) (h : DataW.Trod enc P W 0 (fun _ => true) true t v d p) (hlt : ∀ x ∈ p, x.block < W.heap.size) (hb : Rows.uptoBulk d ≤ 1048576) :
    ∃ a c l, v = .slice a l.length c ∧ l.length ≤ c ∧ c ≤ maxLen ∧ Mem.Ints W a l.length l ∧ (∀ n ∈ l, (Lit.int .i64 n).wf = true) ∧ l.length ≤ 1048576 := by
  obtain ⟨a, c, l, e1, h1, h2, h3, h4⟩ := open_nums ht he hc hv h hlt
  refine ⟨a, c, l, e1, h1, h2, h3, h4, ?_⟩
  obtain ⟨a0, len, cap, rfl⟩ := okWide_slice ht hv
  obtain ⟨fuel, hf⟩ := h
  rcases Go.ChangeShapes.open_ints ht he hc hf with ⟨hcs, hx⟩ | ⟨a', len', cap', zs, hcs, _, hl, hm, hz, hx, hcell, hws⟩
  · simp [Value.cells] at hcs
    obtain ⟨rfl, rfl, rfl⟩ := hcs
    injection e1 with q1 q2 q3
    omega
  · simp [Value.cells] at hcs
    obtain ⟨rfl, rfl, rfl⟩ := hcs
    injection e1 with q1 q2 q3
    have hx1 := congrArg (·.1) hx
    simp only at hx1
    subst hx1
    simp only [if_true] at hz
    have h9 := bulk_length (lits (H := H) IntKind.i64 (zs.take len))
    have hl9 : (lits (H := H) IntKind.i64 (zs.take len)).length = len := by simp [lits]; omega
    simp only [Rows.uptoBulk] at hb
    omega
end Go.Proofs.Ytefilalapkdegaa
