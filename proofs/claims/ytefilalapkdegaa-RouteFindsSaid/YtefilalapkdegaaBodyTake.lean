/- The body of the first segments. -/
import Derived.Test.YtefilalapkdegaaDotsMore
namespace Go.Proofs.Ytefilalapkdegaa
theorem body_take_succ {l : List (List UInt8)} {k : Nat} {s : List UInt8} (h : l[k]? = some s) : Dots.body (l.take (k + 1)) = Dots.body (l.take k) ++ 47 :: s := by
  obtain ⟨hk, rfl⟩ := List.getElem?_eq_some_iff.1 h
  rw [List.take_succ_eq_append_getElem hk, Dots.body_append]
  simp [Dots.body]

theorem body_take_le (l : List (List UInt8)) (k : Nat) : (Dots.body (l.take k)).length ≤ (Dots.body l).length := by
  have : Dots.body l = Dots.body (l.take k) ++ Dots.body (l.drop k) := by rw [← Dots.body_append, List.take_append_drop]
  rw [this]; simp

end Go.Proofs.Ytefilalapkdegaa
