/- strings.ContainsFunc at a predicate that holds of every rune from 128 on: whether a byte is such a one. -/
import Derived.Test.YtllklgalghmnfaaDoorStrWalks
import Derived.Test.YtllklgalghmnfaaDoorMem
import Derived.Lib.OthersKept
import Derived.Lib.TrimU
import Derived.Lib.SpaceUEq
import Derived.Deep.LoopGhost
import Derived.Shelf.Abstract
namespace Go.Proofs.YtllklgalghmnfaaDoor
open Go.RowKit Str Mem
set_option linter.unusedVariables false
set_option linter.unusedSimpArgs false

theorem get_bang (s : ByteArray) (pos : Nat) (h : pos < s.size) : s.get! pos = s[pos] := by cases s with | mk d => exact getElem!_pos d pos h
theorem below_dn {B : Nat} {a w : World} (h : Below B a w) (q : Nat) : Below B a (w.drewN q) := ⟨h.os, h.tape, h.output, h.size, h.block⟩
theorem decode_low (s : ByteArray) (pos : Nat) (h : pos < s.size) (hb : s[pos].toNat < 128) : Utf8.decode s pos = (s[pos].toNat, 1) := by
  rw [Lib.decode_at]
  have : s.get! pos = s[pos] := get_bang s pos h
  rw [this]
  unfold Lib.decodeN
  rw [if_pos hb]
theorem decode_high (s : ByteArray) (pos : Nat) (h : pos < s.size) (hb : ¬ s[pos].toNat < 128) : 128 ≤ (Utf8.decode s pos).1 := by
  rw [Lib.decode_at]
  have : s.get! pos = s[pos] := get_bang s pos h
  rw [this]
  rcases Lib.decodeN_cases (s.size - pos) s[pos].toNat (s.get! (pos + 1)).toNat (s.get! (pos + 2)).toNat (s.get! (pos + 3)).toNat with h1 | h1 | h1 | h1 | h1
  · omega
  · rw [h1.2.2.2.2]; exact h1.2.2.2.1
  · rw [h1.2.2.2.2.2]; have := h1.2.2.2.2.1; show 128 ≤ _; omega
  · omega
  · rw [h1]; show 128 ≤ 65533; omega

/-- What is asked of the function value. -/
def RunePred (g : Nat) (lb : Array Value) (p : Nat → Bool) (w : World) : Prop :=
  ∀ (W : World) (r : Nat), Below w.heap.size w W → Calls Tryd.prog g (#[.int .i32 (r : Int)] ++ lb) W fun e w' => e = .returned (.bool (p r)) ∧ ∃ q, w' = W.drewN q

def IdxPost (p : Nat → Bool) (s : ByteArray) (w : World) (e : Ending) (w' : World) : Prop :=
  ∃ n : Int, e = .returned (.int .i64 n) ∧ (decide (0 ≤ n) = s.data.toList.any fun b => p b.toNat) ∧ Below w.heap.size w w'

theorem any_at {s : ByteArray} {p : Nat → Bool} {pos : Nat} (h : pos < s.size) (hp : p s[pos].toNat = true) : (s.data.toList.any fun b => p b.toNat) = true := by
  rw [List.any_eq_true]
  exact ⟨s[pos], by rw [get_data s pos h]; exact List.getElem_mem _, hp⟩
theorem any_none {s : ByteArray} {p : Nat → Bool} (h : ∀ j (hj : j < s.size), p s[j].toNat = false) : (s.data.toList.any fun b => p b.toNat) = false := by
  rw [List.any_eq_false]
  intro b hb
  obtain ⟨j, hj, rfl⟩ := List.getElem_of_mem hb
  have hj' : j < s.size := by rw [size_data]; exact hj
  have := h j hj'
  rw [get_data s j hj'] at this
  rw [this]; simp

end Go.Proofs.YtllklgalghmnfaaDoor
