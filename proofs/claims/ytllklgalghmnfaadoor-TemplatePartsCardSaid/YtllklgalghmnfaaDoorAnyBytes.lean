/- strings.IndexRune, IndexAny, ContainsAny: whether any text has one of some ASCII bytes. -/
import Derived.Test.YtllklgalghmnfaaDoorRuneFunc
import Derived.Test.YtllklgalghmnfaaDoorShelfLine
import Derived.Laws.Runes
namespace Go.Proofs.YtllklgalghmnfaaDoor
open Go.RowKit Str Mem
set_option linter.unusedVariables false
set_option linter.unusedSimpArgs false

theorem ascii_at {s : ByteArray} (hasc : ∀ b ∈ s.data.toList, b.toNat < 128) {i : Nat} (h : i < s.size) : s[i].toNat < 128 := by
  rw [get_data s i h]; exact hasc _ (List.getElem_mem _)

set_option maxRecDepth 1000000 in
set_option maxHeartbeats 2000000 in
/-- A rune that is no ASCII one is not found in an ASCII text: the text's own marks. -/
theorem indexRune_err (s : ByteArray) (hasc : ∀ b ∈ s.data.toList, b.toNat < 128) (w : World) :
    Calls Tryd.prog 79 #[.string s, .int .i32 65533] w fun e w' => e = .returned (.int .i64 (-1)) ∧ Below w.heap.size w w' := by
  have HA := Lib.hid hasc
  clear hasc
  go_enter Tryd.func79, Tryd.ntmps79
  go_wp2
  go_loopg [] s.size (fun gf wx => ∃ pos : Nat, wx.heap[w.heap.size]? = some (.stringIter s pos) ∧ Below w.heap.size w wx ∧ s.size ≤ pos + gf)
  case atStart => exact ⟨0, World.iter_heap w s 0, (Below.refl _ w).alloc (Nat.le_refl _) _, by omega⟩
  case round =>
    obtain ⟨pos, hit, hbw, hfu⟩ := hrel
    by_cases hps : pos < s.size
    · obtain ⟨g', rfl⟩ : ∃ g', gk = g' + 1 := ⟨gk - 1, by omega⟩
      have hnx : ∀ ty, (Instr.next (.pointer (some ⟨w.heap.size, 0, none⟩)) true ty).run Tryd.prog wr = _ := fun ty => Lib.run_next_any_at wr w.heap.size s pos ty hit hps
      have hlt := ascii_at HA.out hps
      have hlo := decode_low s pos hps hlt
      rw [hlo] at hnx
      obtain ⟨b, hb⟩ : ∃ b, b = s[pos].toNat := ⟨_, rfl⟩
      rw [← hb] at hnx hlt
      have hne : ((b : Int) == 65533) = false := by rw [beq_eq_false_iff_ne]; omega
      have hit2 := Lib.iterAt_heap wr w.heap.size s pos (pos + 1) hit
      have hbw2 := Lib.below_iterAt hbw (k := w.heap.size) (Nat.le_refl _) s (pos + 1)
      obtain ⟨W, hWd⟩ : ∃ W, wr.iterAt w.heap.size s (pos + 1) = W := ⟨_, rfl⟩
      rw [hWd] at hnx hit2 hbw2
      go_wp2
      go_roundg g'
      case measure => omega
      case rel => exact ⟨pos + 1, hit2, hbw2, by omega⟩
    · have hnx : ∀ ty, (Instr.next (.pointer (some ⟨w.heap.size, 0, none⟩)) true ty).run Tryd.prog wr = _ := fun ty => Lib.run_next_end_at wr w.heap.size s pos ty hit hps
      go_wp2
      go_ret
      exact ⟨rfl, hbw⟩


theorem validRune_any (r : Int) (w : World) :
    Calls Tryd.prog 97 #[.int .i32 r] w fun e w' => e = .returned (.bool (Lib.validRune r)) ∧ w' = w := Any.utf8_ValidRune { sh_lays153 with } r w

theorem sIndexByte_any (s : ByteArray) (c : Int) (w : World) : Calls Tryd.prog 96 #[.string s, .int .u8 c] w fun e w' => e = .returned (.int .i64 (Lib.indexByte s.data.toList c.toNat.toUInt8)) ∧ w = w' := by
  go_enter Tryd.func96, Tryd.ntmps96
  go_wp2_with (go_at_call 106; refine (indexByte_any s _ w).mono ?_; rintro e w' ⟨rfl, rfl⟩)
  go_ret
  exact ⟨rfl, rfl⟩

set_option maxRecDepth 1000000 in
set_option maxHeartbeats 2000000 in
theorem indexRune_low (s : ByteArray) (r : Nat) (h1 : r < 128) (w : World) :
    Calls Tryd.prog 79 #[.string s, .int .i32 (r : Int)] w fun e w' => e = .returned (.int .i64 (Lib.indexByte s.data.toList r.toUInt8)) ∧ w = w' := by
  have hback : ((r : Int)).toNat.toUInt8 = r.toUInt8 := by simp
  go_enter Tryd.func79, Tryd.ntmps79
  go_wp2_with (go_at_call 96; refine (sIndexByte_any _ _ _).mono ?_; rintro e w' ⟨rfl, rfl⟩; rw [hback])
  go_ret
  exact ⟨rfl, rfl⟩

set_option maxRecDepth 1000000 in
set_option maxHeartbeats 2000000 in
theorem indexRune_bad (s : ByteArray) (r : Nat) (h1 : 128 ≤ r) (hne : r ≠ 65533) (hv : Lib.validRune (r : Int) = false) (w : World) :
    Calls Tryd.prog 79 #[.string s, .int .i32 (r : Int)] w fun e w' => e = .returned (.int .i64 (-1)) ∧ w = w' := by
  have hq := validRune_any (r : Int)
  rw [hv] at hq
  have hne' : ((r : Int) == 65533) = false := by rw [beq_eq_false_iff_ne]; omega
  go_enter Tryd.func79, Tryd.ntmps79
  go_wp2_with (go_at_call 97; refine (hq _).mono ?_; rintro e w' ⟨rfl, rfl⟩)
  go_ret
  exact ⟨rfl, rfl⟩

end Go.Proofs.YtllklgalghmnfaaDoor
