/- strings.ContainsFunc at a predicate that holds of every rune from 128 on: whether a byte is such a one. -/
import Derived.Test.YtefilalapkdegaaStrWalks
import Derived.Test.YtefilalapkdegaaMem
import Derived.Lib.OthersKept
import Derived.Lib.TrimU
import Derived.Lib.SpaceUEq
import Derived.Deep.LoopGhost
import Derived.Shelf.Abstract
namespace Go.Proofs.Ytefilalapkdegaa
open Go.RowKit Str Mem
set_option linter.unusedVariables false
set_option linter.unusedSimpArgs false

theorem get_bang (s : ByteArray) (pos : Nat) (h : pos < s.size) : s.get! pos = s[pos] := by cases s with | mk d => exact getElem!_pos d pos h
theorem below_dn {B : Nat} {a w : World} (h : Below B a w) (q : Nat) : Below B a (w.drewN q) := ⟨h.os, h.tape, h.output, h.size, h.block⟩
theorem decode_low (s : ByteArray) (pos : Nat) (h : pos < s.size) (hb : s[pos].toNat < 128) : Utf8.decode s pos = (s[pos].toNat, 1) := by
  rw [Lib.decode_at]
  have : s.get! pos = s[pos] := get_bang s pos h
  rw [this]
  unfold Lib.decodeN
  rw [if_pos hb]
theorem decode_high (s : ByteArray) (pos : Nat) (h : pos < s.size) (hb : ¬ s[pos].toNat < 128) : 128 ≤ (Utf8.decode s pos).1 := by
  rw [Lib.decode_at]
  have : s.get! pos = s[pos] := get_bang s pos h
  rw [this]
  rcases Lib.decodeN_cases (s.size - pos) s[pos].toNat (s.get! (pos + 1)).toNat (s.get! (pos + 2)).toNat (s.get! (pos + 3)).toNat with h1 | h1 | h1 | h1 | h1
  · omega
  · rw [h1.2.2.2.2]; exact h1.2.2.2.1
  · rw [h1.2.2.2.2.2]; have := h1.2.2.2.2.1; show 128 ≤ _; omega
  · omega
  · rw [h1]; show 128 ≤ 65533; omega

/-- What is asked of the function value. -/
def RunePred (g : Nat) (lb : Array Value) (p : Nat → Bool) (w : World) : Prop :=
  ∀ (W : World) (r : Nat), Below w.heap.size w W → Calls Try.prog g (#[.int .i32 (r : Int)] ++ lb) W fun e w' => e = .returned (.bool (p r)) ∧ ∃ q, w' = W.drewN q

def IdxPost (p : Nat → Bool) (s : ByteArray) (w : World) (e : Ending) (w' : World) : Prop :=
  ∃ n : Int, e = .returned (.int .i64 n) ∧ (decide (0 ≤ n) = s.data.toList.any fun b => p b.toNat) ∧ Below w.heap.size w w'

theorem any_at {s : ByteArray} {p : Nat → Bool} {pos : Nat} (h : pos < s.size) (hp : p s[pos].toNat = true) : (s.data.toList.any fun b => p b.toNat) = true := by
  rw [List.any_eq_true]
  exact ⟨s[pos], by rw [get_data s pos h]; exact List.getElem_mem _, hp⟩
theorem any_none {s : ByteArray} {p : Nat → Bool} (h : ∀ j (hj : j < s.size), p s[j].toNat = false) : (s.data.toList.any fun b => p b.toNat) = false := by
  rw [List.any_eq_false]
  intro b hb
  obtain ⟨j, hj, rfl⟩ := List.getElem_of_mem hb
  have hj' : j < s.size := by rw [size_data]; exact hj
  have := h j hj'
  rw [get_data s j hj'] at this
  rw [this]; simp

set_option maxHeartbeats 2000000 in
theorem runeIndex_any (g : Nat) (lb : Array Value) (eg : ∀ args w, (callFunc g args).run Try.prog w = .ok (.enter g args) w) (p : Nat → Bool) (hbig : ∀ r, 128 ≤ r → p r = true) (s : ByteArray) (w : World) (hp : RunePred g lb p w) :
    Calls Try.prog 112 #[.string s, .func (.func g) #[] lb, .bool true] w fun e w' => IdxPost p s w e w' := by
  have hbig := Lib.hid hbig
  go_enter Try.func112, Try.ntmps112
  go_wp2
  go_loopg [] s.size (fun gf wx => ∃ pos : Nat, wx.heap[w.heap.size]? = some (.stringIter s pos) ∧ Below w.heap.size w wx ∧ s.size ≤ pos + gf ∧ ∀ j (hj : j < s.size), j < pos → p s[j].toNat = false)
  case atStart => exact ⟨0, World.iter_heap w s 0, (Below.refl _ w).alloc (Nat.le_refl _) _, by omega, fun j hj h => by omega⟩
  case round =>
    obtain ⟨pos, hit, hbw, hfu, hall⟩ := hrel
    by_cases hps : pos < s.size
    · obtain ⟨g', rfl⟩ : ∃ g', gk = g' + 1 := ⟨gk - 1, by omega⟩
      have hnx : ∀ ty, (Instr.next (.pointer (some ⟨w.heap.size, 0, none⟩)) true ty).run Try.prog wr = _ := fun ty => Lib.run_next_any_at wr w.heap.size s pos ty hit hps
      have hhit := fun h => any_at (p := p) hps h
      have hlo := decode_low s pos hps
      have hhi := decode_high s pos hps
      obtain ⟨b, hb⟩ : ∃ b, b = s[pos].toNat := ⟨_, rfl⟩
      rw [← hb] at hhit hlo hhi
      obtain ⟨R, hR⟩ : ∃ R, (Utf8.decode s pos).1 = R := ⟨_, rfl⟩
      obtain ⟨K, hK⟩ : ∃ K, (Utf8.decode s pos).2 = K := ⟨_, rfl⟩
      have hcase : (p R = true ∧ p b = true) ∨ (p R = false ∧ K = 1 ∧ p b = false) := by
        by_cases h128 : b < 128
        · have hl := hlo h128
          rw [hl] at hR hK
          simp only at hR hK
          subst hR
          rcases hpb : p b with _ | _
          · exact .inr ⟨rfl, hK.symm, rfl⟩
          · exact .inl ⟨rfl, rfl⟩
        · have h2 := hhi h128
          rw [hR] at h2
          exact .inl ⟨hbig.out R h2, hbig.out b (by omega)⟩
      have Hhit := Lib.hid hhit
      clear hlo hhi hhit
      rw [hR, hK] at hnx
      have hit2 := Lib.iterAt_heap wr w.heap.size s pos (pos + K) hit
      have hbw2 := Lib.below_iterAt hbw (k := w.heap.size) (Nat.le_refl _) s (pos + K)
      obtain ⟨W, hWd⟩ : ∃ W, wr.iterAt w.heap.size s (pos + K) = W := ⟨_, rfl⟩
      rw [hWd] at hnx hit2 hbw2
      have cS : Calls Try.prog g (#[.int .i32 (R : Int)] ++ lb) W _ := hp W R hbw2
      have Hall := Lib.hid hall
      have Hb := Lib.hid hb
      clear hp hR hK hall hb
      rcases hcase with ⟨hpR, hpb⟩ | ⟨hpR, hK1, hpb⟩
      · have Hx := Lib.hid (Hhit.out hpb)
        rw [hpR] at cS
        clear hpR hpb
        go_wp2_with (go_at_fn g; refine cS.mono ?_; rintro e W' ⟨rfl, q, rfl⟩)
        go_ret
        exact ⟨_, rfl, by rw [Hx.out]; simp, below_dn hbw2 q⟩
      · have Hpb := Lib.hid hpb
        have HK := Lib.hid hK1
        rw [hpR] at cS
        clear hpR hpb hK1
        go_wp2_with (go_at_fn g; refine cS.mono ?_; rintro e W' ⟨rfl, q, rfl⟩)
        go_roundg g'
        case measure => omega
        case rel =>
          refine ⟨pos + K, hit2, below_dn hbw2 q, by have := HK.out; omega, fun j hj h => ?_⟩
          have hk := HK.out
          rcases Nat.lt_or_ge j pos with h1 | h1
          · exact Hall.out j hj h1
          · obtain rfl : j = pos := by omega
            rw [← Hb.out]; exact Hpb.out
    · have hnx : ∀ ty, (Instr.next (.pointer (some ⟨w.heap.size, 0, none⟩)) true ty).run Try.prog wr = _ := fun ty => Lib.run_next_end_at wr w.heap.size s pos ty hit hps
      have Hx := Lib.hid (any_none (s := s) (p := p) fun j hj => hall j hj (by omega))
      clear hall
      go_wp2
      go_ret
      exact ⟨_, rfl, by rw [Hx.out]; rfl, hbw⟩

theorem containsFunc_any (g : Nat) (lb : Array Value) (eg : ∀ args w, (callFunc g args).run Try.prog w = .ok (.enter g args) w) (p : Nat → Bool) (hbig : ∀ r, 128 ≤ r → p r = true) (s : ByteArray) (w : World) (hp : RunePred g lb p w) :
    Calls Try.prog 72 #[.string s, .func (.func g) #[] lb] w fun e w' => e = .returned (.bool (s.data.toList.any fun b => p b.toNat)) ∧ Below w.heap.size w w' := by
  have hq := runeIndex_any g lb eg p hbig s w hp
  have hI : Calls Try.prog 101 #[.string s, .func (.func g) #[] lb] w fun e w' => IdxPost p s w e w' := by
    clear hbig hp
    go_enter Try.func101, Try.ntmps101
    go_wp2_with (go_at_call 112; refine hq.mono ?_; rintro e w1 ⟨n, rfl, hn, hb⟩; have HN := Lib.hid hn; clear hn)
    go_ret
    exact ⟨n, rfl, HN.out, hb⟩
  clear hbig hp hq
  go_enter Try.func72, Try.ntmps72
  go_wp2_with (go_at_call 101; refine hI.mono ?_; rintro e w1 ⟨n, rfl, hn, hb⟩; have HN := Lib.hid hn; clear hn)
  go_ret
  exact ⟨ret_bool HN.out, hb⟩

end Go.Proofs.Ytefilalapkdegaa
