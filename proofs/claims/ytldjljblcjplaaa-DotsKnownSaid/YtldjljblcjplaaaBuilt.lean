/- The path of segments: add, text, built. -/
import Derived.Test.YtldjljblcjplaaaBuilderByte
import Derived.Test.YtldjljblcjplaaaMem
import Derived.Lib.Hide
import Derived.Deep.DeepFit
import Derived.Test.YtldjljblcjplaaaDotsPlain
namespace Go.Proofs.Ytldjljblcjplaaa
open Go.RowKit Str Mem
set_option linter.unusedVariables false
set_option linter.unusedSimpArgs false

theorem builderLen_any (base T g : Nat) (tail : List Value) (l : List UInt8) (w : World) (h : BState w base T g tail l) :
    Calls Try.prog 63 #[.pointer (some ⟨g, 0, none⟩)] w fun e w' => e = .returned (.int .i64 l.length) ∧ w = w' := by
  obtain ⟨hb, p, v, hp, hh, hown, hne, _⟩ := h
  obtain ⟨ao, cap, rfl⟩ : ∃ ao cap, v = .slice ao l.length cap := by
    rcases hown.2 with ⟨hv, h0⟩ | ⟨g2, cap, cur, hv, _⟩
    · exact ⟨none, 0, by rw [hv, h0]⟩
    · exact ⟨_, _, hv⟩
  have c1 := cell_list hh 1
  simp only [List.getElem?_cons_succ, List.getElem?_cons_zero] at c1
  go_enter Try.func63, Try.ntmps63
  go_wp2
  go_ret
  exact ⟨rfl, rfl⟩

theorem body_take_succ {l : List (List UInt8)} {k : Nat} {s : List UInt8} (h : l[k]? = some s) : Dots.body (l.take (k + 1)) = Dots.body (l.take k) ++ 47 :: s := by
  obtain ⟨hk, rfl⟩ := List.getElem?_eq_some_iff.1 h
  rw [List.take_succ_eq_append_getElem hk, Dots.body_append]
  simp [Dots.body]

theorem body_take_le (l : List (List UInt8)) (k : Nat) : (Dots.body (l.take k)).length ≤ (Dots.body l).length := by
  have : Dots.body l = Dots.body (l.take k) ++ Dots.body (l.drop k) := by rw [← Dots.body_append, List.take_append_drop]
  rw [this]; simp

def AddI (w : World) (base T g : Nat) (tail : List Value) (l : List (List UInt8)) (i : Value) (wr : World) : Prop :=
  ∃ k : Nat, k ≤ l.length ∧ i = .int .i64 k ∧ BState wr base T g tail (Dots.body (l.take k)) ∧ Below base w wr

set_option maxHeartbeats 1000000 in
theorem add_any (base T g : Nat) (tail : List Value) (a : Option Addr) (c : Nat) (l : List (List UInt8)) (w : World) (hT : BType T tail.length) (hneT : T ≠ 5) (h : BState w base T g tail []) (hb : base ≤ w.heap.size)
    (hS : ∀ w', Below base w w' → Strs w' a l.length l) (hlen : (Dots.body l).length + 1 ≤ 140737488355328) (hn : l.length ≤ maxLen) :
    Calls Try.prog 54 #[.pointer (some ⟨g, 0, none⟩), .slice a l.length c] w fun e w' => e = .returned (.tuple #[]) ∧ BState w' base T g tail (Dots.body l) ∧ Below base w w' := by
  unfold maxLen at hn
  go_enter Try.func54, Try.ntmps54
  go_wp2
  go_loopw [5, 8] (fun s i wr => AddI w base T g tail l i wr) (fun _ i _ => l.length - (intOf i).toNat)
  case atStart => exact ⟨0, Nat.zero_le _, rfl, h, Below.refl _ _⟩
  case round =>
    obtain ⟨k, hk, rfl, hst, hbl⟩ := hrel
    by_cases hlt : k < l.length
    · obtain ⟨ad, s, rfl, _, hls, hcell⟩ := (hS _ hbl).get hlt
      have hts := body_take_succ hls
      have hle := body_take_le l (k + 1)
      rw [hts, List.length_append, List.length_cons] at hle
      have Hts := Lib.hid hts
      have Hls := Lib.hid hls
      clear hts hls
      have hsz := hbl.size
      go_wp2_with (first
        | (go_at_call 61; refine (writeByte_any base T g tail _ 47 47 rfl _ hT hneT hst (by omega) (by omega)).mono ?_; rintro e w1 ⟨rfl, hst1, hbl1⟩; have hsz1 := hbl1.size)
        | (go_at_call 62; refine (writeString_any base T g tail _ (bs s) _ hT hneT hst1 (by simp [size_bs]; omega) (by omega)).mono ?_; rintro e w2 ⟨rfl, hst2, hbl2⟩))
      go_roundw
      case rel => exact ⟨k + 1, by omega, by go_num, by rw [Hts.out]; simpa [data_bs] using hst2, hbl.trans (hbl1.trans hbl2)⟩
      case measure => simp [intOf]; omega
    · obtain rfl : k = l.length := by omega
      rw [List.take_length] at hst
      go_wp2
      go_end0
      exact ⟨rfl, hst, hbl⟩

def textOf (op : Bool) (l : List UInt8) : List UInt8 := if op || l == [] then l ++ [47] else l

theorem pathType : BType 63 1 := by unfold BType; kernel_rfl

set_option maxHeartbeats 1000000 in
theorem text_any (base g : Nat) (op : Bool) (l : List UInt8) (w : World) (h : BState w base 63 g [.bool op] l) (hb : base ≤ w.heap.size) (hlen : l.length + 1 ≤ 140737488355328) :
    Calls Try.prog 55 #[.pointer (some ⟨g, 0, none⟩)] w fun e w' => e = .returned (.string (bs (textOf op l))) ∧ Below base w w' := by
  obtain ⟨_, p, v, _, hh, _⟩ := id h
  have c2 := cell_list hh 2
  simp only [List.getElem?_cons_succ, List.getElem?_cons_zero] at c2
  clear hh
  cases op with
  | true =>
    go_enter Try.func55, Try.ntmps55
    go_wp2_with (first
      | (go_at_call 61; refine (writeByte_any base _ g _ l 47 47 rfl _ pathType (by decide) h hlen hb).mono ?_; rintro e w1 ⟨rfl, hst1, hbl1⟩)
      | (go_at_call 64; refine (string_some base _ g _ _ _ hst1 (by simp)).mono ?_; rintro e w2 ⟨rfl, hbl2⟩))
    go_ret
    exact ⟨rfl, hbl1.trans hbl2⟩
  | false =>
    by_cases hl : l = []
    · subst hl
      have hz : ((([] : List UInt8).length : Int) == 0) = true := rfl
      go_enter Try.func55, Try.ntmps55
      go_wp2_with (first
        | (go_at_call 63; refine (builderLen_any base _ g _ _ _ h).mono ?_; rintro e w1 ⟨rfl, rfl⟩)
        | (go_at_call 61; refine (writeByte_any base _ g _ _ 47 47 rfl _ pathType (by decide) h hlen hb).mono ?_; rintro e w1 ⟨rfl, hst1, hbl1⟩)
        | (go_at_call 64; refine (string_some base _ g _ _ _ hst1 (by simp)).mono ?_; rintro e w2 ⟨rfl, hbl2⟩))
      go_ret
      exact ⟨rfl, hbl1.trans hbl2⟩
    · have hp := List.length_pos_iff.2 hl
      have hz : ((l.length : Int) == 0) = false := by rw [beq_eq_false_iff_ne]; omega
      have hif : textOf false l = l := by simp [textOf, hl]
      rw [hif]
      clear hif
      go_enter Try.func55, Try.ntmps55
      go_wp2_with (first
        | (go_at_call 63; refine (builderLen_any base _ g _ _ _ h).mono ?_; rintro e w1 ⟨rfl, rfl⟩)
        | (go_at_call 64; refine (string_some base _ g _ _ _ h hl).mono ?_; rintro e w2 ⟨rfl, hbl2⟩))
      go_ret
      exact ⟨rfl, hbl2⟩

set_option maxHeartbeats 1000000 in
/-- built: the path of segments. -/
theorem built_any (a : Option Addr) (c : Nat) (l : List (List UInt8)) (op : Bool) (w : World) (hS : Strs w a l.length l) (hlen : (Dots.body l).length + 1 ≤ 140737488355327) (hn : l.length ≤ maxLen) :
    Calls Try.prog 38 #[.slice a l.length c, .bool op] w fun e w' => e = .returned (.string (bs (Dots.built l op))) ∧ Below w.heap.size w w' := by
  have h0 : BState (w.alloc (.cells #[.pointer none, .slice none 0 0, .bool op] 63)) w.heap.size 63 w.heap.size [.bool op] [] :=
    ⟨Nat.le_refl _, _, _, .inl rfl, heap_alloc_new w _, World.ownsRow_nil _ _ _ _, by simp [Value.ownBlock], fun _ => rfl⟩
  have hb0 : Below w.heap.size w (w.alloc (.cells #[.pointer none, .slice none 0 0, .bool op] 63)) := (Below.refl _ _).alloc (Nat.le_refl _) _
  go_enter Try.func38, Try.ntmps38
  go_wp2_with (first
    | (go_at_call 54; refine (add_any w.heap.size _ w.heap.size [.bool op] a c l _ pathType (by decide) h0 (by simp) (fun w' hw => hS.below (hb0.trans hw)) (by omega) hn).mono ?_; rintro e w1 ⟨rfl, hst1, hbl1⟩)
    | (go_at_call 55; refine (text_any w.heap.size w.heap.size op _ _ hst1 (by have := hbl1.size; simp at this; omega) (by omega)).mono ?_; rintro e w2 ⟨rfl, hbl2⟩))
  go_ret
  exact ⟨rfl, hb0.trans (hbl1.trans hbl2)⟩

end Go.Proofs.Ytldjljblcjplaaa
