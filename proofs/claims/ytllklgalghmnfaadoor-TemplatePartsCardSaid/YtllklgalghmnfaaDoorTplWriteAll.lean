/- template.write: literals, and of any part. -/
import Derived.Test.YtllklgalghmnfaaDoorTplWrite
import Derived.Deep.LoopGhost
namespace Go.Proofs.YtllklgalghmnfaaDoor
open Go.RowKit Str Mem Tp
set_option linter.unusedVariables false
set_option linter.unusedSimpArgs false

theorem strIndexByte_any (s : ByteArray) (c : Int) (w : World) : Calls Tryd.prog 96 #[.string s, .int .u8 c] w fun e w' => e = .returned (.int .i64 (Lib.indexByte s.data.toList c.toNat.toUInt8)) ∧ w = w' := by
  have h := fun w => indexByte_any s c w
  go_enter Tryd.func96, Tryd.ntmps96
  go_wp2_with (go_at_call 106; refine (h _).mono ?_; rintro e w1 ⟨rfl, rfl⟩)
  go_ret
  exact ⟨rfl, rfl⟩
theorem string_none (base T g : Nat) (tail : List Value) (w : World) (h : BState w base T g tail []) :
    Calls Tryd.prog 91 #[.pointer (some ⟨g, 0, none⟩)] w fun e w' => e = .returned (.string (bs [])) ∧ Below base w w' := by
  obtain ⟨hb, p, v, hp, hh, hown, hne, hnil⟩ := h
  have hv := hnil rfl
  subst hv
  have c1 := cell_list hh 1
  simp only [List.getElem?_cons_succ, List.getElem?_cons_zero] at c1
  have hSD : ∀ W, (Builtin.unsafeSliceData_ #[97] 141 #[.slice none 0 0]).run Tryd.prog W = .ok (.pointer none) W := fun W =>
    Lib.run_unsafeSliceData_nil _ _ _ _ _
  have hUS : ∀ W, (Builtin.unsafeString_ #[141, 3] 9 #[.pointer none, .int .i64 0]).run Tryd.prog W = .ok (.string .empty) W := fun W =>
    Lib.run_unsafeString_none _ _ _ _ _
  go_enter Tryd.func91, Tryd.ntmps91
  go_wp2
  go_region
  all_goals (go_wp2; go_ret; exact ⟨rfl, (Below.refl base w).drew⟩)
theorem string_any (base T g : Nat) (tail : List Value) (l : List UInt8) (w : World) (h : BState w base T g tail l) :
    Calls Tryd.prog 91 #[.pointer (some ⟨g, 0, none⟩)] w fun e w' => e = .returned (.string (bs l)) ∧ Below base w w' := by
  by_cases h0 : l = []
  · subst h0; exact string_none base T g tail w h
  · exact string_some base T g tail l w h h0
theorem builderType : BType 125 0 := by unfold BType; kernel_rfl
theorem BState.keep {w w' : World} {base T g : Nat} {tail : List Value} {l : List UInt8} (h : BState w base T g tail l) (hb : Below w.heap.size w w') : BState w' base T g tail l := by
  obtain ⟨h1, p, v, hp, hh, how, hne, hnil⟩ := h
  refine ⟨h1, p, v, hp, (hb.block g (lt_of_cells hh)).trans hh, how.kept (w' := w') (row := none) ⟨hb.os, hb.tape, hb.output, hb.size, fun k hk _ => hb.block k hk⟩ ?_, hne, hnil⟩
  rcases v.ownBlock with _ | k
  · exact .inl rfl
  · exact .inr (by simp)

def spec (b : UInt8) : Bool := decide (b = 36 ∨ b = 37 ∨ b = 92 ∨ b = 63)
theorem esc_next (t : Tp.Bs) (k : Nat) (h : k < t.length) : esc (t.take (k + 1)) = esc (t.take k) ++ (if spec t[k] = true then [92, t[k]] else [t[k]]) := by
  rw [List.take_add_one, List.getElem?_eq_getElem h, Option.toList_some]
  unfold esc
  rw [List.flatMap_append]
  congr 1
  simp only [List.flatMap_cons, List.flatMap_nil, List.append_nil, spec, decide_eq_true_eq]
theorem esc_len (t : Tp.Bs) : (esc t).length ≤ 2 * t.length := by
  induction t with
  | nil => simp [esc]
  | cons b t ih =>
    unfold esc at ih ⊢
    rw [List.flatMap_cons, List.length_append, List.length_cons]
    split <;> simp at ih ⊢ <;> omega
theorem spec_index (b : UInt8) : decide (0 ≤ Lib.indexByte [36, 37, 92, 63] b) = spec b := by
  rcases index_cases b [36, 37, 92, 63] with ⟨a, t, he, ha, hi⟩ | ⟨hn, hi⟩
  · rw [hi]
    have : b ∈ ([36, 37, 92, 63] : List UInt8) := by rw [he]; simp
    simp at this
    have h2 : spec b = true := by unfold spec; simp; rcases this with h | h | h | h <;> simp [h]
    rw [h2]; exact decide_eq_true (by omega)
  · rw [hi]
    simp at hn
    unfold spec; simp; exact ⟨hn.1, hn.2.1, hn.2.2.1, hn.2.2.2⟩

set_option maxRecDepth 100000 in
set_option maxHeartbeats 4000000 in
theorem write_lit (p : Part) (h2 : p.k ≠ 2) (h3 : p.k ≠ 3) (h4 : p.k ≠ 4) (ht : p.t.length ≤ 100000) (w : World) :
    Calls Tryd.prog 83 #[pv p] w fun e w' => e = .returned (.string (bs (writeP p))) ∧ Below w.heap.size w w' := by
  have b2 : (p.k == 2) = false := by simpa using h2
  have b3 : (p.k == 3) = false := by simpa using h3
  have b4 : (p.k == 4) = false := by simpa using h4
  have hv : writeP p = esc p.t := by unfold writeP; rw [if_neg h2, if_neg h3, if_neg h4]
  rw [hv]
  clear hv h2 h3 h4
  have hsz : ((bs p.t).size : Int) = p.t.length := by rw [size_bs]
  have hrow := World.alloc_heap_new w (.cells #[.int .i64 p.k, .string (bs p.t), .int .i64 p.n] 59)
  have hb0 := (Below.refl _ w).alloc (Nat.le_refl _) (.cells #[.int .i64 p.k, .string (bs p.t), .int .i64 p.n] 59)
  unfold pv
  go_enter Tryd.func83, Tryd.ntmps83
  go_wp2_with fail
  obtain ⟨W0, hW0⟩ : ∃ W0, W0 = w.alloc (.cells #[.int .i64 p.k, .string (bs p.t), .int .i64 p.n] 59) := ⟨_, rfl⟩
  have hs0 : W0.heap.size = w.heap.size + 1 := by rw [hW0]; simp
  rw [← hW0] at hrow hb0 ⊢
  clear hW0
  have hB0 : BState (W0.alloc (.cells #[.pointer none, .slice none 0 0] 125)) (w.heap.size + 1) 125 (w.heap.size + 1) [] [] :=
    ⟨Nat.le_refl _, _, _, .inl rfl, by rw [← hs0]; exact heap_alloc_new W0 _, World.ownsRow_nil _ _ _ _, by simp [Value.ownBlock], fun _ => rfl⟩
  have hb1 : Below (w.heap.size + 1) W0 (W0.alloc (.cells #[.pointer none, .slice none 0 0] 125)) := (Below.refl _ _).alloc (by omega) _
  have H0 := Lib.hid hB0
  clear hB0
  go_loopg [36] p.t.length (fun g i wr => ∃ k : Nat, i = .int .i64 k ∧ k + g = p.t.length ∧ BState wr (w.heap.size + 1) 125 (w.heap.size + 1) [] (esc (p.t.take k)) ∧ Below (w.heap.size + 1) W0 wr)
  case atStart => exact ⟨0, rfl, by omega, H0.out, hb1⟩
  case round =>
    obtain ⟨k, rfl, hk, hB, hbl⟩ := hrel
    have hrw := (hbl.block w.heap.size (by omega)).trans hrow
    have c1 := cell_list (cs := [.int .i64 p.k, .string (bs p.t), .int .i64 p.n]) hrw 1
    simp only [List.getElem?_cons_zero, List.getElem?_cons_succ] at c1
    have HB := Lib.hid hB
    clear hB
    by_cases hlt : k < p.t.length
    · obtain ⟨g', rfl⟩ : ∃ g', gk = g' + 1 := ⟨gk - 1, by omega⟩
      have hkB : k < (bs p.t).size := by rw [size_bs]; exact hlt
      have hBk : (bs p.t)[k] = p.t[k] := by simp [get_data _ k hkB, data_bs]
      have hix : ∀ W, Calls Tryd.prog 96 #[.string ⟨#[36, 37, 92, 63]⟩, .int .u8 ((bs p.t)[k].toNat : Int)] W fun e w' => e = .returned (.int .i64 (Lib.indexByte [36, 37, 92, 63] p.t[k])) ∧ W = w' := fun W => by
        have h := strIndexByte_any ⟨#[36, 37, 92, 63]⟩ ((bs p.t)[k].toNat : Int) W
        have e : ((bs p.t)[k].toNat : Int).toNat.toUInt8 = p.t[k] := by rw [hBk]; simp
        rw [e] at h
        exact h
      have hwr := fun l W c b hc h hl hb => writeByte_any (w.heap.size + 1) 125 (w.heap.size + 1) [] l c b hc W builderType (by decide) h hl hb
      have hsp := spec_index p.t[k]
      have hnx := Lib.hid (esc_next p.t k hlt)
      have hel := esc_len (p.t.take k)
      have htl : (p.t.take k).length ≤ k := List.length_take_le _ _
      have hc2 : ((bs p.t)[k].toNat : Int) = (p.t[k].toNat : Int) := by rw [hBk]
      have HC2 := Lib.hid hc2
      obtain ⟨I, hI⟩ : ∃ I, Lib.indexByte [36, 37, 92, 63] p.t[k] = I := ⟨_, rfl⟩
      rw [hI] at hix hsp
      have hbs := hbl.size
      clear hI hBk hc2
      have hi0 : (0 : Int) ≤ (k : Int) := by omega
      have hi1 : (k : Int) < (p.t.length : Int) := by omega
      rcases hs : spec p.t[k] with _ | _
      · rw [hs] at hsp
        have hI0 : I < 0 := by have := of_decide_eq_false hsp; omega
        have HS := Lib.hid hs
        clear hsp hs
        go_wp2_with fail
        refine (hix _).mono ?_
        rintro e w2 ⟨rfl, rfl⟩
        go_wp2_with fail
        refine (hwr _ _ _ _ HC2.out HB.out (by omega) (by omega)).mono ?_
        rintro e w3 ⟨rfl, hB3, h3⟩
        have HB3 := Lib.hid hB3
        clear hB3
        go_wp2_with fail
        go_roundg g'
        case measure => omega
        case rel => exact ⟨k + 1, by go_num, by omega, by rw [hnx.out, HS.out]; exact HB3.out, hbl.trans h3⟩
      · rw [hs] at hsp
        have hI0 : 0 ≤ I := of_decide_eq_true hsp
        have HS := Lib.hid hs
        clear hsp hs
        go_wp2_with fail
        refine (hix _).mono ?_
        rintro e w2 ⟨rfl, rfl⟩
        go_wp2_with fail
        refine (hwr _ _ _ 92 rfl HB.out (by omega) (by omega)).mono ?_
        rintro e w3 ⟨rfl, hB3, h3⟩
        have HB3 := Lib.hid hB3
        have hs3 := h3.size
        have c1' : w3.cell? ⟨w.heap.size, 1, none⟩ = some (.string (bs p.t)) := by rw [← c1]; exact World.cell?_of_block (h3.block w.heap.size (by omega))
        clear hB3
        go_wp2_with fail
        refine (hwr _ _ _ _ HC2.out HB3.out (by simp; omega) (by omega)).mono ?_
        rintro e w4 ⟨rfl, hB4, h4⟩
        have HB4 := Lib.hid hB4
        clear hB4
        go_wp2_with fail
        go_roundg g'
        case measure => omega
        case rel => exact ⟨k + 1, by go_num, by omega, by rw [hnx.out, HS.out]; simpa using HB4.out, hbl.trans (h3.trans h4)⟩
    · obtain rfl : k = p.t.length := by omega
      go_wp2_with fail
      have hB := HB.out
      rw [List.take_length] at hB
      refine (string_any _ _ _ _ _ _ hB).mono ?_
      clear hB
      rintro e w2 ⟨rfl, h2⟩
      go_wp2_with fail
      go_ret
      exact ⟨rfl, hb0.trans ((hbl.trans h2).mono (by omega))⟩
/-- What `write` is asked of. -/
def fitW (p : Part) : Prop := p.t.length ≤ 100000 ∧ ((p.k = 2 ∨ p.k = 3) → 0 ≤ p.n ∧ p.n ≤ 9) ∧ (p.k = 4 → 0 ≤ p.n ∧ p.n ≤ 4)
theorem write_any (p : Part) (hp : fitW p) (w : World) (hN : Nm w) :
    Calls Tryd.prog 83 #[pv p] w fun e w' => e = .returned (.string (bs (writeP p))) ∧ Below w.heap.size w w' := by
  obtain ⟨h1, h2, h3⟩ := hp
  by_cases k4 : p.k = 4
  · exact write_name p k4 (h3 k4).1 (h3 k4).2 w hN
  by_cases k2 : p.k = 2
  · exact write_two p (.inl k2) (h2 (.inl k2)).1 (h2 (.inl k2)).2 w
  by_cases k3 : p.k = 3
  · exact write_two p (.inr k3) (h2 (.inr k3)).1 (h2 (.inr k3)).2 w
  exact write_lit p k2 k3 k4 h1 w
end Go.Proofs.YtllklgalghmnfaaDoor
