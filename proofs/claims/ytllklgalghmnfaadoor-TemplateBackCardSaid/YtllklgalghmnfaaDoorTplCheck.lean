/- template.write: digits and names. -/
import Derived.Test.YtllklgalghmnfaaDoorTplCheck0
import Derived.Test.YtllklgalghmnfaaDoorBuilderByte
import Derived.Lib.SlBytesRow
import Derived.Deep.LoopGhost
namespace Go.Proofs.YtllklgalghmnfaaDoor
open Go.RowKit Str Mem Tp
set_option linter.unusedVariables false
set_option linter.unusedSimpArgs false

theorem convOne (b : Nat) (d : UInt8) (W : World) (hc : W.cell? ⟨b, 0, none⟩ = some (.int .u8 (d.toNat : Int))) :
    (convert 97 9 (.slice (some ⟨b, 0, none⟩) 1 1)).run Tryd.prog W = .ok (.string (bs [d])) W :=
  Lib.run_convert_whole W _ _ _ Tryd.underlying97 Tryd.underlying5 Tryd.underlying9 b 0 (bs [d]) (fun i hi => by
    have hi1 : i < 1 := hi
    obtain rfl : i = 0 := by omega
    exact hc) 1
theorem digitByte (n : Int) (h0 : 0 ≤ n) (h9 : n ≤ 9) : (((48 + n).toNat.toUInt8).toNat : Int) = 48 + n := by
  have : ((48 + n).toNat.toUInt8).toNat = (48 + n).toNat := by
    show (UInt8.ofNat _).toNat = _
    rw [UInt8.toNat_ofNat']; omega
  rw [this]; omega

set_option maxRecDepth 100000 in
set_option maxHeartbeats 4000000 in
theorem write_two (p : Part) (hc : p.k = 2 ∨ p.k = 3) (hn0 : 0 ≤ p.n) (hn9 : p.n ≤ 9) (w : World) :
    Calls Tryd.prog 83 #[pv p] w fun e w' => e = .returned (.string (bs (writeP p))) ∧ Below w.heap.size w w' := by
  have hrow := World.alloc_heap_new w (.cells #[.int .i64 p.k, .string (bs p.t), .int .i64 p.n] 59)
  have hb0 := (Below.refl _ w).alloc (Nat.le_refl _) (.cells #[.int .i64 p.k, .string (bs p.t), .int .i64 p.n] 59)
  have hcv : (convert 97 9 (.slice (some ⟨w.heap.size + 1, 0, none⟩) 1 1)).run Tryd.prog ((w.alloc (.cells #[.int .i64 p.k, .string (bs p.t), .int .i64 p.n] 59)).alloc (.cells #[.int .u8 (48 + p.n)] 5)) = .ok (.string (bs [(48 + p.n).toNat.toUInt8])) ((w.alloc (.cells #[.int .i64 p.k, .string (bs p.t), .int .i64 p.n] 59)).alloc (.cells #[.int .u8 (48 + p.n)] 5)) := by
    refine convOne _ _ _ ?_
    have h := World.alloc_heap_new (w.alloc (.cells #[.int .i64 p.k, .string (bs p.t), .int .i64 p.n] 59)) (.cells #[.int .u8 (48 + p.n)] 5)
    rw [World.size_alloc] at h
    have := cell_list (cs := [.int .u8 (48 + p.n)]) h 0
    rw [this, digitByte p.n hn0 hn9]; rfl
  have hb1 := hb0.alloc (by simp) (.cells #[.int .u8 (48 + p.n)] 5)
  unfold pv
  rcases hc with hk | hk
  · have b2 : (p.k == 2) = true := by rw [hk]; rfl
    have b3 : (p.k == 3) = false := by rw [hk]; rfl
    have hv : writeP p = [36, (48 + p.n).toNat.toUInt8] := by unfold writeP; rw [if_pos hk]
    rw [hv]
    clear hv hk
    obtain ⟨d, hd⟩ : ∃ d, (48 + p.n).toNat.toUInt8 = d := ⟨_, rfl⟩
    rw [hd] at hcv ⊢
    clear hd
    go_enter Tryd.func83, Tryd.ntmps83
    go_wp2_with fail
    go_ret
    exact ⟨by rw [show bs [36, d] = bs [36] ++ bs [d] from (bs_append [36] [d]).symm]; rfl, hb1⟩
  · have b2 : (p.k == 2) = false := by rw [hk]; rfl
    have b3 : (p.k == 3) = true := by rw [hk]; rfl
    have hv : writeP p = [37, (48 + p.n).toNat.toUInt8] := by unfold writeP; rw [if_neg (by omega)]; rw [if_pos hk]
    rw [hv]
    clear hv hk
    obtain ⟨d, hd⟩ : ∃ d, (48 + p.n).toNat.toUInt8 = d := ⟨_, rfl⟩
    rw [hd] at hcv ⊢
    clear hd
    go_enter Tryd.func83, Tryd.ntmps83
    go_wp2_with fail
    go_ret
    exact ⟨by rw [show bs [37, d] = bs [37] ++ bs [d] from (bs_append [37] [d]).symm]; rfl, hb1⟩

set_option maxRecDepth 100000 in
set_option maxHeartbeats 4000000 in
theorem write_name (p : Part) (hk : p.k = 4) (hn0 : 0 ≤ p.n) (hn9 : p.n ≤ 4) (w : World) (hN : Nm w) :
    Calls Tryd.prog 83 #[pv p] w fun e w' => e = .returned (.string (bs (writeP p))) ∧ Below w.heap.size w w' := by
  have hrow := World.alloc_heap_new w (.cells #[.int .i64 p.k, .string (bs p.t), .int .i64 p.n] 59)
  have hb0 := (Below.refl _ w).alloc (Nat.le_refl _) (.cells #[.int .i64 p.k, .string (bs p.t), .int .i64 p.n] 59)
  have hN1 := hN.alloc (.cells #[.int .i64 p.k, .string (bs p.t), .int .i64 p.n] 59)
  obtain ⟨C0, C1, C2, C3, C4⟩ : _ ∧ _ ∧ _ ∧ _ ∧ _ := ⟨hN1.c0, hN1.c1, hN1.c2, hN1.c3, hN1.c4⟩
  have b2 : (p.k == 2) = false := by rw [hk]; rfl
  have b3 : (p.k == 3) = false := by rw [hk]; rfl
  have b4 : (p.k == 4) = true := by rw [hk]; rfl
  have hv : writeP p = [37, 123] ++ nmOf p.n.toNat ++ [125] := by unfold writeP; rw [if_neg (by omega), if_neg (by omega), if_pos hk]
  rw [hv]
  unfold pv
  clear hv hk hN hN1
  rcases (by omega : p.n = 0 ∨ p.n = 1 ∨ p.n = 2 ∨ p.n = 3 ∨ p.n = 4) with h | h | h | h | h <;> rw [h] at hrow hb0 C0 C1 C2 C3 C4 ⊢ <;> clear h hn0 hn9
  · go_enter Tryd.func83, Tryd.ntmps83
    go_wp2_with fail
    go_ret
    exact ⟨rfl, hb0⟩
  · go_enter Tryd.func83, Tryd.ntmps83
    go_wp2_with fail
    go_ret
    exact ⟨rfl, hb0⟩
  · go_enter Tryd.func83, Tryd.ntmps83
    go_wp2_with fail
    go_ret
    exact ⟨rfl, hb0⟩
  · go_enter Tryd.func83, Tryd.ntmps83
    go_wp2_with fail
    go_ret
    exact ⟨rfl, hb0⟩
  · go_enter Tryd.func83, Tryd.ntmps83
    go_wp2_with fail
    go_ret
    exact ⟨rfl, hb0⟩
end Go.Proofs.YtllklgalghmnfaaDoor
namespace Go.Proofs.YtllklgalghmnfaaDoor
open Go.RowKit Str Mem Tp
set_option linter.unusedVariables false
set_option linter.unusedSimpArgs false

theorem strIndexByte_any (s : ByteArray) (c : Int) (w : World) : Calls Tryd.prog 96 #[.string s, .int .u8 c] w fun e w' => e = .returned (.int .i64 (Lib.indexByte s.data.toList c.toNat.toUInt8)) ∧ w = w' := by
  have h := fun w => indexByte_any s c w
  go_enter Tryd.func96, Tryd.ntmps96
  go_wp2_with (go_at_call 106; refine (h _).mono ?_; rintro e w1 ⟨rfl, rfl⟩)
  go_ret
  exact ⟨rfl, rfl⟩
theorem string_none (base T g : Nat) (tail : List Value) (w : World) (h : BState w base T g tail []) :
    Calls Tryd.prog 91 #[.pointer (some ⟨g, 0, none⟩)] w fun e w' => e = .returned (.string (bs [])) ∧ Below base w w' := by
  obtain ⟨hb, p, v, hp, hh, hown, hne, hnil⟩ := h
  have hv := hnil rfl
  subst hv
  have c1 := cell_list hh 1
  simp only [List.getElem?_cons_succ, List.getElem?_cons_zero] at c1
  have hSD : ∀ W, (Builtin.unsafeSliceData_ #[97] 141 #[.slice none 0 0]).run Tryd.prog W = .ok (.pointer none) W := fun W =>
    Lib.run_unsafeSliceData_nil _ _ _ _ _
  have hUS : ∀ W, (Builtin.unsafeString_ #[141, 3] 9 #[.pointer none, .int .i64 0]).run Tryd.prog W = .ok (.string .empty) W := fun W =>
    Lib.run_unsafeString_none _ _ _ _ _
  go_enter Tryd.func91, Tryd.ntmps91
  go_wp2
  go_region
  all_goals (go_wp2; go_ret; exact ⟨rfl, (Below.refl base w).drew⟩)
theorem string_any (base T g : Nat) (tail : List Value) (l : List UInt8) (w : World) (h : BState w base T g tail l) :
    Calls Tryd.prog 91 #[.pointer (some ⟨g, 0, none⟩)] w fun e w' => e = .returned (.string (bs l)) ∧ Below base w w' := by
  by_cases h0 : l = []
  · subst h0; exact string_none base T g tail w h
  · exact string_some base T g tail l w h h0
theorem builderType : BType 125 0 := by unfold BType; kernel_rfl
theorem BState.keep {w w' : World} {base T g : Nat} {tail : List Value} {l : List UInt8} (h : BState w base T g tail l) (hb : Below w.heap.size w w') : BState w' base T g tail l := by
  obtain ⟨h1, p, v, hp, hh, how, hne, hnil⟩ := h
  refine ⟨h1, p, v, hp, (hb.block g (lt_of_cells hh)).trans hh, how.kept (w' := w') (row := none) ⟨hb.os, hb.tape, hb.output, hb.size, fun k hk _ => hb.block k hk⟩ ?_, hne, hnil⟩
  rcases v.ownBlock with _ | k
  · exact .inl rfl
  · exact .inr (by simp)

def spec (b : UInt8) : Bool := decide (b = 36 ∨ b = 37 ∨ b = 92 ∨ b = 63)
theorem esc_next (t : Tp.Bs) (k : Nat) (h : k < t.length) : esc (t.take (k + 1)) = esc (t.take k) ++ (if spec t[k] = true then [92, t[k]] else [t[k]]) := by
  rw [List.take_add_one, List.getElem?_eq_getElem h, Option.toList_some]
  unfold esc
  rw [List.flatMap_append]
  congr 1
  simp only [List.flatMap_cons, List.flatMap_nil, List.append_nil, spec, decide_eq_true_eq]
theorem esc_len (t : Tp.Bs) : (esc t).length ≤ 2 * t.length := by
  induction t with
  | nil => simp [esc]
  | cons b t ih =>
    unfold esc at ih ⊢
    rw [List.flatMap_cons, List.length_append, List.length_cons]
    split <;> simp at ih ⊢ <;> omega
theorem spec_index (b : UInt8) : decide (0 ≤ Lib.indexByte [36, 37, 92, 63] b) = spec b := by
  rcases index_cases b [36, 37, 92, 63] with ⟨a, t, he, ha, hi⟩ | ⟨hn, hi⟩
  · rw [hi]
    have : b ∈ ([36, 37, 92, 63] : List UInt8) := by rw [he]; simp
    simp at this
    have h2 : spec b = true := by unfold spec; simp; rcases this with h | h | h | h <;> simp [h]
    rw [h2]; exact decide_eq_true (by omega)
  · rw [hi]
    simp at hn
    unfold spec; simp; exact ⟨hn.1, hn.2.1, hn.2.2.1, hn.2.2.2⟩

set_option maxRecDepth 100000 in
set_option maxHeartbeats 4000000 in
theorem write_lit (p : Part) (h2 : p.k ≠ 2) (h3 : p.k ≠ 3) (h4 : p.k ≠ 4) (ht : p.t.length ≤ 100000) (w : World) :
    Calls Tryd.prog 83 #[pv p] w fun e w' => e = .returned (.string (bs (writeP p))) ∧ Below w.heap.size w w' := by
  have b2 : (p.k == 2) = false := by simpa using h2
  have b3 : (p.k == 3) = false := by simpa using h3
  have b4 : (p.k == 4) = false := by simpa using h4
  have hv : writeP p = esc p.t := by unfold writeP; rw [if_neg h2, if_neg h3, if_neg h4]
  rw [hv]
  clear hv h2 h3 h4
  have hsz : ((bs p.t).size : Int) = p.t.length := by rw [size_bs]
  have hrow := World.alloc_heap_new w (.cells #[.int .i64 p.k, .string (bs p.t), .int .i64 p.n] 59)
  have hb0 := (Below.refl _ w).alloc (Nat.le_refl _) (.cells #[.int .i64 p.k, .string (bs p.t), .int .i64 p.n] 59)
  unfold pv
  go_enter Tryd.func83, Tryd.ntmps83
  go_wp2_with fail
  obtain ⟨W0, hW0⟩ : ∃ W0, W0 = w.alloc (.cells #[.int .i64 p.k, .string (bs p.t), .int .i64 p.n] 59) := ⟨_, rfl⟩
  have hs0 : W0.heap.size = w.heap.size + 1 := by rw [hW0]; simp
  rw [← hW0] at hrow hb0 ⊢
  clear hW0
  have hB0 : BState (W0.alloc (.cells #[.pointer none, .slice none 0 0] 125)) (w.heap.size + 1) 125 (w.heap.size + 1) [] [] :=
    ⟨Nat.le_refl _, _, _, .inl rfl, by rw [← hs0]; exact heap_alloc_new W0 _, World.ownsRow_nil _ _ _ _, by simp [Value.ownBlock], fun _ => rfl⟩
  have hb1 : Below (w.heap.size + 1) W0 (W0.alloc (.cells #[.pointer none, .slice none 0 0] 125)) := (Below.refl _ _).alloc (by omega) _
  have H0 := Lib.hid hB0
  clear hB0
  go_loopg [36] p.t.length (fun g i wr => ∃ k : Nat, i = .int .i64 k ∧ k + g = p.t.length ∧ BState wr (w.heap.size + 1) 125 (w.heap.size + 1) [] (esc (p.t.take k)) ∧ Below (w.heap.size + 1) W0 wr)
  case atStart => exact ⟨0, rfl, by omega, H0.out, hb1⟩
  case round =>
    obtain ⟨k, rfl, hk, hB, hbl⟩ := hrel
    have hrw := (hbl.block w.heap.size (by omega)).trans hrow
    have c1 := cell_list (cs := [.int .i64 p.k, .string (bs p.t), .int .i64 p.n]) hrw 1
    simp only [List.getElem?_cons_zero, List.getElem?_cons_succ] at c1
    have HB := Lib.hid hB
    clear hB
    by_cases hlt : k < p.t.length
    · obtain ⟨g', rfl⟩ : ∃ g', gk = g' + 1 := ⟨gk - 1, by omega⟩
      have hkB : k < (bs p.t).size := by rw [size_bs]; exact hlt
      have hBk : (bs p.t)[k] = p.t[k] := by simp [get_data _ k hkB, data_bs]
      have hix : ∀ W, Calls Tryd.prog 96 #[.string ⟨#[36, 37, 92, 63]⟩, .int .u8 ((bs p.t)[k].toNat : Int)] W fun e w' => e = .returned (.int .i64 (Lib.indexByte [36, 37, 92, 63] p.t[k])) ∧ W = w' := fun W => by
        have h := strIndexByte_any ⟨#[36, 37, 92, 63]⟩ ((bs p.t)[k].toNat : Int) W
        have e : ((bs p.t)[k].toNat : Int).toNat.toUInt8 = p.t[k] := by rw [hBk]; simp
        rw [e] at h
        exact h
      have hwr := fun l W c b hc h hl hb => writeByte_any (w.heap.size + 1) 125 (w.heap.size + 1) [] l c b hc W builderType (by decide) h hl hb
      have hsp := spec_index p.t[k]
      have hnx := Lib.hid (esc_next p.t k hlt)
      have hel := esc_len (p.t.take k)
      have htl : (p.t.take k).length ≤ k := List.length_take_le _ _
      have hc2 : ((bs p.t)[k].toNat : Int) = (p.t[k].toNat : Int) := by rw [hBk]
      have HC2 := Lib.hid hc2
      obtain ⟨I, hI⟩ : ∃ I, Lib.indexByte [36, 37, 92, 63] p.t[k] = I := ⟨_, rfl⟩
      rw [hI] at hix hsp
      have hbs := hbl.size
      clear hI hBk hc2
      have hi0 : (0 : Int) ≤ (k : Int) := by omega
      have hi1 : (k : Int) < (p.t.length : Int) := by omega
      rcases hs : spec p.t[k] with _ | _
      · rw [hs] at hsp
        have hI0 : I < 0 := by have := of_decide_eq_false hsp; omega
        have HS := Lib.hid hs
        clear hsp hs
        go_wp2_with fail
        refine (hix _).mono ?_
        rintro e w2 ⟨rfl, rfl⟩
        go_wp2_with fail
        refine (hwr _ _ _ _ HC2.out HB.out (by omega) (by omega)).mono ?_
        rintro e w3 ⟨rfl, hB3, h3⟩
        have HB3 := Lib.hid hB3
        clear hB3
        go_wp2_with fail
        go_roundg g'
        case measure => omega
        case rel => exact ⟨k + 1, by go_num, by omega, by rw [hnx.out, HS.out]; exact HB3.out, hbl.trans h3⟩
      · rw [hs] at hsp
        have hI0 : 0 ≤ I := of_decide_eq_true hsp
        have HS := Lib.hid hs
        clear hsp hs
        go_wp2_with fail
        refine (hix _).mono ?_
        rintro e w2 ⟨rfl, rfl⟩
        go_wp2_with fail
        refine (hwr _ _ _ 92 rfl HB.out (by omega) (by omega)).mono ?_
        rintro e w3 ⟨rfl, hB3, h3⟩
        have HB3 := Lib.hid hB3
        have hs3 := h3.size
        have c1' : w3.cell? ⟨w.heap.size, 1, none⟩ = some (.string (bs p.t)) := by rw [← c1]; exact World.cell?_of_block (h3.block w.heap.size (by omega))
        clear hB3
        go_wp2_with fail
        refine (hwr _ _ _ _ HC2.out HB3.out (by simp; omega) (by omega)).mono ?_
        rintro e w4 ⟨rfl, hB4, h4⟩
        have HB4 := Lib.hid hB4
        clear hB4
        go_wp2_with fail
        go_roundg g'
        case measure => omega
        case rel => exact ⟨k + 1, by go_num, by omega, by rw [hnx.out, HS.out]; simpa using HB4.out, hbl.trans (h3.trans h4)⟩
    · obtain rfl : k = p.t.length := by omega
      go_wp2_with fail
      have hB := HB.out
      rw [List.take_length] at hB
      refine (string_any _ _ _ _ _ _ hB).mono ?_
      clear hB
      rintro e w2 ⟨rfl, h2⟩
      go_wp2_with fail
      go_ret
      exact ⟨rfl, hb0.trans ((hbl.trans h2).mono (by omega))⟩
/-- What `write` is asked of. -/
def fitW (p : Part) : Prop := p.t.length ≤ 100000 ∧ ((p.k = 2 ∨ p.k = 3) → 0 ≤ p.n ∧ p.n ≤ 9) ∧ (p.k = 4 → 0 ≤ p.n ∧ p.n ≤ 4)
theorem write_any (p : Part) (hp : fitW p) (w : World) (hN : Nm w) :
    Calls Tryd.prog 83 #[pv p] w fun e w' => e = .returned (.string (bs (writeP p))) ∧ Below w.heap.size w w' := by
  obtain ⟨h1, h2, h3⟩ := hp
  by_cases k4 : p.k = 4
  · exact write_name p k4 (h3 k4).1 (h3 k4).2 w hN
  by_cases k2 : p.k = 2
  · exact write_two p (.inl k2) (h2 (.inl k2)).1 (h2 (.inl k2)).2 w
  by_cases k3 : p.k = 3
  · exact write_two p (.inr k3) (h2 (.inr k3)).1 (h2 (.inr k3)).2 w
  exact write_lit p k2 k3 k4 h1 w
end Go.Proofs.YtllklgalghmnfaaDoor
namespace Go.Proofs.YtllklgalghmnfaaDoor
open Go.RowKit Str Mem Tp
set_option linter.unusedVariables false
set_option linter.unusedSimpArgs false

theorem nmOf_len (n : Nat) : (nmOf n).length ≤ 6 := by unfold nmOf; split <;> simp
theorem writeP_len (p : Part) (h : p.t.length ≤ 100000) : (writeP p).length ≤ 200000 := by
  have h1 := esc_len p.t
  have h2 := nmOf_len p.n.toNat
  unfold writeP
  split
  · simp
  · split
    · simp
    · split
      · simp only [List.length_append, List.length_cons, List.length_nil]; omega
      · omega
theorem textP_next (L : List Part) (k : Nat) (p : Part) (h : L[k]? = some p) : textP (L.take (k + 1)) = textP (L.take k) ++ writeP p := by
  rw [List.take_add_one, h, Option.toList_some]
  unfold textP
  rw [List.map_append, List.flatten_append]
  congr 1
  simp
theorem textP_len (L : List Part) (h : ∀ p ∈ L, p.t.length ≤ 100000) : (textP L).length ≤ L.length * 200000 := by
  induction L with
  | nil => simp [textP]
  | cons p L ih =>
    have h1 := writeP_len p (h p (by simp))
    have h2 := ih (fun q hq => h q (by simp [hq]))
    unfold textP at h2 ⊢
    rw [List.map_cons, List.flatten_cons, List.length_append, List.length_cons]
    omega

set_option maxRecDepth 100000 in
set_option maxHeartbeats 4000000 in
theorem text_any (a : Option Addr) (c : Nat) (L : List Part) (w : World) (hP : Parts w a L.length L) (hn : L.length ≤ 100000) (hf : ∀ p ∈ L, fitW p) (hN : Nm w) :
    Calls Tryd.prog 57 #[.slice a L.length c] w fun e w' => e = .returned (.string (bs (textP L))) ∧ Below w.heap.size w w' := by
  go_enter Tryd.func57, Tryd.ntmps57
  go_wp2_with fail
  go_loopg [3, 8] L.length (fun g s i wr => ∃ k : Nat, i = .int .i64 k ∧ k + g = L.length ∧ s = .string (bs (textP (L.take k))) ∧ Below w.heap.size w wr)
  case atStart => exact ⟨0, rfl, by omega, rfl, Below.refl _ _⟩
  case round =>
    obtain ⟨k, rfl, hk, rfl, hbl⟩ := hrel
    by_cases hlt : k < L.length
    · obtain ⟨g', rfl⟩ : ∃ g', gk = g' + 1 := ⟨gk - 1, by omega⟩
      obtain ⟨x, hx⟩ : ∃ x, L[k]? = some x := ⟨_, List.getElem?_eq_getElem hlt⟩
      have hfx := hf x (List.mem_of_getElem? hx)
      obtain ⟨ad, rfl, had, g0, g1, g2⟩ := Parts.get (L := L) (Rd.keep hP hbl.size (fun _ _ _ h => hbl.block _ h)) k x hx
      have hw := fun W h => write_any x hfx W h
      have hnx := Lib.hid (textP_next L k x hx)
      have hl1 := textP_len (L.take k) (fun p hp => (hf p (List.mem_of_mem_take hp)).1)
      have hl2 := writeP_len x hfx.1
      have hl3 : (L.take k).length ≤ k := List.length_take_le _ _
      have hNr := hN.below hbl hN.lt
      have hrow := World.alloc_heap_new wr (.cells #[.int .i64 x.k, .string (bs x.t), .int .i64 x.n] 59)
      have hba := (Below.refl wr.heap.size wr).alloc (Nat.le_refl _) (.cells #[.int .i64 x.k, .string (bs x.t), .int .i64 x.n] 59)
      have i0 : (0 : Int) ≤ (k : Int) := by omega
      have i1 : (k : Int) < (L.length : Int) := by omega
      unfold pv at hw
      have hadd : ¬ 9223372036854775807 < (textP (L.take k)).length + (writeP x).length := by omega
      obtain ⟨A, hA⟩ : ∃ A, A = bs (textP (L.take k)) := ⟨_, rfl⟩
      obtain ⟨B, hB⟩ : ∃ B, B = bs (writeP x) := ⟨_, rfl⟩
      have hadd2 : ¬ 9223372036854775807 < A.size + B.size := by rw [hA, hB, size_bs, size_bs]; exact hadd
      rw [← hA]
      rw [← hB] at hw
      have HF := Lib.hid hf
      have HFx := Lib.hid hfx
      have HA := Lib.hid hA
      have HB := Lib.hid hB
      clear hx hf hfx hadd hA hB
      go_wp2_with fail
      refine (hw _ (hNr.alloc _)).mono ?_
      rintro e w2 ⟨rfl, h2⟩
      go_wp2_with fail
      go_roundg g'
      case measure => omega
      case rel => exact ⟨k + 1, by go_num, by omega, by rw [hnx.out, HA.out, HB.out, ← bs_append], hbl.trans ((hba.trans (h2.mono (by simp))).mono hbl.size)⟩
    · obtain rfl : k = L.length := by omega
      go_wp2_with fail
      go_ret
      exact ⟨by rw [List.take_length]; rfl, hbl⟩
end Go.Proofs.YtllklgalghmnfaaDoor
namespace Go.Proofs.YtllklgalghmnfaaDoor
open Go.RowKit Str Mem Tp
set_option linter.unusedVariables false
set_option linter.unusedSimpArgs false

/-- Is the last of the first k parts a literal? -/
def prevLit (L : List Part) (k : Nat) : Bool := match (L.take k).getLast? with
  | some q => q.k == 1
  | none => false
theorem prevLit_next (L : List Part) (k : Nat) (x : Part) (h : L[k]? = some x) : prevLit L (k + 1) = (x.k == 1) := by
  unfold prevLit
  rw [List.take_add_one, h, Option.toList_some, List.getLast?_concat]
theorem last_prev (ad : Addr) (L : List Part) (k : Nat) : ∃ pt, lastV (some ad) (L.take k) = .pointer (if prevLit L k = true then some pt else none) := by
  unfold lastV prevLit
  rcases (L.take k).getLast? with _ | q
  · exact ⟨ad, rfl⟩
  · by_cases hq : q.k = 1
    · exact ⟨_, by simp [hq]; rfl⟩
    · exact ⟨ad, by simp [hq]⟩
theorem checkTo_next (L : List Part) (k : Nat) (x : Part) (h : L[k]? = some x) : checkTo (L.drop k) (prevLit L k) = if oneE x ≠ 0 then oneE x else if x.k = 1 ∧ prevLit L k = true then 3 else checkTo (L.drop (k + 1)) (prevLit L (k + 1)) := by
  obtain ⟨hlt, hx⟩ := List.getElem?_eq_some_iff.1 h
  rw [List.drop_eq_getElem_cons hlt, checkTo, hx, prevLit_next L k x h]
theorem one_fit (p : Part) (h : oneE p = 0) (ht : p.t.length ≤ 100000) : fitW p := by
  unfold oneE at h
  split at h
  · cases h
  · split at h
    · cases h
    · rename_i h1 h2
      refine ⟨ht, fun hk => ?_, fun hk => ?_⟩
      · rcases hk with hk | hk <;> simp [lowR, highR, hk] at h2 <;> omega
      · simp [lowR, highR, hk] at h2; omega
theorem partCells_take (L : List Part) (k : Nat) (h : k ≤ L.length) : partCells (L.take k) = (partCells L).take (k * 3) := by
  have e : partCells L = partCells (L.take k) ++ partCells (L.drop k) := by rw [← partCells_append, List.take_append_drop]
  have hl : (partCells (L.take k)).length = k * 3 := by rw [partCells_len, List.length_take, Nat.min_eq_left h]
  have t : ((partCells (L.take k) ++ partCells (L.drop k)).take (k * 3)) = partCells (L.take k) := by
    rw [List.take_append_of_le_length (by omega), List.take_of_length_le (by omega)]
  rw [← e] at t
  exact t.symm

set_option maxRecDepth 100000 in
set_option maxHeartbeats 4000000 in
theorem check_any (a : Option Addr) (c : Nat) (L : List Part) (w : World) (hP : Parts w a L.length L) (hn : L.length ≤ 100000) (hc : L.length ≤ c) (hcm : c ≤ maxLen) (ht : ∀ p ∈ L, p.t.length ≤ 100000) (hN : Nm w) :
    Calls Tryd.prog 24 #[.slice a L.length c] w fun e w' => e = .returned (.int .i64 (checkR L)) ∧ Below w.heap.size w w' := by
  obtain ⟨V, hV⟩ : ∃ V, checkR L = V := ⟨_, rfl⟩
  rw [hV]
  have HV := Lib.hid hV
  clear hV
  unfold maxLen at hcm
  have HT := Lib.hid ht
  clear ht
  go_enter Tryd.func24, Tryd.ntmps24
  go_wp2_with fail
  go_loopg [8] L.length (fun g i wr => ∃ k : Nat, i = .int .i64 k ∧ k + g = L.length ∧ checkTo L false = checkTo (L.drop k) (prevLit L k) ∧ (∀ j x, j < k → L[j]? = some x → oneE x = 0) ∧ Below w.heap.size w wr)
  case atStart => exact ⟨0, rfl, by omega, rfl, fun j x h => by omega, Below.refl _ _⟩
  case round =>
    obtain ⟨k, rfl, hk, hct, hall, hbl⟩ := hrel
    have HCT := Lib.hid hct
    have HALL := Lib.hid hall
    clear hct hall
    by_cases hlt : k < L.length
    · obtain ⟨g', rfl⟩ : ∃ g', gk = g' + 1 := ⟨gk - 1, by omega⟩
      obtain ⟨x, hx⟩ : ∃ x, L[k]? = some x := ⟨_, List.getElem?_eq_getElem hlt⟩
      have hPr : Parts wr a L.length L := Rd.keep hP hbl.size (fun _ _ _ h => hbl.block _ h)
      obtain ⟨ad, rfl, had, g0, g1, g2⟩ := Parts.get (L := L) hPr k x hx
      obtain ⟨pt, hpt⟩ := last_prev ad L k
      have hPt : Parts wr (some ad) (L.take k).length (L.take k) := by
        unfold Parts
        rw [partCells_take L k (by omega), List.length_take, Nat.min_eq_left (by omega)]
        exact Rd.take hPr (by omega)
      have hla := fun W (h : Parts W (some ad) (L.take k).length (L.take k)) => last_any (some ad) c (L.take k) W h (by rw [List.length_take]; omega)
      rw [hpt] at hla
      rw [List.length_take, Nat.min_eq_left (by omega)] at hla hPt
      have ho := fun W => one_any x W
      have hli := fun W => literal_any x W
      unfold pv at ho hli
      have hnx := Lib.hid (checkTo_next L k x hx)
      have HX := Lib.hid hx
      have hrow := World.alloc_heap_new wr (.cells #[.int .i64 x.k, .string (bs x.t), .int .i64 x.n] 59)
      have hba := (Below.refl wr.heap.size wr).alloc (Nat.le_refl _) (.cells #[.int .i64 x.k, .string (bs x.t), .int .i64 x.n] 59)
      obtain ⟨E, hE⟩ : ∃ E, oneE x = E := ⟨_, rfl⟩
      rw [hE] at ho
      have HE := Lib.hid hE
      obtain ⟨pl, hpl⟩ : ∃ pl, prevLit L k = pl := ⟨_, rfl⟩
      rw [hpl] at hla
      have HPL := Lib.hid hpl
      have i0 : (0 : Int) ≤ (k : Int) := by omega
      have i1 : (k : Int) < (L.length : Int) := by omega
      have HPt := Lib.hid hPt
      have HPx := Lib.hid hP
      clear hx hE hpl hpt hPr hP hPt
      go_wp2_with fail
      refine (ho _).mono ?_
      rintro e w2 ⟨rfl, h2⟩
      have hb2 := hba.trans (h2.mono (by simp))
      have hrow2 := (h2.block _ (by simp)).trans hrow
      have c0 := cell_list (cs := [.int .i64 x.k, .string (bs x.t), .int .i64 x.n]) hrow2 0
      have c1 := cell_list (cs := [.int .i64 x.k, .string (bs x.t), .int .i64 x.n]) hrow2 1
      have c2 := cell_list (cs := [.int .i64 x.k, .string (bs x.t), .int .i64 x.n]) hrow2 2
      simp only [List.getElem?_cons_zero, List.getElem?_cons_succ] at c0 c1 c2
      by_cases hE0 : E = 0
      · subst hE0
        go_wp2_with fail
        refine (hli _).mono ?_
        rintro e w3 ⟨rfl, h3⟩
        have hb3 := hb2.trans (h3.mono hb2.size)
        have HPt3 : Parts w3 (some ad) k (L.take k) := Rd.below HPt.out hb3
        have hall2 : ∀ j y, j < k + 1 → L[j]? = some y → oneE y = 0 := fun j y hj hy => by
          by_cases hjk : j = k
          · rw [hjk, HX.out] at hy; injection hy with hy; rw [← hy]; exact HE.out
          · exact HALL.out j y (by omega) hy
        have HALL2 := Lib.hid hall2
        clear hall2
        rcases hlit : (x.k == 1) with _ | _
        · have HLIT := Lib.hid hlit
          clear hlit
          go_wp2_with fail
          go_roundg g'
          case measure => omega
          case rel => exact ⟨k + 1, by go_num, by omega, by rw [HCT.out, hnx.out, if_neg (by rw [HE.out]; simp), if_neg (by have h := HLIT.out; simp at h; simp [h])], HALL2.out, hbl.trans (hb3.mono hbl.size)⟩
        · have HLIT := Lib.hid hlit
          clear hlit
          have HP3 := Lib.hid HPt3
          clear HPt3
          go_wp2_with fail
          refine (hla _ HP3.out).mono ?_
          rintro e w4 ⟨rfl, h4⟩
          have hb4 := hb3.trans (h4.mono hb3.size)
          rcases pl with _ | _
          · simp only [Bool.false_eq_true, if_false]
            go_wp2_with fail
            go_roundg g'
            case measure => omega
            case rel => exact ⟨k + 1, by go_num, by omega, by rw [HCT.out, hnx.out, if_neg (by rw [HE.out]; simp), if_neg (by rw [HPL.out]; simp)], HALL2.out, hbl.trans (hb4.mono hbl.size)⟩
          · simp only [if_true]
            go_wp2_with fail
            go_ret
            have hk1 : x.k = 1 := by have h := HLIT.out; simpa using h
            have h3 : checkTo L false = 3 := by rw [HCT.out, hnx.out]; rw [HE.out]; simp [hk1, HPL.out]
            exact ⟨by rw [← HV.out]; unfold checkR; rw [h3]; rfl, hbl.trans (hb4.mono hbl.size)⟩
      · have hE1 : (E == 0) = false := by simpa using hE0
        go_wp2_with fail
        go_ret
        exact ⟨by rw [← HV.out]; unfold checkR; rw [HCT.out, hnx.out, HE.out, if_pos hE0, if_pos hE0]; rfl, hbl.trans (hb2.mono hbl.size)⟩
    · obtain rfl : k = L.length := by omega
      have hfit : ∀ p ∈ L, fitW p := fun p hp => by
        obtain ⟨j, hj, e⟩ := List.getElem_of_mem hp
        exact one_fit p (HALL.out j p hj (by rw [List.getElem?_eq_getElem hj, e])) (HT.out p hp)
      have htx := fun W h1 h2 => text_any a c L W h1 hn hfit h2
      have hPr : Parts wr a L.length L := Rd.keep hP hbl.size (fun _ _ _ h => hbl.block _ h)
      have hNr := hN.below hbl hN.lt
      obtain ⟨B, hB⟩ : ∃ B, bs (textP L) = B := ⟨_, rfl⟩
      have hBs : (B.size : Int) = ((textP L).length : Int) := by rw [← hB, size_bs]
      have HBs := Lib.hid hBs
      rw [hB] at htx
      have HH := Lib.hid hfit
      have hct := HCT.out
      rw [List.drop_length, checkTo] at hct
      have HC := Lib.hid hct
      clear hB hBs hfit hct HALL HCT
      go_wp2_with fail
      refine (htx _ hPr hNr).mono ?_
      rintro e w2 ⟨rfl, h2⟩
      by_cases h96 : 96 < B.size
      · have h96' : (96 : Int) < (B.size : Int) := by omega
        go_wp2_with fail
        go_ret
        exact ⟨by rw [← HV.out]; unfold checkR; rw [HC.out, if_neg (by simp), if_pos (by have := HBs.out; omega)]; rfl, hbl.trans (h2.mono hbl.size)⟩
      · have h96' : ¬ (96 : Int) < (B.size : Int) := by omega
        go_wp2_with fail
        go_ret
        exact ⟨by rw [← HV.out]; unfold checkR; rw [HC.out, if_neg (by simp), if_neg (by have := HBs.out; omega)]; rfl, hbl.trans (h2.mono hbl.size)⟩
end Go.Proofs.YtllklgalghmnfaaDoor
