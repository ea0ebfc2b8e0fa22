/- strings.IndexRune at a rune that is no ASCII one; IndexAny, ContainsAny at any text. -/
import Derived.Test.YtllklgalghmnfaaDoorAnyBytes
import Derived.Shelf.Abstract
import Derived.Shelf.RegionOpen
import Derived.WalkMore
import Derived.Deep.QuietTactic
import Derived.BigQuiet
namespace Go.Proofs.YtllklgalghmnfaaDoor
open Go.RowKit Str Mem
set_option linter.unusedVariables false
set_option linter.unusedSimpArgs false

theorem index_high {l : List UInt8} (hasc : ∀ b ∈ l, b.toNat < 128) {c : UInt8} (hc : 128 ≤ c.toNat) : Lib.indexByte l c = -1 := by
  rcases index_cases c l with ⟨a, t, he, _, _⟩ | ⟨_, h⟩
  · have := hasc c (by rw [he]; simp)
    omega
  · exact h

set_option maxRecDepth 1000000 in
set_option maxHeartbeats 4000000 in
theorem indexRune_wide (s : ByteArray) (hs : s.size ≤ maxLen) (hasc : ∀ b ∈ s.data.toList, b.toNat < 128) (r : Nat) (h1 : 128 ≤ r) (hne : r ≠ 65533) (hv : Lib.validRune (r : Int) = true) (w : World) :
    Calls Tryd.prog 79 #[.string s, .int .i32 (r : Int)] w fun e w' => e = .returned (.int .i64 (-1)) ∧ Below w.heap.size w w' := by
  unfold maxLen at hs
  have hq := validRune_any (r : Int)
  rw [hv] at hq
  have hne' : ((r : Int) == 65533) = false := by rw [beq_eq_false_iff_ne]; omega
  obtain ⟨e2, e4, el⟩ := encode_facts (r : Int) (by rw [validRune_eq]; exact hv) (by omega)
  obtain ⟨rs, hrs⟩ : ∃ rs, Utf8.encode (r : Int) = rs := ⟨_, rfl⟩
  have hcv : ∀ (W : World), (convert 21 9 (.int .i32 (r : Int))).run Tryd.prog W = .ok (.string rs) W := fun W => by
    rw [run_convert_int_string W _ _ .i32 (r : Int) (by rw [Tryd.underlying21]; rfl) Tryd.underlying9, hrs]
  rw [hrs] at e2 e4 el
  clear hrs
  have HA := Lib.hid hasc
  have HE := Lib.hid el
  clear hasc el
  go_enter Tryd.func79, Tryd.ntmps79
  go_wp2_with (go_at_call 97; refine (hq _).mono ?_; rintro e w' ⟨rfl, rfl⟩)
  clear hq
  go_step3
  go_wp2
  go_loopg [9] 0 (fun g s9 wx => s9 = .int .i64 ((rs.size : Int) - 1) ∧ wx = w')
  case atStart => exact ⟨rfl, rfl⟩
  case round =>
    obtain ⟨rfl, rfl⟩ := hrel
    by_cases hlt : rs.size - 1 < s.size
    · have hi : (rs.size : Int) - 1 < (s.size : Int) := by omega
      go_wp2
      go_step3
      go_wp2
      have q0 : ((rs.size : Int) - 1).toNat = rs.size - 1 := by omega
      have q1 : (0 : Int) ≤ (rs.size : Int) - 1 ∧ (rs.size : Int) - 1 < (s.size : Int) := by omega
      have q2 : (0 : Int) ≤ (rs.size : Int) - 1 ∧ (rs.size : Int) - 1 < (rs.size : Int) := by omega
      have q3 : rs.size - 1 < rs.size := by omega
      have hsl := ascii_at HA.out hlt
      have hrl := HE.out q3
      have q4 : (1 : Int) ≤ (rs.size : Int) := by omega
      have qb : ((s[rs.size - 1].toNat : Int) == (rs[rs.size - 1].toNat : Int)) = false := by rw [beq_eq_false_iff_ne]; omega
      go_quiet (fail)
      have hix : ∀ (a b : Nat) (W : World), Calls Tryd.prog 96 #[.string (s.extract a b), .int .u8 (rs[rs.size - 1].toNat : Int)] W fun e w' => e = .returned (.int .i64 (-1)) ∧ w' = W := fun a b W => by
        refine (sIndexByte_any (s.extract a b) (rs[rs.size - 1].toNat : Int) W).mono ?_
        rintro e w' ⟨rfl, rfl⟩
        rw [index_high (fun b hb => HA.out b (mem_extract hb)) (by simp; omega)]
        exact ⟨rfl, rfl⟩
      have q5 : wrap64 ((rs.size : Int) - 1 + 1) = rs.size := by rw [IntWalk.wrap64_in] <;> omega
      have q6 : (rs.size : Int) ≤ (s.size : Int) := by omega
      have q7 : IntKind.i64.wrap (rs.size : Int) = (rs.size : Int) := by rw [IntKind.wrap_i64]; omega
      have q8 : (0 : Int) ≤ (rs.size : Int) ∧ (rs.size : Int) ≤ (s.size : Int) := by omega
      clear qb
      go_wp2
      go_quiet ((go_at_call 96; refine (hix _ _ _).mono ?_; rintro e w2 ⟨rfl, rfl⟩; exact ⟨rfl, _, rfl⟩))
      go_wp2
      rw [Exit.noGoto_ret]
      go_wp2
      rw [Exit.noGoto_ret]
      go_ret
      exact ⟨rfl, below_drewN (Below.refl _ _) _⟩
    · have hi : ¬ ((rs.size : Int) - 1 < (s.size : Int)) := by omega
      go_wp2
      go_ret
      exact ⟨rfl, Below.refl _ _⟩

theorem indexRune_high (s : ByteArray) (hs : s.size ≤ maxLen) (hasc : ∀ b ∈ s.data.toList, b.toNat < 128) (r : Nat) (h1 : 128 ≤ r) (w : World) :
    Calls Tryd.prog 79 #[.string s, .int .i32 (r : Int)] w fun e w' => e = .returned (.int .i64 (-1)) ∧ Below w.heap.size w w' := by
  by_cases hne : r = 65533
  · subst hne; exact indexRune_err s hasc w
  · rcases hv : Lib.validRune (r : Int) with _ | _
    · refine (indexRune_bad s r h1 hne hv w).mono ?_
      rintro e w' ⟨rfl, rfl⟩
      exact ⟨rfl, Below.refl _ _⟩
    · exact indexRune_wide s hs hasc r h1 hne hv w

theorem decodeN_span (n b0 b1 b2 b3 : Nat) (h : ¬ b0 < 128) : (Lib.decodeN n b0 b1 b2 b3).2 = 1 ∨ ((Lib.decodeN n b0 b1 b2 b3).2 = 2 ∧ 128 ≤ b1) ∨ ((Lib.decodeN n b0 b1 b2 b3).2 = 3 ∧ 128 ≤ b1 ∧ 128 ≤ b2) ∨ ((Lib.decodeN n b0 b1 b2 b3).2 = 4 ∧ 128 ≤ b1 ∧ 128 ≤ b2 ∧ 128 ≤ b3) := by
  unfold Lib.decodeN
  rw [if_neg h]
  repeat' split
  all_goals first
    | exact .inl rfl
    | exact .inr (.inl ⟨rfl, by omega⟩)
    | exact .inr (.inr (.inl ⟨rfl, by omega, by omega⟩))
    | exact .inr (.inr (.inr ⟨rfl, by omega, by omega, by omega⟩))
theorem decode_span (s : ByteArray) (pos : Nat) (h : pos < s.size) (hb : ¬ s[pos].toNat < 128) : 1 ≤ (Utf8.decode s pos).2 ∧ ∀ j (hj : j < s.size), pos ≤ j → j < pos + (Utf8.decode s pos).2 → 128 ≤ s[j].toNat := by
  have e : s.get! pos = s[pos] := get_bang s pos h
  rw [Lib.decode_at, e]
  have hc := decodeN_span (s.size - pos) s[pos].toNat (s.get! (pos + 1)).toNat (s.get! (pos + 2)).toNat (s.get! (pos + 3)).toNat hb
  obtain ⟨K, hK⟩ : ∃ K, (Lib.decodeN (s.size - pos) s[pos].toNat (s.get! (pos + 1)).toNat (s.get! (pos + 2)).toNat (s.get! (pos + 3)).toNat).2 = K := ⟨_, rfl⟩
  rw [hK] at hc ⊢
  refine ⟨by omega, fun j hj h1 h2 => ?_⟩
  have hj' : s[j] = s.get! j := (get_bang s j hj).symm
  rw [hj']
  have : j = pos ∨ j = pos + 1 ∨ j = pos + 2 ∨ j = pos + 3 := by omega
  rcases this with rfl | rfl | rfl | rfl
  · rw [e]; omega
  all_goals omega

/-- Whether a text has one of some bytes. -/
def hasAny (s chars : List UInt8) : Bool := s.any chars.contains

set_option maxRecDepth 1000000 in
set_option maxHeartbeats 4000000 in
theorem indexAny_short (s chars : ByteArray) (hc : chars.size ≤ maxLen) (h2 : 2 ≤ chars.size) (h8 : s.size ≤ 8) (hasc : ∀ b ∈ chars.data.toList, b.toNat < 128) (w : World) :
    Calls Tryd.prog 53 #[.string s, .string chars] w fun e w' => ∃ n : Int, e = .returned (.int .i64 n) ∧ decide (0 ≤ n) = hasAny s.data.toList chars.data.toList ∧ Below w.heap.size w w' := by
  have HA := Lib.hid hasc
  clear hasc
  have hemp : chars.toList.isEmpty = false := by
    rw [Lib.toList_data]
    cases h : chars.data.toList with
    | nil => have := Lib.size_eq chars; rw [h, List.length_nil] at this; omega
    | cons _ _ => rfl
  have hn1 : ((chars.size : Int) == 1) = false := beq_eq_false_iff_ne.2 (by omega)
  have h8z : decide ((8 : Int) < (s.size : Int)) = false := decide_eq_false (by omega)
  have hH := fun (r : Nat) h1 w => indexRune_high chars hc HA.out r h1 w
  have hL := fun (r : Nat) h1 w => indexRune_low chars r h1 w
  go_enter Tryd.func53, Tryd.ntmps53
  go_wp2_with (go_at_call 80; refine (Any.strings_shouldUseASCIISet { sh_lays153 with } _ _).mono ?_; rintro e w' ⟨rfl, hw⟩; rw [hw, h8z])
  subst hw
  go_loopg [] s.size (fun gf wx => ∃ pos : Nat, wx.heap[w'.heap.size]? = some (.stringIter s pos) ∧ Below w'.heap.size w' wx ∧ s.size ≤ pos + gf ∧ ∀ j (hj : j < s.size), j < pos → chars.data.toList.contains s[j] = false)
  case atStart => exact ⟨0, World.iter_heap w' s 0, (Below.refl _ w').alloc (Nat.le_refl _) _, by omega, fun j hj h => by omega⟩
  case round =>
    obtain ⟨pos, hit, hbw, hfu, hall⟩ := hrel
    by_cases hps : pos < s.size
    · obtain ⟨g', rfl⟩ : ∃ g', gk = g' + 1 := ⟨gk - 1, by omega⟩
      have hnx : ∀ ty, (Instr.next (.pointer (some ⟨w'.heap.size, 0, none⟩)) true ty).run Tryd.prog wr = _ := fun ty => Lib.run_next_any_at wr w'.heap.size s pos ty hit hps
      have hhigh := decode_high s pos hps
      have hspan := decode_span s pos hps
      obtain ⟨R, hR⟩ : ∃ R, (Utf8.decode s pos).1 = R := ⟨_, rfl⟩
      obtain ⟨K, hK⟩ : ∃ K, (Utf8.decode s pos).2 = K := ⟨_, rfl⟩
      have hlo := decode_low s pos hps
      rw [hR] at hhigh
      rw [hK] at hspan
      rw [hR, hK] at hnx
      have hit2 := Lib.iterAt_heap wr w'.heap.size s pos (pos + K) hit
      have hbw2 := Lib.below_iterAt hbw (k := w'.heap.size) (Nat.le_refl _) s (pos + K)
      obtain ⟨W, hWd⟩ : ∃ W, wr.iterAt w'.heap.size s (pos + K) = W := ⟨_, rfl⟩
      rw [hWd] at hnx hit2 hbw2
      have Hall := Lib.hid hall
      clear hall
      have hltW : w'.heap.size < W.heap.size := (Array.getElem?_eq_some_iff.1 hit2).1
      by_cases h128 : s[pos].toNat < 128
      · have hl := hlo h128
        rw [hl] at hR hK
        simp only at hR hK
        have cS := hL R (by omega) W
        have hRb : R.toUInt8 = s[pos] := by rw [← hR]; simp
        rw [hRb] at cS
        have hcon := Lib.contains_iff_indexByte chars.data.toList s[pos]
        have HK := Lib.hid hK
        clear hhigh hspan hlo hl hR hK hRb h128
        rcases hin : chars.data.toList.contains s[pos] with _ | _
        · rw [hin] at hcon
          have hlt : ¬ ((0 : Int) ≤ Lib.indexByte chars.data.toList s[pos]) := of_decide_eq_false hcon.symm
          have HI := Lib.hid hin
          clear hcon hin
          go_wp2_with (go_at_call 79; refine cS.mono ?_; rintro e w2 ⟨rfl, rfl⟩)
          go_roundg g'
          case measure => omega
          case rel =>
            refine ⟨pos + K, hit2, hbw2, by have := HK.out; omega, fun j hj h => ?_⟩
            have hk := HK.out
            rcases Nat.lt_or_ge j pos with h1 | h1
            · exact Hall.out j hj h1
            · obtain rfl : j = pos := by omega
              exact HI.out
        · rw [hin] at hcon
          have hge : (0 : Int) ≤ Lib.indexByte chars.data.toList s[pos] := of_decide_eq_true hcon.symm
          have HI := Lib.hid hin
          clear hcon hin
          go_wp2_with (go_at_call 79; refine cS.mono ?_; rintro e w2 ⟨rfl, rfl⟩)
          go_ret
          refine ⟨_, rfl, ?_, hbw2⟩
          have : hasAny s.data.toList chars.data.toList = true := by
            unfold hasAny
            rw [List.any_eq_true]
            exact ⟨s[pos], by rw [get_data s pos hps]; exact List.getElem_mem _, HI.out⟩
          rw [this]; simp
      · have cS := hH R (hhigh h128) W
        obtain ⟨hK1, hsp⟩ := hspan h128
        have HK := Lib.hid hK1
        have HS := Lib.hid hsp
        clear hhigh hlo hR hK h128 hK1 hsp hspan
        go_wp2_with (go_at_call 79; refine cS.mono ?_; rintro e w2 ⟨rfl, hb2⟩)
        go_roundg g'
        case measure => omega
        case rel =>
          refine ⟨pos + K, (hb2.block _ hltW).trans hit2, hbw2.trans (hb2.mono (Nat.le_of_lt hltW)), by have := HK.out; omega, fun j hj h => ?_⟩
          rcases Nat.lt_or_ge j pos with h1 | h1
          · exact Hall.out j hj h1
          · have := HS.out j hj h1 h
            rw [Bool.eq_false_iff]
            intro hc
            have := HA.out s[j] (List.contains_iff_mem.1 hc)
            omega
    · have hnx : ∀ ty, (Instr.next (.pointer (some ⟨w'.heap.size, 0, none⟩)) true ty).run Tryd.prog wr = _ := fun ty => Lib.run_next_end_at wr w'.heap.size s pos ty hit hps
      have Hx : Hid (hasAny s.data.toList chars.data.toList = false) := Lib.hid (by
        unfold hasAny
        rw [List.any_eq_false]
        intro b hb
        obtain ⟨j, hj, rfl⟩ := List.getElem_of_mem hb
        have hj' : j < s.size := by rw [size_data]; exact hj
        have := hall j hj' (by omega)
        rw [get_data s j hj'] at this
        rw [this]; simp)
      clear hall
      go_wp2
      go_ret
      exact ⟨_, rfl, by rw [Hx.out]; rfl, hbw⟩
end Go.Proofs.YtllklgalghmnfaaDoor
