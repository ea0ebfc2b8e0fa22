/- Of Go's library, laid: whether a text has a byte, where a byte stands in a slice, which of some bytes stands in a text. -/
import Derived.Shelf.Small.Utf8
import Derived.Shelf.Small.Strs
import Derived.Shelf.Strings.Search1
import Derived.Shelf.Strings.Search2
import Derived.Shelf.Strings.Search3
import Derived.Shelf.LaysM
import Derived.Shelf.Strings.IndexAny
import Derived.Shelf.Strings.AsciiSet
import Derived.Shelf.Strings.IndexAnyAll
import Derived.Shelf.Bytes.IndexByte
import Derived.Test.YtllklgalghmnfaaDoorProg
import Derived.Test.YtllklgalghmnfaaDoorRuneFunc
import Derived.Laws.Runes
import Derived.Shelf.Abstract
import Derived.Shelf.RegionOpen
import Derived.WalkMore
import Derived.Deep.QuietTactic
import Derived.BigQuiet
import Derived.Test.YtllklgalghmnfaaDoorStrCut
import Derived.Test.YtllklgalghmnfaaDoorTplMem
import Derived.Deep.WholeRow
namespace Go.Proofs.YtllklgalghmnfaaDoor
open Go.Shelf Go.RowKit Go.Proofs
def sh_lays153_ren : Go.Shelf.Ren := ⟨fun | 153 => 53 | 152 => 79 | 226 => 80 | 227 => 81 | 228 => 82 | 137 => 96 | 119 => 97 | 224 => 98 | 225 => 99 | 217 => 106 | 266 => 111 | n => n, fun | 9 => 9 | 3 => 3 | 4 => 4 | 5 => 5 | 21 => 21 | 117 => 111 | 116 => 110 | 0 => 0 | 46 => 100 | 124 => 132 | n => n, fun | n => n⟩
theorem sh_lays153 : Go.Proofs.Lays.n153 Tryd.prog sh_lays153_ren := {
  mixed := by kernel_rfl
  f119 := Tryd.func97.trans (congrArg some (by kernel_rfl))
  f137 := Tryd.func96.trans (congrArg some (by kernel_rfl))
  f152 := Tryd.func79.trans (congrArg some (by kernel_rfl))
  f153 := Tryd.func53.trans (congrArg some (by kernel_rfl))
  f217 := Tryd.func106.trans (congrArg some (by kernel_rfl))
  f224 := Tryd.func98.trans (congrArg some (by kernel_rfl))
  f225 := Tryd.func99.trans (congrArg some (by kernel_rfl))
  f226 := Tryd.func80.trans (congrArg some (by kernel_rfl))
  f227 := Tryd.func81.trans (congrArg some (by kernel_rfl))
  f228 := Tryd.func82.trans (congrArg some (by kernel_rfl))
  f266 := Tryd.func111.trans (congrArg some (by kernel_rfl))
  t0 := Tryd.underlying0
  a0 := Tryd.isAgg0
  z0 := Tryd.sizeOf0
  v0 := Tryd.zeroValue0
  t3 := Tryd.underlying3
  a3 := Tryd.isAgg3
  z3 := Tryd.sizeOf3
  v3 := Tryd.zeroValue3
  t4 := Tryd.underlying4
  a4 := Tryd.isAgg4
  z4 := Tryd.sizeOf4
  v4 := Tryd.zeroValue4
  t5 := Tryd.underlying5
  a5 := Tryd.isAgg5
  z5 := Tryd.sizeOf5
  v5 := Tryd.zeroValue5
  t9 := Tryd.underlying9
  a9 := Tryd.isAgg9
  z9 := Tryd.sizeOf9
  v9 := Tryd.zeroValue9
  t21 := Tryd.underlying21
  a21 := Tryd.isAgg21
  z21 := Tryd.sizeOf21
  v21 := Tryd.zeroValue21
  t46 := Tryd.underlying100
  a46 := Tryd.isAgg100
  z46 := Tryd.sizeOf100
  v46 := Tryd.zeroValue100
  t116 := Tryd.underlying110
  a116 := Tryd.isAgg110
  z116 := Tryd.sizeOf110
  t117 := Tryd.underlying111
  a117 := Tryd.isAgg111
  z117 := Tryd.sizeOf111
  v117 := Tryd.zeroValue111
  t124 := Tryd.underlying132
  a124 := Tryd.isAgg132
  z124 := Tryd.sizeOf132
  v124 := Tryd.zeroValue132 }
end Go.Proofs.YtllklgalghmnfaaDoor
namespace Go.Proofs.YtllklgalghmnfaaDoor
open Go.RowKit Str Mem
set_option linter.unusedVariables false
set_option linter.unusedSimpArgs false

theorem ascii_at {s : ByteArray} (hasc : ∀ b ∈ s.data.toList, b.toNat < 128) {i : Nat} (h : i < s.size) : s[i].toNat < 128 := by
  rw [get_data s i h]; exact hasc _ (List.getElem_mem _)

set_option maxRecDepth 1000000 in
set_option maxHeartbeats 2000000 in
/-- A rune that is no ASCII one is not found in an ASCII text: the text's own marks. -/
theorem indexRune_err (s : ByteArray) (hasc : ∀ b ∈ s.data.toList, b.toNat < 128) (w : World) :
    Calls Tryd.prog 79 #[.string s, .int .i32 65533] w fun e w' => e = .returned (.int .i64 (-1)) ∧ Below w.heap.size w w' := by
  have HA := Lib.hid hasc
  clear hasc
  go_enter Tryd.func79, Tryd.ntmps79
  go_wp2
  go_loopg [] s.size (fun gf wx => ∃ pos : Nat, wx.heap[w.heap.size]? = some (.stringIter s pos) ∧ Below w.heap.size w wx ∧ s.size ≤ pos + gf)
  case atStart => exact ⟨0, World.iter_heap w s 0, (Below.refl _ w).alloc (Nat.le_refl _) _, by omega⟩
  case round =>
    obtain ⟨pos, hit, hbw, hfu⟩ := hrel
    by_cases hps : pos < s.size
    · obtain ⟨g', rfl⟩ : ∃ g', gk = g' + 1 := ⟨gk - 1, by omega⟩
      have hnx : ∀ ty, (Instr.next (.pointer (some ⟨w.heap.size, 0, none⟩)) true ty).run Tryd.prog wr = _ := fun ty => Lib.run_next_any_at wr w.heap.size s pos ty hit hps
      have hlt := ascii_at HA.out hps
      have hlo := decode_low s pos hps hlt
      rw [hlo] at hnx
      obtain ⟨b, hb⟩ : ∃ b, b = s[pos].toNat := ⟨_, rfl⟩
      rw [← hb] at hnx hlt
      have hne : ((b : Int) == 65533) = false := by rw [beq_eq_false_iff_ne]; omega
      have hit2 := Lib.iterAt_heap wr w.heap.size s pos (pos + 1) hit
      have hbw2 := Lib.below_iterAt hbw (k := w.heap.size) (Nat.le_refl _) s (pos + 1)
      obtain ⟨W, hWd⟩ : ∃ W, wr.iterAt w.heap.size s (pos + 1) = W := ⟨_, rfl⟩
      rw [hWd] at hnx hit2 hbw2
      go_wp2
      go_roundg g'
      case measure => omega
      case rel => exact ⟨pos + 1, hit2, hbw2, by omega⟩
    · have hnx : ∀ ty, (Instr.next (.pointer (some ⟨w.heap.size, 0, none⟩)) true ty).run Tryd.prog wr = _ := fun ty => Lib.run_next_end_at wr w.heap.size s pos ty hit hps
      go_wp2
      go_ret
      exact ⟨rfl, hbw⟩


theorem validRune_any (r : Int) (w : World) :
    Calls Tryd.prog 97 #[.int .i32 r] w fun e w' => e = .returned (.bool (Lib.validRune r)) ∧ w' = w := Any.utf8_ValidRune { sh_lays153 with } r w

theorem sIndexByte_any (s : ByteArray) (c : Int) (w : World) : Calls Tryd.prog 96 #[.string s, .int .u8 c] w fun e w' => e = .returned (.int .i64 (Lib.indexByte s.data.toList c.toNat.toUInt8)) ∧ w = w' := by
  go_enter Tryd.func96, Tryd.ntmps96
  go_wp2_with (go_at_call 106; refine (indexByte_any s _ w).mono ?_; rintro e w' ⟨rfl, rfl⟩)
  go_ret
  exact ⟨rfl, rfl⟩

set_option maxRecDepth 1000000 in
set_option maxHeartbeats 2000000 in
theorem indexRune_low (s : ByteArray) (r : Nat) (h1 : r < 128) (w : World) :
    Calls Tryd.prog 79 #[.string s, .int .i32 (r : Int)] w fun e w' => e = .returned (.int .i64 (Lib.indexByte s.data.toList r.toUInt8)) ∧ w = w' := by
  have hback : ((r : Int)).toNat.toUInt8 = r.toUInt8 := by simp
  go_enter Tryd.func79, Tryd.ntmps79
  go_wp2_with (go_at_call 96; refine (sIndexByte_any _ _ _).mono ?_; rintro e w' ⟨rfl, rfl⟩; rw [hback])
  go_ret
  exact ⟨rfl, rfl⟩

set_option maxRecDepth 1000000 in
set_option maxHeartbeats 2000000 in
theorem indexRune_bad (s : ByteArray) (r : Nat) (h1 : 128 ≤ r) (hne : r ≠ 65533) (hv : Lib.validRune (r : Int) = false) (w : World) :
    Calls Tryd.prog 79 #[.string s, .int .i32 (r : Int)] w fun e w' => e = .returned (.int .i64 (-1)) ∧ w = w' := by
  have hq := validRune_any (r : Int)
  rw [hv] at hq
  have hne' : ((r : Int) == 65533) = false := by rw [beq_eq_false_iff_ne]; omega
  go_enter Tryd.func79, Tryd.ntmps79
  go_wp2_with (go_at_call 97; refine (hq _).mono ?_; rintro e w' ⟨rfl, rfl⟩)
  go_ret
  exact ⟨rfl, rfl⟩

end Go.Proofs.YtllklgalghmnfaaDoor
namespace Go.Proofs.YtllklgalghmnfaaDoor
open Go.RowKit Str Mem
set_option linter.unusedVariables false
set_option linter.unusedSimpArgs false

theorem index_high {l : List UInt8} (hasc : ∀ b ∈ l, b.toNat < 128) {c : UInt8} (hc : 128 ≤ c.toNat) : Lib.indexByte l c = -1 := by
  rcases index_cases c l with ⟨a, t, he, _, _⟩ | ⟨_, h⟩
  · have := hasc c (by rw [he]; simp)
    omega
  · exact h

set_option maxRecDepth 1000000 in
set_option maxHeartbeats 4000000 in
theorem indexRune_wide (s : ByteArray) (hs : s.size ≤ maxLen) (hasc : ∀ b ∈ s.data.toList, b.toNat < 128) (r : Nat) (h1 : 128 ≤ r) (hne : r ≠ 65533) (hv : Lib.validRune (r : Int) = true) (w : World) :
    Calls Tryd.prog 79 #[.string s, .int .i32 (r : Int)] w fun e w' => e = .returned (.int .i64 (-1)) ∧ Below w.heap.size w w' := by
  unfold maxLen at hs
  have hq := validRune_any (r : Int)
  rw [hv] at hq
  have hne' : ((r : Int) == 65533) = false := by rw [beq_eq_false_iff_ne]; omega
  obtain ⟨e2, e4, el⟩ := encode_facts (r : Int) (by rw [validRune_eq]; exact hv) (by omega)
  obtain ⟨rs, hrs⟩ : ∃ rs, Utf8.encode (r : Int) = rs := ⟨_, rfl⟩
  have hcv : ∀ (W : World), (convert 21 9 (.int .i32 (r : Int))).run Tryd.prog W = .ok (.string rs) W := fun W => by
    rw [run_convert_int_string W _ _ .i32 (r : Int) (by rw [Tryd.underlying21]; rfl) Tryd.underlying9, hrs]
  rw [hrs] at e2 e4 el
  clear hrs
  have HA := Lib.hid hasc
  have HE := Lib.hid el
  clear hasc el
  go_enter Tryd.func79, Tryd.ntmps79
  go_wp2_with (go_at_call 97; refine (hq _).mono ?_; rintro e w' ⟨rfl, rfl⟩)
  clear hq
  go_step3
  go_wp2
  go_loopg [9] 0 (fun g s9 wx => s9 = .int .i64 ((rs.size : Int) - 1) ∧ wx = w')
  case atStart => exact ⟨rfl, rfl⟩
  case round =>
    obtain ⟨rfl, rfl⟩ := hrel
    by_cases hlt : rs.size - 1 < s.size
    · have hi : (rs.size : Int) - 1 < (s.size : Int) := by omega
      go_wp2
      go_step3
      go_wp2
      have q0 : ((rs.size : Int) - 1).toNat = rs.size - 1 := by omega
      have q1 : (0 : Int) ≤ (rs.size : Int) - 1 ∧ (rs.size : Int) - 1 < (s.size : Int) := by omega
      have q2 : (0 : Int) ≤ (rs.size : Int) - 1 ∧ (rs.size : Int) - 1 < (rs.size : Int) := by omega
      have q3 : rs.size - 1 < rs.size := by omega
      have hsl := ascii_at HA.out hlt
      have hrl := HE.out q3
      have q4 : (1 : Int) ≤ (rs.size : Int) := by omega
      have qb : ((s[rs.size - 1].toNat : Int) == (rs[rs.size - 1].toNat : Int)) = false := by rw [beq_eq_false_iff_ne]; omega
      go_quiet (fail)
      have hix : ∀ (a b : Nat) (W : World), Calls Tryd.prog 96 #[.string (s.extract a b), .int .u8 (rs[rs.size - 1].toNat : Int)] W fun e w' => e = .returned (.int .i64 (-1)) ∧ w' = W := fun a b W => by
        refine (sIndexByte_any (s.extract a b) (rs[rs.size - 1].toNat : Int) W).mono ?_
        rintro e w' ⟨rfl, rfl⟩
        rw [index_high (fun b hb => HA.out b (mem_extract hb)) (by simp; omega)]
        exact ⟨rfl, rfl⟩
      have q5 : wrap64 ((rs.size : Int) - 1 + 1) = rs.size := by rw [IntWalk.wrap64_in] <;> omega
      have q6 : (rs.size : Int) ≤ (s.size : Int) := by omega
      have q7 : IntKind.i64.wrap (rs.size : Int) = (rs.size : Int) := by rw [IntKind.wrap_i64]; omega
      have q8 : (0 : Int) ≤ (rs.size : Int) ∧ (rs.size : Int) ≤ (s.size : Int) := by omega
      clear qb
      go_wp2
      go_quiet ((go_at_call 96; refine (hix _ _ _).mono ?_; rintro e w2 ⟨rfl, rfl⟩; exact ⟨rfl, _, rfl⟩))
      go_wp2
      rw [Exit.noGoto_ret]
      go_wp2
      rw [Exit.noGoto_ret]
      go_ret
      exact ⟨rfl, below_drewN (Below.refl _ _) _⟩
    · have hi : ¬ ((rs.size : Int) - 1 < (s.size : Int)) := by omega
      go_wp2
      go_ret
      exact ⟨rfl, Below.refl _ _⟩

theorem indexRune_high (s : ByteArray) (hs : s.size ≤ maxLen) (hasc : ∀ b ∈ s.data.toList, b.toNat < 128) (r : Nat) (h1 : 128 ≤ r) (w : World) :
    Calls Tryd.prog 79 #[.string s, .int .i32 (r : Int)] w fun e w' => e = .returned (.int .i64 (-1)) ∧ Below w.heap.size w w' := by
  by_cases hne : r = 65533
  · subst hne; exact indexRune_err s hasc w
  · rcases hv : Lib.validRune (r : Int) with _ | _
    · refine (indexRune_bad s r h1 hne hv w).mono ?_
      rintro e w' ⟨rfl, rfl⟩
      exact ⟨rfl, Below.refl _ _⟩
    · exact indexRune_wide s hs hasc r h1 hne hv w

theorem decodeN_span (n b0 b1 b2 b3 : Nat) (h : ¬ b0 < 128) : (Lib.decodeN n b0 b1 b2 b3).2 = 1 ∨ ((Lib.decodeN n b0 b1 b2 b3).2 = 2 ∧ 128 ≤ b1) ∨ ((Lib.decodeN n b0 b1 b2 b3).2 = 3 ∧ 128 ≤ b1 ∧ 128 ≤ b2) ∨ ((Lib.decodeN n b0 b1 b2 b3).2 = 4 ∧ 128 ≤ b1 ∧ 128 ≤ b2 ∧ 128 ≤ b3) := by
  unfold Lib.decodeN
  rw [if_neg h]
  repeat' split
  all_goals first
    | exact .inl rfl
    | exact .inr (.inl ⟨rfl, by omega⟩)
    | exact .inr (.inr (.inl ⟨rfl, by omega, by omega⟩))
    | exact .inr (.inr (.inr ⟨rfl, by omega, by omega, by omega⟩))
theorem decode_span (s : ByteArray) (pos : Nat) (h : pos < s.size) (hb : ¬ s[pos].toNat < 128) : 1 ≤ (Utf8.decode s pos).2 ∧ ∀ j (hj : j < s.size), pos ≤ j → j < pos + (Utf8.decode s pos).2 → 128 ≤ s[j].toNat := by
  have e : s.get! pos = s[pos] := get_bang s pos h
  rw [Lib.decode_at, e]
  have hc := decodeN_span (s.size - pos) s[pos].toNat (s.get! (pos + 1)).toNat (s.get! (pos + 2)).toNat (s.get! (pos + 3)).toNat hb
  obtain ⟨K, hK⟩ : ∃ K, (Lib.decodeN (s.size - pos) s[pos].toNat (s.get! (pos + 1)).toNat (s.get! (pos + 2)).toNat (s.get! (pos + 3)).toNat).2 = K := ⟨_, rfl⟩
  rw [hK] at hc ⊢
  refine ⟨by omega, fun j hj h1 h2 => ?_⟩
  have hj' : s[j] = s.get! j := (get_bang s j hj).symm
  rw [hj']
  have : j = pos ∨ j = pos + 1 ∨ j = pos + 2 ∨ j = pos + 3 := by omega
  rcases this with rfl | rfl | rfl | rfl
  · rw [e]; omega
  all_goals omega

/-- Whether a text has one of some bytes. -/
def hasAny (s chars : List UInt8) : Bool := s.any chars.contains

set_option maxRecDepth 1000000 in
set_option maxHeartbeats 4000000 in
theorem indexAny_short (s chars : ByteArray) (hc : chars.size ≤ maxLen) (h2 : 2 ≤ chars.size) (h8 : s.size ≤ 8) (hasc : ∀ b ∈ chars.data.toList, b.toNat < 128) (w : World) :
    Calls Tryd.prog 53 #[.string s, .string chars] w fun e w' => ∃ n : Int, e = .returned (.int .i64 n) ∧ decide (0 ≤ n) = hasAny s.data.toList chars.data.toList ∧ Below w.heap.size w w' := by
  have HA := Lib.hid hasc
  clear hasc
  have hemp : chars.toList.isEmpty = false := by
    rw [Lib.toList_data]
    cases h : chars.data.toList with
    | nil => have := Lib.size_eq chars; rw [h, List.length_nil] at this; omega
    | cons _ _ => rfl
  have hn1 : ((chars.size : Int) == 1) = false := beq_eq_false_iff_ne.2 (by omega)
  have h8z : decide ((8 : Int) < (s.size : Int)) = false := decide_eq_false (by omega)
  have hH := fun (r : Nat) h1 w => indexRune_high chars hc HA.out r h1 w
  have hL := fun (r : Nat) h1 w => indexRune_low chars r h1 w
  go_enter Tryd.func53, Tryd.ntmps53
  go_wp2_with (go_at_call 80; refine (Any.strings_shouldUseASCIISet { sh_lays153 with } _ _).mono ?_; rintro e w' ⟨rfl, hw⟩; rw [hw, h8z])
  subst hw
  go_loopg [] s.size (fun gf wx => ∃ pos : Nat, wx.heap[w'.heap.size]? = some (.stringIter s pos) ∧ Below w'.heap.size w' wx ∧ s.size ≤ pos + gf ∧ ∀ j (hj : j < s.size), j < pos → chars.data.toList.contains s[j] = false)
  case atStart => exact ⟨0, World.iter_heap w' s 0, (Below.refl _ w').alloc (Nat.le_refl _) _, by omega, fun j hj h => by omega⟩
  case round =>
    obtain ⟨pos, hit, hbw, hfu, hall⟩ := hrel
    by_cases hps : pos < s.size
    · obtain ⟨g', rfl⟩ : ∃ g', gk = g' + 1 := ⟨gk - 1, by omega⟩
      have hnx : ∀ ty, (Instr.next (.pointer (some ⟨w'.heap.size, 0, none⟩)) true ty).run Tryd.prog wr = _ := fun ty => Lib.run_next_any_at wr w'.heap.size s pos ty hit hps
      have hhigh := decode_high s pos hps
      have hspan := decode_span s pos hps
      obtain ⟨R, hR⟩ : ∃ R, (Utf8.decode s pos).1 = R := ⟨_, rfl⟩
      obtain ⟨K, hK⟩ : ∃ K, (Utf8.decode s pos).2 = K := ⟨_, rfl⟩
      have hlo := decode_low s pos hps
      rw [hR] at hhigh
      rw [hK] at hspan
      rw [hR, hK] at hnx
      have hit2 := Lib.iterAt_heap wr w'.heap.size s pos (pos + K) hit
      have hbw2 := Lib.below_iterAt hbw (k := w'.heap.size) (Nat.le_refl _) s (pos + K)
      obtain ⟨W, hWd⟩ : ∃ W, wr.iterAt w'.heap.size s (pos + K) = W := ⟨_, rfl⟩
      rw [hWd] at hnx hit2 hbw2
      have Hall := Lib.hid hall
      clear hall
      have hltW : w'.heap.size < W.heap.size := (Array.getElem?_eq_some_iff.1 hit2).1
      by_cases h128 : s[pos].toNat < 128
      · have hl := hlo h128
        rw [hl] at hR hK
        simp only at hR hK
        have cS := hL R (by omega) W
        have hRb : R.toUInt8 = s[pos] := by rw [← hR]; simp
        rw [hRb] at cS
        have hcon := Lib.contains_iff_indexByte chars.data.toList s[pos]
        have HK := Lib.hid hK
        clear hhigh hspan hlo hl hR hK hRb h128
        rcases hin : chars.data.toList.contains s[pos] with _ | _
        · rw [hin] at hcon
          have hlt : ¬ ((0 : Int) ≤ Lib.indexByte chars.data.toList s[pos]) := of_decide_eq_false hcon.symm
          have HI := Lib.hid hin
          clear hcon hin
          go_wp2_with (go_at_call 79; refine cS.mono ?_; rintro e w2 ⟨rfl, rfl⟩)
          go_roundg g'
          case measure => omega
          case rel =>
            refine ⟨pos + K, hit2, hbw2, by have := HK.out; omega, fun j hj h => ?_⟩
            have hk := HK.out
            rcases Nat.lt_or_ge j pos with h1 | h1
            · exact Hall.out j hj h1
            · obtain rfl : j = pos := by omega
              exact HI.out
        · rw [hin] at hcon
          have hge : (0 : Int) ≤ Lib.indexByte chars.data.toList s[pos] := of_decide_eq_true hcon.symm
          have HI := Lib.hid hin
          clear hcon hin
          go_wp2_with (go_at_call 79; refine cS.mono ?_; rintro e w2 ⟨rfl, rfl⟩)
          go_ret
          refine ⟨_, rfl, ?_, hbw2⟩
          have : hasAny s.data.toList chars.data.toList = true := by
            unfold hasAny
            rw [List.any_eq_true]
            exact ⟨s[pos], by rw [get_data s pos hps]; exact List.getElem_mem _, HI.out⟩
          rw [this]; simp
      · have cS := hH R (hhigh h128) W
        obtain ⟨hK1, hsp⟩ := hspan h128
        have HK := Lib.hid hK1
        have HS := Lib.hid hsp
        clear hhigh hlo hR hK h128 hK1 hsp hspan
        go_wp2_with (go_at_call 79; refine cS.mono ?_; rintro e w2 ⟨rfl, hb2⟩)
        go_roundg g'
        case measure => omega
        case rel =>
          refine ⟨pos + K, (hb2.block _ hltW).trans hit2, hbw2.trans (hb2.mono (Nat.le_of_lt hltW)), by have := HK.out; omega, fun j hj h => ?_⟩
          rcases Nat.lt_or_ge j pos with h1 | h1
          · exact Hall.out j hj h1
          · have := HS.out j hj h1 h
            rw [Bool.eq_false_iff]
            intro hc
            have := HA.out s[j] (List.contains_iff_mem.1 hc)
            omega
    · have hnx : ∀ ty, (Instr.next (.pointer (some ⟨w'.heap.size, 0, none⟩)) true ty).run Tryd.prog wr = _ := fun ty => Lib.run_next_end_at wr w'.heap.size s pos ty hit hps
      have Hx : Hid (hasAny s.data.toList chars.data.toList = false) := Lib.hid (by
        unfold hasAny
        rw [List.any_eq_false]
        intro b hb
        obtain ⟨j, hj, rfl⟩ := List.getElem_of_mem hb
        have hj' : j < s.size := by rw [size_data]; exact hj
        have := hall j hj' (by omega)
        rw [get_data s j hj'] at this
        rw [this]; simp)
      clear hall
      go_wp2
      go_ret
      exact ⟨_, rfl, by rw [Hx.out]; rfl, hbw⟩
end Go.Proofs.YtllklgalghmnfaaDoor
namespace Go.Proofs.YtllklgalghmnfaaDoor
open Go.RowKit Str Mem
set_option linter.unusedVariables false
set_option linter.unusedSimpArgs false

set_option maxRecDepth 1000000 in
set_option maxHeartbeats 4000000 in
theorem indexAny_few (s chars : ByteArray) (hc : chars.size ≤ maxLen) (h2 : 2 ≤ chars.size) (h8 : s.size ≤ 8) (hasc : ∀ b ∈ chars.data.toList, b.toNat < 128) (w : World) :
    Calls Tryd.prog 53 #[.string s, .string chars] w fun e w' => e = .returned (.int .i64 (Lib.indexAny s.data.toList chars.data.toList)) ∧ Below w.heap.size w w' := by
  have HA := Lib.hid hasc
  clear hasc
  have hemp : chars.toList.isEmpty = false := by
    rw [Lib.toList_data]
    cases h : chars.data.toList with
    | nil => have := Lib.size_eq chars; rw [h, List.length_nil] at this; omega
    | cons _ _ => rfl
  have hn1 : ((chars.size : Int) == 1) = false := beq_eq_false_iff_ne.2 (by omega)
  have h8z : decide ((8 : Int) < (s.size : Int)) = false := decide_eq_false (by omega)
  have hH := fun (r : Nat) h1 w => indexRune_high chars hc HA.out r h1 w
  have hL := fun (r : Nat) h1 w => indexRune_low chars r h1 w
  go_enter Tryd.func53, Tryd.ntmps53
  go_wp2_with (go_at_call 80; refine (Any.strings_shouldUseASCIISet { sh_lays153 with } _ _).mono ?_; rintro e w' ⟨rfl, hw⟩; rw [hw, h8z])
  subst hw
  go_loopg [] s.size (fun gf wx => ∃ pos : Nat, wx.heap[w'.heap.size]? = some (.stringIter s pos) ∧ Below w'.heap.size w' wx ∧ s.size ≤ pos + gf ∧ ∀ j (hj : j < s.size), j < pos → chars.data.toList.contains s[j] = false)
  case atStart => exact ⟨0, World.iter_heap w' s 0, (Below.refl _ w').alloc (Nat.le_refl _) _, by omega, fun j hj h => by omega⟩
  case round =>
    obtain ⟨pos, hit, hbw, hfu, hall⟩ := hrel
    by_cases hps : pos < s.size
    · obtain ⟨g', rfl⟩ : ∃ g', gk = g' + 1 := ⟨gk - 1, by omega⟩
      have hnx : ∀ ty, (Instr.next (.pointer (some ⟨w'.heap.size, 0, none⟩)) true ty).run Tryd.prog wr = _ := fun ty => Lib.run_next_any_at wr w'.heap.size s pos ty hit hps
      have hhigh := decode_high s pos hps
      have hspan := decode_span s pos hps
      obtain ⟨R, hR⟩ : ∃ R, (Utf8.decode s pos).1 = R := ⟨_, rfl⟩
      obtain ⟨K, hK⟩ : ∃ K, (Utf8.decode s pos).2 = K := ⟨_, rfl⟩
      have hlo := decode_low s pos hps
      rw [hR] at hhigh
      rw [hK] at hspan
      rw [hR, hK] at hnx
      have hit2 := Lib.iterAt_heap wr w'.heap.size s pos (pos + K) hit
      have hbw2 := Lib.below_iterAt hbw (k := w'.heap.size) (Nat.le_refl _) s (pos + K)
      obtain ⟨W, hWd⟩ : ∃ W, wr.iterAt w'.heap.size s (pos + K) = W := ⟨_, rfl⟩
      rw [hWd] at hnx hit2 hbw2
      have Hall := Lib.hid hall
      clear hall
      have hltW : w'.heap.size < W.heap.size := (Array.getElem?_eq_some_iff.1 hit2).1
      by_cases h128 : s[pos].toNat < 128
      · have hl := hlo h128
        rw [hl] at hR hK
        simp only at hR hK
        have cS := hL R (by omega) W
        have hRb : R.toUInt8 = s[pos] := by rw [← hR]; simp
        rw [hRb] at cS
        have hcon := Lib.contains_iff_indexByte chars.data.toList s[pos]
        have HK := Lib.hid hK
        clear hhigh hspan hlo hl hR hK hRb h128
        rcases hin : chars.data.toList.contains s[pos] with _ | _
        · rw [hin] at hcon
          have hlt : ¬ ((0 : Int) ≤ Lib.indexByte chars.data.toList s[pos]) := of_decide_eq_false hcon.symm
          have HI := Lib.hid hin
          clear hcon hin
          go_wp2_with (go_at_call 79; refine cS.mono ?_; rintro e w2 ⟨rfl, rfl⟩)
          go_roundg g'
          case measure => omega
          case rel =>
            refine ⟨pos + K, hit2, hbw2, by have := HK.out; omega, fun j hj h => ?_⟩
            have hk := HK.out
            rcases Nat.lt_or_ge j pos with h1 | h1
            · exact Hall.out j hj h1
            · obtain rfl : j = pos := by omega
              exact HI.out
        · rw [hin] at hcon
          have hge : (0 : Int) ≤ Lib.indexByte chars.data.toList s[pos] := of_decide_eq_true hcon.symm
          have HI := Lib.hid hin
          clear hcon hin
          go_wp2_with (go_at_call 79; refine cS.mono ?_; rintro e w2 ⟨rfl, rfl⟩)
          go_ret
          refine ⟨?_, hbw2⟩
          rw [Lib.indexAny_hit (i := pos) (x := s[pos]) (fun j b hj hb => by
            obtain ⟨hjl, rfl⟩ := List.getElem?_eq_some_iff.1 hb
            have hjs : j < s.size := by rw [size_data]; exact hjl
            have := Hall.out j hjs hj
            rw [get_data s j hjs] at this
            exact this) (by rw [get_data s pos hps]; exact List.getElem?_eq_getElem _) HI.out]
          rfl
      · have cS := hH R (hhigh h128) W
        obtain ⟨hK1, hsp⟩ := hspan h128
        have HK := Lib.hid hK1
        have HS := Lib.hid hsp
        clear hhigh hlo hR hK h128 hK1 hsp hspan
        go_wp2_with (go_at_call 79; refine cS.mono ?_; rintro e w2 ⟨rfl, hb2⟩)
        go_roundg g'
        case measure => omega
        case rel =>
          refine ⟨pos + K, (hb2.block _ hltW).trans hit2, hbw2.trans (hb2.mono (Nat.le_of_lt hltW)), by have := HK.out; omega, fun j hj h => ?_⟩
          rcases Nat.lt_or_ge j pos with h1 | h1
          · exact Hall.out j hj h1
          · have := HS.out j hj h1 h
            rw [Bool.eq_false_iff]
            intro hc
            have := HA.out s[j] (List.contains_iff_mem.1 hc)
            omega
    · have hnx : ∀ ty, (Instr.next (.pointer (some ⟨w'.heap.size, 0, none⟩)) true ty).run Tryd.prog wr = _ := fun ty => Lib.run_next_end_at wr w'.heap.size s pos ty hit hps
      have Hx : Hid (Lib.indexAny s.data.toList chars.data.toList = -1) := Lib.hid (Lib.indexAny_none (fun j b hj hb => by
        obtain ⟨hjl, rfl⟩ := List.getElem?_eq_some_iff.1 hb
        have hjs : j < s.size := by rw [size_data]; exact hjl
        have := hall j hjs (by omega)
        rw [get_data s j hjs] at this
        exact this))
      clear hall
      go_wp2
      go_ret
      exact ⟨by rw [Hx.out]; rfl, hbw⟩

theorem hasAny_iff (chars : List UInt8) : ∀ s : List UInt8, decide (0 ≤ Lib.indexAny s chars) = hasAny s chars
  | [] => rfl
  | b :: l => by
    have ih := hasAny_iff chars l
    have hg := Lib.indexAny_ge chars l
    unfold hasAny at ih ⊢
    rw [List.any_cons, ← ih, Lib.indexAny]
    rcases chars.contains b with _ | _
    · rw [if_neg (by simp)]
      by_cases h : Lib.indexAny l chars = -1
      · rw [h]; rfl
      · rw [if_neg (by simpa using h), Bool.false_or]
        rw [decide_eq_true (by omega), decide_eq_true (by omega)]
    · rw [if_pos rfl]; rfl

theorem ascInfo25 : (Tryd.prog.info? 110).map (fun i => (i.zero, i.size)) = some (some (.agg (Array.replicate 256 (.bool false))), 256) := by kernel_rfl

theorem containsAny_at (s chars : ByteArray) (hs : s.size < 4294967281) (hc : chars.size < 4294967281) (h2 : 2 ≤ chars.size) (hasc : ∀ b ∈ chars.data.toList, b.toNat < 128) (w : World) :
    Calls Tryd.prog 56 #[.string s, .string chars] w fun e w' => e = .returned (.bool (hasAny s.data.toList chars.data.toList)) ∧ Below w.heap.size w w' := by
  have hI : Calls Tryd.prog 53 #[.string s, .string chars] w fun e w' => ∃ n : Int, e = .returned (.int .i64 n) ∧ decide (0 ≤ n) = hasAny s.data.toList chars.data.toList ∧ Below w.heap.size w w' := by
    by_cases h8 : s.size ≤ 8
    · exact indexAny_short s chars (by unfold maxLen; omega) h2 h8 hasc w
    · refine (Any.strings_IndexAny_long sh_lays153 (zero_of_info ascInfo25).1 (zero_of_info ascInfo25).2 s chars w h2 (by omega) hs hc (fun j b hb => hasc b (List.mem_of_getElem? hb))).mono ?_
      rintro e w' ⟨rfl, rfl⟩
      exact ⟨_, rfl, hasAny_iff _ _, ((Below.refl _ w).alloc (Nat.le_refl _) _).alloc (by simp) _⟩
  clear hasc
  go_enter Tryd.func56, Tryd.ntmps56
  go_wp2_with (go_at_call 53; refine hI.mono ?_; rintro e w1 ⟨n, rfl, hn, hb⟩; have HN := Lib.hid hn; clear hn)
  go_ret
  exact ⟨ret_bool HN.out, hb⟩

theorem indexAny_at (s chars : ByteArray) (hc : chars.size ≤ 1000) (h2 : 2 ≤ chars.size) (hs : s.size ≤ 100000) (hasc : ∀ b ∈ chars.data.toList, b.toNat < 128) (w : World) :
    Calls Tryd.prog 53 #[.string s, .string chars] w fun e w' => e = .returned (.int .i64 (Lib.indexAny s.data.toList chars.data.toList)) ∧ Below w.heap.size w w' := by
  by_cases h8 : s.size ≤ 8
  · exact indexAny_few s chars (by unfold maxLen; omega) h2 h8 hasc w
  · refine (Any.strings_IndexAny_long sh_lays153 (zero_of_info ascInfo25).1 (zero_of_info ascInfo25).2 s chars w h2 (by omega) (by omega) (by omega) (fun j b hb => hasc b (List.mem_of_getElem? hb))).mono ?_
    rintro e w' ⟨rfl, rfl⟩
    refine ⟨rfl, ?_⟩
    exact ((Below.refl _ w).alloc (Nat.le_refl _) _).alloc (by simp) _
theorem indexAny_tw (chars : List UInt8) : ∀ (l : List UInt8), Lib.indexAny l chars = if (l.takeWhile fun b => !chars.contains b).length < l.length then (((l.takeWhile fun b => !chars.contains b).length : Nat) : Int) else -1
  | [] => rfl
  | b :: l => by
    have ih := indexAny_tw chars l
    unfold Lib.indexAny
    rw [List.takeWhile_cons, List.length_cons]
    rcases hb : chars.contains b with _ | _
    · rw [if_neg (by simp), ih, Bool.not_false, if_pos rfl, List.length_cons]
      by_cases h : (l.takeWhile fun b => !chars.contains b).length < l.length
      · rw [if_pos h, if_neg (by rw [beq_iff_eq]; omega), if_pos (by omega)]
        push_cast; rfl
      · rw [if_neg h, if_pos (by decide), if_neg (by omega)]
    · rw [if_pos rfl]
      simp
end Go.Proofs.YtllklgalghmnfaaDoor
