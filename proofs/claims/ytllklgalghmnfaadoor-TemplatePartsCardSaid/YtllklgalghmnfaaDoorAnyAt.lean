/- strings.IndexAny: where the first of some ASCII bytes stands in a text. -/
import Derived.Test.YtllklgalghmnfaaDoorAnyWide
import Derived.Test.YtllklgalghmnfaaDoorStrCut
import Derived.Test.YtllklgalghmnfaaDoorTplMem
import Derived.Deep.WholeRow
namespace Go.Proofs.YtllklgalghmnfaaDoor
open Go.RowKit Str Mem
set_option linter.unusedVariables false
set_option linter.unusedSimpArgs false

set_option maxRecDepth 1000000 in
set_option maxHeartbeats 4000000 in
theorem indexAny_few (s chars : ByteArray) (hc : chars.size ≤ maxLen) (h2 : 2 ≤ chars.size) (h8 : s.size ≤ 8) (hasc : ∀ b ∈ chars.data.toList, b.toNat < 128) (w : World) :
    Calls Tryd.prog 53 #[.string s, .string chars] w fun e w' => e = .returned (.int .i64 (Lib.indexAny s.data.toList chars.data.toList)) ∧ Below w.heap.size w w' := by
  have HA := Lib.hid hasc
  clear hasc
  have hemp : chars.toList.isEmpty = false := by
    rw [Lib.toList_data]
    cases h : chars.data.toList with
    | nil => have := Lib.size_eq chars; rw [h, List.length_nil] at this; omega
    | cons _ _ => rfl
  have hn1 : ((chars.size : Int) == 1) = false := beq_eq_false_iff_ne.2 (by omega)
  have h8z : decide ((8 : Int) < (s.size : Int)) = false := decide_eq_false (by omega)
  have hH := fun (r : Nat) h1 w => indexRune_high chars hc HA.out r h1 w
  have hL := fun (r : Nat) h1 w => indexRune_low chars r h1 w
  go_enter Tryd.func53, Tryd.ntmps53
  go_wp2_with (go_at_call 80; refine (Any.strings_shouldUseASCIISet { sh_lays153 with } _ _).mono ?_; rintro e w' ⟨rfl, hw⟩; rw [hw, h8z])
  subst hw
  go_loopg [] s.size (fun gf wx => ∃ pos : Nat, wx.heap[w'.heap.size]? = some (.stringIter s pos) ∧ Below w'.heap.size w' wx ∧ s.size ≤ pos + gf ∧ ∀ j (hj : j < s.size), j < pos → chars.data.toList.contains s[j] = false)
  case atStart => exact ⟨0, World.iter_heap w' s 0, (Below.refl _ w').alloc (Nat.le_refl _) _, by omega, fun j hj h => by omega⟩
  case round =>
    obtain ⟨pos, hit, hbw, hfu, hall⟩ := hrel
    by_cases hps : pos < s.size
    · obtain ⟨g', rfl⟩ : ∃ g', gk = g' + 1 := ⟨gk - 1, by omega⟩
      have hnx : ∀ ty, (Instr.next (.pointer (some ⟨w'.heap.size, 0, none⟩)) true ty).run Tryd.prog wr = _ := fun ty => Lib.run_next_any_at wr w'.heap.size s pos ty hit hps
      have hhigh := decode_high s pos hps
      have hspan := decode_span s pos hps
      obtain ⟨R, hR⟩ : ∃ R, (Utf8.decode s pos).1 = R := ⟨_, rfl⟩
      obtain ⟨K, hK⟩ : ∃ K, (Utf8.decode s pos).2 = K := ⟨_, rfl⟩
      have hlo := decode_low s pos hps
      rw [hR] at hhigh
      rw [hK] at hspan
      rw [hR, hK] at hnx
      have hit2 := Lib.iterAt_heap wr w'.heap.size s pos (pos + K) hit
      have hbw2 := Lib.below_iterAt hbw (k := w'.heap.size) (Nat.le_refl _) s (pos + K)
      obtain ⟨W, hWd⟩ : ∃ W, wr.iterAt w'.heap.size s (pos + K) = W := ⟨_, rfl⟩
      rw [hWd] at hnx hit2 hbw2
      have Hall := Lib.hid hall
      clear hall
      have hltW : w'.heap.size < W.heap.size := (Array.getElem?_eq_some_iff.1 hit2).1
      by_cases h128 : s[pos].toNat < 128
      · have hl := hlo h128
        rw [hl] at hR hK
        simp only at hR hK
        have cS := hL R (by omega) W
        have hRb : R.toUInt8 = s[pos] := by rw [← hR]; simp
        rw [hRb] at cS
        have hcon := Lib.contains_iff_indexByte chars.data.toList s[pos]
        have HK := Lib.hid hK
        clear hhigh hspan hlo hl hR hK hRb h128
        rcases hin : chars.data.toList.contains s[pos] with _ | _
        · rw [hin] at hcon
          have hlt : ¬ ((0 : Int) ≤ Lib.indexByte chars.data.toList s[pos]) := of_decide_eq_false hcon.symm
          have HI := Lib.hid hin
          clear hcon hin
          go_wp2_with (go_at_call 79; refine cS.mono ?_; rintro e w2 ⟨rfl, rfl⟩)
          go_roundg g'
          case measure => omega
          case rel =>
            refine ⟨pos + K, hit2, hbw2, by have := HK.out; omega, fun j hj h => ?_⟩
            have hk := HK.out
            rcases Nat.lt_or_ge j pos with h1 | h1
            · exact Hall.out j hj h1
            · obtain rfl : j = pos := by omega
              exact HI.out
        · rw [hin] at hcon
          have hge : (0 : Int) ≤ Lib.indexByte chars.data.toList s[pos] := of_decide_eq_true hcon.symm
          have HI := Lib.hid hin
          clear hcon hin
          go_wp2_with (go_at_call 79; refine cS.mono ?_; rintro e w2 ⟨rfl, rfl⟩)
          go_ret
          refine ⟨?_, hbw2⟩
          rw [Lib.indexAny_hit (i := pos) (x := s[pos]) (fun j b hj hb => by
            obtain ⟨hjl, rfl⟩ := List.getElem?_eq_some_iff.1 hb
            have hjs : j < s.size := by rw [size_data]; exact hjl
            have := Hall.out j hjs hj
            rw [get_data s j hjs] at this
            exact this) (by rw [get_data s pos hps]; exact List.getElem?_eq_getElem _) HI.out]
          rfl
      · have cS := hH R (hhigh h128) W
        obtain ⟨hK1, hsp⟩ := hspan h128
        have HK := Lib.hid hK1
        have HS := Lib.hid hsp
        clear hhigh hlo hR hK h128 hK1 hsp hspan
        go_wp2_with (go_at_call 79; refine cS.mono ?_; rintro e w2 ⟨rfl, hb2⟩)
        go_roundg g'
        case measure => omega
        case rel =>
          refine ⟨pos + K, (hb2.block _ hltW).trans hit2, hbw2.trans (hb2.mono (Nat.le_of_lt hltW)), by have := HK.out; omega, fun j hj h => ?_⟩
          rcases Nat.lt_or_ge j pos with h1 | h1
          · exact Hall.out j hj h1
          · have := HS.out j hj h1 h
            rw [Bool.eq_false_iff]
            intro hc
            have := HA.out s[j] (List.contains_iff_mem.1 hc)
            omega
    · have hnx : ∀ ty, (Instr.next (.pointer (some ⟨w'.heap.size, 0, none⟩)) true ty).run Tryd.prog wr = _ := fun ty => Lib.run_next_end_at wr w'.heap.size s pos ty hit hps
      have Hx : Hid (Lib.indexAny s.data.toList chars.data.toList = -1) := Lib.hid (Lib.indexAny_none (fun j b hj hb => by
        obtain ⟨hjl, rfl⟩ := List.getElem?_eq_some_iff.1 hb
        have hjs : j < s.size := by rw [size_data]; exact hjl
        have := hall j hjs (by omega)
        rw [get_data s j hjs] at this
        exact this))
      clear hall
      go_wp2
      go_ret
      exact ⟨by rw [Hx.out]; rfl, hbw⟩

theorem hasAny_iff (chars : List UInt8) : ∀ s : List UInt8, decide (0 ≤ Lib.indexAny s chars) = hasAny s chars
  | [] => rfl
  | b :: l => by
    have ih := hasAny_iff chars l
    have hg := Lib.indexAny_ge chars l
    unfold hasAny at ih ⊢
    rw [List.any_cons, ← ih, Lib.indexAny]
    rcases chars.contains b with _ | _
    · rw [if_neg (by simp)]
      by_cases h : Lib.indexAny l chars = -1
      · rw [h]; rfl
      · rw [if_neg (by simpa using h), Bool.false_or]
        rw [decide_eq_true (by omega), decide_eq_true (by omega)]
    · rw [if_pos rfl]; rfl

theorem ascInfo25 : (Tryd.prog.info? 110).map (fun i => (i.zero, i.size)) = some (some (.agg (Array.replicate 256 (.bool false))), 256) := by kernel_rfl

theorem containsAny_at (s chars : ByteArray) (hs : s.size < 4294967281) (hc : chars.size < 4294967281) (h2 : 2 ≤ chars.size) (hasc : ∀ b ∈ chars.data.toList, b.toNat < 128) (w : World) :
    Calls Tryd.prog 56 #[.string s, .string chars] w fun e w' => e = .returned (.bool (hasAny s.data.toList chars.data.toList)) ∧ Below w.heap.size w w' := by
  have hI : Calls Tryd.prog 53 #[.string s, .string chars] w fun e w' => ∃ n : Int, e = .returned (.int .i64 n) ∧ decide (0 ≤ n) = hasAny s.data.toList chars.data.toList ∧ Below w.heap.size w w' := by
    by_cases h8 : s.size ≤ 8
    · exact indexAny_short s chars (by unfold maxLen; omega) h2 h8 hasc w
    · refine (Any.strings_IndexAny_long sh_lays153 (zero_of_info ascInfo25).1 (zero_of_info ascInfo25).2 s chars w h2 (by omega) hs hc (fun j b hb => hasc b (List.mem_of_getElem? hb))).mono ?_
      rintro e w' ⟨rfl, rfl⟩
      exact ⟨_, rfl, hasAny_iff _ _, ((Below.refl _ w).alloc (Nat.le_refl _) _).alloc (by simp) _⟩
  clear hasc
  go_enter Tryd.func56, Tryd.ntmps56
  go_wp2_with (go_at_call 53; refine hI.mono ?_; rintro e w1 ⟨n, rfl, hn, hb⟩; have HN := Lib.hid hn; clear hn)
  go_ret
  exact ⟨ret_bool HN.out, hb⟩

theorem indexAny_at (s chars : ByteArray) (hc : chars.size ≤ 1000) (h2 : 2 ≤ chars.size) (hs : s.size ≤ 100000) (hasc : ∀ b ∈ chars.data.toList, b.toNat < 128) (w : World) :
    Calls Tryd.prog 53 #[.string s, .string chars] w fun e w' => e = .returned (.int .i64 (Lib.indexAny s.data.toList chars.data.toList)) ∧ Below w.heap.size w w' := by
  by_cases h8 : s.size ≤ 8
  · exact indexAny_few s chars (by unfold maxLen; omega) h2 h8 hasc w
  · refine (Any.strings_IndexAny_long sh_lays153 (zero_of_info ascInfo25).1 (zero_of_info ascInfo25).2 s chars w h2 (by omega) (by omega) (by omega) (fun j b hb => hasc b (List.mem_of_getElem? hb))).mono ?_
    rintro e w' ⟨rfl, rfl⟩
    refine ⟨rfl, ?_⟩
    exact ((Below.refl _ w).alloc (Nat.le_refl _) _).alloc (by simp) _
theorem indexAny_tw (chars : List UInt8) : ∀ (l : List UInt8), Lib.indexAny l chars = if (l.takeWhile fun b => !chars.contains b).length < l.length then (((l.takeWhile fun b => !chars.contains b).length : Nat) : Int) else -1
  | [] => rfl
  | b :: l => by
    have ih := indexAny_tw chars l
    unfold Lib.indexAny
    rw [List.takeWhile_cons, List.length_cons]
    rcases hb : chars.contains b with _ | _
    · rw [if_neg (by simp), ih, Bool.not_false, if_pos rfl, List.length_cons]
      by_cases h : (l.takeWhile fun b => !chars.contains b).length < l.length
      · rw [if_pos h, if_neg (by rw [beq_iff_eq]; omega), if_pos (by omega)]
        push_cast; rfl
      · rw [if_neg h, if_pos (by decide), if_neg (by omega)]
    · rw [if_pos rfl]
      simp
end Go.Proofs.YtllklgalghmnfaaDoor
