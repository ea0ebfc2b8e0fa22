/- Small facts on strings as lists of bytes: no program in sight. -/
import Derived.Lib.Strings
import Derived.Lib.Bytealg
import Derived.Calls
import Derived.Test.YtefilalapkdegaaChecked
import Derived.WalkKit
import Derived.WalkLawsBesides
import Derived.WalkSpells
import Derived.Lib.Hide
import Derived.Deep.QuietTactic
import Derived.BigQuiet
import Derived.Test.YtefilalapkdegaaMem
import Derived.Lib.OthersKept
import Derived.Lib.TrimU
import Derived.Lib.SpaceUEq
import Derived.Deep.LoopGhost
import Derived.Shelf.Abstract
namespace Go.Proofs.Ytefilalapkdegaa.Str

theorem ret_bool {a b : Bool} (h : a = b) : Ending.returned (.bool a) = .returned (.bool b) := by rw [h]
theorem ret_int {k : IntKind} {a b : Int} (h : a = b) : Ending.returned (.int k a) = .returned (.int k b) := by rw [h]
theorem ret_str {a b : ByteArray} (h : a = b) : Ending.returned (.string a) = .returned (.string b) := by rw [h]

/-- a list of bytes as Go's string -/
abbrev bs (l : List UInt8) : ByteArray := ⟨l.toArray⟩

theorem bs_data (s : ByteArray) : bs s.data.toList = s := Lib.mk_data s
theorem data_bs (l : List UInt8) : (bs l).data.toList = l := rfl
theorem size_bs (l : List UInt8) : (bs l).size = l.length := rfl
theorem size_data (s : ByteArray) : s.size = s.data.toList.length := Lib.size_eq s
theorem toList_data (s : ByteArray) : s.toList = s.data.toList := Lib.toList_data s

theorem eq_of_data {s t : ByteArray} (h : s.data.toList = t.data.toList) : s = t := by
  rw [← bs_data s, ← bs_data t, h]

theorem size_pos {s : ByteArray} (h : s.toList ≠ []) : 0 < s.size := by
  rw [toList_data] at h
  rw [size_data]
  exact List.length_pos_iff.2 h

theorem get_data (s : ByteArray) (i : Nat) (h : i < s.size) : s[i] = s.data.toList[i]'(by rw [← size_data]; exact h) := rfl

theorem head_data (s : ByteArray) (h : 0 < s.size) : s.data.toList.head? = some s[0] := by
  rw [get_data s 0 h, List.head?_eq_getElem?, List.getElem?_eq_getElem]

theorem get_opt (s : ByteArray) (i : Nat) (h : i < s.size) : s.data.toList[i]? = some s[i] := by
  rw [get_data s i h, List.getElem?_eq_getElem]

theorem extract_data (s : ByteArray) (a b : Nat) : (s.extract a b).data.toList = (s.data.toList.drop a).take (b - a) := Lib.extract_data s a b
theorem extract_to (s : ByteArray) (b : Nat) : (s.extract 0 b).data.toList = s.data.toList.take b := by rw [extract_data]; simp
theorem extract_from (s : ByteArray) (a : Nat) : (s.extract a s.size).data.toList = s.data.toList.drop a := by
  rw [extract_data, size_data]
  exact List.take_of_length_le (by rw [List.length_drop]; omega)

theorem append_data (s t : ByteArray) : (s ++ t).data.toList = s.data.toList ++ t.data.toList := by
  rw [ByteArray.data_append]; simp

theorem ret_bool2 {a b : Bool} {x : Value} (h : a = b) : Ending.returned (.tuple #[.bool a, x]) = .returned (.tuple #[.bool b, x]) := by rw [h]

/-- a byte is there, or it is not -/
theorem index_cases (c : UInt8) : ∀ (l : List UInt8), (∃ a t, l = a ++ c :: t ∧ c ∉ a ∧ Lib.indexByte l c = (a.length : Int)) ∨ (c ∉ l ∧ Lib.indexByte l c = -1)
  | [] => .inr ⟨by simp, rfl⟩
  | b :: l => by
    by_cases hb : b = c
    · subst hb
      exact .inl ⟨[], l, rfl, by simp, by simp [Lib.indexByte]⟩
    · have hb' : (b == c) = false := by simpa using hb
      rcases index_cases c l with ⟨a, t, rfl, ha, hi⟩ | ⟨hn, hi⟩
      · refine .inl ⟨b :: a, t, rfl, by simp [ha, Ne.symm hb], ?_⟩
        unfold Lib.indexByte
        rw [hb', hi]
        have : ((a.length : Int) == -1) = false := by rw [beq_eq_false_iff_ne]; omega
        simp [this]
      · refine .inr ⟨by simp [hn, Ne.symm hb], ?_⟩
        unfold Lib.indexByte
        rw [hb', hi]
        simp

theorem index_le (c : UInt8) (l : List UInt8) : Lib.indexByte l c ≤ l.length := by
  rcases index_cases c l with ⟨a, t, rfl, _, hi⟩ | ⟨_, hi⟩ <;> rw [hi]
  · simp; omega
  · omega

end Go.Proofs.Ytefilalapkdegaa.Str
namespace Go.Proofs.Ytefilalapkdegaa
open Go.RowKit Str
set_option linter.unusedVariables false
set_option linter.unusedSimpArgs false

theorem infoStr : (Try.prog.info? 9).map (fun i => (i.zero, i.size, i.bytes)) = some (some (.string ⟨#[]⟩), 1, 16) := by kernel_rfl

theorem callIndexByteString (s : ByteArray) (c : Int) (w : World) : (callFunc 122 #[.string s, .int .u8 c]).run Try.prog w = .ok (.value (.int .i64 (Lib.indexByte s.data.toList c.toNat.toUInt8))) w := by
  rw [run_callFunc_extern (e := Extern.BytealgIndexByte.indexByte) Try.func122 (by kernel_rfl) (by kernel_rfl) (by kernel_rfl) (by kernel_rfl), Lib.run_indexByteString]; rfl

theorem indexByte_any (s : ByteArray) (c : Int) (w : World) : Calls Try.prog 120 #[.string s, .int .u8 c] w fun e w' => e = .returned (.int .i64 (Lib.indexByte s.data.toList c.toNat.toUInt8)) ∧ w = w' := by
  have h := callIndexByteString s c
  go_enter Try.func120, Try.ntmps120
  go_wp2
  go_ret
  exact ⟨rfl, rfl⟩

/-- strings.Index at a text of one byte. -/
theorem index1_any (s : ByteArray) (c : UInt8) (w : World) : Calls Try.prog 113 #[.string s, .string ⟨#[c]⟩] w fun e w' => e = .returned (.int .i64 (Lib.indexByte s.data.toList c)) ∧ w = w' := by
  go_enter Try.func113, Try.ntmps113
  go_wp2_with (go_at_call 120; refine (indexByte_any s _ w).mono ?_; rintro e w' ⟨rfl, rfl⟩)
  all_goals go_ret
  · have h : [c] = s.toList := by simpa using ‹([c] == s.toList) = true›
    refine ⟨ret_int ?_, rfl⟩
    rw [toList_data] at h
    rw [← h]; simp [Lib.indexByte]
  · exact ⟨rfl, rfl⟩

/-- strings.Cut at a byte that is there. -/
theorem cutIn_hit (s : ByteArray) (k : Nat) (hs : s.size ≤ maxLen) (hk : k < s.size) (hi : Hid (Lib.indexByte s.data.toList 47 = (k : Int))) (w : World) :
    Calls Try.prog 103 #[.string s, .string ⟨#[47]⟩] w fun e w' => e = .returned (.tuple #[.string (s.extract 0 k), .string (s.extract (k + 1) s.size), .bool true]) ∧ ∃ n, w' = w.drewN n := by
  unfold maxLen at hs
  have e1 : IntKind.i64.wrap ((k : Int) + 1) = (k : Int) + 1 := IntWalk.i64_in _ (by omega)
  have e2 : ((k : Int) + 1).toNat = k + 1 := by omega
  go_enter Try.func103, Try.ntmps103
  go_wp2_with (go_at_call 113; refine (index1_any s 47 w).mono ?_; rintro e w' ⟨rfl, rfl⟩; rw [hi.out])
  go_quiet (fail)
  go_wp2
  go_ret3
  exact ⟨rfl, _, rfl⟩

theorem cut_hit (s : ByteArray) (k : Nat) (hs : s.size ≤ maxLen) (hk : k < s.size) (hi : Hid (Lib.indexByte s.data.toList 47 = (k : Int))) (w : World) :
    Calls Try.prog 85 #[.string s, .string ⟨#[47]⟩] w fun e w' => e = .returned (.tuple #[.string (s.extract 0 k), .string (s.extract (k + 1) s.size), .bool true]) ∧ ∃ n, w' = w.drewN n := by
  go_enter Try.func85, Try.ntmps85
  go_wp2_with (go_at_call 103; refine (cutIn_hit s k hs hk hi w).mono ?_; rintro e w' ⟨rfl, n, rfl⟩)
  go_ret3
  exact ⟨rfl, _, rfl⟩

/-- .. and at one that is not. -/
theorem cutIn_miss (s : ByteArray) (hi : Hid (Lib.indexByte s.data.toList 47 = -1)) (w : World) :
    Calls Try.prog 103 #[.string s, .string ⟨#[47]⟩] w fun e w' => e = .returned (.tuple #[.string s, .string ⟨#[]⟩, .bool false]) ∧ w = w' := by
  go_enter Try.func103, Try.ntmps103
  go_wp2_with (go_at_call 113; refine (index1_any s 47 w).mono ?_; rintro e w' ⟨rfl, rfl⟩; rw [hi.out])
  go_ret3
  exact ⟨rfl, rfl⟩

theorem cut_miss (s : ByteArray) (hi : Hid (Lib.indexByte s.data.toList 47 = -1)) (w : World) :
    Calls Try.prog 85 #[.string s, .string ⟨#[47]⟩] w fun e w' => e = .returned (.tuple #[.string s, .string ⟨#[]⟩, .bool false]) ∧ ∃ n, w' = w.drewN n := by
  go_enter Try.func85, Try.ntmps85
  go_wp2_with (go_at_call 103; refine (cutIn_miss s hi w).mono ?_; rintro e w' ⟨rfl, rfl⟩)
  go_ret3
  exact ⟨rfl, 0, rfl⟩

theorem hasSuffix_any (s p : ByteArray) (hs : s.size ≤ maxLen) (hp : p.size ≤ maxLen) (w : World) :
    Calls Try.prog 59 #[.string s, .string p] w fun e w' => e = .returned (.bool (p.data.toList.isSuffixOf s.data.toList)) ∧ w = w' := by
  unfold maxLen at hs hp
  have H := Lib.hid (Lib.hasSuffix_raw s p)
  unfold Lib.hasSuffix at H
  go_enter Try.func59, Try.ntmps59
  go_wp2_with go_in
  all_goals go_ret
  all_goals refine ⟨ret_bool ?_, rfl⟩
  all_goals rw [← H.out]
  all_goals first | (simp_all; done) | (simp; intro hx; omega)

theorem trimSuffix_any (s p : ByteArray) (hs : s.size ≤ maxLen) (hp : p.size ≤ maxLen) (w : World) :
    Calls Try.prog 65 #[.string s, .string p] w fun e w' => e = .returned (.string (bs (Lib.trimSuffix s.data.toList p.data.toList))) ∧ w = w' := by
  unfold maxLen at hs hp
  go_enter Try.func65, Try.ntmps65
  go_wp2_with go_in
  all_goals go_ret
  all_goals refine ⟨?_, rfl⟩
  all_goals first
    | exact ret_str (Lib.trimSuffix_hit s p ‹_› ‹_›).symm
    | exact ret_str (Lib.trimSuffix_miss s p (by first | (simp_all; done) | (simp; intro hx; omega))).symm

/-- strings.Contains at a text of one byte. -/
theorem contains1_any (s : ByteArray) (c : UInt8) (w : World) :
    Calls Try.prog 91 #[.string s, .string ⟨#[c]⟩] w fun e w' => e = .returned (.bool (s.data.toList.contains c)) ∧ w = w' := by
  go_enter Try.func91, Try.ntmps91
  go_wp2_with (first | (go_at_call 113; refine (index1_any s c w).mono ?_; rintro e w' ⟨rfl, rfl⟩) | go_in)
  all_goals go_ret
  all_goals refine ⟨ret_bool ?_, rfl⟩
  all_goals rcases index_cases c s.data.toList with ⟨a, t, he, ha, hi⟩ | ⟨hn, hi⟩
  · have : s.data.toList.contains c = true := by rw [he]; simp
    rw [this]; simp [hi]
  · have : s.data.toList.contains c = false := by simpa using hn
    rw [this]; simp [hi]

end Go.Proofs.Ytefilalapkdegaa
namespace Go.Proofs.Ytefilalapkdegaa
open Go.RowKit Str Mem
set_option linter.unusedVariables false
set_option linter.unusedSimpArgs false

theorem get_bang (s : ByteArray) (pos : Nat) (h : pos < s.size) : s.get! pos = s[pos] := by cases s with | mk d => exact getElem!_pos d pos h
theorem below_dn {B : Nat} {a w : World} (h : Below B a w) (q : Nat) : Below B a (w.drewN q) := ⟨h.os, h.tape, h.output, h.size, h.block⟩
theorem decode_low (s : ByteArray) (pos : Nat) (h : pos < s.size) (hb : s[pos].toNat < 128) : Utf8.decode s pos = (s[pos].toNat, 1) := by
  rw [Lib.decode_at]
  have : s.get! pos = s[pos] := get_bang s pos h
  rw [this]
  unfold Lib.decodeN
  rw [if_pos hb]
theorem decode_high (s : ByteArray) (pos : Nat) (h : pos < s.size) (hb : ¬ s[pos].toNat < 128) : 128 ≤ (Utf8.decode s pos).1 := by
  rw [Lib.decode_at]
  have : s.get! pos = s[pos] := get_bang s pos h
  rw [this]
  rcases Lib.decodeN_cases (s.size - pos) s[pos].toNat (s.get! (pos + 1)).toNat (s.get! (pos + 2)).toNat (s.get! (pos + 3)).toNat with h1 | h1 | h1 | h1 | h1
  · omega
  · rw [h1.2.2.2.2]; exact h1.2.2.2.1
  · rw [h1.2.2.2.2.2]; have := h1.2.2.2.2.1; show 128 ≤ _; omega
  · omega
  · rw [h1]; show 128 ≤ 65533; omega

/-- What is asked of the function value. -/
def RunePred (g : Nat) (lb : Array Value) (p : Nat → Bool) (w : World) : Prop :=
  ∀ (W : World) (r : Nat), Below w.heap.size w W → Calls Try.prog g (#[.int .i32 (r : Int)] ++ lb) W fun e w' => e = .returned (.bool (p r)) ∧ ∃ q, w' = W.drewN q

def IdxPost (p : Nat → Bool) (s : ByteArray) (w : World) (e : Ending) (w' : World) : Prop :=
  ∃ n : Int, e = .returned (.int .i64 n) ∧ (decide (0 ≤ n) = s.data.toList.any fun b => p b.toNat) ∧ Below w.heap.size w w'

theorem any_at {s : ByteArray} {p : Nat → Bool} {pos : Nat} (h : pos < s.size) (hp : p s[pos].toNat = true) : (s.data.toList.any fun b => p b.toNat) = true := by
  rw [List.any_eq_true]
  exact ⟨s[pos], by rw [get_data s pos h]; exact List.getElem_mem _, hp⟩
theorem any_none {s : ByteArray} {p : Nat → Bool} (h : ∀ j (hj : j < s.size), p s[j].toNat = false) : (s.data.toList.any fun b => p b.toNat) = false := by
  rw [List.any_eq_false]
  intro b hb
  obtain ⟨j, hj, rfl⟩ := List.getElem_of_mem hb
  have hj' : j < s.size := by rw [size_data]; exact hj
  have := h j hj'
  rw [get_data s j hj'] at this
  rw [this]; simp

set_option maxHeartbeats 2000000 in
theorem runeIndex_any (g : Nat) (lb : Array Value) (eg : ∀ args w, (callFunc g args).run Try.prog w = .ok (.enter g args) w) (p : Nat → Bool) (hbig : ∀ r, 128 ≤ r → p r = true) (s : ByteArray) (w : World) (hp : RunePred g lb p w) :
    Calls Try.prog 112 #[.string s, .func (.func g) #[] lb, .bool true] w fun e w' => IdxPost p s w e w' := by
  have hbig := Lib.hid hbig
  go_enter Try.func112, Try.ntmps112
  go_wp2
  go_loopg [] s.size (fun gf wx => ∃ pos : Nat, wx.heap[w.heap.size]? = some (.stringIter s pos) ∧ Below w.heap.size w wx ∧ s.size ≤ pos + gf ∧ ∀ j (hj : j < s.size), j < pos → p s[j].toNat = false)
  case atStart => exact ⟨0, World.iter_heap w s 0, (Below.refl _ w).alloc (Nat.le_refl _) _, by omega, fun j hj h => by omega⟩
  case round =>
    obtain ⟨pos, hit, hbw, hfu, hall⟩ := hrel
    by_cases hps : pos < s.size
    · obtain ⟨g', rfl⟩ : ∃ g', gk = g' + 1 := ⟨gk - 1, by omega⟩
      have hnx : ∀ ty, (Instr.next (.pointer (some ⟨w.heap.size, 0, none⟩)) true ty).run Try.prog wr = _ := fun ty => Lib.run_next_any_at wr w.heap.size s pos ty hit hps
      have hhit := fun h => any_at (p := p) hps h
      have hlo := decode_low s pos hps
      have hhi := decode_high s pos hps
      obtain ⟨b, hb⟩ : ∃ b, b = s[pos].toNat := ⟨_, rfl⟩
      rw [← hb] at hhit hlo hhi
      obtain ⟨R, hR⟩ : ∃ R, (Utf8.decode s pos).1 = R := ⟨_, rfl⟩
      obtain ⟨K, hK⟩ : ∃ K, (Utf8.decode s pos).2 = K := ⟨_, rfl⟩
      have hcase : (p R = true ∧ p b = true) ∨ (p R = false ∧ K = 1 ∧ p b = false) := by
        by_cases h128 : b < 128
        · have hl := hlo h128
          rw [hl] at hR hK
          simp only at hR hK
          subst hR
          rcases hpb : p b with _ | _
          · exact .inr ⟨rfl, hK.symm, rfl⟩
          · exact .inl ⟨rfl, rfl⟩
        · have h2 := hhi h128
          rw [hR] at h2
          exact .inl ⟨hbig.out R h2, hbig.out b (by omega)⟩
      have Hhit := Lib.hid hhit
      clear hlo hhi hhit
      rw [hR, hK] at hnx
      have hit2 := Lib.iterAt_heap wr w.heap.size s pos (pos + K) hit
      have hbw2 := Lib.below_iterAt hbw (k := w.heap.size) (Nat.le_refl _) s (pos + K)
      obtain ⟨W, hWd⟩ : ∃ W, wr.iterAt w.heap.size s (pos + K) = W := ⟨_, rfl⟩
      rw [hWd] at hnx hit2 hbw2
      have cS : Calls Try.prog g (#[.int .i32 (R : Int)] ++ lb) W _ := hp W R hbw2
      have Hall := Lib.hid hall
      have Hb := Lib.hid hb
      clear hp hR hK hall hb
      rcases hcase with ⟨hpR, hpb⟩ | ⟨hpR, hK1, hpb⟩
      · have Hx := Lib.hid (Hhit.out hpb)
        rw [hpR] at cS
        clear hpR hpb
        go_wp2_with (go_at_fn g; refine cS.mono ?_; rintro e W' ⟨rfl, q, rfl⟩)
        go_ret
        exact ⟨_, rfl, by rw [Hx.out]; simp, below_dn hbw2 q⟩
      · have Hpb := Lib.hid hpb
        have HK := Lib.hid hK1
        rw [hpR] at cS
        clear hpR hpb hK1
        go_wp2_with (go_at_fn g; refine cS.mono ?_; rintro e W' ⟨rfl, q, rfl⟩)
        go_roundg g'
        case measure => omega
        case rel =>
          refine ⟨pos + K, hit2, below_dn hbw2 q, by have := HK.out; omega, fun j hj h => ?_⟩
          have hk := HK.out
          rcases Nat.lt_or_ge j pos with h1 | h1
          · exact Hall.out j hj h1
          · obtain rfl : j = pos := by omega
            rw [← Hb.out]; exact Hpb.out
    · have hnx : ∀ ty, (Instr.next (.pointer (some ⟨w.heap.size, 0, none⟩)) true ty).run Try.prog wr = _ := fun ty => Lib.run_next_end_at wr w.heap.size s pos ty hit hps
      have Hx := Lib.hid (any_none (s := s) (p := p) fun j hj => hall j hj (by omega))
      clear hall
      go_wp2
      go_ret
      exact ⟨_, rfl, by rw [Hx.out]; rfl, hbw⟩

theorem containsFunc_any (g : Nat) (lb : Array Value) (eg : ∀ args w, (callFunc g args).run Try.prog w = .ok (.enter g args) w) (p : Nat → Bool) (hbig : ∀ r, 128 ≤ r → p r = true) (s : ByteArray) (w : World) (hp : RunePred g lb p w) :
    Calls Try.prog 72 #[.string s, .func (.func g) #[] lb] w fun e w' => e = .returned (.bool (s.data.toList.any fun b => p b.toNat)) ∧ Below w.heap.size w w' := by
  have hq := runeIndex_any g lb eg p hbig s w hp
  have hI : Calls Try.prog 101 #[.string s, .func (.func g) #[] lb] w fun e w' => IdxPost p s w e w' := by
    clear hbig hp
    go_enter Try.func101, Try.ntmps101
    go_wp2_with (go_at_call 112; refine hq.mono ?_; rintro e w1 ⟨n, rfl, hn, hb⟩; have HN := Lib.hid hn; clear hn)
    go_ret
    exact ⟨n, rfl, HN.out, hb⟩
  clear hbig hp hq
  go_enter Try.func72, Try.ntmps72
  go_wp2_with (go_at_call 101; refine hI.mono ?_; rintro e w1 ⟨n, rfl, hn, hb⟩; have HN := Lib.hid hn; clear hn)
  go_ret
  exact ⟨ret_bool HN.out, hb⟩

end Go.Proofs.Ytefilalapkdegaa
namespace Go.Proofs.Ytefilalapkdegaa
open Go.RowKit Str
set_option linter.unusedVariables false
set_option linter.unusedSimpArgs false

theorem prefIn_any (s p : ByteArray) (hs : s.size ≤ maxLen) (hp : p.size ≤ maxLen) (w : World) :
    Calls Try.prog 119 #[.string s, .string p] w fun e w' => e = .returned (.bool (p.data.toList.isPrefixOf s.data.toList)) ∧ w = w' := by
  unfold maxLen at hs hp
  have H := Lib.hid (Lib.hasPrefix_raw s p)
  unfold Lib.hasPrefix at H
  go_enter Try.func119, Try.ntmps119
  go_wp2
  all_goals go_ret
  all_goals refine ⟨ret_bool ?_, rfl⟩
  all_goals rw [← H.out]
  all_goals first | (simp_all; done) | (simp; intro hx; omega)

theorem sufIn_any (s p : ByteArray) (hs : s.size ≤ maxLen) (hp : p.size ≤ maxLen) (w : World) :
    Calls Try.prog 87 #[.string s, .string p] w fun e w' => e = .returned (.bool (p.data.toList.isSuffixOf s.data.toList)) ∧ w = w' := by
  unfold maxLen at hs hp
  have H := Lib.hid (Lib.hasSuffix_raw s p)
  unfold Lib.hasSuffix at H
  go_enter Try.func87, Try.ntmps87
  go_wp2
  all_goals go_ret
  all_goals refine ⟨ret_bool ?_, rfl⟩
  all_goals rw [← H.out]
  all_goals first | (simp_all; done) | (simp; intro hx; omega)

theorem pref1 (c : UInt8) (l : List UInt8) : [c].isPrefixOf l = (l.head? == some c) := by
  cases l with
  | nil => rfl
  | cons a t => simp [List.isPrefixOf, BEq.comm]
theorem suf1 (c : UInt8) (l : List UInt8) : [c].isSuffixOf l = (l.getLast? == some c) := by
  unfold List.isSuffixOf
  rw [List.reverse_singleton, pref1, List.head?_reverse]

/-- What CutPrefix and CutSuffix leave. -/
def cutP (c : UInt8) (l : List UInt8) : List UInt8 := if l.head? == some c then l.drop 1 else l
def cutS (c : UInt8) (l : List UInt8) : List UInt8 := if l.getLast? == some c then l.dropLast else l

theorem cutPrefix_any (s : ByteArray) (c : UInt8) (hs : s.size ≤ maxLen) (w : World) :
    Calls Try.prog 98 #[.string s, .string ⟨#[c]⟩] w fun e w' => e = .returned (.tuple #[.string (bs (cutP c s.data.toList)), .bool (s.data.toList.head? == some c)]) ∧ w = w' := by
  have hq := fun w => prefIn_any s ⟨#[c]⟩ hs (by show 1 ≤ maxLen; simp [maxLen]) w
  simp only [pref1] at hq
  unfold cutP
  rcases hb : (s.data.toList.head? == some c) with _ | _
  · rw [hb] at hq
    rw [if_neg (by simp), bs_data]
    clear hb
    unfold maxLen at hs
    go_enter Try.func98, Try.ntmps98
    go_wp2_with (first | (go_at_call 119; refine (hq _).mono ?_; rintro e w1 ⟨rfl, rfl⟩) | go_in)
    go_ret2
    exact ⟨rfl, rfl⟩
  · rw [hb] at hq
    rw [if_pos rfl]
    have h1 : 1 ≤ s.size := by
      rw [size_data]
      cases hl : s.data.toList with
      | nil => rw [hl] at hb; simp at hb
      | cons a t => simp
    have e1 : s.extract 1 s.size = bs (s.data.toList.drop 1) := eq_of_data (by rw [extract_from])
    have H1 := Lib.hid e1
    clear hb e1
    unfold maxLen at hs
    go_enter Try.func98, Try.ntmps98
    go_wp2_with (first | (go_at_call 119; refine (hq _).mono ?_; rintro e w1 ⟨rfl, rfl⟩) | go_in)
    go_ret2
    exact ⟨by rw [← H1.out]; rfl, rfl⟩

theorem cutSuffix_any (s : ByteArray) (c : UInt8) (hs : s.size ≤ maxLen) (w : World) :
    Calls Try.prog 99 #[.string s, .string ⟨#[c]⟩] w fun e w' => e = .returned (.tuple #[.string (bs (cutS c s.data.toList)), .bool (s.data.toList.getLast? == some c)]) ∧ w = w' := by
  have hq := fun w => sufIn_any s ⟨#[c]⟩ hs (by show 1 ≤ maxLen; simp [maxLen]) w
  simp only [suf1] at hq
  unfold cutS
  rcases hb : (s.data.toList.getLast? == some c) with _ | _
  · rw [hb] at hq
    rw [if_neg (by simp), bs_data]
    clear hb
    unfold maxLen at hs
    go_enter Try.func99, Try.ntmps99
    go_wp2_with (first | (go_at_call 87; refine (hq _).mono ?_; rintro e w1 ⟨rfl, rfl⟩) | go_in)
    go_ret2
    exact ⟨rfl, rfl⟩
  · rw [hb] at hq
    rw [if_pos rfl]
    have h1 : 1 ≤ s.size := by
      rw [size_data]
      cases hl : s.data.toList with
      | nil => rw [hl] at hb; simp at hb
      | cons a t => simp
    have e1 : s.extract 0 (s.size - 1) = bs (s.data.toList.dropLast) := eq_of_data (by rw [extract_to, List.dropLast_eq_take, size_data])
    have H1 := Lib.hid e1
    clear hb e1
    unfold maxLen at hs
    go_enter Try.func99, Try.ntmps99
    go_wp2_with (first | (go_at_call 87; refine (hq _).mono ?_; rintro e w1 ⟨rfl, rfl⟩) | go_in)
    go_ret2
    exact ⟨by rw [← H1.out]; rfl, rfl⟩

end Go.Proofs.Ytefilalapkdegaa
