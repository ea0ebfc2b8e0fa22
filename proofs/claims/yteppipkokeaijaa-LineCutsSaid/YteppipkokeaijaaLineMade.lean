/- strings.ContainsAny at any text; line.made; Check, New. -/
import Derived.Test.YteppipkokeaijaaAnyWide
import Derived.Test.YteppipkokeaijaaStrCut
import Derived.Test.YteppipkokeaijaaLinePlain
import Derived.Test.YteppipkokeaijaaBuilder
import Derived.Deep.WholeRow
import Derived.RangeFuncNested
namespace Go.Proofs.Yteppipkokeaijaa
open Go.RowKit Str Mem
set_option linter.unusedVariables false
set_option linter.unusedSimpArgs false

theorem hasAny_eq (chars : List UInt8) : ∀ s : List UInt8, decide (0 ≤ Lib.indexAny s chars) = hasAny s chars
  | [] => rfl
  | b :: l => by
    have ih := hasAny_eq chars l
    have hg := Lib.indexAny_ge chars l
    unfold hasAny at ih ⊢
    rw [List.any_cons, ← ih, Lib.indexAny]
    rcases chars.contains b with _ | _
    · rw [if_neg (by simp)]
      by_cases h : Lib.indexAny l chars = -1
      · rw [h]; rfl
      · rw [if_neg (by simpa using h), Bool.false_or]
        rw [decide_eq_true (by omega), decide_eq_true (by omega)]
    · rw [if_pos rfl]; rfl

theorem ascInfo : (Try.prog.info? 85).map (fun i => (i.zero, i.size)) = some (some (.agg (Array.replicate 256 (.bool false))), 256) := by kernel_rfl

theorem containsAny_any (s chars : ByteArray) (hs : s.size < 4294967281) (hc : chars.size < 4294967281) (h2 : 2 ≤ chars.size) (hasc : ∀ b ∈ chars.data.toList, b.toNat < 128) (w : World) :
    Calls Try.prog 38 #[.string s, .string chars] w fun e w' => e = .returned (.bool (hasAny s.data.toList chars.data.toList)) ∧ Below w.heap.size w w' := by
  have hI : Calls Try.prog 47 #[.string s, .string chars] w fun e w' => ∃ n : Int, e = .returned (.int .i64 n) ∧ decide (0 ≤ n) = hasAny s.data.toList chars.data.toList ∧ Below w.heap.size w w' := by
    by_cases h8 : s.size ≤ 8
    · exact indexAny_short s chars (by unfold maxLen; omega) h2 h8 hasc w
    · refine (Any.strings_IndexAny_long sh_lays153 (zero_of_info ascInfo).1 (zero_of_info ascInfo).2 s chars w h2 (by omega) hs hc (fun j b hb => hasc b (List.mem_of_getElem? hb))).mono ?_
      rintro e w' ⟨rfl, rfl⟩
      exact ⟨_, rfl, hasAny_eq _ _, ((Below.refl _ w).alloc (Nat.le_refl _) _).alloc (by simp) _⟩
  clear hasc
  go_enter Try.func38, Try.ntmps38
  go_wp2_with (go_at_call 47; refine hI.mono ?_; rintro e w1 ⟨n, rfl, hn, hb⟩; have HN := Lib.hid hn; clear hn)
  go_ret
  exact ⟨ret_bool HN.out, hb⟩

def badChars : ByteArray := ⟨#[13, 0]⟩
theorem clean_eq (s : List UInt8) : Ln.clean s = !(hasAny s [13, 0]) := by
  unfold Ln.clean hasAny
  rw [List.contains_eq_any_beq, List.contains_eq_any_beq]
  induction s with
  | nil => rfl
  | cons b l ih =>
    simp only [List.any_cons] at ih ⊢
    have : ([13, 0] : List UInt8).contains b = ((13 == b) || (0 == b)) := by
      simp only [List.contains_cons, List.contains_nil, Bool.or_false]
      rw [BEq.comm (a := b), BEq.comm (a := b)]
    rw [this]
    revert ih
    cases (13 == b) <;> cases (0 == b) <;> cases l.any (fun x => 13 == x) <;> cases l.any (fun x => 0 == x) <;> cases (l.any fun x => [13, 0].contains x) <;> simp

set_option maxRecDepth 100000 in
theorem lineMade_any (s : ByteArray) (hs : s.size ≤ 1000000) (w : World) :
    Calls Try.prog 45 #[.string s] w fun e w' => e = .returned (.agg #[.string (bs (Ln.mk s.data.toList).1), .bool (Ln.mk s.data.toList).2]) ∧ Below w.heap.size w w' := by
  have hcut := fun w => cutSuffix_any s 13 (by unfold maxLen; omega) w
  have hany := fun w => containsAny_any (bs (cutS 13 s.data.toList)) ⟨#[13, 0]⟩ (by rw [size_bs]; unfold cutS; split <;> simp <;> have := size_data s <;> omega) (by decide) (by decide) (by decide) w
  rw [data_bs] at hany
  have hmk : Ln.mk s.data.toList = (cutS 13 s.data.toList, (s.data.toList.getLast? == some 13) && !(hasAny (cutS 13 s.data.toList) [13, 0])) := by
    unfold Ln.mk cutS
    rw [clean_eq]
    by_cases h : s.data.toList.getLast? = some 13
    · rw [if_pos h, h]; simp
    · rw [if_neg h]
      have : (s.data.toList.getLast? == some 13) = false := by simpa using h
      rw [this]; simp
  have HM := Lib.hid hmk
  obtain ⟨C, hC⟩ : ∃ C, cutS 13 s.data.toList = C := ⟨_, rfl⟩
  obtain ⟨g, hg⟩ : ∃ g, (s.data.toList.getLast? == some 13) = g := ⟨_, rfl⟩
  have HC := Lib.hid hC
  have HG := Lib.hid hg
  rw [hC] at hany
  rw [hC, hg] at hcut
  clear hmk hC hg
  go_enter Try.func45, Try.ntmps45
  rcases g with _ | _
  · go_wp2_with (go_at_call 50; refine (hcut _).mono ?_; rintro e w1 ⟨rfl, rfl⟩)
    have hrow := World.alloc_heap_new w (.cells #[.string (bs C), .bool false] 36)
    have hbl : Below w.heap.size w (w.alloc (.cells #[.string (bs C), .bool false] 36)) := (Below.refl _ w).alloc (Nat.le_refl _) _
    obtain ⟨W, hW⟩ : ∃ W, W = w.alloc (.cells #[.string (bs C), .bool false] 36) := ⟨_, rfl⟩
    rw [← hW] at hrow hbl ⊢
    clear hW
    have z0 := cell_list hrow 0
    have z1 := cell_list hrow 1
    simp only [List.getElem?_cons_zero, List.getElem?_cons_succ] at z0 z1
    refine bodyPost_ret (v := .agg #[.string (bs C), .bool false]) (by simp [results, Try.results45, go_sem, z0, z1]) rfl ⟨?_, hbl⟩
    rw [HM.out, HG.out, HC.out]
    rfl
  · go_wp2_with (first | (go_at_call 50; refine (hcut _).mono ?_; rintro e w1 ⟨rfl, rfl⟩) | (go_at_call 38; refine (hany _).mono ?_; rintro e w1 ⟨rfl, hb⟩; have hrow := (hb.block w.heap.size (by simp)).trans (World.alloc_heap_new w _); have y0 := cell_list hrow 0; have y1 := cell_list hrow 1; have f0 := frozen_list hrow 0; have f1 := frozen_list hrow 1; simp only [List.getElem?_cons_zero, List.getElem?_cons_succ] at y0 y1))
    have hrow2 := set_list (set_list hrow 0 (.string (bs C))) 1 (.bool (!hasAny C [13, 0]))
    have hbl : Below w.heap.size w ((w1.setCell ⟨w.heap.size, 0, none⟩ (.string (bs C))).setCell ⟨w.heap.size, 1, none⟩ (.bool (!hasAny C [13, 0]))) := ((((Below.refl _ w).alloc (Nat.le_refl _) _).trans (hb.mono (by simp))).setCell (p := ⟨w.heap.size, 0, none⟩) (Nat.le_refl _) _).setCell (p := ⟨w.heap.size, 1, none⟩) (Nat.le_refl _) _
    obtain ⟨W, hW⟩ : ∃ W, W = ((w1.setCell ⟨w.heap.size, 0, none⟩ (.string (bs C))).setCell ⟨w.heap.size, 1, none⟩ (.bool (!hasAny C [13, 0]))) := ⟨_, rfl⟩
    rw [← hW] at hrow2 hbl ⊢
    clear hW
    have z0 := cell_list hrow2 0
    have z1 := cell_list hrow2 1
    simp only [List.set_cons_zero, List.set_cons_succ, List.getElem?_cons_zero, List.getElem?_cons_succ] at z0 z1
    refine bodyPost_ret (v := .agg #[.string (bs C), .bool (!hasAny C [13, 0])]) (by simp [results, Try.results45, go_sem, z0, z1]) rfl ⟨?_, hbl⟩
    rw [HM.out, HG.out, HC.out]
    rfl
end Go.Proofs.Yteppipkokeaijaa
