/- The reference's good, line. -/
import Derived.Test.YteppipkokeaijaaLineOne
namespace Go.Proofs.Yteppipkokeaijaa
open Go.RowKit Str Mem
set_option linter.unusedVariables false
set_option linter.unusedSimpArgs false

def refGood (s : List UInt8) : Bool := !(s.contains 13) && !(s.contains 0) && !(s.contains 10)
theorem refGood_any (s : ByteArray) (hs : s.size ≤ maxLen) (w : World) :
    Calls Try.prog 41 #[.string s] w fun e w' => e = .returned (.bool (refGood s.data.toList)) ∧ w' = w := by
  have h13 : ∀ W, Calls Try.prog 36 #[.string s, .int .u8 13] W fun e w' => e = .returned (.bool (s.data.toList.contains 13)) ∧ w' = W := fun W => (hasByte_any s 13 hs W).mono (by rintro e w' ⟨rfl, rfl⟩; exact ⟨rfl, rfl⟩)
  have h0 : ∀ W, Calls Try.prog 36 #[.string s, .int .u8 0] W fun e w' => e = .returned (.bool (s.data.toList.contains 0)) ∧ w' = W := fun W => (hasByte_any s 0 hs W).mono (by rintro e w' ⟨rfl, rfl⟩; exact ⟨rfl, rfl⟩)
  have h10 : ∀ W, Calls Try.prog 36 #[.string s, .int .u8 10] W fun e w' => e = .returned (.bool (s.data.toList.contains 10)) ∧ w' = W := fun W => (hasByte_any s 10 hs W).mono (by rintro e w' ⟨rfl, rfl⟩; exact ⟨rfl, rfl⟩)
  unfold refGood
  obtain ⟨a, ha⟩ : ∃ a, s.data.toList.contains 13 = a := ⟨_, rfl⟩
  obtain ⟨b, hb⟩ : ∃ b, s.data.toList.contains 0 = b := ⟨_, rfl⟩
  obtain ⟨c, hc⟩ : ∃ c, s.data.toList.contains 10 = c := ⟨_, rfl⟩
  rw [ha] at h13 ⊢
  rw [hb] at h0 ⊢
  rw [hc] at h10 ⊢
  clear ha hb hc
  rcases a with _ | _
  · rcases b with _ | _
    · rcases c with _ | _
      · go_enter Try.func41, Try.ntmps41
        go_wp2_with fail
        refine (h13 _).mono ?_
        rintro e w1 ⟨rfl, rfl⟩
        go_wp2_with fail
        refine (h0 _).mono ?_
        rintro e w1 ⟨rfl, rfl⟩
        go_wp2_with fail
        refine (h10 _).mono ?_
        rintro e w1 ⟨rfl, rfl⟩
        go_wp2_with fail
        go_ret
        exact ⟨rfl, rfl⟩
      · go_enter Try.func41, Try.ntmps41
        go_wp2_with fail
        refine (h13 _).mono ?_
        rintro e w1 ⟨rfl, rfl⟩
        go_wp2_with fail
        refine (h0 _).mono ?_
        rintro e w1 ⟨rfl, rfl⟩
        go_wp2_with fail
        refine (h10 _).mono ?_
        rintro e w1 ⟨rfl, rfl⟩
        go_wp2_with fail
        go_ret
        exact ⟨rfl, rfl⟩
    · go_enter Try.func41, Try.ntmps41
      go_wp2_with fail
      refine (h13 _).mono ?_
      rintro e w1 ⟨rfl, rfl⟩
      go_wp2_with fail
      refine (h0 _).mono ?_
      rintro e w1 ⟨rfl, rfl⟩
      go_wp2_with fail
      go_ret
      exact ⟨rfl, rfl⟩
  · go_enter Try.func41, Try.ntmps41
    go_wp2_with fail
    refine (h13 _).mono ?_
    rintro e w1 ⟨rfl, rfl⟩
    go_wp2_with fail
    go_ret
    exact ⟨rfl, rfl⟩

def refMk (s : List UInt8) : List UInt8 × Bool := if s.getLast? = some 13 then (s.dropLast, refGood s.dropLast) else (s, false)
theorem refMk_eq (s : List UInt8) (h : s.contains 10 = false) : refMk s = Ln.mk s := by
  unfold refMk Ln.mk
  split
  · have : s.dropLast.contains 10 = false := by
      rw [List.contains_eq_any_beq, List.any_eq_false] at *
      exact fun x hx => h x (List.dropLast_subset s hx)
    unfold refGood Ln.clean
    rw [this]; simp
  · rfl

set_option maxRecDepth 100000 in
theorem refLine_any (s : List UInt8) (hs : s.length ≤ 1000000) (w : World) :
    Calls Try.prog 37 #[.string (bs s)] w fun e w' => e = .returned (lineV (refMk s)) ∧ Below w.heap.size w w' := by
  have hrowN := fun (a b : Value) => World.alloc_heap_new w (.cells #[a, b] 36)
  have hbN := fun (a b : Value) => (Below.refl _ w).alloc (Nat.le_refl _) (.cells #[a, b] 36)
  have hsz : ((bs s).size : Int) = (s.length : Int) := rfl
  rcases hl : s.getLast? with _ | x
  · have hs0 : s = [] := by simpa using hl
    subst hs0
    have hlen : (bs []).size = 0 := rfl
    have hm : refMk [] = ([], false) := rfl
    rw [hm]
    go_enter Try.func37, Try.ntmps37
    have he : (bs []).toList = [] := by rw [toList_data]
    go_wp2_with fail
    have hrow := hrowN (.string (bs [])) (.bool false)
    have hbl := hbN (.string (bs [])) (.bool false)
    obtain ⟨W, hW⟩ : ∃ W, W = w.alloc (.cells #[.string (bs []), .bool false] 36) := ⟨_, rfl⟩
    rw [← hW] at hrow hbl ⊢
    clear hW hrowN hbN
    have z0 := cell_list hrow 0
    have z1 := cell_list hrow 1
    simp only [List.getElem?_cons_zero, List.getElem?_cons_succ] at z0 z1
    refine bodyPost_ret (v := .agg #[.string (bs []), .bool false]) (by simp [results, Try.results37, go_sem, z0, z1]) rfl ⟨rfl, hbl⟩
  · obtain ⟨t, rfl⟩ := List.getLast?_eq_some_iff.1 hl
    obtain ⟨B, hB⟩ : ∃ B, B = bs (t ++ [x]) := ⟨_, rfl⟩
    obtain ⟨k, hk⟩ : ∃ k, k = t.length := ⟨_, rfl⟩
    have hBs : B.size = k + 1 := by rw [hB, size_bs, hk]; simp
    have he : B.toList.isEmpty = false := by rw [hB, toList_data]; simp
    have hkB : k < B.size := by omega
    have hBk : B[k] = x := by
      subst hB
      rw [get_data _ k hkB]
      simp [data_bs, hk]
    have hk6 : k ≤ 1000000 := by simp at hs; omega
    have hw : wrap64 ((B.size : Int) - 1) = (k : Int) := by rw [IntWalk.wrap64_in] <;> omega
    have hw2 : (B.size : Int) - 1 = (k : Int) := by omega
    have hk0 : (0 : Int) ≤ (k : Int) ∧ (k : Int) < (B.size : Int) := by omega
    have hk1 : (k : Int) ≤ (B.size : Int) := by omega
    have hcut : B.extract 0 k = bs t := eq_of_data (by rw [extract_to, hB, hk]; simp)
    rw [← hB]
    have HB := Lib.hid hB
    have HK := Lib.hid hk
    have HBs := Lib.hid hBs
    clear hB hk hBs hsz
    by_cases hx : x = 13
    · subst hx
      have hq := fun W => refGood_any (bs t) (by rw [size_bs]; simp at hs; unfold maxLen; omega) W
      rw [data_bs] at hq
      have hm : refMk (t ++ [13]) = (t, refGood t) := by unfold refMk; rw [if_pos (by simp)]; simp
      rw [hm]
      obtain ⟨g, hg⟩ : ∃ g, refGood t = g := ⟨_, rfl⟩
      rw [hg] at hq ⊢
      have hz : ((B[k].toNat : Int) == 13) = true := by rw [hBk]; rfl
      clear hBk hg hl hm
      go_enter Try.func37, Try.ntmps37
      go_wp2_with fail
      refine (hq _).mono ?_
      rintro e w1 ⟨rfl, rfl⟩
      go_wp2_with fail
      have hrow := hrowN (.string (bs t)) (.bool g)
      have hbl := hbN (.string (bs t)) (.bool g)
      obtain ⟨W, hW⟩ : ∃ W, W = w.alloc (.cells #[.string (bs t), .bool g] 36) := ⟨_, rfl⟩
      rw [← hW] at hrow hbl ⊢
      clear hW hrowN hbN
      have z0 := cell_list hrow 0
      have z1 := cell_list hrow 1
      simp only [List.getElem?_cons_zero, List.getElem?_cons_succ] at z0 z1
      refine bodyPost_ret (v := .agg #[.string (bs t), .bool g]) (by simp [results, Try.results37, go_sem, z0, z1]) rfl ⟨?_, hbl⟩
      rfl
    · have hm : refMk (t ++ [x]) = (t ++ [x], false) := by unfold refMk; rw [if_neg (by simpa using hx)]
      rw [hm]
      have hz : ((B[k].toNat : Int) == 13) = false := by
        rw [hBk, beq_eq_false_iff_ne]
        intro h
        exact hx (UInt8.toNat_inj.1 (show x.toNat = (13 : UInt8).toNat by have : (13 : UInt8).toNat = 13 := rfl; omega))
      clear hBk hl hm
      go_enter Try.func37, Try.ntmps37
      go_wp2_with fail
      have hrow := hrowN (.string B) (.bool false)
      have hbl := hbN (.string B) (.bool false)
      obtain ⟨W, hW⟩ : ∃ W, W = w.alloc (.cells #[.string B, .bool false] 36) := ⟨_, rfl⟩
      rw [← hW] at hrow hbl ⊢
      clear hW hrowN hbN
      have z0 := cell_list hrow 0
      have z1 := cell_list hrow 1
      simp only [List.getElem?_cons_zero, List.getElem?_cons_succ] at z0 z1
      refine bodyPost_ret (v := .agg #[.string B, .bool false]) (by simp [results, Try.results37, go_sem, z0, z1]) rfl ⟨?_, hbl⟩
      rw [HB.out]
      rfl
end Go.Proofs.Yteppipkokeaijaa
