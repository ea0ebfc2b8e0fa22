/- line.Check, line.New, and the reference's. -/
import Derived.Test.YteppipkokeaijaaLineMach
namespace Go.Proofs.Yteppipkokeaijaa
open Go.RowKit Str Mem
set_option linter.unusedVariables false
set_option linter.unusedSimpArgs false

theorem hasByte_any (s : ByteArray) (c : UInt8) (hs : s.size ≤ maxLen) (w : World) :
    Calls Try.prog 36 #[.string s, .int .u8 (c.toNat : Int)] w fun e w' => e = .returned (.bool (s.data.toList.contains c)) ∧ w = w' := by
  unfold maxLen at hs
  go_enter Try.func36, Try.ntmps36
  go_wp2
  go_loopg [5] s.size (fun g s5 wx => ∃ i : Nat, i + g = s.size ∧ s5 = .int .i64 i ∧ wx = w ∧ ∀ j (hj : j < s.size), j < i → s[j] ≠ c)
  case atStart => exact ⟨0, by omega, rfl, rfl, fun j hj h => by omega⟩
  case round =>
    obtain ⟨i, hig, rfl, rfl, hall⟩ := hrel
    have HA := Lib.hid hall
    clear hall
    cases gk with
    | zero =>
      obtain rfl : i = s.size := by omega
      go_wp2
      go_ret
      refine ⟨ret_bool ?_, rfl⟩
      symm
      rw [List.contains_eq_any_beq, List.any_eq_false]
      intro b hb
      obtain ⟨j, hj, rfl⟩ := List.getElem_of_mem hb
      have hj' : j < s.size := by rw [size_data]; exact hj
      have := HA.out j hj' hj'
      rw [get_data s j hj'] at this
      simpa using Ne.symm this
    | succ g =>
      have hi : i < s.size := by omega
      have hiz : (i : Int) < (s.size : Int) := by omega
      by_cases hc : s[i] = c
      · have hz : ((s[i].toNat : Int) == (c.toNat : Int)) = true := by rw [hc]; simp
        have HC := Lib.hid hc
        clear hc
        go_wp2
        go_ret
        refine ⟨ret_bool ?_, rfl⟩
        symm
        rw [List.contains_iff_mem, ← HC.out, get_data s i hi]
        exact List.getElem_mem _
      · have hz : ((s[i].toNat : Int) == (c.toNat : Int)) = false := by
          rw [beq_eq_false_iff_ne]
          intro h
          exact hc (UInt8.toNat_inj.1 (by omega))
        have HC := Lib.hid hc
        clear hc
        go_wp2
        go_roundg g
        case measure => omega
        case rel => exact ⟨i + 1, by omega, by go_num, rfl, fun j hj h => by
          rcases Nat.lt_or_ge j i with h1 | h1
          · exact HA.out j hj h1
          · obtain rfl : j = i := by omega
            exact HC.out⟩

theorem contains_nl (s : List UInt8) : decide (0 ≤ Lib.indexByte s 10) = s.contains 10 := (Lib.contains_iff_indexByte s 10).symm

def linesV (lim : Int) (T : List UInt8) (lg : Bool) : Value := .agg #[.int .i64 lim, .string (bs T), .bool lg]

theorem check_any (lim : Int) (T : List UInt8) (lg : Bool) (w : World) (hT : T.length ≤ maxLen) :
    Calls Try.prog 18 #[linesV lim T lg] w fun e w' => e = .returned (.int .i64 (Ln.check lim T lg)) ∧ Below w.heap.size w w' := by
  have hcn : ∀ W, Calls Try.prog 35 #[.string (bs T), .string ⟨#[10]⟩] W fun e w' => e = .returned (.bool (T.contains 10)) ∧ w' = W := fun W => by
    refine (sh_strings_Contains_one (bs T) 10 W).mono ?_
    rintro e w' ⟨rfl, rfl⟩
    rw [data_bs, contains_nl]
    exact ⟨rfl, rfl⟩
  unfold linesV
  go_enter Try.func18, Try.ntmps18
  have hb : Below w.heap.size w (w.alloc (.cells #[.int .i64 lim, .string (bs T), .bool lg] 25)) := (Below.refl _ w).alloc (Nat.le_refl _) _
  have hsz : ((bs T).size : Int) = (T.length : Int) := rfl
  by_cases h1 : lim < 1
  · have HC := Lib.hid (show Ln.check lim T lg = 2 from by unfold Ln.check; rw [if_pos (.inl h1)])
    go_wp2
    go_ret
    exact ⟨by rw [HC.out]; rfl, hb⟩
  by_cases h2 : (1536 : Int) < lim
  · have HC := Lib.hid (show Ln.check lim T lg = 2 from by unfold Ln.check Ln.most; rw [if_pos (.inr h2)])
    go_wp2
    go_ret
    exact ⟨by rw [HC.out]; rfl, hb⟩
  by_cases h3 : lim < (T.length : Int)
  · have HC := Lib.hid (show Ln.check lim T lg = 4 from by unfold Ln.check Ln.most; rw [if_neg (by omega), if_pos h3])
    have h3' : lim < ((bs T).size : Int) := by rw [hsz]; exact h3
    go_wp2
    go_ret
    exact ⟨by rw [HC.out]; rfl, hb⟩
  have h3' : ¬ lim < ((bs T).size : Int) := by rw [hsz]; exact h3
  rcases h4 : T.contains 10 with _ | _
  · rw [h4] at hcn
    rcases lg with _ | _
    · have HC := Lib.hid (show Ln.check lim T false = 0 from by unfold Ln.check Ln.most; rw [if_neg (by omega), if_neg h3, if_neg (by rw [h4]; simp)])
      clear h4
      go_wp2_with (go_at_call 35; refine ((hcn _)).mono ?_; rintro e w1 ⟨rfl, rfl⟩)
      go_ret
      exact ⟨by rw [HC.out]; rfl, hb⟩
    · rcases T with _ | ⟨x, T⟩
      · have HC := Lib.hid (show Ln.check lim [] true = 0 from by unfold Ln.check Ln.most; rw [if_neg (by omega), if_neg h3, if_neg (by rw [h4]; simp)])
        have he : (bs []).toList = [] := by rw [toList_data]
        clear h4
        go_wp2_with (go_at_call 35; refine ((hcn _)).mono ?_; rintro e w1 ⟨rfl, rfl⟩)
        go_ret
        exact ⟨by rw [HC.out]; rfl, hb⟩
      · have HC := Lib.hid (show Ln.check lim (x :: T) true = 3 from by unfold Ln.check Ln.most; rw [if_neg (by omega), if_neg h3, if_pos (.inr ⟨rfl, by simp⟩)])
        have he : (bs (x :: T)).toList = x :: T := by rw [toList_data]
        clear h4
        go_wp2_with (go_at_call 35; refine ((hcn _)).mono ?_; rintro e w1 ⟨rfl, rfl⟩)
        go_ret
        exact ⟨by rw [HC.out]; rfl, hb⟩
  · rw [h4] at hcn
    have HC := Lib.hid (show Ln.check lim T lg = 3 from by unfold Ln.check Ln.most; rw [if_neg (by omega), if_neg h3, if_pos (.inl h4)])
    clear h4
    go_wp2_with (go_at_call 35; refine ((hcn _)).mono ?_; rintro e w1 ⟨rfl, rfl⟩)
    go_ret
    exact ⟨by rw [HC.out]; rfl, hb⟩

theorem refCheck_any (lim : Int) (T : List UInt8) (lg : Bool) (w : World) (hT : T.length ≤ maxLen) :
    Calls Try.prog 19 #[linesV lim T lg] w fun e w' => e = .returned (.int .i64 (Ln.check lim T lg)) ∧ Below w.heap.size w w' := by
  have hcn : ∀ W, Calls Try.prog 36 #[.string (bs T), .int .u8 10] W fun e w' => e = .returned (.bool (T.contains 10)) ∧ w' = W := fun W => by
    refine (hasByte_any (bs T) 10 hT W).mono ?_
    rintro e w' ⟨rfl, rfl⟩
    exact ⟨rfl, rfl⟩
  unfold linesV
  go_enter Try.func19, Try.ntmps19
  have hb : Below w.heap.size w (w.alloc (.cells #[.int .i64 lim, .string (bs T), .bool lg] 25)) := (Below.refl _ w).alloc (Nat.le_refl _) _
  have hsz : ((bs T).size : Int) = (T.length : Int) := rfl
  by_cases h1 : lim < 1
  · have HC := Lib.hid (show Ln.check lim T lg = 2 from by unfold Ln.check; rw [if_pos (.inl h1)])
    go_wp2
    go_ret
    exact ⟨by rw [HC.out]; rfl, hb⟩
  by_cases h2 : (1536 : Int) < lim
  · have HC := Lib.hid (show Ln.check lim T lg = 2 from by unfold Ln.check Ln.most; rw [if_pos (.inr h2)])
    go_wp2
    go_ret
    exact ⟨by rw [HC.out]; rfl, hb⟩
  by_cases h3 : lim < (T.length : Int)
  · have HC := Lib.hid (show Ln.check lim T lg = 4 from by unfold Ln.check Ln.most; rw [if_neg (by omega), if_pos h3])
    have h3' : lim < ((bs T).size : Int) := by rw [hsz]; exact h3
    go_wp2
    go_ret
    exact ⟨by rw [HC.out]; rfl, hb⟩
  have h3' : ¬ lim < ((bs T).size : Int) := by rw [hsz]; exact h3
  rcases h4 : T.contains 10 with _ | _
  · rw [h4] at hcn
    rcases lg with _ | _
    · have HC := Lib.hid (show Ln.check lim T false = 0 from by unfold Ln.check Ln.most; rw [if_neg (by omega), if_neg h3, if_neg (by rw [h4]; simp)])
      clear h4
      go_wp2_with (go_at_call 36; refine ((hcn _)).mono ?_; rintro e w1 ⟨rfl, rfl⟩)
      go_ret
      exact ⟨by rw [HC.out]; rfl, hb⟩
    · rcases T with _ | ⟨x, T⟩
      · have HC := Lib.hid (show Ln.check lim [] true = 0 from by unfold Ln.check Ln.most; rw [if_neg (by omega), if_neg h3, if_neg (by rw [h4]; simp)])
        have he : (bs []).toList = [] := by rw [toList_data]
        clear h4
        go_wp2_with (go_at_call 36; refine ((hcn _)).mono ?_; rintro e w1 ⟨rfl, rfl⟩)
        go_ret
        exact ⟨by rw [HC.out]; rfl, hb⟩
      · have HC := Lib.hid (show Ln.check lim (x :: T) true = 3 from by unfold Ln.check Ln.most; rw [if_neg (by omega), if_neg h3, if_pos (.inr ⟨rfl, by simp⟩)])
        have he : (bs (x :: T)).toList = x :: T := by rw [toList_data]
        clear h4
        go_wp2_with (go_at_call 36; refine ((hcn _)).mono ?_; rintro e w1 ⟨rfl, rfl⟩)
        go_ret
        exact ⟨by rw [HC.out]; rfl, hb⟩
  · rw [h4] at hcn
    have HC := Lib.hid (show Ln.check lim T lg = 3 from by unfold Ln.check Ln.most; rw [if_neg (by omega), if_neg h3, if_pos (.inl h4)])
    clear h4
    go_wp2_with (go_at_call 36; refine ((hcn _)).mono ?_; rintro e w1 ⟨rfl, rfl⟩)
    go_ret
    exact ⟨by rw [HC.out]; rfl, hb⟩
end Go.Proofs.Yteppipkokeaijaa
