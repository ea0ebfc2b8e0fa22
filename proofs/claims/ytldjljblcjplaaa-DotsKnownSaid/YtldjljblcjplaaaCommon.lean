/- Common, the program's and the reference's. -/
import Derived.Test.YtldjljblcjplaaaTwo
namespace Go.Proofs.Ytldjljblcjplaaa
open Go.RowKit Str Mem
set_option linter.unusedVariables false
set_option linter.unusedSimpArgs false

theorem same_at : ∀ (x y : List (List UInt8)) (k : Nat), x.take k = y.take k → k ≤ x.length → k ≤ y.length → (k = x.length ∨ k = y.length ∨ x[k]? ≠ y[k]?) → Dots.same x y = k
  | [], y, k, h, h1, h2, h3 => by
    have : k = 0 := by simpa using h1
    subst this
    cases y <;> rfl
  | a :: x, [], k, h, h1, h2, h3 => by
    have : k = 0 := by simpa using h2
    subst this
    rfl
  | a :: x, b :: y, 0, h, h1, h2, h3 => by
    have hne : a ≠ b := by
      rcases h3 with h3 | h3 | h3
      · simp at h3
      · simp at h3
      · intro e; subst e; exact h3 rfl
    simp [Dots.same, hne]
  | a :: x, b :: y, k + 1, h, h1, h2, h3 => by
    simp only [List.take_succ_cons, List.cons.injEq] at h
    have := same_at x y k h.2 (by simpa using h1) (by simpa using h2) (by simpa using h3)
    simp [Dots.same, h.1, this]

theorem common_err {a b : List UInt8} (h : (Dots.normal a && Dots.normal b) = false) : Dots.common a b = ([], 3) := by unfold Dots.common; rw [h]; rfl
theorem common_ok {a b : List UInt8} (h : (Dots.normal a && Dots.normal b) = true) : Dots.common a b = (Dots.built ((Dots.segments a).take (Dots.same (Dots.segments a) (Dots.segments b))) false, 0) := by unfold Dots.common; rw [h]; rfl

theorem body_take_le' (l : List (List UInt8)) (k : Nat) : (Dots.body (l.take k)).length ≤ (Dots.body l).length := by
  have := body_pre_le (l.take k) (l.drop k)
  rwa [List.take_append_drop] at this

theorem built_n (a : Option Addr) (c n : Nat) (l : List (List UInt8)) (w : World) (hl : l.length = n) (hS : Strs w a n l) (hlen : (Dots.body l).length ≤ 128) (hn : n ≤ 128) :
    Calls Try.prog 38 #[.slice a n c, .bool false] w fun e w' => e = .returned (.string (bs (Dots.built l false))) ∧ Below w.heap.size w w' := by
  subst hl
  exact built_any a c l false w hS (by omega) (by unfold maxLen; omega)

theorem put_n (a : Option Addr) (c n : Nat) (l : List (List UInt8)) (w : World) (hl : l.length = n) (hS : Strs w a n l) (hlen : (Dots.body l).length ≤ 128) (hn : n ≤ 128) :
    Calls Try.prog 41 #[.slice a n c, .bool false] w fun e w' => e = .returned (.string (bs (Dots.built l false))) ∧ Below w.heap.size w w' := by
  subst hl
  exact put_any a c l false w hS (by unfold maxLen; omega) (by unfold maxLen; omega)

theorem Strs.take {w : World} {a : Option Addr} {n : Nat} {l : List (List UInt8)} (h : Strs w a n l) {k : Nat} (hk : k ≤ n) : Strs w a k (l.take k) := by
  have := Rd.take h hk
  unfold Strs
  simpa [List.map_take] using this

set_option maxHeartbeats 1000000 in
theorem common_any (a b : ByteArray) (w : World) : Calls Try.prog 28 #[.string a, .string b] w fun e w' => e = .returned (.tuple #[.string (bs (Dots.common a.data.toList b.data.toList).1), .int .i64 (Dots.common a.data.toList b.data.toList).2]) ∧ Below w.heap.size w w' := by
  have q1 := fun w => normal_any a w
  have q2 := fun w => normal_any b w
  rcases h : Dots.normal a.data.toList with _ | _
  · rw [common_err (by rw [h]; rfl)]
    rw [h] at q1
    clear h
    go_enter Try.func28, Try.ntmps28
    go_wp2_with fail
    refine (q1 _).mono ?_
    rintro e w1 ⟨rfl, hbl⟩
    go_wp2_with fail
    go_ret2
    exact ⟨rfl, hbl⟩
  · rcases h2 : Dots.normal b.data.toList with _ | _
    · rw [common_err (by rw [h, h2]; rfl)]
      rw [h] at q1
      rw [h2] at q2
      clear h h2
      go_enter Try.func28, Try.ntmps28
      go_wp2_with fail
      refine (q1 _).mono ?_
      rintro e w1 ⟨rfl, hbl⟩
      go_wp2_with fail
      refine (q2 _).mono ?_
      rintro e w2 ⟨rfl, hbl2⟩
      go_wp2_with fail
      go_ret2
      exact ⟨rfl, hbl.trans (hbl2.mono hbl.size)⟩
    · rw [common_ok (by rw [h, h2]; rfl)]
      have n1 := normal_small h
      have n2 := normal_small h2
      rw [← size_data] at n1 n2
      have q3 := fun w => segments_any a w (by omega) (by omega)
      have q4 := fun w => segments_any b w (by omega) (by omega)
      have hbd := segments_bound h
      have hbd2 := segments_bound h2
      rw [h] at q1
      rw [h2] at q2
      obtain ⟨x, hx⟩ : ∃ x, x = Dots.segments a.data.toList := ⟨_, rfl⟩
      obtain ⟨y, hy⟩ : ∃ y, y = Dots.segments b.data.toList := ⟨_, rfl⟩
      rw [← hx] at q3 hbd ⊢
      rw [← hy] at q4 hbd2 ⊢
      have hm1 := hbd.2
      have hm2 := hbd2.2
      have hmb := hbd.1
      clear h h2 hx hy n1 n2 hbd hbd2
      go_enter Try.func28, Try.ntmps28
      go_wp2_with fail
      refine (q1 _).mono ?_
      rintro e w1 ⟨rfl, h1⟩
      go_wp2_with fail
      refine (q2 _).mono ?_
      rintro e w2 ⟨rfl, h2⟩
      have g2 := h1.trans (h2.mono h1.size)
      go_wp2_with fail
      refine (q3 _).mono ?_
      rintro e w3 ⟨v3, rfl, ⟨a3, c3, rfl, hc3, hc3', hS3⟩, h3⟩
      have g3 := g2.trans (h3.mono g2.size)
      go_wp2_with fail
      refine (q4 _).mono ?_
      rintro e w4 ⟨v4, rfl, ⟨a4, c4, rfl, hc4, hc4', hS4⟩, h4⟩
      have g4 := g3.trans (h4.mono g3.size)
      have hS3 := hS3.below h4
      go_wp2
      go_loopw [8] (fun i wr => Below w4.heap.size w4 wr ∧ ∃ k : Nat, k ≤ x.length ∧ k ≤ y.length ∧ i = .int .i64 k ∧ x.take k = y.take k) (fun i _ => x.length - (intOf i).toNat)
      case atStart => exact ⟨Below.refl _ _, 0, Nat.zero_le _, Nat.zero_le _, rfl, rfl⟩
      case round =>
        obtain ⟨hbl, k, hk, hk2, rfl, ht⟩ := hrel
        by_cases hlt : k < x.length ∧ k < y.length
        · obtain ⟨l1, l2⟩ := hlt
          obtain ⟨ad, s, rfl, _, hls, hcell⟩ := (hS3.below hbl).get l1
          obtain ⟨ad2, s2, rfl, _, hms, hcell2⟩ := (hS4.below hbl).get l2
          have i1 : (k : Int) < (x.length : Int) := by omega
          have i2 : (k : Int) < (y.length : Int) := by omega
          have d0 : decide ((k : Int) < if y.length < x.length then (y.length : Int) else (x.length : Int)) = true := by
            split <;> simp_all
          by_cases hss : s = s2
          · subst hss
            have H := Lib.hid (same_take ht hls hms)
            have hb : (s == s) = true := by simp
            clear ht hls hms
            go_wp2
            go_quiet (fail)
            go_wp2
            go_roundw
            case rel => exact ⟨below_drewN hbl _, k + 1, by omega, by omega, by go_num, H.out⟩
            case measure => simp [intOf]; omega
          · have hb : (s == s2) = false := by simpa using hss
            have H := Lib.hid (same_at x y k ht hk hk2 (.inr (.inr (by rw [hls, hms]; simpa using hss))))
            clear ht hls hms
            go_wp2
            go_quiet (fail)
            go_wp2_with (go_at_call 38; refine (built_n (some ad) c3 k (x.take k) _ (by simp; omega) (Rd.drewN (Strs.take (hS3.below hbl) hk) _) (Nat.le_trans (body_take_le' x k) hmb) (by omega)).mono ?_; rintro e w5 ⟨rfl, h5⟩)
            all_goals go_ret2
            all_goals have g5 := below_drewN (g4.trans (hbl.mono g4.size)) nq
            all_goals exact ⟨by rw [H.out]; rfl, g5.trans (h5.mono g5.size)⟩
        · have H := Lib.hid (same_at x y k ht hk hk2 (by omega))
          have d0 : decide ((k : Int) < if y.length < x.length then (y.length : Int) else (x.length : Int)) = false := by
            split <;> simp <;> omega
          clear ht
          have hSk := Strs.take (hS3.below hbl) hk
          rcases a3 with _ | ad
          · have hx0 : x.length = 0 := by
              rcases Nat.eq_zero_or_pos x.length with h | h
              · exact h
              · obtain ⟨_, e, _⟩ := Rd.get hS3 h
                cases e
            obtain rfl : k = 0 := by omega
            go_wp2
            go_quiet (fail)
            go_wp2_with (go_at_call 38; refine (built_n _ _ 0 [] _ rfl (Rd.nil _ _ _) (by decide) (by decide)).mono ?_; rintro e w5 ⟨rfl, h5⟩)
            all_goals go_ret2
            all_goals have g5 := below_drewN (g4.trans (hbl.mono g4.size)) nq
            all_goals exact ⟨by rw [H.out]; rfl, g5.trans (h5.mono g5.size)⟩
          · go_wp2
            go_quiet (fail)
            go_wp2_with (go_at_call 38; refine (built_n (some ad) c3 k (x.take k) _ (by simp; omega) (Rd.drewN hSk _) (Nat.le_trans (body_take_le' x k) hmb) (by omega)).mono ?_; rintro e w5 ⟨rfl, h5⟩)
            all_goals go_ret2
            all_goals have g5 := below_drewN (g4.trans (hbl.mono g4.size)) nq
            all_goals exact ⟨by rw [H.out]; rfl, g5.trans (h5.mono g5.size)⟩

set_option maxHeartbeats 1000000 in
theorem refCommon_any (a b : ByteArray) (w : World) : Calls Try.prog 29 #[.string a, .string b] w fun e w' => e = .returned (.tuple #[.string (bs (Dots.common a.data.toList b.data.toList).1), .int .i64 (Dots.common a.data.toList b.data.toList).2]) ∧ Below w.heap.size w w' := by
  have q1 := fun w => refNormal_any a w
  have q2 := fun w => refNormal_any b w
  rcases h : Dots.normal a.data.toList with _ | _
  · rw [common_err (by rw [h]; rfl)]
    rw [h] at q1
    clear h
    go_enter Try.func29, Try.ntmps29
    go_wp2_with fail
    refine (q1 _).mono ?_
    rintro e w1 ⟨rfl, hbl⟩
    go_wp2_with fail
    go_ret2
    exact ⟨rfl, hbl⟩
  · rcases h2 : Dots.normal b.data.toList with _ | _
    · rw [common_err (by rw [h, h2]; rfl)]
      rw [h] at q1
      rw [h2] at q2
      clear h h2
      go_enter Try.func29, Try.ntmps29
      go_wp2_with fail
      refine (q1 _).mono ?_
      rintro e w1 ⟨rfl, hbl⟩
      go_wp2_with fail
      refine (q2 _).mono ?_
      rintro e w2 ⟨rfl, hbl2⟩
      go_wp2_with fail
      go_ret2
      exact ⟨rfl, hbl.trans (hbl2.mono hbl.size)⟩
    · rw [common_ok (by rw [h, h2]; rfl)]
      have q3 := fun w => refSegs_ok a w h
      have q4 := fun w => refSegs_ok b w h2
      have hbd := segments_bound h
      have hbd2 := segments_bound h2
      rw [h] at q1
      rw [h2] at q2
      obtain ⟨x, hx⟩ : ∃ x, x = Dots.segments a.data.toList := ⟨_, rfl⟩
      obtain ⟨y, hy⟩ : ∃ y, y = Dots.segments b.data.toList := ⟨_, rfl⟩
      rw [← hx] at q3 hbd ⊢
      rw [← hy] at q4 hbd2 ⊢
      have hm1 := hbd.2
      have hm2 := hbd2.2
      have hmb := hbd.1
      clear h h2 hx hy hbd hbd2
      go_enter Try.func29, Try.ntmps29
      go_wp2_with fail
      refine (q1 _).mono ?_
      rintro e w1 ⟨rfl, h1⟩
      go_wp2_with fail
      refine (q2 _).mono ?_
      rintro e w2 ⟨rfl, h2⟩
      have g2 := h1.trans (h2.mono h1.size)
      go_wp2_with fail
      refine (q3 _).mono ?_
      rintro e w3 ⟨v3, rfl, ⟨a3, c3, rfl, hc3, hc3', hS3⟩, h3⟩
      have g3 := g2.trans (h3.mono g2.size)
      go_wp2_with fail
      refine (q4 _).mono ?_
      rintro e w4 ⟨v4, rfl, ⟨a4, c4, rfl, hc4, hc4', hS4⟩, h4⟩
      have g4 := g3.trans (h4.mono g3.size)
      have hS3 := hS3.below h4
      go_wp2
      go_loopw [10] (fun i wr => Below w4.heap.size w4 wr ∧ ∃ k : Nat, k ≤ x.length ∧ k ≤ y.length ∧ i = .int .i64 k ∧ x.take k = y.take k) (fun i _ => x.length - (intOf i).toNat)
      case atStart => exact ⟨Below.refl _ _, 0, Nat.zero_le _, Nat.zero_le _, rfl, rfl⟩
      case round =>
        obtain ⟨hbl, k, hk, hk2, rfl, ht⟩ := hrel
        by_cases hlt : k < x.length ∧ k < y.length
        · obtain ⟨l1, l2⟩ := hlt
          obtain ⟨ad, s, rfl, _, hls, hcell⟩ := (hS3.below hbl).get l1
          obtain ⟨ad2, s2, rfl, _, hms, hcell2⟩ := (hS4.below hbl).get l2
          have i1 : (k : Int) < (x.length : Int) := by omega
          have i2 : (k : Int) < (y.length : Int) := by omega
          have d1 : decide ((k : Int) < (x.length : Int)) = true := decide_eq_true i1
          have d2 : decide ((k : Int) < (y.length : Int)) = true := decide_eq_true i2
          by_cases hss : s = s2
          · subst hss
            have H := Lib.hid (same_take ht hls hms)
            have hb : (s == s) = true := by simp
            clear ht hls hms
            go_wp2
            go_quiet (fail)
            go_wp2
            go_roundw
            case rel => exact ⟨below_drewN hbl _, k + 1, by omega, by omega, by go_num, H.out⟩
            case measure => simp [intOf]; omega
          · have hb : (s == s2) = false := by simpa using hss
            have H := Lib.hid (same_at x y k ht hk hk2 (.inr (.inr (by rw [hls, hms]; simpa using hss))))
            clear ht hls hms
            go_wp2
            go_quiet (fail)
            go_wp2_with (go_at_call 41; refine (put_n (some ad) c3 k (x.take k) _ (by simp; omega) (Rd.drewN (Strs.take (hS3.below hbl) hk) _) (Nat.le_trans (body_take_le' x k) hmb) (by omega)).mono ?_; rintro e w5 ⟨rfl, h5⟩)
            all_goals go_ret2
            all_goals have g5 := below_drewN (g4.trans (hbl.mono g4.size)) nq
            all_goals exact ⟨by rw [H.out]; rfl, g5.trans (h5.mono g5.size)⟩
        · have H := Lib.hid (same_at x y k ht hk hk2 (by omega))
          clear ht
          have hSk := Strs.take (hS3.below hbl) hk
          by_cases l1 : k < x.length
          · have l2 : ¬ k < y.length := fun h => hlt ⟨l1, h⟩
            have d1 : decide ((k : Int) < (x.length : Int)) = true := decide_eq_true (by omega)
            have d2 : decide ((k : Int) < (y.length : Int)) = false := decide_eq_false (by omega)
            obtain ⟨ad, _, rfl, _⟩ := hS3.get l1
            go_wp2
            go_quiet (fail)
            go_wp2_with (go_at_call 41; refine (put_n (some ad) c3 k (x.take k) _ (by simp; omega) (Rd.drewN hSk _) (Nat.le_trans (body_take_le' x k) hmb) (by omega)).mono ?_; rintro e w5 ⟨rfl, h5⟩)
            all_goals go_ret2
            all_goals have g5 := below_drewN (g4.trans (hbl.mono g4.size)) nq
            all_goals exact ⟨by rw [H.out]; rfl, g5.trans (h5.mono g5.size)⟩
          · have d1 : decide ((k : Int) < (x.length : Int)) = false := decide_eq_false (by omega)
            rcases a3 with _ | ad
            · have hx0 : x.length = 0 := by
                rcases Nat.eq_zero_or_pos x.length with h | h
                · exact h
                · obtain ⟨_, e, _⟩ := Rd.get hS3 h
                  cases e
              obtain rfl : k = 0 := by omega
              go_wp2
              go_quiet (fail)
              go_wp2_with (go_at_call 41; refine (put_n _ _ 0 [] _ rfl (Rd.nil _ _ _) (by decide) (by decide)).mono ?_; rintro e w5 ⟨rfl, h5⟩)
              all_goals go_ret2
              all_goals have g5 := below_drewN (g4.trans (hbl.mono g4.size)) nq
              all_goals exact ⟨by rw [H.out]; rfl, g5.trans (h5.mono g5.size)⟩
            · go_wp2
              go_quiet (fail)
              go_wp2_with (go_at_call 41; refine (put_n (some ad) c3 k (x.take k) _ (by simp; omega) (Rd.drewN hSk _) (Nat.le_trans (body_take_le' x k) hmb) (by omega)).mono ?_; rintro e w5 ⟨rfl, h5⟩)
              all_goals go_ret2
              all_goals have g5 := below_drewN (g4.trans (hbl.mono g4.size)) nq
              all_goals exact ⟨by rw [H.out]; rfl, g5.trans (h5.mono g5.size)⟩

end Go.Proofs.Ytldjljblcjplaaa
