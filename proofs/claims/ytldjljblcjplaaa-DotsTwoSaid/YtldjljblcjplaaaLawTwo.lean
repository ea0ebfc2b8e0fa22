/- The statement DotsTwo, walked: it returns true. -/
import Derived.Test.YtldjljblcjplaaaLawBase
import Derived.Test.YtldjljblcjplaaaCommon
namespace Go.Proofs.Ytldjljblcjplaaa
open Go.RowKit Str Mem
set_option linter.unusedVariables false
set_option linter.unusedSimpArgs false

theorem lawTwo_long (p q : ByteArray) (w : World) (h : 400 < (p.size : Int)) : Calls Try.prog 6 #[.string p, .string q] w fun e w' => e = .returned (.bool true) ∧ Below w.heap.size w w' := by
  go_enter Try.func6, Try.ntmps6
  go_wp2_with (go_at_call 10; refine (awake_any _).mono ?_; rintro e w1 ⟨rfl, hbl⟩)
  go_ret
  exact ⟨rfl, hbl⟩

theorem lawTwo_long2 (p q : ByteArray) (w : World) (h1 : ¬ 400 < (p.size : Int)) (h : 400 < (q.size : Int)) : Calls Try.prog 6 #[.string p, .string q] w fun e w' => e = .returned (.bool true) ∧ Below w.heap.size w w' := by
  go_enter Try.func6, Try.ntmps6
  go_wp2_with (go_at_call 10; refine (awake_any _).mono ?_; rintro e w1 ⟨rfl, hbl⟩)
  go_ret
  exact ⟨rfl, hbl⟩

set_option maxHeartbeats 1000000 in
theorem lawTwo_short (p q : ByteArray) (w : World) (h : (p.size : Int) ≤ 400) (h' : (q.size : Int) ≤ 400) : Calls Try.prog 6 #[.string p, .string q] w fun e w' => e = .returned (.bool true) ∧ Below w.heap.size w w' := by
  have q1 := fun w => under_any p q w (by omega) (by omega)
  have q2 := fun w => refUnder_any p q w (by omega) (by omega)
  have q3 := fun w => join_any p q w (by omega) (by omega)
  have q4 := fun w => refJoin_any p q w (by omega)
  have q5 := fun w => common_any p q w
  have q6 := fun w => refCommon_any p q w
  obtain ⟨r, hr⟩ : ∃ r, r = Dots.under p.data.toList q.data.toList := ⟨_, rfl⟩
  obtain ⟨r1, r2⟩ := r
  obtain ⟨t, ht⟩ : ∃ t, t = Dots.join p.data.toList q.data.toList := ⟨_, rfl⟩
  obtain ⟨t1, t2⟩ := t
  obtain ⟨u, hu⟩ : ∃ u, u = Dots.common p.data.toList q.data.toList := ⟨_, rfl⟩
  obtain ⟨u1, u2⟩ := u
  rw [← hr] at q1 q2
  rw [← ht] at q3 q4
  rw [← hu] at q5 q6
  clear hr ht hu
  simp only at q1 q2 q3 q4 q5 q6
  have e1 : (r1 == r1) = true := by simp
  have e2 : (r2 == r2) = true := by simp
  have e3 : ((bs t1).toList == (bs t1).toList) = true := by simp
  have e4 : (t2 == t2) = true := by simp
  have e5 : ((bs u1).toList == (bs u1).toList) = true := by simp
  have e6 : (u2 == u2) = true := by simp
  go_enter Try.func6, Try.ntmps6
  go_wp2_with fail
  refine (q1 _).mono ?_
  rintro e w1 ⟨rfl, h1⟩
  go_wp2_with fail
  refine (q2 _).mono ?_
  rintro e w2 ⟨rfl, h2⟩
  have g2 := h1.trans (h2.mono h1.size)
  go_wp2_with fail
  refine (q3 _).mono ?_
  rintro e w3 ⟨rfl, h3⟩
  have g3 := g2.trans (h3.mono g2.size)
  go_wp2_with fail
  refine (q4 _).mono ?_
  rintro e w4 ⟨rfl, h4⟩
  have g4 := g3.trans (h4.mono g3.size)
  go_wp2_with fail
  refine (q5 _).mono ?_
  rintro e w5 ⟨rfl, h5⟩
  have g5 := g4.trans (h5.mono g4.size)
  go_wp2_with fail
  refine (q6 _).mono ?_
  rintro e w6 ⟨rfl, h6⟩
  have g6 := g5.trans (h6.mono g5.size)
  go_wp2_with fail
  refine (awake_any _).mono ?_
  rintro e w7 ⟨rfl, h7⟩
  go_wp2_with fail
  go_ret
  exact ⟨rfl, g6.trans (h7.mono g6.size)⟩

theorem lawTwo_any (p q : ByteArray) (w : World) : Calls Try.prog 6 #[.string p, .string q] w fun e w' => e = .returned (.bool true) ∧ Below w.heap.size w w' := by
  by_cases h : 400 < (p.size : Int)
  · exact lawTwo_long p q w h
  · by_cases h' : 400 < (q.size : Int)
    · exact lawTwo_long2 p q w h h'
    · exact lawTwo_short p q w (by omega) (by omega)

end Go.Proofs.Ytldjljblcjplaaa
