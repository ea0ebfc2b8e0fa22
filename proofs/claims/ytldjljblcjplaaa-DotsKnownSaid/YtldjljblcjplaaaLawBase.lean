/- The examples that every statement of layer 14 asks. -/
import Derived.Test.YtldjljblcjplaaaUnder
namespace Go.Proofs.Ytldjljblcjplaaa
open Go.RowKit Str
set_option linter.unusedVariables false
set_option linter.unusedSimpArgs false

/-- The law's own 'clean', where the answer is yes. -/
theorem lawClean_yes (p want : ByteArray) (w : World) (hp : p.size ≤ 100000) (h : Dots.clean p.data.toList = (want.data.toList, 0)) :
    Calls Try.prog 13 #[.string p, .string want] w fun e w' => e = .returned (.bool true) ∧ Below w.heap.size w w' := by
  have hc := clean_any p
  rw [h, bs_data] at hc
  have hw : (want.toList == want.toList) = true := by simp
  go_enter Try.func13, Try.ntmps13
  go_wp2_with (go_at_call 11; refine (hc _ hp).mono ?_; rintro e w1 ⟨rfl, hbl⟩)
  go_ret
  exact ⟨rfl, hbl⟩

theorem lawUnder_is (p d : ByteArray) (b : Bool) (w : World) (hp : p.size ≤ 100000) (hd : d.size ≤ 100000) (h : Dots.under p.data.toList d.data.toList = (b, 0)) :
    Calls Try.prog 31 #[.string p, .string d, .bool b] w fun e w' => e = .returned (.bool true) ∧ Below w.heap.size w w' := by
  have hc := under_any p d
  rw [h] at hc
  cases b
  all_goals
    go_enter Try.func31, Try.ntmps31
    go_wp2_with (go_at_call 24; refine (hc _ hp hd).mono ?_; rintro e w1 ⟨rfl, hbl⟩)
    go_ret
    exact ⟨rfl, hbl⟩

theorem awake_any (w : World) : Calls Try.prog 10 #[] w fun e w' => e = .returned (.bool true) ∧ Below w.heap.size w w' := by
  have c1 := fun w => lawClean_yes ⟨#[47, 97, 47, 47, 46, 46, 47, 98]⟩ ⟨#[47, 98]⟩ w (by decide) (by decide)
  have c2 := fun w => lawUnder_is ⟨#[47, 97, 47, 98]⟩ ⟨#[47, 97]⟩ true w (by decide) (by decide) (by decide)
  have c3 := fun w => lawUnder_is ⟨#[47, 97, 98]⟩ ⟨#[47, 97]⟩ false w (by decide) (by decide) (by decide)
  have c4 := fun w => normal_any ⟨#[47, 97, 47]⟩ w
  have e4 : Dots.normal (⟨#[47, 97, 47]⟩ : ByteArray).data.toList = true := by decide
  rw [e4] at c4
  have c5 := fun w => normal_any ⟨#[47, 97, 47, 47, 98]⟩ w
  have e5 : Dots.normal (⟨#[47, 97, 47, 47, 98]⟩ : ByteArray).data.toList = false := by decide
  rw [e5] at c5
  clear e4 e5
  go_enter Try.func10, Try.ntmps10
  go_wp2_with fail
  refine (c1 _).mono ?_
  rintro e w1 ⟨rfl, h1⟩
  go_wp2_with fail
  refine (c2 _).mono ?_
  rintro e w2 ⟨rfl, h2⟩
  go_wp2_with fail
  refine (c3 _).mono ?_
  rintro e w3 ⟨rfl, h3⟩
  go_wp2_with fail
  refine (c4 _).mono ?_
  rintro e w4 ⟨rfl, h4⟩
  go_wp2_with fail
  refine (c5 _).mono ?_
  rintro e w5 ⟨rfl, h5⟩
  go_wp2_with fail
  go_ret
  have g2 := h1.trans (h2.mono h1.size)
  have g3 := g2.trans (h3.mono g2.size)
  have g4 := g3.trans (h4.mono g3.size)
  exact ⟨rfl, g4.trans (h5.mono g4.size)⟩

end Go.Proofs.Ytldjljblcjplaaa
