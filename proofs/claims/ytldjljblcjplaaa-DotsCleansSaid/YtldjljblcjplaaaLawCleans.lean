/- The statement DotsCleans, walked: it returns true. -/
import Derived.Test.YtldjljblcjplaaaLawBase
namespace Go.Proofs.Ytldjljblcjplaaa
open Go.RowKit Str
set_option linter.unusedVariables false
set_option linter.unusedSimpArgs false

theorem lawCleans_long (p : ByteArray) (w : World) (h : 300 < p.size) : Calls Try.prog 3 #[.string p] w fun e w' => e = .returned (.bool true) ∧ Below w.heap.size w w' := by
  go_enter Try.func3, Try.ntmps3
  go_wp2_with (go_at_call 10; refine (awake_any _).mono ?_; rintro e w1 ⟨rfl, hbl⟩)
  go_ret
  exact ⟨rfl, hbl⟩

theorem lawCleans_err (p : ByteArray) (w : World) (h : p.size ≤ 300) (er : Int) (he : (er != 0) = true) (hn : Dots.normal p.data.toList = false) (hc : Dots.clean p.data.toList = ([], er)) :
    Calls Try.prog 3 #[.string p] w fun e w' => e = .returned (.bool true) ∧ Below w.heap.size w w' := by
  have hq := clean_any p
  rw [hc] at hq
  have hq2 := normal_any p
  rw [hn] at hq2
  clear hc hn
  go_enter Try.func3, Try.ntmps3
  go_wp2_with (first
    | (go_at_call 11; refine (hq _ (by omega)).mono ?_; rintro e w1 ⟨rfl, h1⟩)
    | (go_at_call 12; refine (hq2 _).mono ?_; rintro e w2 ⟨rfl, h2⟩)
    | (go_at_call 10; refine (awake_any _).mono ?_; rintro e w3 ⟨rfl, h3⟩))
  go_ret
  have g2 := h1.trans (h2.mono h1.size)
  exact ⟨rfl, g2.trans (h3.mono g2.size)⟩

theorem lawCleans_ok (p : ByteArray) (w : World) (h : p.size ≤ 300) (s : ByteArray) (b nb : Bool) (hs : s.size ≤ 100000) (hc : Dots.clean p.data.toList = (s.data.toList, 0)) (hn : Dots.normal p.data.toList = b) (hb : b = true → s = p)
    (hcs : Dots.clean s.data.toList = (s.data.toList, 0)) (hns : Dots.normal s.data.toList = nb) (hl : decide ((s.size : Int) ≤ 128) = nb) :
    Calls Try.prog 3 #[.string p] w fun e w' => e = .returned (.bool true) ∧ Below w.heap.size w w' := by
  have hq := clean_any p
  rw [hc, bs_data] at hq
  have hq2 := normal_any p
  rw [hn] at hq2
  have hq3 := fun w => lawClean_yes s s w hs hcs
  have hq4 := normal_any s
  rw [hns] at hq4
  clear hc hn hcs hns
  cases b
  · clear hb
    cases nb
    all_goals
      go_enter Try.func3, Try.ntmps3
      go_wp2_with fail
      refine (hq _ (by omega)).mono ?_
      rintro e w1 ⟨rfl, h1⟩
      go_wp2_with fail
      refine (hq2 _).mono ?_
      rintro e w2 ⟨rfl, h2⟩
      go_wp2_with fail
      refine (hq3 _).mono ?_
      rintro e w3 ⟨rfl, h3⟩
      go_wp2_with fail
      refine (hq4 _).mono ?_
      rintro e w4 ⟨rfl, h4⟩
      go_wp2_with fail
      refine (awake_any _).mono ?_
      rintro e w5 ⟨rfl, h5⟩
      go_wp2_with fail
      go_ret
      have g2 := h1.trans (h2.mono h1.size)
      have g3 := g2.trans (h3.mono g2.size)
      have g4 := g3.trans (h4.mono g3.size)
      exact ⟨rfl, g4.trans (h5.mono g4.size)⟩
  · obtain rfl := hb rfl
    have hw : (s.toList != s.toList) = false := by simp
    cases nb
    all_goals
      go_enter Try.func3, Try.ntmps3
      go_wp2_with fail
      refine (hq _ (by omega)).mono ?_
      rintro e w1 ⟨rfl, h1⟩
      go_wp2_with fail
      refine (hq2 _).mono ?_
      rintro e w2 ⟨rfl, h2⟩
      go_wp2_with fail
      refine (hq3 _).mono ?_
      rintro e w3 ⟨rfl, h3⟩
      go_wp2_with fail
      refine (hq4 _).mono ?_
      rintro e w4 ⟨rfl, h4⟩
      go_wp2_with fail
      refine (awake_any _).mono ?_
      rintro e w5 ⟨rfl, h5⟩
      go_wp2_with fail
      go_ret
      have g2 := h1.trans (h2.mono h1.size)
      have g3 := g2.trans (h3.mono g2.size)
      have g4 := g3.trans (h4.mono g3.size)
      exact ⟨rfl, g4.trans (h5.mono g4.size)⟩

theorem lawCleans_any (p : ByteArray) (w : World) : Calls Try.prog 3 #[.string p] w fun e w' => e = .returned (.bool true) ∧ Below w.heap.size w w' := by
  by_cases h : 300 < p.size
  · exact lawCleans_long p w h
  have h' : p.size ≤ 300 := by omega
  rcases Dots.clean_cases p.data.toList with hc | ⟨k, op, hk, hc⟩
  · have hn : Dots.normal p.data.toList = false := by
      rcases hx : Dots.normal p.data.toList with _ | _
      · rfl
      · have := Dots.normal_clean hx
        rcases hc with hc | hc <;> rw [hc] at this <;> (have h2 := congrArg (·.2) this; simp at h2)
    rcases hc with hc | hc
    · exact lawCleans_err p w h' 3 rfl hn hc
    · exact lawCleans_err p w h' 18 rfl hn hc
  · have hlen := Dots.clean_length p.data.toList
    rw [hc, ← size_data] at hlen
    have hsz : (bs (Dots.built k op)).size ≤ 100000 := by rw [size_bs]; simp only at hlen; omega
    refine lawCleans_ok p w h' (bs (Dots.built k op)) _ _ hsz (by rw [hc]) rfl ?_ (Dots.clean_built hk op) (Dots.normal_built hk op) ?_
    · intro hx
      have := Dots.normal_clean hx
      rw [hc] at this
      refine eq_of_data ?_
      rw [data_bs]
      exact congrArg (·.1) this
    · rw [size_bs]; simp; omega

end Go.Proofs.Ytldjljblcjplaaa
