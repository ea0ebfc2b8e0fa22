/- The statement DotsPaths, walked: it returns true. -/
import Derived.Test.YtldjljblcjplaaaLawBase
import Derived.Test.YtldjljblcjplaaaRefClean
namespace Go.Proofs.Ytldjljblcjplaaa
open Go.RowKit Str Mem
set_option linter.unusedVariables false
set_option linter.unusedSimpArgs false

theorem SlStr.none (w : World) : SlStr w (.slice Option.none 0 0) [] := ⟨Option.none, 0, rfl, Nat.le_refl _, by simp [maxLen], Rd.nil _ _ _⟩

/-- What Segments returns, at once. -/
def segsL (p : List UInt8) : List (List UInt8) := if Dots.normal p then Dots.segments p else []
def segsE (p : List UInt8) : Int := if Dots.normal p then 0 else 3

theorem SegsOf.one {w w' : World} {p : List UInt8} {e : Ending} (h : SegsOf w w' p e) : ∃ a c, e = .returned (.tuple #[.slice a (segsL p).length c, .int .i64 (segsE p)]) ∧ Strs w' a (segsL p).length (segsL p) ∧ Below w.heap.size w w' := by
  unfold segsL segsE
  rcases h with ⟨hn, rfl, hb⟩ | ⟨hn, v, rfl, ⟨a, c, rfl, _, _, hs⟩, hb⟩
  · rw [hn]
    exact ⟨Option.none, 0, rfl, Rd.nil _ _ _, hb⟩
  · rw [hn]
    exact ⟨a, c, rfl, hs, hb⟩

theorem segsL_short (p : List UInt8) : (segsL p).length ≤ 128 := by
  unfold segsL
  rcases h : Dots.normal p with _ | _
  · simp
  · exact (segments_bound h).2

theorem lawPaths_long (p : ByteArray) (w : World) (h : 400 < (p.size : Int)) : Calls Try.prog 5 #[.string p] w fun e w' => e = .returned (.bool true) ∧ Below w.heap.size w w' := by
  go_enter Try.func5, Try.ntmps5
  go_wp2_with (go_at_call 10; refine (awake_any _).mono ?_; rintro e w1 ⟨rfl, hbl⟩)
  go_ret
  exact ⟨rfl, hbl⟩

set_option maxHeartbeats 1000000 in
theorem lawPaths_short (p : ByteArray) (w : World) (h : (p.size : Int) ≤ 400) : Calls Try.prog 5 #[.string p] w fun e w' => e = .returned (.bool true) ∧ Below w.heap.size w w' := by
  have q1 := fun w => clean_any p w (by omega)
  have q2 := fun w => refClean_any p w (by omega)
  have q3 := fun w => (segsAny p w).mono fun e w' h => SegsOf.one h
  have q4 := fun w => (refSegsAny p w).mono fun e w' h => SegsOf.one h
  have q5 := fun w => normal_any p w
  have q6 := fun w => refNormal_any p w
  have q7 := fun w => parent_any p w
  have q8 := fun w => refParent_any p w
  have hsh := segsL_short p.data.toList
  obtain ⟨r, hr⟩ : ∃ r, r = Dots.clean p.data.toList := ⟨_, rfl⟩
  obtain ⟨r1, r2⟩ := r
  obtain ⟨t, ht⟩ : ∃ t, t = Dots.parent p.data.toList := ⟨_, rfl⟩
  obtain ⟨t1, t2⟩ := t
  obtain ⟨n, hn⟩ : ∃ n, n = Dots.normal p.data.toList := ⟨_, rfl⟩
  obtain ⟨L, hL⟩ : ∃ L, L = segsL p.data.toList := ⟨_, rfl⟩
  obtain ⟨er, her⟩ : ∃ er, er = segsE p.data.toList := ⟨_, rfl⟩
  rw [← hr] at q1 q2
  rw [← hL, ← her] at q3 q4
  rw [← hn] at q5 q6
  rw [← ht] at q7 q8
  rw [← hL] at hsh
  clear hr ht hn hL her
  have hll : (L == L) = true := by simp
  have hsm := fun a b c d w h1 h2 => sameTexts_any a b c d L L w h1 h2 (by unfold maxLen; omega)
  rw [hll] at hsm
  simp only at q1 q2 q7 q8
  have e1 : ((bs r1).toList == (bs r1).toList) = true := by simp
  have e2 : (r2 == r2) = true := by simp
  have e3 : (er == er) = true := by simp
  have e4 : ((bs t1).toList == (bs t1).toList) = true := by simp
  have e5 : (t2 == t2) = true := by simp
  have f1 : ((bs r1).toList != (bs r1).toList) = false := by simp
  have f2 : (r2 != r2) = false := by simp
  have f3 : (er != er) = false := by simp
  have f4 : (n != n) = false := by simp
  clear hll
  go_enter Try.func5, Try.ntmps5
  go_wp2_with fail
  refine (q1 _).mono ?_
  rintro e w1 ⟨rfl, h1⟩
  go_wp2_with fail
  refine (q2 _).mono ?_
  rintro e w2 ⟨rfl, h2⟩
  have g2 := h1.trans (h2.mono h1.size)
  go_wp2_with fail
  refine (q3 _).mono ?_
  rintro e w3 ⟨a3, c3, rfl, hS3, h3⟩
  have g3 := g2.trans (h3.mono g2.size)
  go_wp2_with fail
  refine (q4 _).mono ?_
  rintro e w4 ⟨a4, c4, rfl, hS4, h4⟩
  have g4 := g3.trans (h4.mono g3.size)
  have hS3 := hS3.below h4
  go_wp2_with fail
  refine (q5 _).mono ?_
  rintro e w5 ⟨rfl, h5⟩
  have g5 := g4.trans (h5.mono g4.size)
  have hS3 := hS3.below h5
  have hS4 := hS4.below h5
  go_wp2_with fail
  refine (q6 _).mono ?_
  rintro e w6 ⟨rfl, h6⟩
  have g6 := g5.trans (h6.mono g5.size)
  have hS3 := hS3.below h6
  have hS4 := hS4.below h6
  go_wp2_with fail
  refine (hsm a3 a4 c3 c4 _ hS3 hS4).mono ?_
  rintro e w7 ⟨rfl, h7⟩
  have g7 := g6.trans (h7.mono g6.size)
  go_wp2_with fail
  refine (q7 _).mono ?_
  rintro e w8 ⟨rfl, h8⟩
  have g8 := g7.trans (h8.mono g7.size)
  go_wp2_with fail
  refine (q8 _).mono ?_
  rintro e w9 ⟨rfl, h9⟩
  have g9 := g8.trans (h9.mono g8.size)
  go_wp2_with fail
  refine (awake_any _).mono ?_
  rintro e w10 ⟨rfl, h10⟩
  go_wp2_with fail
  go_ret
  exact ⟨rfl, g9.trans (h10.mono g9.size)⟩

theorem lawPaths_any (p : ByteArray) (w : World) : Calls Try.prog 5 #[.string p] w fun e w' => e = .returned (.bool true) ∧ Below w.heap.size w w' := by
  by_cases h : 400 < (p.size : Int)
  · exact lawPaths_long p w h
  · exact lawPaths_short p w (by omega)

end Go.Proofs.Ytldjljblcjplaaa
