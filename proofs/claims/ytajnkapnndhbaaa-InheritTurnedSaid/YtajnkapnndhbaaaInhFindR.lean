/- Find, Above: of both. -/
import Derived.Test.YtajnkapnndhbaaaInhAt
namespace Go.Proofs.Ytajnkapnndhbaaa
open Go.RowKit Str Mem
set_option linter.unusedVariables false
set_option linter.unusedSimpArgs false

/-- Three results: a number of a directory, whether there is one, an error. -/
def tri (x : (Int × Bool) × Int) : Value := .tuple #[.int .i64 x.1.1, .bool x.1.2, .int .i64 x.2]
theorem some_neg : Inh.some? (-1) = (0, false) := rfl
theorem some_pos (m : Nat) : Inh.some? (m : Int) = ((m : Int), true) := by
  unfold Inh.some?
  rw [Int.max_eq_right (by omega), decide_eq_true (by omega)]

section
variable (a : Option Addr) (c : Nat) (L : List DirV) (w : World)
theorem inhFind_any (p : List UInt8) (hD : Dirs w a L.length L) (hc : L.length ≤ c) (hs : Small L) (hp : p.length ≤ 200) :
    Calls Try.prog 24 #[.slice a L.length c, .string ⟨p.toArray⟩] w fun e w' => e = .returned (tri (Inh.findR L p)) ∧ Below w.heap.size w w' := by
  have hq := fun w h => check_any a c L w h hc hs
  have hn := fun w => normal_any ⟨p.toArray⟩ w
  have hd := fun w h => find_any a c L p w h hs hp
  have hL := hs.1
  have hr := Inh.find_range L p
  have e1 : (⟨p.toArray⟩ : ByteArray).data.toList = p := rfl
  rw [e1] at hn
  generalize (Inh.check L).2 = n2 at hq
  obtain ⟨n1, hn1⟩ : ∃ n, n = (Inh.check L).1 := ⟨_, rfl⟩
  obtain ⟨i, hi⟩ : ∃ i, i = Inh.find L p := ⟨_, rfl⟩
  rw [← hi] at hd hr
  unfold tri Inh.findR
  rw [← hn1, ← hi]
  rw [← hn1] at hq
  clear hn1 hi e1
  by_cases hv : n1 = 0
  · subst hv
    rw [if_pos rfl]
    rcases hno : Dots.normal p with _ | _
    · rw [hno] at hn
      rw [if_neg (by simp)]
      clear hno
      go_enter Try.func24, Try.ntmps24
      go_wp2_with (first
        | (go_at_call 22; refine (hq _ hD).mono ?_; rintro e w1 ⟨rfl, h1⟩)
        | (go_at_call 51; refine (hn _).mono ?_; rintro e w2 ⟨rfl, h2⟩)
        | (go_at_call 52; refine (hd _ ((hD.below h1).below h2)).mono ?_; rintro e w3 ⟨rfl, h3⟩))
      go_ret3
      exact ⟨rfl, h1.trans (h2.mono h1.size)⟩
    · rw [hno] at hn
      rw [if_pos rfl]
      clear hno
      by_cases hneg : i < 0
      · obtain rfl : i = -1 := by omega
        rw [some_neg]
        go_enter Try.func24, Try.ntmps24
        go_wp2_with (first
          | (go_at_call 22; refine (hq _ hD).mono ?_; rintro e w1 ⟨rfl, h1⟩)
          | (go_at_call 51; refine (hn _).mono ?_; rintro e w2 ⟨rfl, h2⟩)
          | (go_at_call 52; refine (hd _ ((hD.below h1).below h2)).mono ?_; rintro e w3 ⟨rfl, h3⟩))
        go_ret3
        exact ⟨rfl, (h1.trans (h2.mono h1.size)).trans (h3.mono (h1.trans (h2.mono h1.size)).size)⟩
      · obtain ⟨m, rfl⟩ : ∃ m : Nat, i = m := ⟨i.toNat, by omega⟩
        rw [some_pos]
        have hnn : ¬ (m : Int) < 0 := by omega
        rcases Nat.eq_zero_or_pos m with rfl | hpos
        · go_enter Try.func24, Try.ntmps24
          go_wp2_with (first
            | (go_at_call 22; refine (hq _ hD).mono ?_; rintro e w1 ⟨rfl, h1⟩)
            | (go_at_call 51; refine (hn _).mono ?_; rintro e w2 ⟨rfl, h2⟩)
            | (go_at_call 52; refine (hd _ ((hD.below h1).below h2)).mono ?_; rintro e w3 ⟨rfl, h3⟩))
          go_ret3
          exact ⟨rfl, (h1.trans (h2.mono h1.size)).trans (h3.mono (h1.trans (h2.mono h1.size)).size)⟩
        · go_enter Try.func24, Try.ntmps24
          go_wp2_with (first
            | (go_at_call 22; refine (hq _ hD).mono ?_; rintro e w1 ⟨rfl, h1⟩)
            | (go_at_call 51; refine (hn _).mono ?_; rintro e w2 ⟨rfl, h2⟩)
            | (go_at_call 52; refine (hd _ ((hD.below h1).below h2)).mono ?_; rintro e w3 ⟨rfl, h3⟩))
          go_ret3
          exact ⟨rfl, (h1.trans (h2.mono h1.size)).trans (h3.mono (h1.trans (h2.mono h1.size)).size)⟩
  · rw [if_neg hv]
    go_enter Try.func24, Try.ntmps24
    go_wp2_with (first
      | (go_at_call 22; refine (hq _ hD).mono ?_; rintro e w1 ⟨rfl, h1⟩)
      | (go_at_call 51; refine (hn _).mono ?_; rintro e w2 ⟨rfl, h2⟩)
      | (go_at_call 52; refine (hd _ ((hD.below h1).below h2)).mono ?_; rintro e w3 ⟨rfl, h3⟩))
    go_ret3
    exact ⟨rfl, h1⟩

theorem refInhFind_any (p : List UInt8) (hD : Dirs w a L.length L) (hs : Small L) (hp : p.length ≤ 200) :
    Calls Try.prog 25 #[.slice a L.length c, .string ⟨p.toArray⟩] w fun e w' => e = .returned (tri (Inh.findR L p)) ∧ Below w.heap.size w w' := by
  have hq := fun w h => refCheck_any a c L w h hs
  have hn := fun w => refNormal_any ⟨p.toArray⟩ w
  have hd := fun w h => refFindDeep_any a c L p w h hs hp
  have hL := hs.1
  have hr := Inh.find_range L p
  have e1 : (⟨p.toArray⟩ : ByteArray).data.toList = p := rfl
  rw [e1] at hn
  generalize (Inh.check L).2 = n2 at hq
  obtain ⟨n1, hn1⟩ : ∃ n, n = (Inh.check L).1 := ⟨_, rfl⟩
  obtain ⟨i, hi⟩ : ∃ i, i = Inh.find L p := ⟨_, rfl⟩
  rw [← hi] at hd hr
  unfold tri Inh.findR
  rw [← hn1, ← hi]
  rw [← hn1] at hq
  clear hn1 hi e1
  by_cases hv : n1 = 0
  · subst hv
    rw [if_pos rfl]
    rcases hno : Dots.normal p with _ | _
    · rw [hno] at hn
      rw [if_neg (by simp)]
      clear hno
      go_enter Try.func25, Try.ntmps25
      go_wp2_with (first
        | (go_at_call 23; refine (hq _ hD).mono ?_; rintro e w1 ⟨rfl, h1⟩)
        | (go_at_call 53; refine (hn _).mono ?_; rintro e w2 ⟨rfl, h2⟩)
        | (go_at_call 54; refine (hd _ ((hD.below h1).below h2)).mono ?_; rintro e w3 ⟨rfl, h3⟩))
      go_ret3
      exact ⟨rfl, h1.trans (h2.mono h1.size)⟩
    · rw [hno] at hn
      rw [if_pos rfl]
      clear hno
      by_cases hneg : i < 0
      · obtain rfl : i = -1 := by omega
        rw [some_neg]
        go_enter Try.func25, Try.ntmps25
        go_wp2_with (first
          | (go_at_call 23; refine (hq _ hD).mono ?_; rintro e w1 ⟨rfl, h1⟩)
          | (go_at_call 53; refine (hn _).mono ?_; rintro e w2 ⟨rfl, h2⟩)
          | (go_at_call 54; refine (hd _ ((hD.below h1).below h2)).mono ?_; rintro e w3 ⟨rfl, h3⟩))
        go_ret3
        exact ⟨rfl, (h1.trans (h2.mono h1.size)).trans (h3.mono (h1.trans (h2.mono h1.size)).size)⟩
      · obtain ⟨m, rfl⟩ : ∃ m : Nat, i = m := ⟨i.toNat, by omega⟩
        rw [some_pos]
        have hnn : ¬ (m : Int) < 0 := by omega
        rcases Nat.eq_zero_or_pos m with rfl | hpos
        · go_enter Try.func25, Try.ntmps25
          go_wp2_with (first
            | (go_at_call 23; refine (hq _ hD).mono ?_; rintro e w1 ⟨rfl, h1⟩)
            | (go_at_call 53; refine (hn _).mono ?_; rintro e w2 ⟨rfl, h2⟩)
            | (go_at_call 54; refine (hd _ ((hD.below h1).below h2)).mono ?_; rintro e w3 ⟨rfl, h3⟩))
          go_ret3
          exact ⟨rfl, (h1.trans (h2.mono h1.size)).trans (h3.mono (h1.trans (h2.mono h1.size)).size)⟩
        · go_enter Try.func25, Try.ntmps25
          go_wp2_with (first
            | (go_at_call 23; refine (hq _ hD).mono ?_; rintro e w1 ⟨rfl, h1⟩)
            | (go_at_call 53; refine (hn _).mono ?_; rintro e w2 ⟨rfl, h2⟩)
            | (go_at_call 54; refine (hd _ ((hD.below h1).below h2)).mono ?_; rintro e w3 ⟨rfl, h3⟩))
          go_ret3
          exact ⟨rfl, (h1.trans (h2.mono h1.size)).trans (h3.mono (h1.trans (h2.mono h1.size)).size)⟩
  · rw [if_neg hv]
    go_enter Try.func25, Try.ntmps25
    go_wp2_with (first
      | (go_at_call 23; refine (hq _ hD).mono ?_; rintro e w1 ⟨rfl, h1⟩)
      | (go_at_call 53; refine (hn _).mono ?_; rintro e w2 ⟨rfl, h2⟩)
      | (go_at_call 54; refine (hd _ ((hD.below h1).below h2)).mono ?_; rintro e w3 ⟨rfl, h3⟩))
    go_ret3
    exact ⟨rfl, h1⟩


theorem inhAbove_any (d : Int) (hD : Dirs w a L.length L) (hc : L.length ≤ c) (hs : Small L) :
    Calls Try.prog 26 #[.slice a L.length c, .int .i64 d] w fun e w' => e = .returned (tri (Inh.aboveR L d)) ∧ Below w.heap.size w w' := by
  have hq := fun w h => at_any a c L d w h hc hs
  have hL := hs.1
  unfold tri Inh.aboveR
  by_cases hv : Inh.asked L d = 0
  · obtain ⟨_, hd0, hdL⟩ := Inh.asked_ok hv
    obtain ⟨j, rfl⟩ : ∃ j : Nat, d = j := ⟨d.toNat, by omega⟩
    have hd := fun w h => above_any a c L j w h hs (by omega)
    have hr := Inh.above_range L j
    unfold placeOf at hq
    rw [if_pos hv, hv] at hq
    rw [if_pos hv]
    simp only [Int.toNat_natCast]
    clear hv
    obtain ⟨i, hi⟩ : ∃ i, i = Inh.above L j := ⟨_, rfl⟩
    rw [← hi] at hd hr ⊢
    clear hi
    by_cases hneg : i < 0
    · obtain rfl : i = -1 := by omega
      rw [some_neg]
      go_enter Try.func26, Try.ntmps26
      go_wp2_with (first
        | (go_at_call 39; refine (hq _ hD).mono ?_; rintro e w1 ⟨rfl, h1⟩)
        | (go_at_call 55; refine (hd _ ((hD.below h1).below ((Below.refl _ _).alloc (Nat.le_refl _) _))).mono ?_; rintro e w3 ⟨rfl, h3⟩))
      go_ret3
      exact ⟨rfl, ((h1.alloc h1.size _).trans (h3.mono (by have := h1.size; simp; omega)))⟩
    · obtain ⟨m, rfl⟩ : ∃ m : Nat, i = m := ⟨i.toNat, by omega⟩
      rw [some_pos]
      have hnn : ¬ (m : Int) < 0 := by omega
      rcases Nat.eq_zero_or_pos m with rfl | hpos
      · go_enter Try.func26, Try.ntmps26
        go_wp2_with (first
          | (go_at_call 39; refine (hq _ hD).mono ?_; rintro e w1 ⟨rfl, h1⟩)
          | (go_at_call 55; refine (hd _ ((hD.below h1).below ((Below.refl _ _).alloc (Nat.le_refl _) _))).mono ?_; rintro e w3 ⟨rfl, h3⟩))
        go_ret3
        exact ⟨rfl, ((h1.alloc h1.size _).trans (h3.mono (by have := h1.size; simp; omega)))⟩
      · go_enter Try.func26, Try.ntmps26
        go_wp2_with (first
          | (go_at_call 39; refine (hq _ hD).mono ?_; rintro e w1 ⟨rfl, h1⟩)
          | (go_at_call 55; refine (hd _ ((hD.below h1).below ((Below.refl _ _).alloc (Nat.le_refl _) _))).mono ?_; rintro e w3 ⟨rfl, h3⟩))
        go_ret3
        exact ⟨rfl, ((h1.alloc h1.size _).trans (h3.mono (by have := h1.size; simp; omega)))⟩
  · unfold placeOf at hq
    rw [if_neg hv] at hq
    rw [if_neg hv]
    obtain ⟨n, hn⟩ : ∃ n, n = Inh.asked L d := ⟨_, rfl⟩
    rw [← hn] at hq hv ⊢
    clear hn
    have hd : True := trivial
    go_enter Try.func26, Try.ntmps26
    go_wp2_with (go_at_call 39; refine (hq _ hD).mono ?_; rintro e w1 ⟨rfl, h1⟩)
    go_ret3
    exact ⟨rfl, h1.alloc h1.size _⟩

theorem refInhAbove_any (d : Int) (hD : Dirs w a L.length L) (hs : Small L) :
    Calls Try.prog 27 #[.slice a L.length c, .int .i64 d] w fun e w' => e = .returned (tri (Inh.aboveR L d)) ∧ Below w.heap.size w w' := by
  have hq := fun w h => asked_any a c L d w h hs
  have hL := hs.1
  unfold tri Inh.aboveR
  by_cases hv : Inh.asked L d = 0
  · obtain ⟨_, hd0, hdL⟩ := Inh.asked_ok hv
    obtain ⟨j, rfl⟩ : ∃ j : Nat, d = j := ⟨d.toNat, by omega⟩
    obtain ⟨ad, x, rfl, hbb', hls, c0, _, _⟩ := hD.fields (show j < L.length by omega)
    have hbb : (ad.add (j * 3)).block < w.heap.size := by rw [add_block]; exact hbb'
    have hd := fun w h => refAboveDeep_any (some ad) c L j x w h hs hls
    have hr := Inh.above_range L j
    rw [hv] at hq
    rw [if_pos hv]
    simp only [Int.toNat_natCast]
    clear hv hls
    obtain ⟨i, hi⟩ : ∃ i, i = Inh.above L j := ⟨_, rfl⟩
    rw [← hi] at hd hr ⊢
    clear hi
    by_cases hneg : i < 0
    · obtain rfl : i = -1 := by omega
      rw [some_neg]
      go_enter Try.func27, Try.ntmps27
      go_wp2_with (first
        | (go_at_call 41; refine (hq _ hD).mono ?_; rintro e w1 ⟨rfl, h1⟩; try (have c0' := (World.cell?_of_block (h1.block _ hbb)).trans c0))
        | (go_at_call 54; refine (hd _ (hD.below h1)).mono ?_; rintro e w3 ⟨rfl, h3⟩))
      go_ret3
      exact ⟨rfl, (h1.trans (h3.mono h1.size))⟩
    · obtain ⟨m, rfl⟩ : ∃ m : Nat, i = m := ⟨i.toNat, by omega⟩
      rw [some_pos]
      have hnn : ¬ (m : Int) < 0 := by omega
      rcases Nat.eq_zero_or_pos m with rfl | hpos
      · go_enter Try.func27, Try.ntmps27
        go_wp2_with (first
          | (go_at_call 41; refine (hq _ hD).mono ?_; rintro e w1 ⟨rfl, h1⟩; try (have c0' := (World.cell?_of_block (h1.block _ hbb)).trans c0))
          | (go_at_call 54; refine (hd _ (hD.below h1)).mono ?_; rintro e w3 ⟨rfl, h3⟩))
        go_ret3
        exact ⟨rfl, (h1.trans (h3.mono h1.size))⟩
      · go_enter Try.func27, Try.ntmps27
        go_wp2_with (first
          | (go_at_call 41; refine (hq _ hD).mono ?_; rintro e w1 ⟨rfl, h1⟩; try (have c0' := (World.cell?_of_block (h1.block _ hbb)).trans c0))
          | (go_at_call 54; refine (hd _ (hD.below h1)).mono ?_; rintro e w3 ⟨rfl, h3⟩))
        go_ret3
        exact ⟨rfl, (h1.trans (h3.mono h1.size))⟩
  · rw [if_neg hv]
    obtain ⟨n, hn⟩ : ∃ n, n = Inh.asked L d := ⟨_, rfl⟩
    rw [← hn] at hq hv ⊢
    clear hn
    go_enter Try.func27, Try.ntmps27
    go_wp2_with (go_at_call 41; refine (hq _ hD).mono ?_; rintro e w1 ⟨rfl, h1⟩)
    go_ret3
    exact ⟨rfl, h1⟩
end

end Go.Proofs.Ytajnkapnndhbaaa
