/- The statement DotsMakes, walked: it returns true. -/
import Derived.Test.YtldjljblcjplaaaLawBase
import Derived.Test.YtldjljblcjplaaaMake
namespace Go.Proofs.Ytldjljblcjplaaa
open Go.RowKit Str Mem
set_option linter.unusedVariables false
set_option linter.unusedSimpArgs false

theorem body_bound (m : Nat) : ∀ (l : List (List UInt8)), (∀ s ∈ l, s.length ≤ m) → (Dots.body l).length ≤ l.length * (m + 1)
  | [], _ => by simp [Dots.body]
  | x :: r, h => by
    rw [Dots.body_cons]
    have h1 := h x (by simp)
    have h2 := body_bound m r (fun s hs => h s (by simp [hs]))
    simp only [List.length_cons, List.length_append]
    rw [Nat.add_mul]
    omega

theorem short_take_succ {l : List (List UInt8)} {k m : Nat} {s : List UInt8} (h : ∀ x ∈ l.take k, x.length ≤ m) (hl : l[k]? = some s) (hs : s.length ≤ m) : ∀ x ∈ l.take (k + 1), x.length ≤ m := by
  rw [List.take_add_one, hl]
  intro x hx
  rcases List.mem_append.1 hx with hx | hx
  · exact h x hx
  · simp at hx; subst hx; exact hs

theorem lawMakes_long (a : Option Addr) (c : Nat) (l : List (List UInt8)) (op : Bool) (w : World) (h : 80 < (l.length : Int)) :
    Calls Try.prog 4 #[.slice a l.length c, .bool op] w fun e w' => e = .returned (.bool true) ∧ Below w.heap.size w w' := by
  go_enter Try.func4, Try.ntmps4
  go_wp2_with (go_at_call 10; refine (awake_any _).mono ?_; rintro e w1 ⟨rfl, hbl⟩)
  go_ret
  exact ⟨rfl, hbl⟩

set_option maxHeartbeats 1000000 in
theorem lawMakes_any (a : Option Addr) (c : Nat) (l : List (List UInt8)) (op : Bool) (w : World) (hS : Strs w a l.length l) :
    Calls Try.prog 4 #[.slice a l.length c, .bool op] w fun e w' => e = .returned (.bool true) ∧ Below w.heap.size w w' := by
  by_cases h80 : 80 < (l.length : Int)
  · exact lawMakes_long a c l op w h80
  have hn : (l.length : Int) ≤ 80 := by omega
  go_enter Try.func4, Try.ntmps4
  go_wp2
  go_loopw [5] (fun i wr => Below w.heap.size w wr ∧ ∃ k : Nat, k ≤ l.length ∧ i = .int .i64 k ∧ ∀ x ∈ l.take k, x.length ≤ 200) (fun i _ => l.length - (intOf i).toNat)
  case atStart => exact ⟨Below.refl _ _, 0, Nat.zero_le _, rfl, by simp⟩
  case round =>
    obtain ⟨hbl, k, hk, rfl, ht⟩ := hrel
    by_cases hlt : k < l.length
    · obtain ⟨ad, s, rfl, _, hls, hcell⟩ := (hS.below hbl).get hlt
      by_cases hs : 200 < (s.length : Int)
      · clear ht hls
        go_wp2_with (go_at_call 10; refine (awake_any _).mono ?_; rintro e w1 ⟨rfl, hbl1⟩)
        go_ret
        exact ⟨rfl, hbl.trans (hbl1.mono hbl.size)⟩
      · have H := Lib.hid (short_take_succ ht hls (by omega))
        clear ht hls
        go_wp2
        go_roundw
        case rel => exact ⟨hbl, k + 1, by omega, by go_num, H.out⟩
        case measure => simp [intOf]; omega
    · obtain rfl : k = l.length := by omega
      rw [List.take_length] at ht
      have hbd := body_bound 200 l ht
      have hb1 : (Dots.body l).length + 1 ≤ 140737488355327 := by
        have : l.length * 201 ≤ 80 * 201 := Nat.mul_le_mul_right _ (by omega)
        omega
      clear ht hbd
      have hmk := fun a c w hS => make_any a c l op w hS hb1 (by unfold maxLen; omega)
      have hmr := fun a c w hS => refMake_any a c l op w hS hb1 (by unfold maxLen; omega)
      have hsm := fun a b c d w h1 h2 => sameTexts_any a b c d l l w h1 h2 (by unfold maxLen; omega)
      have hll : (l == l) = true := by simp
      rw [hll] at hsm
      obtain ⟨r, hr⟩ : ∃ r, r = Dots.make l op := ⟨_, rfl⟩
      rw [← hr] at hmk hmr
      obtain ⟨r1, r2⟩ := r
      clear hr hll hb1
      simp only at hmk hmr
      go_wp2_with fail
      refine (ownTexts_any a c l _ (hS.below hbl) (by omega)).mono ?_
      rintro e w1 ⟨v, rfl, ⟨a1, c1, rfl, _, _, hS1⟩, h1⟩
      have g1 := hbl.trans (h1.mono hbl.size)
      go_wp2_with fail
      refine (hmk a1 c1 _ hS1).mono ?_
      rintro e w2 ⟨rfl, h2⟩
      have g2 := g1.trans (h2.mono g1.size)
      go_wp2_with fail
      refine (hmr a c _ (hS.below g2)).mono ?_
      rintro e w3 ⟨rfl, h3⟩
      have g3 := g2.trans (h3.mono g2.size)
      have hq : ((bs r1).toList == (bs r1).toList) = true := by simp
      have hq2 : (r2 == r2) = true := by simp
      go_wp2_with fail
      refine (hsm a1 a c1 c _ ((hS1.below h2).below h3) (hS.below g3)).mono ?_
      rintro e w4 ⟨rfl, h4⟩
      have g4 := g3.trans (h4.mono g3.size)
      go_wp2_with fail
      refine (awake_any _).mono ?_
      rintro e w5 ⟨rfl, h5⟩
      go_wp2_with fail
      go_ret
      exact ⟨rfl, g4.trans (h5.mono g4.size)⟩

end Go.Proofs.Ytldjljblcjplaaa
