/- The law LineSplits, walked. -/
import Derived.Test.YteppipkokeaijaaLineAwake
import Derived.Test.YteppipkokeaijaaLawLineFeeds
namespace Go.Proofs.Yteppipkokeaijaa
open Go.RowKit Str Mem
set_option linter.unusedVariables false
set_option linter.unusedSimpArgs false

theorem Owns.fresh0 (w : World) (e : TypeId) (sz : Nat) : Owns (w.alloc (.cells #[] e)) w.heap.size e sz (.slice (some ⟨w.heap.size, 0, none⟩) 0 0) 0 [] :=
  ⟨by simp, .inr ⟨w.heap.size, 0, #[], rfl, Nat.le_refl _, World.alloc_heap_new w _, Nat.le_refl _, by simp [maxLen], by simp, by simp⟩⟩
/-- What Split returns, in one form. -/
structure SR where
  L : List (List UInt8 × Bool)
  rest : ByteArray
  er : Int
def splitR (lim : Int) (s : List UInt8) : SR := if (newR lim).2 ≠ 0 then ⟨[], ⟨#[]⟩, 2⟩ else if (Ln.feed lim.toNat [] s).1.2 = true then ⟨[], ⟨#[]⟩, 4⟩ else ⟨(Ln.feed lim.toNat [] s).2, bs (Ln.feed lim.toNat [] s).1.1, 0⟩
def SplitU (r : SR) (w : World) (e : Ending) (w' : World) : Prop := ∃ a c, e = .returned (.tuple #[.slice a r.L.length c, .string r.rest, .int .i64 r.er]) ∧ Lines w' a r.L.length r.L ∧ Below w.heap.size w w'
theorem split_u {lim : Int} {s : List UInt8} {w w' : World} {e : Ending} (h : SplitPost lim s w e w') : SplitU (splitR lim s) w e w' := by
  obtain ⟨hb, h⟩ := h
  unfold splitR
  split at h
  · rename_i h0
    rw [if_pos h0]
    exact ⟨none, 0, h, Rd.nil _ _ _, hb⟩
  · rename_i h0
    rw [if_neg h0]
    split at h
    · rename_i h1
      rw [if_pos h1]
      exact ⟨none, 0, h, Rd.nil _ _ _, hb⟩
    · rename_i h1
      rw [if_neg h1]
      obtain ⟨v, rfl, hO⟩ := h
      obtain ⟨a, c, rfl, _, _, hL⟩ := hO.form
      exact ⟨a, c, rfl, hL, hb⟩
theorem splitR_count (lim : Int) (s : List UInt8) : (splitR lim s).L.length ≤ s.length := by
  unfold splitR
  split
  · simp
  · split
    · simp
    · exact Ln.feed_count _ _

set_option maxRecDepth 100000 in
set_option maxHeartbeats 4000000 in
theorem lawSplits_any (s : List UInt8) (limit : Int) (a : Option Addr) (c : Nat) (L : List (List UInt8 × Bool)) (w : World) (hs : s.length ≤ maxLen) (hL : Lines w a L.length L) (hLm : L.length ≤ maxLen) :
    Calls Try.prog 6 #[.string (bs s), .int .i64 limit, .slice a L.length c] w fun e w' => e = .returned (.bool true) ∧ Below w.heap.size w w' := by
  obtain ⟨i0, hi, hz0, hz1, hz2⟩ := info_parts infoLine
  have hsz : (bs s).size = s.length := size_bs s
  unfold maxLen at hs hLm
  by_cases h1 : 2000 < s.length
  · have k1 : (2000 : Int) < ((bs s).size : Int) := by omega
    go_enter Try.func6, Try.ntmps6
    go_wp2_with fail
    refine (awake07_any _).mono ?_
    rintro e w1 ⟨rfl, g1⟩
    go_wp2_with fail
    go_ret
    exact ⟨rfl, g1⟩
  have k1 : ¬ (2000 : Int) < ((bs s).size : Int) := by omega
  by_cases h2 : 20 < L.length
  · have k2 : (20 : Int) < (L.length : Int) := by omega
    go_enter Try.func6, Try.ntmps6
    go_wp2_with fail
    refine (awake07_any _).mono ?_
    rintro e w1 ⟨rfl, g1⟩
    go_wp2_with fail
    go_ret
    exact ⟨rfl, g1⟩
  have k2 : ¬ (20 : Int) < (L.length : Int) := by omega
  have hF1 := fun W => (split_any s limit W (by omega)).mono (fun e w' h => split_u h)
  have hF2 := fun W => (refSplit_any s limit W (by omega)).mono (fun e w' h => split_u h)
  have hFc := splitR_count limit s
  obtain ⟨F, hF⟩ : ∃ F, splitR limit s = F := ⟨_, rfl⟩
  rw [hF] at hF1 hF2 hFc
  clear hF hsz
  go_enter Try.func6, Try.ntmps6
  go_wp2_with fail
  go_loopg [7] L.length (fun g i wr => ∃ k : Nat, i = .int .i64 k ∧ k + g = L.length ∧ (∀ j x, j < k → L[j]? = some x → x.1.length ≤ 300) ∧ wr = w)
  case atStart => exact ⟨0, rfl, by omega, fun j x hj => by omega, rfl⟩
  case round =>
    obtain ⟨k, rfl, hk, hsm, rfl⟩ := hrel
    have HS := Lib.hid hsm
    clear hsm
    by_cases hlt : k < L.length
    · obtain ⟨g', rfl⟩ : ∃ g', gk = g' + 1 := ⟨gk - 1, by omega⟩
      obtain ⟨x, hx⟩ : ∃ x, L[k]? = some x := ⟨_, List.getElem?_eq_getElem hlt⟩
      obtain ⟨ad, rfl, hadb, g0, g1⟩ := hL.get k x hx
      have HX := Lib.hid hx
      have hxz : (bs x.1).size = x.1.length := size_bs _
      clear hx g1
      have i0 : (0 : Int) ≤ (k : Int) := by omega
      have i1 : (k : Int) < (L.length : Int) := by omega
      by_cases h3 : 300 < x.1.length
      · have k3 : (300 : Int) < ((bs x.1).size : Int) := by omega
        go_wp2_with fail
        refine (awake07_any _).mono ?_
        rintro e w1 ⟨rfl, g1⟩
        go_wp2_with fail
        go_ret
        exact ⟨rfl, g1⟩
      · have k3 : ¬ (300 : Int) < ((bs x.1).size : Int) := by omega
        go_wp2_with fail
        go_roundg g'
        case measure => omega
        case rel => exact ⟨k + 1, by go_num, by omega, fun j y hj hy => by
          rcases Nat.lt_or_ge j k with h | h
          · exact HS.out j y h hy
          · obtain rfl : j = k := by omega
            have := HX.out
            rw [this] at hy; cases hy; omega, rfl⟩
    · obtain rfl : k = L.length := by omega
      have hm : ∀ x ∈ L, x.1.length ≤ 10000 := fun x hx => by
        obtain ⟨j, hj⟩ := List.mem_iff_getElem?.1 hx
        have := HS.out j x (List.getElem?_eq_some_iff.1 hj).1 hj
        omega
      have HM := Lib.hid hm
      clear hm
      go_wp2_with fail
      refine (hF1 _).mono ?_
      rintro e w1 ⟨a1, c1, rfl, hL1, g1⟩
      go_wp2_with fail
      refine (hF2 _).mono ?_
      rintro e w2 ⟨a2, c2, rfl, hL2, g2⟩
      have b2 := g1.trans (g2.mono g1.size)
      go_wp2_with fail
      refine (sameLines_any _ _ _ _ F.L _ (Rd.below hL1 g2) hL2 (by omega)).mono ?_
      rintro e w3 ⟨rfl, nq, rfl⟩
      have b3 := below_drewN b2 nq
      clear hL1 hL2 g1 g2 b2 hF1 hF2
      obtain ⟨W3, hW3⟩ : ∃ W3, W3 = w2.drewN nq := ⟨_, rfl⟩
      rw [← hW3] at b3 ⊢
      clear hW3
      have hL3 := Rd.below hL b3
      go_wp2_with (at_builtin; go_must (refine wpList_append_owns _ rfl _ _ 30 rfl W3.heap.size 36 i0 (.agg #[.string ⟨#[]⟩, .bool false]) 2 24 Try.underlying30 hi hz0 hz1 hz2 rfl (by decide) _ 0 [] rfl (Owns.fresh0 W3 _ 2) a L.length c (lineCells L) rfl (Rd.alloc hL3 _) (lineCells_one L) (by simp only [maxLen]; omega) (by omega) (by simp) ?_); intro v' w4 hown' hgrow)
      have hO : OwnLines w4 W3.heap.size v' L := by
        unfold OwnLines
        simpa using hown'
      have b4 : Below W3.heap.size W3 w4 := ((Below.refl _ W3).alloc (Nat.le_refl _) _).grown hgrow (by simp) (by rintro k hk; change some W3.heap.size = some k at hk; cases hk; exact Nat.le_refl _)
      obtain ⟨a4, c4, rfl, _, _, hL4⟩ := hO.form
      have b4' := b3.trans (b4.mono b3.size)
      have hJ1 := fun W h => join_any a4 c4 L W h (by omega) HM.out
      have hJ2 := fun W h => refJoin_any a c L W h (by omega) HM.out
      have hjf : ∃ (t : ByteArray) (er : Int), joinV L = .tuple #[.string t, .int .i64 er] := by
        unfold joinV
        split
        · exact ⟨_, _, rfl⟩
        · exact ⟨_, _, rfl⟩
      obtain ⟨jt, jer, hj⟩ := hjf
      rw [hj] at hJ1 hJ2
      clear hj hown' hgrow hO
      refine (hJ1 _ hL4).mono ?_
      rintro e w5 ⟨rfl, g5⟩
      have hL5 := Rd.below hL4 g5
      have b5 := b4'.trans (g5.mono b4'.size)
      have hL5' := Rd.below hL b5
      go_wp2_with fail
      refine (hJ2 _ hL5').mono ?_
      rintro e w6 ⟨rfl, rfl⟩
      clear hJ1 hJ2
      go_wp2_with fail
      refine (sameLines_any _ _ _ _ L _ hL5 hL5' (by omega)).mono ?_
      rintro e w7 ⟨rfl, nq, rfl⟩
      have b7 := below_drewN b5 nq
      go_wp2_with fail
      refine (awake07_any _).mono ?_
      rintro e w8 ⟨rfl, g8⟩
      go_wp2_with fail
      go_ret
      exact ⟨rfl, b7.trans (g8.mono b7.size)⟩
end Go.Proofs.Yteppipkokeaijaa
