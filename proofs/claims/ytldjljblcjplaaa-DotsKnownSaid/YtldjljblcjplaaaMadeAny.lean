/- made: what it returns. -/
import Derived.Test.YtldjljblcjplaaaMade
import Derived.Test.YtldjljblcjplaaaRefClean
namespace Go.Proofs.Ytldjljblcjplaaa
open Go.RowKit Str Mem
set_option linter.unusedVariables false
set_option linter.unusedSimpArgs false

theorem madeOf_take {l : List Int} {k : Nat} {n : Int} (hn : l[k]? = some n) (h8 : k < 8) : madeOf (l.take (k + 1)) = madeOf (l.take k) ++ [tableAt n] := by
  obtain ⟨hk, rfl⟩ := List.getElem?_eq_some_iff.1 hn
  unfold madeOf
  rw [List.take_take, List.take_take, Nat.min_eq_right (by omega), Nat.min_eq_right (by omega), ← List.take_append_getElem hk, List.map_append]
  rfl

theorem madeOf_end {l : List Int} {k : Nat} (h : k = 8 ∨ k = l.length) : madeOf (l.take k) = madeOf l := by
  rcases h with rfl | rfl
  · unfold madeOf; rw [List.take_take]; simp
  · rw [List.take_length]

theorem madeOf_zero (l : List Int) : madeOf (l.take 0) = [] := rfl

def MadeI (w : World) (l : List Int) (v i : Value) (wr : World) : Prop :=
  ∃ k : Nat, i = .int .i64 k ∧ k ≤ l.length ∧ k ≤ 8 ∧ Owns wr w.heap.size 9 1 v (madeOf (l.take k)).length ((madeOf (l.take k)).map sv) ∧ Below w.heap.size w wr

set_option maxHeartbeats 2000000 in
theorem made_any (a : Option Addr) (c : Nat) (l : List Int) (w : World) (h : Ints w a l.length l) (hl : l.length ≤ maxLen) (hb : ∀ n ∈ l, -9223372036854775808 ≤ n ∧ n ≤ 9223372036854775807) :
    Calls Try.prog 30 #[.slice a l.length c] w fun e w' => ∃ v, e = .returned v ∧ SlStr w' v (madeOf l) ∧ Below w.heap.size w w' := by
  obtain ⟨i0, hi, hz0, hz1, hz2⟩ := info_parts infoStr
  have Hb := Lib.hid hb
  clear hb
  simp only [maxLen] at hl
  go_enter Try.func30, Try.ntmps30
  go_wp2
  go_loopw [3, 4] (fun v i wr => MadeI w l v i wr) (fun _ i _ => l.length - (intOf i).toNat)
  case atStart => exact ⟨0, rfl, Nat.zero_le _, by omega, Owns.nil _ _ _ _, Below.refl _ _⟩
  case round =>
    obtain ⟨k, rfl, hk, hk8, hown, hbl⟩ := hrel
    have hsz := hbl.size
    have hlen : (madeOf (l.take k)).length ≤ 8 := madeOf_length _
    by_cases hlt : k < l.length
    · by_cases h8 : k < 8
      · obtain ⟨ad, n, rfl, hadb, hls, hcell⟩ := (h.below hbl).get hlt
        obtain ⟨hn1, hn2⟩ := Hb.out n (List.mem_of_getElem? hls)
        have hm := fun w => mod8 n w hn1 hn2
        have Hn := Lib.hid (madeOf_take hls h8)
        obtain ⟨j, hj⟩ : ∃ j : Nat, n % 8 = (j : Int) := ⟨(n % 8).toNat, by omega⟩
        have hj8 : j < 8 := by omega
        have htab : tableAt n = tableL.getD j [] := by unfold tableAt; rw [hj]; rfl
        have Htab := Lib.hid htab
        rw [hj] at hm
        have hcell2 : ∀ o, (wr.alloc o).cell? (ad.add k) = some (.int .i64 n) := fun o => by rw [World.cell?_of_block (w := wr) (by rw [add_block]; exact ((Below.refl _ wr).alloc (Nat.le_refl _) o).block _ hadb)]; exact hcell
        have hjc : j = 0 ∨ j = 1 ∨ j = 2 ∨ j = 3 ∨ j = 4 ∨ j = 5 ∨ j = 6 ∨ j = 7 := by omega
        clear hls hj htab hcell hj8
        rcases hjc with rfl | rfl | rfl | rfl | rfl | rfl | rfl | rfl
        all_goals go_wp2_with (first
          | (go_at_call 51; refine (hm _).mono ?_; rintro e w' ⟨rfl, rfl⟩)
          | (at_builtin; go_must (refine wpList_append_owns _ rfl _ _ 28 rfl w.heap.size 9 i0 (.string ⟨#[]⟩) 1 16 Try.underlying28 hi hz0 hz1 hz2 rfl (by decide) _ _ _ rfl ((hown.alloc _).alloc _) _ 1 1 [.string (bs _)] rfl (Rd.one_at _ _ _ _ (by simp)) (by intro u hu; simp at hu; subst hu; rfl) (by simp only [maxLen]; omega) (by omega) (by simp; omega) ?_); intro v' w3 hown' hgrow))
        all_goals go_roundw
        all_goals try (case measure => simp [intOf]; omega)
        all_goals
          refine ⟨k + 1, by go_num, by omega, by omega, ?_, ?_⟩
          · rw [Hn.out, Htab.out, List.map_append, List.length_append]; exact hown'
          · exact ((hbl.alloc hbl.size _).alloc (by simp; omega) _).grown hgrow (by simp; omega) (by intro j hj; exact (hown.lt j hj).1)
      · obtain rfl : k = 8 := by omega
        have Hd := Lib.hid (madeOf_end (l := l) (.inl rfl))
        rw [Hd.out] at hown
        obtain ⟨a2, c2, rfl, _⟩ := id hown.form
        go_wp2
        go_ret
        exact ⟨_, rfl, SlStr.of_owns hown, hbl⟩
    · obtain rfl : k = l.length := by omega
      have Hd := Lib.hid (madeOf_end (l := l) (.inr rfl))
      rw [Hd.out] at hown
      obtain ⟨a2, c2, rfl, _⟩ := id hown.form
      go_wp2
      go_ret
      exact ⟨_, rfl, SlStr.of_owns hown, hbl⟩

end Go.Proofs.Ytldjljblcjplaaa
