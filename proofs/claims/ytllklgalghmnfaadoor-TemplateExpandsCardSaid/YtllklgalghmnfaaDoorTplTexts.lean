/- Own copies of texts, and their comparison. -/
import Derived.Test.YtllklgalghmnfaaDoorTplLight
import Derived.Test.YtllklgalghmnfaaDoorStrWalks
import Derived.Deep.QuietTactic
import Derived.BigQuiet
namespace Go.Proofs.YtllklgalghmnfaaDoor
open Go.RowKit Str Mem Tp
set_option linter.unusedVariables false
set_option linter.unusedSimpArgs false
set_option maxRecDepth 100000 in
set_option maxHeartbeats 1000000 in
theorem ownTexts_any (a : Option Addr) (c : Nat) (L : List Tp.Bs) (w : World) (hP : Strs w a L.length L) (hn : L.length ≤ 1000) :
    Calls Tryd.prog 31 #[.slice a L.length c] w fun e w' => ∃ a c, e = .returned (.slice a L.length c) ∧ Strs w' a L.length L ∧ (∀ ad : Addr, a = some ad → w.heap.size ≤ ad.block) ∧ Below w.heap.size w w' := by
  obtain ⟨i0, hi, hz0, hz1, hz2⟩ := info_parts infoStr
  have hP' := Rd.alloc hP (.cells #[] 9)
  have hb := (Below.refl _ w).alloc (Nat.le_refl _) (.cells #[] 9)
  have hO := Owns.empty25 w 9 1 w.heap.size rfl
  go_enter Tryd.func31, Tryd.ntmps31
  go_wp2_with (at_builtin; go_must (refine wpList_append_owns _ rfl _ _ 50 rfl w.heap.size 9 i0 (.string ⟨#[]⟩) 1 16 Tryd.underlying50 hi hz0 hz1 hz2 rfl (by decide) _ 0 [] rfl hO a L.length c (L.map sv) rfl hP' (by intro u hu; obtain ⟨b, _, rfl⟩ := List.mem_map.1 hu; rfl) (by simp only [maxLen]; omega) (by omega) (by simp) ?_); intro v' w4 hown' hgrow)
  rw [Nat.zero_add, List.nil_append] at hown'
  obtain ⟨a1, c1, rfl, _, _, hrd⟩ := hown'.form
  have hfr : ∀ ad : Addr, a1 = some ad → w.heap.size ≤ ad.block := fun ad he => by
    subst he
    rcases hown'.2 with ⟨hv, _⟩ | ⟨g, cap, cur, hv, hg, _⟩
    · cases hv
    · cases hv; exact hg
  go_ret
  exact ⟨_, _, rfl, hrd, hfr, hb.grown hgrow (by simp) (fun k hk => by cases hk; exact Nat.le_refl _)⟩
theorem sameTexts_any (a b : Option Addr) (c d : Nat) (L : List Tp.Bs) (w : World) (hA : Strs w a L.length L) (hB : Strs w b L.length L) (hn : L.length ≤ 1000000) :
    Calls Tryd.prog 36 #[.slice a L.length c, .slice b L.length d] w fun e w' => e = .returned (.bool true) ∧ ∃ n, w' = w.drewN n := by
  go_enter Tryd.func36, Tryd.ntmps36
  go_wp2_with fail
  go_loopw [5] (fun i wr => ∃ k : Nat, i = .int .i64 k ∧ k ≤ L.length ∧ ∃ n, wr = w.drewN n) (fun i _ => L.length - (intOf i).toNat)
  case atStart => exact ⟨0, rfl, Nat.zero_le _, 0, rfl⟩
  case round =>
    obtain ⟨k, rfl, hk, n, rfl⟩ := hrel
    by_cases hlt : k < L.length
    · obtain ⟨ad, s, rfl, _, hs, g0⟩ := hA.get hlt
      obtain ⟨bd, s2, rfl, _, hs2, t0⟩ := hB.get hlt
      rw [hs] at hs2
      injection hs2 with hs2
      subst hs2
      clear hs
      have i0 : (0 : Int) ≤ (k : Int) := by omega
      have i1 : (k : Int) < (L.length : Int) := by omega
      go_wp2
      go_quiet (fail)
      go_wp2
      go_roundw
      case rel => exact ⟨k + 1, by go_num, by omega, n + nq, by simp [World.drewN, Nat.add_assoc]⟩
      case measure => simp [intOf]; omega
    · obtain rfl : k = L.length := by omega
      go_wp2
      go_ret
      exact ⟨rfl, n, rfl⟩
end Go.Proofs.YtllklgalghmnfaaDoor
