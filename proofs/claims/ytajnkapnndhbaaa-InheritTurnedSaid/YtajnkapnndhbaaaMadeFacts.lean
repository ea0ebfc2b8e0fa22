/- Directories made of numbers are valid; paths made of numbers. -/
import Derived.Test.YtajnkapnndhbaaaMade30
namespace Go.Proofs.Ytajnkapnndhbaaa
open Go.RowKit Str Mem
set_option linter.unusedVariables false
set_option linter.unusedSimpArgs false

theorem mB_lt (l : List Int) : mB l < 7 := by unfold mB; omega
theorem mK_lt (b i : Nat) : mK b i < 7 := by unfold mK; omega
theorem mPath_dir : ∀ k, k < 7 → Dots.directory (mPath k) = true ∧ (mPath k).length ≤ 10 := by decide
theorem mPaths_apart : ∀ b, b < 7 → ((List.range 7).map (fun i => mPath (mK b i))).Nodup := by decide
theorem madeK_mem (l : List Int) : ∀ (k : Nat) x, x ∈ madeK l k → ∃ i m : Nat, x.1 = mPath (mK (mB l) i) ∧ x.2.1 = (m : Int) ∧ m < 3 ∧ x.2.2 < 4
  | 0, x, h => by simp [madeK] at h
  | k + 1, x, h => by
    rcases List.mem_append.1 h with h | h
    · exact madeK_mem l k x h
    · split at h
      · simp at h
      · simp only [List.mem_singleton] at h
        subst h
        exact ⟨k, _, rfl, rfl, by omega, by show mN l k / 12 % 4 < 4; omega⟩
theorem madeK_length (l : List Int) : ∀ k : Nat, (madeK l k).length ≤ k
  | 0 => by simp [madeK]
  | k + 1 => by
    have := madeK_length l k
    unfold madeK
    rw [List.length_append]
    split <;> simp <;> omega
theorem madeK_paths (l : List Int) : ∀ k : Nat, ((madeK l k).map (·.1)).Sublist ((List.range k).map (fun i => mPath (mK (mB l) i)))
  | 0 => by simp [madeK]
  | k + 1 => by
    have := madeK_paths l k
    unfold madeK
    rw [List.range_succ, List.map_append, List.map_append]
    refine this.append ?_
    split
    · simp
    · simp

section
variable {l : List Int} {L : List DirV} (h : L.map Inh.key = madeK l 7)
  include h
theorem made_length : L.length ≤ 7 := by have := congrArg List.length h; have := madeK_length l 7; simp at *; omega
theorem made_mem {d : DirV} (hd : d ∈ L) : ∃ i m : Nat, d.path = mPath (mK (mB l) i) ∧ d.mode = (m : Int) ∧ m < 3 ∧ d.rn < 4 := by
  have hm : Inh.key d ∈ madeK l 7 := by rw [← h]; exact List.mem_map_of_mem hd
  exact madeK_mem l 7 _ hm
theorem made_apart : (L.map (·.path)).Nodup := by
  have e : L.map (·.path) = (madeK l 7).map (·.1) := by rw [← h, List.map_map]; rfl
  rw [e]
  exact (mPaths_apart _ (mB_lt l)).sublist (madeK_paths l 7)
theorem made_small : Small L := by
  refine ⟨by have := made_length h; omega, fun d hd => ?_⟩
  obtain ⟨i, m, h1, _, _, h2⟩ := made_mem h hd
  refine ⟨by omega, ?_⟩
  rw [h1]
  have := (mPath_dir _ (mK_lt (mB l) i)).2
  omega
theorem made_check : Inh.check L = (0, 0) := by
  have hl := made_length h
  have hb : ∀ j, j < L.length → Inh.badAt L j = 0 := by
    intro j hj
    obtain ⟨d, hd, hp, hg⟩ := Inh.pathOf_mem hj
    obtain ⟨i, m, h1, h2, h3, h4⟩ := made_mem h hd
    rw [Inh.badAt_rest, Inh.modeOf_get hg, if_neg (by omega)]
    · rw [← hp, h1]; exact (mPath_dir _ (mK_lt _ i)).1
    · rw [List.any_eq_false]
      intro x hx
      simp only [beq_iff_eq]
      rw [← hp]
      intro e
      obtain ⟨k, hk, rfl⟩ := List.mem_take_iff_getElem.1 hx
      have hn := made_apart h
      rw [List.nodup_iff_pairwise_ne, List.pairwise_iff_getElem] at hn
      have hjd : L[j] = d := by rw [List.getElem?_eq_getElem hj] at hg; exact Option.some.inj hg
      have := hn k j (by simp; omega) (by simpa using hj) (by omega)
      simp only [List.getElem_map] at this
      rw [hjd] at this
      exact this e
  have ht : ∀ M : List DirV, (∀ d ∈ M, d.rn < 4) → Inh.total M ≤ 3 * M.length := by
    intro M
    induction M with
    | nil => intro _; simp [Inh.total]
    | cons a t ih =>
      intro hM
      have h1 := ih fun d hd => hM d (by simp [hd])
      have h2 := hM a (by simp)
      unfold Inh.total at *
      simp only [List.map_cons, List.sum_cons, List.length_cons]
      omega
  have ht2 := ht L fun d hd => by obtain ⟨_, _, _, _, _, h4⟩ := made_mem h hd; exact h4
  rw [Inh.check_end (by omega) hb, if_neg (by omega)]
end

/-- The paths. -/
def pPaths : List (List UInt8) := [[47], [47, 97], [47, 97, 47], [47, 97, 47, 98], [47, 97, 47, 98, 47, 99, 47, 100], [47, 97, 98, 47, 99], [47, 97, 47, 99], [47, 97, 98, 99], [47, 120, 47, 121, 47], [47, 120], [47, 97, 47, 98, 99]]
def pPath (n : Int) : List UInt8 := pPaths.getD (n % 11).toNat []
theorem pPaths_normal : ∀ k, k < 11 → Dots.normal (pPaths.getD k []) = true ∧ (pPaths.getD k []).length ≤ 10 := by decide
theorem pPath_normal (n : Int) : Dots.normal (pPath n) = true := (pPaths_normal _ (by omega)).1
theorem pPath_short (n : Int) : (pPath n).length ≤ 10 := (pPaths_normal _ (by omega)).2

theorem eleven {x : Nat} (h : x < 11) : x = 0 ∨ x = 1 ∨ x = 2 ∨ x = 3 ∨ x = 4 ∨ x = 5 ∨ x = 6 ∨ x = 7 ∨ x = 8 ∨ x = 9 ∨ x = 10 := by omega
set_option maxHeartbeats 1000000 in
theorem path30_any (n : Int) (w : World) : Calls Try.prog 36 #[.int .i64 n] w fun e w' => e = .returned (.string ⟨(pPath n).toArray⟩) ∧ Below w.heap.size w w' := by
  have hm := fun w => kitMod_any n 11 w (by omega) (by omega)
  unfold pPath
  obtain ⟨k, hk⟩ : ∃ k : Nat, n % 11 = (k : Int) := ⟨(n % 11).toNat, by omega⟩
  have hk11 : k < 11 := by omega
  rw [hk] at hm ⊢
  clear hk
  rw [Int.toNat_natCast]
  rcases eleven hk11 with rfl | rfl | rfl | rfl | rfl | rfl | rfl | rfl | rfl | rfl | rfl
  all_goals
    go_enter Try.func36, Try.ntmps36
    go_wp2_with (go_at_call 37; refine (hm _).mono ?_; rintro e w4 ⟨rfl, rfl⟩)
    go_ret
    exact ⟨rfl, (Below.refl _ w).alloc (Nat.le_refl _) _⟩

end Go.Proofs.Ytajnkapnndhbaaa
