/- The reference's Normal, directory, Segments. -/
import Derived.Test.YtajnkapnndhbaaaRefPieces
import Derived.Test.YtajnkapnndhbaaaDotsMore
namespace Go.Proofs.Ytajnkapnndhbaaa
open Go.RowKit Str Mem
set_option linter.unusedVariables false
set_option linter.unusedSimpArgs false

theorem okAt_of {L : List (List UInt8)} {k : Nat} {s : List UInt8} (h : L[k]? = some s) : Dots.okAt L k = !((s == [46]) || (s == [46, 46]) || ((s == []) && !decide (k + 1 = L.length))) := by
  unfold Dots.okAt Dots.okPiece Dots.pieceAt Dots.lastAt Dots.dotted
  rw [List.getD_eq_getElem?_getD, h]
  rfl

theorem refNormal_short (s : ByteArray) (w : World) (h : (!Dots.isPath s.data.toList || decide (128 < (s.size : Int))) = true) : Calls Try.prog 53 #[.string s] w fun e w' => e = .returned (.bool false) ∧ Below w.heap.size w w' := by
  have hp := fun w => refPath_any s w
  rcases hx : Dots.isPath s.data.toList with _ | _
  · rw [hx] at hp
    clear h hx
    go_enter Try.func53, Try.ntmps53
    go_wp2_with (go_at_call 67; refine (hp _).mono ?_; rintro e w' ⟨rfl, rfl⟩)
    go_ret
    exact ⟨rfl, Below.refl _ _⟩
  · rw [hx] at hp h
    have h1 : 128 < (s.size : Int) := by simpa using h
    clear h hx
    go_enter Try.func53, Try.ntmps53
    go_wp2_with (go_at_call 67; refine (hp _).mono ?_; rintro e w' ⟨rfl, rfl⟩)
    go_ret
    exact ⟨rfl, Below.refl _ _⟩

theorem okNext {L : List (List UInt8)} {k : Nat} (h : ∀ j, j < k → Dots.okAt L j = true) (hk : Dots.okAt L k = true) : ∀ j, j < k + 1 → Dots.okAt L j = true := by
  intro j hj
  by_cases e : j = k
  · subst e; exact hk
  · exact h j (by omega)

set_option maxHeartbeats 1000000 in
theorem refNormal_long (s : ByteArray) (w : World) (hp : Dots.isPath s.data.toList = true) (h1 : 1 ≤ s.size) (h2 : (s.size : Int) ≤ 128) : Calls Try.prog 53 #[.string s] w fun e w' => e = .returned (.bool (Dots.normal s.data.toList)) ∧ Below w.heap.size w w' := by
  rw [Dots.normal_eq _ hp (by rw [← size_data]; omega)]
  have hpt := fun w => refPath_any s w
  rw [hp] at hpt
  have hpc := fun w => refPieces_any s w h1 (by omega)
  have hlen := Dots.split_length (s.data.toList.drop 1)
  rw [List.length_drop, ← size_data] at hlen
  clear hp
  obtain ⟨L, hL⟩ : ∃ L, L = Dots.split (s.data.toList.drop 1) := ⟨_, rfl⟩
  rw [← hL] at hpc hlen ⊢
  have hm : L.length ≤ 200 := by omega
  clear hL hlen
  have e0 : (L.length : Int) = (L.length : Int) := rfl
  go_enter Try.func53, Try.ntmps53
  go_wp2_with (first
    | (go_at_call 67; refine (hpt _).mono ?_; rintro e w' ⟨rfl, rfl⟩)
    | (go_at_call 68; refine (hpc _).mono ?_; rintro e w1 ⟨v, rfl, ⟨a, c, rfl, _, _, hS⟩, hbl1⟩))
  go_loopw [4] (fun i wr => Below w1.heap.size w1 wr ∧ ∃ k : Nat, k ≤ L.length ∧ i = .int .i64 k ∧ ∀ j, j < k → Dots.okAt L j = true) (fun i _ => L.length - (intOf i).toNat)
  case atStart => exact ⟨Below.refl _ _, 0, Nat.zero_le _, rfl, by intro j hj; omega⟩
  case round =>
    obtain ⟨hbl, k, hk, rfl, ht⟩ := hrel
    by_cases hlt : k < L.length
    · obtain ⟨ad, x, rfl, _, hls, hcell⟩ := (hS.below hbl).get hlt
      have hok := okAt_of hls
      have Hn := Lib.hid (okNext (k := k) ht)
      have Hb := Lib.hid (Dots.not_all_ok (L := L) hlt)
      have Hok := Lib.hid hok
      have hkl : ((k : Int) = (L.length : Int) - 1) ↔ (k + 1 = L.length) := by omega
      have Hkl := Lib.hid hkl
      clear ht hls hok hkl
      go_wp2
      all_goals first
        | (go_ret
           refine ⟨ret_bool (Hb.out ?_).symm, hbl1.trans (hbl.mono hbl1.size)⟩
           rw [Hok.out]
           have hkl := Hkl.out
           simp_all
           done)
        | (go_roundw
           case rel =>
             refine ⟨hbl, k + 1, by omega, by go_num, Hn.out ?_⟩
             rw [Hok.out]
             have hkl := Hkl.out
             simp_all
             done
           case measure => simp [intOf]; omega)
    · obtain rfl : k = L.length := by omega
      have hd := Dots.all_ok ht
      have H := Lib.hid hd
      clear ht hd
      go_wp2
      go_ret
      exact ⟨ret_bool H.out.symm, hbl1.trans (hbl.mono hbl1.size)⟩

theorem refNormal_any (s : ByteArray) (w : World) : Calls Try.prog 53 #[.string s] w fun e w' => e = .returned (.bool (Dots.normal s.data.toList)) ∧ Below w.heap.size w w' := by
  rcases h : (!Dots.isPath s.data.toList || decide (128 < (s.size : Int))) with _ | _
  · rw [Bool.or_eq_false_iff, Bool.not_eq_false', decide_eq_false_iff_not] at h
    refine refNormal_long s w h.1 ?_ (by omega)
    rw [size_data]
    have := h.1
    unfold Dots.isPath at this
    cases hx : s.data.toList with
    | nil => rw [hx] at this; simp at this
    | cons a t => simp
  · have e : Dots.normal s.data.toList = false := by
      unfold Dots.normal
      rw [Bool.or_eq_true] at h
      rcases h with h | h
      · simp at h; simp [h]
      · have : ¬ s.data.toList.length ≤ 128 := by rw [← size_data]; simp at h; omega
        rw [decide_eq_false this]; simp
    rw [e]
    exact refNormal_short s w h

theorem normal_small {p : List UInt8} (h : Dots.normal p = true) : 1 ≤ p.length ∧ p.length ≤ 128 := by
  unfold Dots.normal Dots.isPath at h
  simp only [Bool.and_eq_true, decide_eq_true_eq] at h
  refine ⟨?_, h.1.2⟩
  cases p with
  | nil => simp at h
  | cons a t => simp

theorem refDirectory_any (s : ByteArray) (w : World) : Calls Try.prog 81 #[.string s] w fun e w' => e = .returned (.bool (Dots.directory s.data.toList)) ∧ Below w.heap.size w w' := by
  have hno := fun w => refNormal_any s w
  rcases hn : Dots.normal s.data.toList with _ | _
  · have e : Dots.directory s.data.toList = false := by unfold Dots.directory; rw [hn]; rfl
    rw [e]
    rw [hn] at hno
    clear hn
    go_enter Try.func81, Try.ntmps81
    go_wp2_with (go_at_call 53; refine (hno _).mono ?_; rintro e w1 ⟨rfl, hbl⟩)
    go_ret
    exact ⟨rfl, hbl⟩
  · have hsm := normal_small hn
    rw [← size_data] at hsm
    have hop := fun w => refOpen_any s w (by omega) (by unfold maxLen; omega)
    have e : Dots.directory s.data.toList = (s.data.toList == [47] || !Dots.isOpen s.data.toList) := by unfold Dots.directory; rw [hn]; rfl
    rw [e]
    rw [hn] at hno
    clear hn hsm
    rcases hr : (s.data.toList == [47]) with _ | _
    · rw [← toList_data] at hr
      go_enter Try.func81, Try.ntmps81
      go_wp2_with (first | (go_at_call 53; refine (hno _).mono ?_; rintro e w1 ⟨rfl, hbl⟩) | (go_at_call 85; refine (hop _).mono ?_; rintro e w2 ⟨rfl, rfl⟩))
      go_ret
      exact ⟨rfl, hbl⟩
    · rw [← toList_data] at hr
      go_enter Try.func81, Try.ntmps81
      go_wp2_with (first | (go_at_call 53; refine (hno _).mono ?_; rintro e w1 ⟨rfl, hbl⟩) | (go_at_call 85; refine (hop _).mono ?_; rintro e w2 ⟨rfl, rfl⟩))
      go_ret
      exact ⟨rfl, hbl⟩

theorem segments_split {p : List UInt8} (h : Dots.normal p = true) : Dots.split (p.drop 1) = Dots.segments p ++ if Dots.isOpen p then [[]] else [] := by
  obtain ⟨k, op, hk, he, rfl, hs⟩ := Dots.normal_form h
  rw [hs, Dots.segments_built hk, Dots.isOpen_built hk]
  cases op <;> cases k <;> simp_all

/-- What Segments returns. -/
def SegsOf (w w' : World) (p : List UInt8) (e : Ending) : Prop :=
  (Dots.normal p = false ∧ e = .returned (.tuple #[.slice none 0 0, .int .i64 3]) ∧ Below w.heap.size w w') ∨
  (Dots.normal p = true ∧ ∃ v, e = .returned (.tuple #[v, .int .i64 0]) ∧ SlStr w' v (Dots.segments p) ∧ Below w.heap.size w w')

end Go.Proofs.Ytajnkapnndhbaaa
