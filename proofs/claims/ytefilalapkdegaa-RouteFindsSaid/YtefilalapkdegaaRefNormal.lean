/- The reference's Normal, directory, Segments. -/
import Derived.Test.YtefilalapkdegaaRefPieces
import Derived.Test.YtefilalapkdegaaDotsMore
namespace Go.Proofs.Ytefilalapkdegaa
open Go.RowKit Str Mem
set_option linter.unusedVariables false
set_option linter.unusedSimpArgs false

theorem okAt_of {L : List (List UInt8)} {k : Nat} {s : List UInt8} (h : L[k]? = some s) : Dots.okAt L k = !((s == [46]) || (s == [46, 46]) || ((s == []) && !decide (k + 1 = L.length))) := by
  unfold Dots.okAt Dots.okPiece Dots.pieceAt Dots.lastAt Dots.dotted
  rw [List.getD_eq_getElem?_getD, h]
  rfl

theorem refNormal_short (s : ByteArray) (w : World) (h : (!Dots.isPath s.data.toList || decide (128 < (s.size : Int))) = true) : Calls Try.prog 52 #[.string s] w fun e w' => e = .returned (.bool false) ∧ Below w.heap.size w w' := by
  have hp := fun w => refPath_any s w
  rcases hx : Dots.isPath s.data.toList with _ | _
  · rw [hx] at hp
    clear h hx
    go_enter Try.func52, Try.ntmps52
    go_wp2_with (go_at_call 81; refine (hp _).mono ?_; rintro e w' ⟨rfl, rfl⟩)
    go_ret
    exact ⟨rfl, Below.refl _ _⟩
  · rw [hx] at hp h
    have h1 : 128 < (s.size : Int) := by simpa using h
    clear h hx
    go_enter Try.func52, Try.ntmps52
    go_wp2_with (go_at_call 81; refine (hp _).mono ?_; rintro e w' ⟨rfl, rfl⟩)
    go_ret
    exact ⟨rfl, Below.refl _ _⟩

theorem okNext {L : List (List UInt8)} {k : Nat} (h : ∀ j, j < k → Dots.okAt L j = true) (hk : Dots.okAt L k = true) : ∀ j, j < k + 1 → Dots.okAt L j = true := by
  intro j hj
  by_cases e : j = k
  · subst e; exact hk
  · exact h j (by omega)

set_option maxHeartbeats 1000000 in
theorem refNormal_long (s : ByteArray) (w : World) (hp : Dots.isPath s.data.toList = true) (h1 : 1 ≤ s.size) (h2 : (s.size : Int) ≤ 128) : Calls Try.prog 52 #[.string s] w fun e w' => e = .returned (.bool (Dots.normal s.data.toList)) ∧ Below w.heap.size w w' := by
  rw [Dots.normal_eq _ hp (by rw [← size_data]; omega)]
  have hpt := fun w => refPath_any s w
  rw [hp] at hpt
  have hpc := fun w => refPieces_any s w h1 (by omega)
  have hlen := Dots.split_length (s.data.toList.drop 1)
  rw [List.length_drop, ← size_data] at hlen
  clear hp
  obtain ⟨L, hL⟩ : ∃ L, L = Dots.split (s.data.toList.drop 1) := ⟨_, rfl⟩
  rw [← hL] at hpc hlen ⊢
  have hm : L.length ≤ 200 := by omega
  clear hL hlen
  have e0 : (L.length : Int) = (L.length : Int) := rfl
  go_enter Try.func52, Try.ntmps52
  go_wp2_with (first
    | (go_at_call 81; refine (hpt _).mono ?_; rintro e w' ⟨rfl, rfl⟩)
    | (go_at_call 82; refine (hpc _).mono ?_; rintro e w1 ⟨v, rfl, ⟨a, c, rfl, _, _, hS⟩, hbl1⟩))
  go_loopw [4] (fun i wr => Below w1.heap.size w1 wr ∧ ∃ k : Nat, k ≤ L.length ∧ i = .int .i64 k ∧ ∀ j, j < k → Dots.okAt L j = true) (fun i _ => L.length - (intOf i).toNat)
  case atStart => exact ⟨Below.refl _ _, 0, Nat.zero_le _, rfl, by intro j hj; omega⟩
  case round =>
    obtain ⟨hbl, k, hk, rfl, ht⟩ := hrel
    by_cases hlt : k < L.length
    · obtain ⟨ad, x, rfl, _, hls, hcell⟩ := (hS.below hbl).get hlt
      have hok := okAt_of hls
      have Hn := Lib.hid (okNext (k := k) ht)
      have Hb := Lib.hid (Dots.not_all_ok (L := L) hlt)
      have Hok := Lib.hid hok
      have hkl : ((k : Int) = (L.length : Int) - 1) ↔ (k + 1 = L.length) := by omega
      have Hkl := Lib.hid hkl
      clear ht hls hok hkl
      go_wp2
      all_goals first
        | (go_ret
           refine ⟨ret_bool (Hb.out ?_).symm, hbl1.trans (hbl.mono hbl1.size)⟩
           rw [Hok.out]
           have hkl := Hkl.out
           simp_all
           done)
        | (go_roundw
           case rel =>
             refine ⟨hbl, k + 1, by omega, by go_num, Hn.out ?_⟩
             rw [Hok.out]
             have hkl := Hkl.out
             simp_all
             done
           case measure => simp [intOf]; omega)
    · obtain rfl : k = L.length := by omega
      have hd := Dots.all_ok ht
      have H := Lib.hid hd
      clear ht hd
      go_wp2
      go_ret
      exact ⟨ret_bool H.out.symm, hbl1.trans (hbl.mono hbl1.size)⟩

theorem refNormal_any (s : ByteArray) (w : World) : Calls Try.prog 52 #[.string s] w fun e w' => e = .returned (.bool (Dots.normal s.data.toList)) ∧ Below w.heap.size w w' := by
  rcases h : (!Dots.isPath s.data.toList || decide (128 < (s.size : Int))) with _ | _
  · rw [Bool.or_eq_false_iff, Bool.not_eq_false', decide_eq_false_iff_not] at h
    refine refNormal_long s w h.1 ?_ (by omega)
    rw [size_data]
    have := h.1
    unfold Dots.isPath at this
    cases hx : s.data.toList with
    | nil => rw [hx] at this; simp at this
    | cons a t => simp
  · have e : Dots.normal s.data.toList = false := by
      unfold Dots.normal
      rw [Bool.or_eq_true] at h
      rcases h with h | h
      · simp at h; simp [h]
      · have : ¬ s.data.toList.length ≤ 128 := by rw [← size_data]; simp at h; omega
        rw [decide_eq_false this]; simp
    rw [e]
    exact refNormal_short s w h

theorem normal_small {p : List UInt8} (h : Dots.normal p = true) : 1 ≤ p.length ∧ p.length ≤ 128 := by
  unfold Dots.normal Dots.isPath at h
  simp only [Bool.and_eq_true, decide_eq_true_eq] at h
  refine ⟨?_, h.1.2⟩
  cases p with
  | nil => simp at h
  | cons a t => simp

theorem segments_split {p : List UInt8} (h : Dots.normal p = true) : Dots.split (p.drop 1) = Dots.segments p ++ if Dots.isOpen p then [[]] else [] := by
  obtain ⟨k, op, hk, he, rfl, hs⟩ := Dots.normal_form h
  rw [hs, Dots.segments_built hk, Dots.isOpen_built hk]
  cases op <;> cases k <;> simp_all

/-- What Segments returns. -/
def SegsOf (w w' : World) (p : List UInt8) (e : Ending) : Prop :=
  (Dots.normal p = false ∧ e = .returned (.tuple #[.slice none 0 0, .int .i64 3]) ∧ Below w.heap.size w w') ∨
  (Dots.normal p = true ∧ ∃ v, e = .returned (.tuple #[v, .int .i64 0]) ∧ SlStr w' v (Dots.segments p) ∧ Below w.heap.size w w')

theorem segsAny (s : ByteArray) (w : World) : Calls Try.prog 57 #[.string s] w fun e w' => SegsOf w w' s.data.toList e := by
  have hno := fun w => normal_any s w
  rcases hn : Dots.normal s.data.toList with _ | _
  · rw [hn] at hno
    refine Calls.mono (R := fun e w' => e = .returned (.tuple #[.slice none 0 0, .int .i64 3]) ∧ Below w.heap.size w w') ?_ (fun e w' h => .inl ⟨hn, h⟩)
    clear hn
    go_enter Try.func57, Try.ntmps57
    go_wp2_with (go_at_call 35; refine (hno _).mono ?_; rintro e w1 ⟨rfl, hbl⟩)
    go_ret2
    exact ⟨rfl, hbl⟩
  · rw [hn] at hno
    have hsm := normal_small hn
    rw [← size_data] at hsm
    have hsg := fun w => segments_any s w (by omega) (by omega)
    refine Calls.mono (R := fun e w' => ∃ v, e = .returned (.tuple #[v, .int .i64 0]) ∧ SlStr w' v (Dots.segments s.data.toList) ∧ Below w.heap.size w w') ?_ (fun e w' h => .inr ⟨hn, h⟩)
    clear hn hsm
    go_enter Try.func57, Try.ntmps57
    go_wp2_with (first | (go_at_call 35; refine (hno _).mono ?_; rintro e w1 ⟨rfl, hbl⟩) | (go_at_call 86; refine (hsg _).mono ?_; rintro e w2 ⟨v, rfl, hS, hbl2⟩))
    go_ret2
    exact ⟨v, rfl, hS, hbl.trans (hbl2.mono hbl.size)⟩

theorem segs_own (s : ByteArray) (w : World) (hn : Dots.normal s.data.toList = true) : Calls Try.prog 57 #[.string s] w fun e w' => ∃ v, e = .returned (.tuple #[v, .int .i64 0]) ∧ Owns w' w.heap.size 9 1 v (Dots.segments s.data.toList).length ((Dots.segments s.data.toList).map sv) ∧ Below w.heap.size w w' := by
  have hno := fun w => normal_any s w
  rw [hn] at hno
  have hsm := normal_small hn
  rw [← size_data] at hsm
  have hsg := fun w => segments_own s w (by omega) (by omega)
  clear hn hsm
  go_enter Try.func57, Try.ntmps57
  go_wp2_with (first | (go_at_call 35; refine (hno _).mono ?_; rintro e w1 ⟨rfl, hbl⟩) | (go_at_call 86; refine (hsg _).mono ?_; rintro e w2 ⟨v, rfl, hS, hbl2⟩))
  go_ret2
  exact ⟨v, rfl, hS.mono hbl.size, hbl.trans (hbl2.mono hbl.size)⟩

set_option maxHeartbeats 1000000 in
theorem refSegs_own (s : ByteArray) (w : World) (hn : Dots.normal s.data.toList = true) : Calls Try.prog 79 #[.string s] w fun e w' => ∃ v, e = .returned (.tuple #[v, .int .i64 0]) ∧ Owns w' w.heap.size 9 1 v (Dots.segments s.data.toList).length ((Dots.segments s.data.toList).map sv) ∧ Below w.heap.size w w' := by
  obtain ⟨i0, hi, hz0, hz1, hz2⟩ := info_parts infoStr
  have hno := fun w => refNormal_any s w
  rw [hn] at hno
  have hsm := normal_small hn
  rw [← size_data] at hsm
  have hop := fun w => refOpen_any s w (by omega) (by unfold maxLen; omega)
  have hpc := fun w => refPieces_any s w (by omega) (by omega)
  have hlen := Dots.split_length (s.data.toList.drop 1)
  rw [List.length_drop, ← size_data] at hlen
  rw [segments_split hn] at hpc hlen
  obtain ⟨L, hL⟩ : ∃ L, L = Dots.segments s.data.toList := ⟨_, rfl⟩
  rw [← hL] at hpc hlen ⊢
  clear hn hL
  rcases ho : Dots.isOpen s.data.toList with _ | _
  · rw [ho] at hpc hlen hop
    simp only [Bool.false_eq_true, if_false, List.append_nil] at hpc hlen
    clear ho
    have hm : L.length ≤ 200 := by omega
    clear hlen hsm
    go_enter Try.func79, Try.ntmps79
    go_wp2_with (first
      | (go_at_call 52; refine (hno _).mono ?_; rintro e w1 ⟨rfl, h1⟩)
      | (go_at_call 82; refine (hpc _).mono ?_; rintro e w2 ⟨v, rfl, ⟨a, c, rfl, _, _, hS⟩, h2⟩)
      | (go_at_call 102; refine (hop _).mono ?_; rintro e w3 ⟨rfl, rfl⟩)
      | (at_builtin; go_must (refine wpList_append_owns _ rfl _ _ 33 rfl w2.heap.size 9 i0 (.string ⟨#[]⟩) 1 16 Try.underlying33 hi hz0 hz1 hz2 rfl (by decide) _ 0 [] rfl (Owns.fresh w2 _ 1) a L.length c (L.map sv) rfl (Rd.alloc hS _) (by simp [sv, Value.oneCell']) (by simp only [maxLen]; omega) (by omega) (by simp) ?_); intro v' w4 hown hgrow))
    go_ret2
    have g2 := h1.trans (h2.mono h1.size)
    exact ⟨_, rfl, (show Owns w4 w2.heap.size _ 1 v' L.length (L.map sv) by simpa using hown).mono g2.size, g2.trans ((((Below.refl _ w2).alloc (Nat.le_refl _) _).grown hgrow (by simp) (by rintro k hk; change some w2.heap.size = some k at hk; cases hk; exact Nat.le_refl _)).mono g2.size)⟩
  · rw [ho] at hpc hlen hop
    simp only [if_true] at hpc hlen
    clear ho
    have hll : (L ++ [[]]).length = L.length + 1 := by simp
    have hm : L.length ≤ 200 := by rw [hll] at hlen; omega
    have Hll := Lib.hid hll
    clear hlen hsm hll
    go_enter Try.func79, Try.ntmps79
    go_wp2_with (first
      | (go_at_call 52; refine (hno _).mono ?_; rintro e w1 ⟨rfl, h1⟩)
      | (go_at_call 82; refine (hpc _).mono ?_; rintro e w2 ⟨v, rfl, ⟨a, c, rfl, hlc, hcm, hS0⟩, h2⟩; have hll := Hll.out; rw [hll] at hlc hS0 ⊢; clear hll; obtain ⟨ad, _, rfl, _⟩ := hS0.get (k := 0) (by omega); have hS : Strs w2 (some ad) L.length L := by (have := Rd.take hS0 (k := L.length) (by omega); unfold Strs; simpa using this))
      | (go_at_call 102; refine (hop _).mono ?_; rintro e w3 ⟨rfl, rfl⟩)
      | (at_builtin; go_must (refine wpList_append_owns _ rfl _ _ 33 rfl w2.heap.size 9 i0 (.string ⟨#[]⟩) 1 16 Try.underlying33 hi hz0 hz1 hz2 rfl (by decide) _ 0 [] rfl (Owns.fresh w2 _ 1) (some ad) L.length c (L.map sv) rfl (Rd.alloc hS _) (by simp [sv, Value.oneCell']) (by simp only [maxLen]; omega) (by omega) (by simp) ?_); intro v' w4 hown hgrow))
    go_ret2
    have g2 := h1.trans (h2.mono h1.size)
    exact ⟨_, rfl, (show Owns w4 w2.heap.size _ 1 v' L.length (L.map sv) by simpa using hown).mono g2.size, g2.trans ((((Below.refl _ w2).alloc (Nat.le_refl _) _).grown hgrow (by simp) (by rintro k hk; change some w2.heap.size = some k at hk; cases hk; exact Nat.le_refl _)).mono g2.size)⟩

theorem refSegs_ok (s : ByteArray) (w : World) (hn : Dots.normal s.data.toList = true) : Calls Try.prog 79 #[.string s] w fun e w' => ∃ v, e = .returned (.tuple #[v, .int .i64 0]) ∧ SlStr w' v (Dots.segments s.data.toList) ∧ Below w.heap.size w w' := by
  refine (refSegs_own s w hn).mono ?_
  rintro e w' ⟨v, rfl, ho, hb⟩
  exact ⟨v, rfl, SlStr.of_owns ho, hb⟩

theorem refSegsAny (s : ByteArray) (w : World) : Calls Try.prog 79 #[.string s] w fun e w' => SegsOf w w' s.data.toList e := by
  rcases hn : Dots.normal s.data.toList with _ | _
  · have hno := fun w => refNormal_any s w
    rw [hn] at hno
    refine Calls.mono (R := fun e w' => e = .returned (.tuple #[.slice none 0 0, .int .i64 3]) ∧ Below w.heap.size w w') ?_ (fun e w' h => .inl ⟨hn, h⟩)
    clear hn
    go_enter Try.func79, Try.ntmps79
    go_wp2_with (go_at_call 52; refine (hno _).mono ?_; rintro e w1 ⟨rfl, hbl⟩)
    go_ret2
    exact ⟨rfl, hbl⟩
  · exact (refSegs_ok s w hn).mono (fun e w' h => .inr ⟨hn, h⟩)

end Go.Proofs.Ytefilalapkdegaa
