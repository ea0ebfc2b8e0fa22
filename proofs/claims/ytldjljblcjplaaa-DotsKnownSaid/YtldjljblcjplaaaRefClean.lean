/- The reference's Clean. -/
import Derived.Test.YtldjljblcjplaaaParent
namespace Go.Proofs.Ytldjljblcjplaaa
open Go.RowKit Str Mem
set_option linter.unusedVariables false
set_option linter.unusedSimpArgs false

section
variable {L kept : List (List UInt8)} {k : Nat} {op : Bool} {x : List UInt8}

theorem pieceAt_of (h : L[k]? = some x) : Dots.pieceAt L k = x := by
  unfold Dots.pieceAt
  rw [List.getD_eq_getElem?_getD, h]; rfl

theorem stepsNext (h : Dots.stepsTo L k = some (kept, op)) (hx : L[k]? = some x) : Dots.stepsTo L (k + 1) = Dots.step (kept, op) (x, Dots.lastAt L k) := by
  rw [Dots.stepsTo_succ (List.getElem?_eq_some_iff.1 hx).1, h, pieceAt_of hx]
  rfl

theorem lastAt_of (h : k + 1 = L.length) : Dots.lastAt L k = true := by unfold Dots.lastAt; exact decide_eq_true h

theorem stepKeep (h : Dots.stepsTo L k = some (kept, op)) (hx : L[k]? = some x) (hk : x = [] ∨ x = [46]) : ∃ op', Dots.stepsTo L (k + 1) = some (kept, op') ∧ (k + 1 = L.length → true = op') := by
  rw [stepsNext h hx]
  refine ⟨_, by unfold Dots.step; rw [if_pos hk], fun e => ?_⟩
  simp only [lastAt_of e]
  rcases hk with rfl | rfl <;> rfl

theorem stepUp {y : List UInt8} {K : List (List UInt8)} (h : Dots.stepsTo L k = some (K ++ [y], op)) (hx : L[k]? = some [46, 46]) : ∃ op', Dots.stepsTo L (k + 1) = some (K, op') ∧ (k + 1 = L.length → true = op') := by
  rw [stepsNext h hx]
  refine ⟨_, by unfold Dots.step; rw [if_neg (by simp), if_pos rfl, if_neg (by simp), List.dropLast_concat], fun e => ?_⟩
  simp only [lastAt_of e]
  rfl

theorem stepOut (h : Dots.stepsTo L k = some ([], op)) (hx : L[k]? = some [46, 46]) : Dots.stepsTo L (k + 1) = none := by
  rw [stepsNext h hx]
  rfl

theorem stepPush (h : Dots.stepsTo L k = some (kept, op)) (hx : L[k]? = some x) (h1 : x ≠ []) (h2 : x ≠ [46]) (h3 : x ≠ [46, 46]) : ∃ op', Dots.stepsTo L (k + 1) = some (kept ++ [x], op') ∧ (k + 1 = L.length → false = op') := by
  rw [stepsNext h hx]
  refine ⟨_, by unfold Dots.step; rw [if_neg (by simp [h1, h2]), if_neg h3], fun e => ?_⟩
  simp only [lastAt_of e]
  simp [Dots.dotted, h1, h2, h3]
end

/-- What the loop has. -/
def RefCleanI (w : World) (L : List (List UInt8)) (v o i : Value) (wr : World) : Prop :=
  ∃ (k : Nat) (kept : List (List UInt8)) (op b : Bool), i = .int .i64 k ∧ k ≤ L.length ∧ o = .bool b ∧ Dots.stepsTo L k = some (kept, op) ∧ (k = L.length → b = op) ∧ Owns wr w.heap.size 9 1 v kept.length (kept.map sv) ∧ Below w.heap.size w wr

theorem refClean_put {p : List UInt8} {kept : List (List UInt8)} {op : Bool} (h : Dots.isPath p = true) (hs : Dots.stepsTo (Dots.split (p.drop 1)) (Dots.split (p.drop 1)).length = some (kept, op)) : Dots.clean p = (Dots.built kept op, 0) := by
  rw [Dots.clean_of_some h hs]
  have := built_some kept op
  cases kept <;> simp_all

set_option maxHeartbeats 2000000 in
theorem refClean_path (s : ByteArray) (w : World) (hp : Dots.isPath s.data.toList = true) (h1 : 1 ≤ s.size) (h2 : s.size ≤ 50000) :
    Calls Try.prog 18 #[.string s] w fun e w' => e = .returned (.tuple #[.string (bs (Dots.clean s.data.toList).1), .int .i64 (Dots.clean s.data.toList).2]) ∧ Below w.heap.size w w' := by
  obtain ⟨i0, hi, hz0, hz1, hz2⟩ := info_parts infoStr
  have hpt := fun w => refPath_any s w
  rw [hp] at hpt
  have hpc := fun w => refPieces_any s w h1 (by omega)
  have hlen := Dots.split_length (s.data.toList.drop 1)
  have hbody := Dots.body_split (s.data.toList.drop 1)
  have hfin := fun kept op => refClean_put (kept := kept) (op := op) hp
  have hnone := fun k => Dots.clean_of_none (p := s.data.toList) (k := k) hp
  have hne := Dots.split_ne (s.data.toList.drop 1)
  rw [List.length_drop, ← size_data] at hlen hbody
  obtain ⟨res, hres⟩ : ∃ res, res = Dots.clean s.data.toList := ⟨_, rfl⟩
  rw [← hres] at hfin hnone ⊢
  obtain ⟨L, hL⟩ : ∃ L, L = Dots.split (s.data.toList.drop 1) := ⟨_, rfl⟩
  rw [← hL] at hpc hlen hbody hfin hnone hne
  have hm : L.length ≤ 60000 := by omega
  have hmb : (Dots.body L).length ≤ 60000 := by omega
  have hpos : 0 < L.length := List.length_pos_iff.2 hne
  have Hfin := Lib.hid hfin
  have Hnone := Lib.hid hnone
  clear hL hlen hbody hp hres hfin hnone hne
  go_enter Try.func18, Try.ntmps18
  go_wp2_with (first
    | (go_at_call 42; refine (hpt _).mono ?_; rintro e w' ⟨rfl, rfl⟩)
    | (go_at_call 43; refine (hpc _).mono ?_; rintro e w1 ⟨v, rfl, ⟨a, c, rfl, _, _, hS⟩, hbl1⟩))
  go_loopw [5, 6, 7] (fun v o i wr => RefCleanI w1 L v o i wr) (fun _ _ i _ => L.length - (intOf i).toNat)
  case atStart => exact ⟨0, [], false, false, rfl, Nat.zero_le _, rfl, Dots.stepsTo_zero L, fun _ => rfl, Owns.nil _ _ _ _, Below.refl _ _⟩
  case round =>
    obtain ⟨k, kept, op, b, rfl, hk, rfl, hst, hb, hown, hbl⟩ := hrel
    have hsz := hbl.size
    by_cases hlt : k < L.length
    · obtain ⟨ad, x, rfl, _, hls, hcell⟩ := (hS.below hbl).get hlt
      have hkl := Dots.stepsTo_length hk hst
      by_cases hx1 : x = [46, 46]
      · subst hx1
        rcases snoc_cases kept with rfl | ⟨K, y, rfl⟩
        · have Hn := Lib.hid (Hnone.out _ (stepOut hst hls))
          obtain ⟨a2, c2, rfl, _⟩ := hown.form
          clear hst hls hb
          go_wp2
          go_ret2
          exact ⟨by rw [Hn.out]; rfl, hbl1.trans (hbl.mono hbl1.size)⟩
        · have Hn := Lib.hid (stepUp hst hls)
          have hll : (K ++ [y]).length = K.length + 1 := by simp
          rw [hll] at hown hkl
          obtain ⟨g, cap, rfl, hg1, hg2, hg3, hg4⟩ := hown.succ
          have hcut := hown.cut (m := K.length) (cap' := cap) (by omega) (by omega) (by omega)
          rw [List.map_append, List.take_append_of_le_length (by simp), List.take_of_length_le (by simp)] at hcut
          clear hst hls hb hll hown
          go_wp2
          go_roundw
          case rel =>
            obtain ⟨op', e1, e2⟩ := Hn.out
            exact ⟨k + 1, K, op', true, by go_num, by omega, rfl, e1, e2, hcut, hbl⟩
          case measure => simp [intOf]; omega
      · by_cases hx2 : x = [] ∨ x = [46]
        · have Hn := Lib.hid (stepKeep hst hls hx2)
          clear hst hls hb
          rcases hx2 with rfl | rfl
          all_goals
            go_wp2
            go_roundw
            case rel =>
              obtain ⟨op', e1, e2⟩ := Hn.out
              exact ⟨k + 1, kept, op', true, by go_num, by omega, rfl, e1, e2, hown, hbl⟩
            case measure => simp [intOf]; omega
        · have hx3 : ¬ x = [] := fun e => hx2 (.inl e)
          have hx4 : ¬ x = [46] := fun e => hx2 (.inr e)
          have Hn := Lib.hid (stepPush hst hls hx3 hx4 hx1)
          have hb3 : (x == [46, 46]) = false := by rw [beq_eq_false_iff_ne]; exact hx1
          have hb4 : (x == [46]) = false := by rw [beq_eq_false_iff_ne]; exact hx4
          have hb5 : x.isEmpty = false := by cases x <;> simp_all
          clear hst hls hb hx2
          go_wp2_with (at_builtin; go_must (refine wpList_append_owns _ rfl _ _ 28 rfl w1.heap.size 9 i0 (.string ⟨#[]⟩) 1 16 Try.underlying28 hi hz0 hz1 hz2 rfl (by decide) _ _ _ rfl (hown.alloc _) _ 1 1 [.string (bs x)] rfl (Rd.one_at _ _ _ _ (by simp)) (by simp [Value.oneCell']) (by simp only [maxLen]; omega) (by omega) (by simp; omega) ?_); intro v' w3 hown' hgrow)
          go_roundw
          case rel =>
            obtain ⟨op', e1, e2⟩ := Hn.out
            exact ⟨k + 1, kept ++ [x], op', false, by go_num, by omega, rfl, e1, e2, by rw [List.map_append, List.length_append]; exact hown', (hbl.alloc hbl.size _).grown hgrow (by simp; omega) (by intro j hj; exact (hown.lt j hj).1)⟩
          case measure => simp [intOf]; omega
    · obtain rfl : k = L.length := by omega
      have hkl := Dots.stepsTo_length (Nat.le_refl _) hst
      have hkb := Dots.stepsTo_body (Nat.le_refl _) hst
      rw [List.take_length] at hkb
      obtain rfl := hb rfl
      have Hr := Lib.hid (Hfin.out kept b hst)
      obtain ⟨a2, c2, rfl, _, _, hrd⟩ := hown.form
      clear hst hb
      go_wp2_with (go_at_call 41; refine (put_any a2 c2 kept b _ hrd (by unfold maxLen; omega) (by unfold maxLen; omega)).mono ?_; rintro e w3 ⟨rfl, hbl3⟩)
      go_ret2
      have g1 := hbl1.trans (hbl.mono hbl1.size)
      exact ⟨by rw [Hr.out]; rfl, g1.trans (hbl3.mono g1.size)⟩

theorem refClean_any (s : ByteArray) (w : World) (h2 : s.size ≤ 50000) :
    Calls Try.prog 18 #[.string s] w fun e w' => e = .returned (.tuple #[.string (bs (Dots.clean s.data.toList).1), .int .i64 (Dots.clean s.data.toList).2]) ∧ Below w.heap.size w w' := by
  rcases hp : Dots.isPath s.data.toList with _ | _
  · have e : Dots.clean s.data.toList = ([], 3) := by unfold Dots.clean; rw [hp]; rfl
    rw [e]
    have hpt := fun w => refPath_any s w
    rw [hp] at hpt
    clear e hp
    go_enter Try.func18, Try.ntmps18
    go_wp2_with (go_at_call 42; refine (hpt _).mono ?_; rintro e w' ⟨rfl, rfl⟩)
    go_ret2
    exact ⟨rfl, Below.refl _ _⟩
  · refine refClean_path s w hp ?_ h2
    rw [size_data]
    unfold Dots.isPath at hp
    cases hx : s.data.toList with
    | nil => rw [hx] at hp; simp at hp
    | cons a t => simp

end Go.Proofs.Ytldjljblcjplaaa
