/- Clean, walked. -/
import Derived.Test.YtldjljblcjplaaaClean
import Derived.Test.YtldjljblcjplaaaBuilt
namespace Go.Proofs.Ytldjljblcjplaaa
open Go.RowKit Str Go.Shelf Mem
attribute [local go_sem] Oper.semAt_some Seq.wide_fn Seq.wide_round_fn Seq.wide_depth Seq.wide_round_depth
set_option linter.unusedVariables false
set_option linter.unusedSimpArgs false

theorem undef_ne_bool {b : Bool} : ¬ (some undef = some (Value.bool b)) := by
  intro h
  injection h with h
  cases h

set_option maxHeartbeats 4000000 in
theorem clean_loop (s : ByteArray) (w : World) (h0 : 0 < s.size) (h1 : s.size ≤ 100000) (hne : s.toList.isEmpty = false) (h : ((s[0].toNat : Int) != 47) = false) :
    Calls Try.prog 11 #[.string s] w fun e w' => e = .returned (.tuple #[.string (bs (Dots.clean s.data.toList).1), .int .i64 (Dots.clean s.data.toList).2]) ∧ Below w.heap.size w w' := by
  have hsz : (s.extract 1 s.size).size ≤ maxLen := by unfold maxLen; rw [ByteArray.size_extract]; omega
  obtain ⟨i0, hi, hz0, hz1, hz2⟩ := info_parts infoText
  refine (callsIn_wide (n := 5)).1 ?_
  refine callsIn_of_wp_marks Try.func11 rfl trivial ?_ rfl
  simp only [Try.ntmps11, List.size_toArray, List.length_cons, List.length_nil, Nat.reduceAdd, Nat.reduceSub, Array.replicate_succ, Array.replicate_zero, List.push_toArray, List.append_toArray, List.nil_append, List.cons_append]
  gi_wp2_with (gi_at_call 36; refine (callsIn_wide.2 (pieces_any _ _)).mono ?_; rintro e w' ⟨rfl, rfl⟩)
  obtain ⟨L, hL⟩ : ∃ L, L = Dots.split (s.extract 1 s.size).data.toList := ⟨_, rfl⟩
  obtain ⟨w1, hw1⟩ : ∃ w1, w1 = (((w.alloc (.cells #[.string ⟨#[]⟩] 9)).alloc (.cells #[.int .i64 0] 23)).alloc (.cells #[.slice none 0 0] 28)).alloc (.cells #[.bool false] 4) := ⟨_, rfl⟩
  have hw1s : w1.heap.size = w.heap.size + 4 := by rw [hw1]; simp
  have b0 : Boxed w1 w.heap.size 9 (.string ⟨#[]⟩) := by rw [hw1]; exact (((Boxed.new w _ _).alloc _).alloc _).alloc _
  have b1 : Boxed w1 (w.heap.size + 1) 23 (.int .i64 0) := by
    rw [hw1]; have := Boxed.new (w.alloc (.cells #[.string ⟨#[]⟩] 9)) 23 (.int .i64 0); rw [World.size_alloc] at this; exact (this.alloc _).alloc _
  have b2 : Boxed w1 (w.heap.size + 2) 28 (.slice none 0 0) := by
    rw [hw1]; have := Boxed.new ((w.alloc (.cells #[.string ⟨#[]⟩] 9)).alloc (.cells #[.int .i64 0] 23)) 28 (.slice none 0 0); simp only [World.size_alloc] at this; exact this.alloc _
  have b3 : Boxed w1 (w.heap.size + 3) 4 (.bool false) := by
    rw [hw1]; have := Boxed.new (((w.alloc (.cells #[.string ⟨#[]⟩] 9)).alloc (.cells #[.int .i64 0] 23)).alloc (.cells #[.slice none 0 0] 28)) 4 (.bool false); simp only [World.size_alloc] at this; exact this
  have bP := Boxed.new w1 9 (.string (s.extract 1 s.size))
  rw [hw1s] at bP
  have hB1 : Below w.heap.size w w1 := by rw [hw1]; exact ((((Below.refl _ w).alloc (Nat.le_refl _) _).alloc (by simp) _).alloc (by simp; omega) _).alloc (by simp; omega) _
  have hB0 : Below w.heap.size w (w1.alloc (.cells #[.string (s.extract 1 s.size)] 9)) := hB1.alloc (by omega) _
  rw [← hw1]
  clear hw1
  have hseq := pieces_seq 4 _ _ hsz _ bP
  rw [← hL] at hseq
  have hlen : L.length ≤ 100001 := by
    have := Dots.split_length (s.extract 1 s.size).data.toList
    rw [← size_data, ByteArray.size_extract, ← hL] at this
    omega
  have hpath : Dots.isPath s.data.toList = true := by
    unfold Dots.isPath
    rw [head_data s h0]
    have : s[0] = 47 := by
      have := (bne_eq_false_iff_eq).1 h
      exact UInt8.toNat_inj.1 (by simpa using Int.ofNat_inj.1 this)
    rw [this]; rfl
  have hfin : ∀ kept op, Dots.stepsTo L L.length = some (kept, op) → Dots.clean s.data.toList = (Dots.built kept (op && !(kept == [])), 0) := fun kept op hs => by
    rw [hL, extract_from] at hs
    exact Dots.clean_of_some hpath hs
  have hnone : ∀ k, Dots.stepsTo L (k + 1) = none → Dots.clean s.data.toList = ([], 18) := fun k hs => by
    rw [hL, extract_from] at hs
    exact Dots.clean_of_none hpath hs
  have hbody : (Dots.body L).length ≤ 100001 := by
    rw [hL, Dots.body_split, ← size_data, ByteArray.size_extract]; omega
  have Hfin := Lib.hid hfin
  have Hnone := Lib.hid hnone
  have Hpath := Lib.hid hpath
  clear hfin hnone hpath
  clear hL
  have hws : (w1.alloc (.cells #[.string (s.extract 1 s.size)] 9)).heap.size = w.heap.size + 5 := by simp; omega
  have I0 : CleanI w L 0 (w1.alloc (.cells #[.string (s.extract 1 s.size)] 9)) := ⟨[], false, Dots.stepsTo_zero L, ⟨_, b2.alloc _, Owns.nil _ _ _ _⟩, b0.alloc _, b1.alloc _, b3.alloc _, hB0, by omega⟩
  have Hws := Lib.hid hws
  clear hws hw1s b0 b1 b2 b3
  simp only [Nat.add_assoc, Nat.reduceAdd]
  refine Seq.wpIn_seq (gf := 52) (lb := #[.pointer (some ⟨w.heap.size + 4, 0, none⟩)]) rfl (enters_of Try.func52 (by kernel_rfl) rfl)
    hseq (fun a b c => KeepBox.trans a b c) (KeepBox.putObj (by rw [Hws.out]; omega)) (fun W W' hW hg => KeepBox.grown W W' (by rw [Hws.out] at hW; omega) hg) (fun r e => by subst e; rw [Hws.out]; omega) (Below.refl _ _) (fun _ => rfl)
    (CleanI w L) (CleanX w L) ?sI ?sX I0 ?round ?done ?stop
  case sI => exact fun k => cleanI_stable (by rw [Hws.out]; omega)
  case sX => exact fun c k => cleanX_stable (by rw [Hws.out]; omega)
  case round =>
    rintro l k W hk _ hl
    unfold pieceArgs
    gi_wp2
    refine ⟨World.grownBy.refl _ _, ?_⟩
    rintro W2 ⟨kept, op, hst, ⟨v2, hv2, hown2⟩, hb0, hb1, hb3, hbl2, hsz2⟩ hg2
    have hkl := Dots.stepsTo_length (Nat.le_of_lt hk) hst
    have Hst := Lib.hid hst
    clear hst
    have c3 := hb3.cell
    have f3 := hb3.frozen
    have Hx : Hid (Dots.pieceAt L k = Dots.pieceAt L k) := rfl
    generalize hx : Dots.pieceAt L k = x at Hx ⊢
    generalize hb : Dots.lastAt L k = b
    have HX := Lib.hid hx
    have HB := Lib.hid hb
    clear hx hb Hx
    have hd := dotted_any (bs x)
    rw [data_bs] at hd
    have hv2c := hv2.cell
    have hv2f := hv2.frozen
    by_cases x1 : x = []
    · have hdx : Dots.dotted x = false := by rw [x1]; rfl
      subst x1
      cases b
      all_goals gi_wp2_with (gi_at_call 37; first | exact absurd ‹some undef = some (Value.bool _)› undef_ne_bool | (refine (CallsIn.inRound l (callsIn_wide.2 (hd _))).mono ?_; rintro e w' ⟨rfl, rfl⟩))
      all_goals exact clean_skip hk Hst.out (by rw [HX.out, HB.out]; rfl) hv2 hown2 hb0 hb1 hb3 hbl2 hsz2
    by_cases x2 : x = [46]
    · have hdx : Dots.dotted x = true := by rw [x2]; rfl
      subst x2
      cases b
      all_goals gi_wp2_with (gi_at_call 37; first | exact absurd ‹some undef = some (Value.bool _)› undef_ne_bool | (refine (CallsIn.inRound l (callsIn_wide.2 (hd _))).mono ?_; rintro e w' ⟨rfl, rfl⟩))
      all_goals exact clean_skip hk Hst.out (by rw [HX.out, HB.out]; rfl) hv2 hown2 hb0 hb1 hb3 hbl2 hsz2
    by_cases x3 : x = [46, 46]
    · have hdx : Dots.dotted x = true := by rw [x3]; rfl
      subst x3
      have c1 := hb1.cell
      have f1 := hb1.frozen
      have c0 := hb0.cell
      have f0 := hb0.frozen
      cases kept with
      | nil =>
        obtain ⟨a2, k2, rfl, _, _, _⟩ := hown2.form
        have hz : ((([] : List Dots.Bs).length : Int) == 0) = true := rfl
        cases b
        all_goals gi_wp2_with (gi_at_call 37; first | exact absurd ‹some undef = some (Value.bool _)› undef_ne_bool | (refine (CallsIn.inRound l (callsIn_wide.2 (hd _))).mono ?_; rintro e w' ⟨rfl, rfl⟩))
        all_goals exact clean_stop (by rw [Dots.stepsTo_succ hk, Hst.out, HX.out]; rfl) hb0 hb1 hbl2
      | cons y ys =>
        obtain ⟨g2, k2, rfl, hg2b, hg2l, hk2n, hk2m⟩ := hown2.succ
        have hyl : (y :: ys).length = ys.length + 1 := rfl
        have Hyl := Lib.hid hyl
        rw [hyl] at hkl
        have hm : k2 ≤ 9223372036854775807 := by unfold maxLen at hk2m; omega
        have hz : (((ys.length : Int) + 1) == 0) = false := by rw [beq_eq_false_iff_ne]; omega
        have hz1 : ((ys.length : Int) + 1 - 1) = ys.length := by omega
        clear hyl
        cases b
        all_goals gi_wp2_with (gi_at_call 37; first | exact absurd ‹some undef = some (Value.bool _)› undef_ne_bool | (refine (CallsIn.inRound l (callsIn_wide.2 (hd _))).mono ?_; rintro e w' ⟨rfl, rfl⟩))
        all_goals exact clean_pop hk Hst.out (by rw [HX.out, HB.out]; rfl) hk2n hv2 hown2 hb0 hb1 hb3 hbl2 hsz2
    have hxe : x.isEmpty = false := by simpa using x1
    have hx2 : (x == [46]) = false := by simpa using x2
    have hx3 : (x == [46, 46]) = false := by simpa using x3
    have hdx : Dots.dotted x = false := by unfold Dots.dotted; rw [hx2, hx3]; rfl
    have Hstep : Hid (Dots.step (kept, op) (x, b) = some (kept ++ [x], false)) := by
      unfold Hid Dots.step
      rw [if_neg (by simp [x1, x2]), if_neg (by simpa using x3), hdx]
      have : (x == []) = false := by simpa using x1
      rw [this]; simp
    cases b
    all_goals gi_wp2_with (first
      | (gi_at_call 37; exact absurd ‹some undef = some (Value.bool _)› undef_ne_bool)
      | (gi_at_call 37; refine (CallsIn.inRound l (callsIn_wide.2 (hd _))).mono ?_; rintro e w' ⟨rfl, rfl⟩)
      | (gi_at_builtin; go_must (refine wpListIn_append_owns _ rfl _ _ 28 rfl (w.heap.size + 5) 9 i0 (.string ⟨#[]⟩) 1 16 Try.underlying28 hi hz0 hz1 hz2 rfl (by decide) _ _ _ rfl ((hown2.kept (grownBy_setCell' W2 (w.heap.size + 3) (.bool false)) (own_far hown2)).alloc _) _ 1 1 [.string (bs x)] rfl (Rd.one_at _ _ _ _ (by simp [World.setCell])) (by simp [Value.oneCell']) (by simp only [maxLen]; omega) (by omega) (by simp [World.setCell]; omega) ?_); intro v' w3 hown' hgrow; obtain ⟨g', cap', rfl, _⟩ := hown'.succ; have hv3 := push_box hown2 hv2 hgrow; have hc3 := hv3.cell; have hf3 := hv3.frozen))
    all_goals exact clean_push hk Hst.out (by rw [HX.out, HB.out]; exact Hstep.out) hv2 hown2 hb0 hb1 hb3 hbl2 hsz2 hgrow (by rw [HX.out]; exact hown')
  case done =>
    rintro D W hD ⟨kept, op, hst, ⟨v, hv, hown⟩, hb0, hb1, hb3, hbl, hsz2⟩ hK
    have hkl := Dots.stepsTo_length (Nat.le_refl _) hst
    have hbd := Dots.stepsTo_body (Nat.le_refl _) hst
    rw [List.take_length] at hbd
    have hval := Hfin.out kept op hst
    have Hval := Lib.hid hval
    clear hst hval
    obtain ⟨a2, k2, rfl, _, _, hrd⟩ := hown.form
    have c0 := hb0.cell
    have f0 := hb0.frozen
    have c1 := hb1.cell
    have f1 := hb1.frozen
    have c2 := hv.cell
    have c3 := hb3.cell
    have hbu := fun o => built_any a2 k2 kept o W hrd (by omega) (by simp only [maxLen]; omega)
    cases op
    all_goals cases kept
    all_goals gi_wp2_with (gi_at_call 38; refine (callsIn_wide.2 (hbu _)).mono ?_; rintro e w3 ⟨rfl, hbl3⟩; have d0 := (hbl3.cell (p := ⟨w.heap.size, 0, none⟩) hb0.lt).trans c0; have e0 := (hbl3.frozen (p := ⟨w.heap.size, 0, none⟩) hb0.lt).trans f0; have d1 := (hbl3.cell (p := ⟨w.heap.size + 1, 0, none⟩) hb1.lt).trans c1; have e1 := (hbl3.frozen (p := ⟨w.heap.size + 1, 0, none⟩) hb1.lt).trans f1)
    all_goals
      obtain ⟨r1, r2, r3, r4⟩ := clean_return (er := 0) hb0 hb1 hbl (by rw [Hws.out] at hD; omega) hK hbl3
      refine ⟨by simp, .inl ⟨_, _, rfl, run_takeDeferred r1, ?_⟩⟩
      refine ⟨_, by simp [results, Try.results11, go_sem, r2, r3]; rfl, ?_, r4⟩
      rw [Hval.out]; rfl
  case stop =>
    rintro D c k W hD hk ⟨rfl, hn, hb0, hb1, hbl⟩ hK
    have hval := Hnone.out k hn
    have hDw : w.heap.size + 5 ≤ D := by rw [Hws.out] at hD; exact hD
    have g3 := grownBy_putObj' W D (.deferred none)
    have r2 := (hb0.kept g3 (by simp; omega)).cell
    have r3 := (hb1.kept g3 (by simp; omega)).cell
    have r4 : Below w.heap.size w (W.putObj D (.deferred none)) := hbl.grown g3 hbl.size (fun r e => by cases e; omega)
    have Hval := Lib.hid hval
    clear hval
    gi_wp2
    refine ⟨by simp, .inl ⟨_, _, rfl, run_takeDeferred hK, ?_⟩⟩
    refine ⟨_, by simp [results, Try.results11, go_sem, r2, r3]; rfl, ?_, r4⟩
    rw [Hval.out]

end Go.Proofs.Ytldjljblcjplaaa
