/- fits: what is found of a route for a path, as the program finds it. -/
import Derived.Test.YtefilalapkdegaaRouteKinds
import Derived.Test.YtefilalapkdegaaFitMem
import Derived.Test.YtefilalapkdegaaJoinAt
import Derived.Test.YtefilalapkdegaaTwo
import Derived.WalkMore
namespace Go.Proofs.Ytefilalapkdegaa
open Go.RowKit Str Mem
set_option linter.unusedVariables false
set_option linter.unusedSimpArgs false

/-- What is found, as a value. -/
def SlAt (w' : World) (B : Nat) (v : Value) (l : List (List UInt8)) : Prop := ∃ a c, v = .slice a l.length c ∧ l.length ≤ c ∧ c ≤ maxLen ∧ Strs w' a l.length l ∧ ∀ ad : Addr, a = some ad → B ≤ ad.block
theorem SlAt.of_owns {w : World} {base B : Nat} {e : TypeId} {v : Value} {n : Nat} {l : List (List UInt8)} (h : Owns w base e 1 v n (l.map sv)) (hB : B ≤ base) : SlAt w B v l := by
  have hl : l.length = n := by have := h.1; simpa using this
  subst hl
  obtain ⟨a, c, rfl, h2, h3, h4⟩ := h.form
  exact ⟨a, c, rfl, h2, h3, h4, fun ad e => Nat.le_trans hB (h.lt ad.block (by subst e; simp [Value.ownBlock])).1⟩
def FoundIs (w' : World) (B : Nat) (l : List (List UInt8)) (kd : Int) (t : List UInt8) (o : Option (List (List UInt8) × List (List UInt8) × List UInt8)) (v : Value) : Prop :=
  match o with
  | none => v = .agg #[.bool false, .slice none 0 0, .int .i64 0, .string ⟨#[]⟩, .slice none 0 0, .slice none 0 0, .string ⟨#[]⟩]
  | some (N, V, R) => ∃ vl vN vV, v = .agg #[.bool true, vl, .int .i64 kd, .string ⟨t.toArray⟩, vN, vV, .string ⟨R.toArray⟩] ∧ SlAt w' B vl l ∧ SlAt w' B vN N ∧ SlAt w' B vV V

def FitI (w u : World) (D : Nat) (op : Bool) (l P : List (List UInt8)) (vc kd t : Value) (i : Value) (wr : World) : Prop :=
  ∃ (k : Nat) (N V : List (List UInt8)) (vN vV : Value), i = .int .i64 k ∧ k ≤ l.length ∧ k ≤ P.length ∧ N.length ≤ k ∧ V.length ≤ k ∧ Route.comb N V (Route.fit op (l.drop k) (P.drop k)) = Route.fit op l P ∧
    Owns wr u.heap.size 9 1 vN N.length (N.map sv) ∧ Owns wr u.heap.size 9 1 vV V.length (V.map sv) ∧ (∀ j, vN.ownBlock = some j → vV.ownBlock ≠ some j) ∧
    wr.heap[D]? = some (.cells [.bool true, vc, kd, t, vN, vV, .string ⟨#[]⟩].toArray 43 (0, 0)) ∧ Kp D u wr ∧ Below w.heap.size w wr

set_option maxRecDepth 20000 in
set_option maxHeartbeats 4000000 in
theorem vfits_any (a : Option Addr) (c : Nat) (l : List (List UInt8)) (kd : Int) (t : List UInt8) (p : ByteArray) (w : World) (h : RtOk w a l.length c l t) (he : Route.err l kd t = 0) (hn : Dots.normal p.data.toList = true) :
    Calls Try.prog 36 #[rtv a l.length c kd t, .string p] w fun e w' => ∃ v, e = .returned v ∧ FoundIs w' w.heap.size l kd t (Route.fit (Dots.isOpen p.data.toList) l (Dots.segments p.data.toList)) v ∧ Below w.heap.size w w' := by
  obtain ⟨ti, hi, hz0, hz1, hz2⟩ := info_of infoTxt
  have hf := Route.fine_of he
  have hl16 := (Route.err_ok he).1
  have hsg := fun w => segs_own p w hn
  unfold rtv
  obtain ⟨P, hP⟩ : ∃ P, P = Dots.segments p.data.toList := ⟨_, rfl⟩
  obtain ⟨op, hop⟩ : ∃ o, o = Dots.isOpen p.data.toList := ⟨_, rfl⟩
  rw [← hP] at hsg ⊢
  rw [← hop]
  have hbody : (Dots.body P).length ≤ 128 := by rw [hP]; exact segs_body hn
  have HP := Lib.hid hP
  have HO := Lib.hid hop
  have hpn := normal_small hn
  rw [← size_data] at hpn
  clear hP hop hn
  obtain ⟨W0, hW0⟩ : ∃ W0, W0 = (w.alloc (Obj.cells #[.slice a l.length c, .int .i64 kd, .string ⟨t.toArray⟩] 35)).alloc (Obj.cells #[.bool false, .slice none 0 0, .int .i64 0, .string ⟨#[]⟩, .slice none 0 0, .slice none 0 0, .string ⟨#[]⟩] 43) := ⟨_, rfl⟩
  have hb0 : Below w.heap.size w W0 := by rw [hW0]; exact ((Below.refl _ w).alloc (Nat.le_refl _) _).alloc (by simp) _
  have hsz0 : W0.heap.size = w.heap.size + 2 := by rw [hW0]; simp
  have hx0 : Rd W0 3 (some ⟨w.heap.size, 0, none⟩) 1 [.slice a l.length c, .int .i64 kd, .string ⟨t.toArray⟩] := by rw [hW0]; exact (box3_new w _ _ _ _).alloc _
  have hr0 : W0.heap[w.heap.size + 1]? = some (.cells [.bool false, .slice none 0 0, .int .i64 0, .string ⟨#[]⟩, .slice none 0 0, .slice none 0 0, .string ⟨#[]⟩].toArray 43 (0, 0)) := by
    rw [hW0]
    have := heap_alloc_new (w.alloc (Obj.cells #[.slice a l.length c, .int .i64 kd, .string ⟨t.toArray⟩] 35)) (Obj.cells #[.bool false, .slice none 0 0, .int .i64 0, .string ⟨#[]⟩, .slice none 0 0, .slice none 0 0, .string ⟨#[]⟩] 43)
    rw [World.size_alloc] at this
    exact this
  have HW := Lib.hid hW0
  clear hW0
  go_enter Try.func36, Try.ntmps36
  go_wp2
  go_step3
  go_wp2_with fail
  rw [← HW.out]
  refine (hsg _).mono ?_
  rintro e w1 ⟨vs, rfl, hvs, g1⟩
  have hb1 : Below w.heap.size w w1 := hb0.trans (g1.mono hb0.size)
  have hx1 := hx0.below g1
  have hr1 := (g1.block (w.heap.size + 1) (by omega)).trans hr0
  obtain ⟨p0, p1, p2⟩ := box3 hx1
  obtain ⟨q0, q1, q2⟩ := box3 (hx1.alloc (.cells #[.bool true, .slice a l.length c, .int .i64 kd, .string ⟨t.toArray⟩, .slice none 0 0, .slice none 0 0, .string ⟨#[]⟩] 43))
  obtain ⟨sa, sc, rfl, hcs, hcsm, hrs⟩ := hvs.form
  have hSl := (h.below hb1).strs
  obtain ⟨W2, hW2⟩ : ∃ W2, W2 = w1.alloc (.cells #[.bool true, .slice a l.length c, .int .i64 kd, .string ⟨t.toArray⟩, .slice none 0 0, .slice none 0 0, .string ⟨#[]⟩] 43) := ⟨_, rfl⟩
  have hb2 : Below w.heap.size w W2 := by rw [hW2]; exact hb1.alloc (by have := hb1.size; omega) _
  have hx2 : Rd W2 3 (some ⟨w.heap.size, 0, none⟩) 1 [.slice a l.length c, .int .i64 kd, .string ⟨t.toArray⟩] := by rw [hW2]; exact hx1.alloc _
  have hr2 : W2.heap[w.heap.size + 1]? = some (.cells [.bool false, .slice none 0 0, .int .i64 0, .string ⟨#[]⟩, .slice none 0 0, .slice none 0 0, .string ⟨#[]⟩].toArray 43 (0, 0)) := by
    rw [hW2]; exact (Below.heap_alloc _ _ _ (by have := g1.size; omega)).trans hr1
  have hd2 : W2.heap[w1.heap.size]? = some (.cells [.bool true, .slice a l.length c, .int .i64 kd, .string ⟨t.toArray⟩, .slice none 0 0, .slice none 0 0, .string ⟨#[]⟩].toArray 43 (0, 0)) := by rw [hW2]; exact heap_alloc_new _ _
  have hs2 : W2.heap.size = w1.heap.size + 1 := by rw [hW2]; simp
  have hrs2 : Rd W2 1 sa P.length (P.map sv) := by rw [hW2]; exact hrs.alloc _
  have HW2 := Lib.hid hW2
  clear hW2
  have hclone := clone_own a c l W2 ((h.below hb2).strs) (by omega)
  go_wp2_with fail
  rw [← HW2.out]
  refine hclone.mono ?_
  rintro e w3 ⟨vc, rfl, hvc, g3⟩
  have hb3 := hb2.trans (g3.mono hb2.size)
  have hd3 := (g3.block _ (by omega)).trans hd2
  obtain ⟨⟨d0, d1, d2, d3, d4, d5, d6⟩, f0, f1, f2, f3, f4, f5, f6⟩ := row7 hd3
  have hdl : w1.heap.size < w3.heap.size := by have := g3.size; omega
  have HC := Lib.hid hvc
  obtain ⟨ca, cc, rfl, hcc, hccm, hcr⟩ := hvc.form
  have hvcS : SlStr w3 (.slice ca l.length cc) l := SlStr.of_owns HC.out
  have hcne : ∀ ad : Addr, ca = some ad → ad.block ≠ w1.heap.size := by
    rintro ad rfl e
    have := (HC.out.lt ad.block (by simp [Value.ownBlock])).1
    omega
  have hsne : ∀ ad : Addr, sa = some ad → ad.block ≠ w1.heap.size := by
    rintro ad rfl e
    have := (hvs.lt ad.block (by simp [Value.ownBlock])).2
    omega
  have hcneR : ∀ ad : Addr, ca = some ad → ad.block ≠ w.heap.size + 1 := by
    rintro ad rfl e
    have := (HC.out.lt ad.block (by simp [Value.ownBlock])).1
    have := g1.size
    omega
  have hcge : ∀ ad : Addr, ca = some ad → w.heap.size ≤ ad.block := by
    rintro ad rfl
    have := (HC.out.lt ad.block (by simp [Value.ownBlock])).1
    have := g1.size
    omega
  clear hvc
  obtain ⟨U, hU⟩ : ∃ U, U = w3.setCell ⟨w1.heap.size, 1, none⟩ (.slice ca l.length cc) := ⟨_, rfl⟩
  have hus : U.heap.size = w3.heap.size := by rw [hU]; simp [World.setCell]
  have hd4 : U.heap[w1.heap.size]? = some (.cells [.bool true, .slice ca l.length cc, .int .i64 kd, .string ⟨t.toArray⟩, .slice none 0 0, .slice none 0 0, .string ⟨#[]⟩].toArray 43 (0, 0)) := by rw [hU]; exact set_row hd3 1 _
  have hbU : Below w.heap.size w U := by rw [hU]; exact hb3.setCell (by simp; have := hb1.size; omega) _
  have hkU : Kp w1.heap.size w3 U := by rw [hU]; exact (Kp.refl _ _).setD _ _
  have hk12 : ∀ {sz n : Nat} {a : Option Addr} {cs : List Value}, Rd w3 sz a n cs → (∀ ad : Addr, a = some ad → ad.block ≠ w1.heap.size) → Rd U sz a n cs := fun hr hne => hr.kp hkU hne
  have hxU : Rd U 3 (some ⟨w.heap.size, 0, none⟩) 1 [.slice a l.length c, .int .i64 kd, .string ⟨t.toArray⟩] := hk12 (hx2.below g3) (by rintro ad e; cases e; have := g1.size; simp; omega)
  have hrU : Rd U 1 sa P.length (P.map sv) := hk12 (hrs2.below g3) hsne
  have hcU : Rd U 1 ca l.length (l.map sv) := hk12 hcr hcne
  have hRU : U.heap[w.heap.size + 1]? = some (.cells [.bool false, .slice none 0 0, .int .i64 0, .string ⟨#[]⟩, .slice none 0 0, .slice none 0 0, .string ⟨#[]⟩].toArray 43 (0, 0)) :=
    (hkU.block _ (by have := g1.size; omega) (by have := g1.size; omega)).trans ((g3.block _ (by have := g1.size; omega)).trans hr2)
  have hDlt : w1.heap.size < U.heap.size := by omega
  have hDge : w.heap.size + 2 ≤ w1.heap.size := by have := g1.size; omega
  have HU := Lib.hid hU
  clear hU
  go_wp2_with fail
  go_step3
  rw [← HU.out]
  obtain ⟨x0, x1, x2⟩ := box3 hxU
  clear d0 d1 d2 d3 d4 d5 d6 f0 f1 f2 f3 f4 f5 f6 q0 q1 q2 p0 p1 p2
  go_wp2
  go_loopw [27, 8, 9, 10] (fun i _ _ _ wr => FitI w U w1.heap.size op l P (.slice ca l.length cc) (.int .i64 kd) (.string ⟨t.toArray⟩) i wr) (fun i _ _ _ _ => l.length - (intOf i).toNat)
  case atStart => exact ⟨0, [], [], _, _, rfl, Nat.zero_le _, Nat.zero_le _, Nat.le_refl _, Nat.le_refl _, Route.comb_nil _, Owns.nil _ _ _ _, Owns.nil _ _ _ _, by simp [Value.ownBlock], hd4, Kp.refl _ _, hbU⟩
  case round =>
    obtain ⟨k, N, V, vN, vV, rfl, hk, hkP, hNk, hVk, hcomb, hoN, hoV, hap, hrow, hkp, hbl⟩ := hrel
    clear x0 x1 x2
    have hbx := hxU.kp hkp (by rintro ad e; cases e; simp; omega)
    obtain ⟨x0, x1, x2⟩ := box3 hbx
    have hseg := hrU.kp hkp hsne
    have hcl := hcU.kp hkp hcne
    have hrR := (hkp.block (w.heap.size + 1) (by omega) (by omega)).trans hRU
    by_cases hlt : k < l.length
    · obtain ⟨ad, rfl, hbb, hls, hcell, hsl⟩ := (h.below hbl).get hlt
      have hs0 : 0 < (bs (Route.nth l k)).size := by rw [size_bs]; exact List.length_pos_iff.2 (hf.at hlt).1
      have hkd := fun w => kind_any (bs (Route.nth l k)) hs0 w
      rw [data_bs] at hkd
      obtain ⟨q, hq⟩ : ∃ q, Route.kind (Route.nth l k) = q := ⟨_, rfl⟩
      have hqc := Route.kind_cases (Route.nth l k)
      rw [hq] at hkd hqc
      have HQ := Lib.hid hq
      have HCo := Lib.hid hcomb
      clear hs0 hls hq hcomb
      have i0 : (0 : Int) ≤ (k : Int) := by omega
      have i1 : (k : Int) < (l.length : Int) := by omega
      obtain ⟨⟨d0, d1, d2, d3, d4, d5, d6⟩, f0, f1, f2, f3, f4, f5, f6⟩ := row7 hrow
      obtain ⟨⟨r0, r1, r2, r3, r4, r5, r6⟩, e0, e1, e2, e3, e4, e5, e6⟩ := row7 hrR
      go_wp2_with fail
      refine (hkd _).mono ?_
      rintro e w5 ⟨rfl, rfl⟩
      rcases hqc with rfl | rfl | rfl
      · by_cases hkp2 : k < P.length
        · have hlt2 : (k : Int) < (P.length : Int) := by omega
          obtain ⟨sd, sx, rfl, hsdb, hPs, hscell⟩ := Strs.get hseg hkp2
          obtain rfl := Route.nth_get hPs
          obtain ⟨b, hb⟩ : ∃ b, (Route.nth l k == Route.nth P k) = b := ⟨_, rfl⟩
          clear hPs
          rcases b with _ | _
          · have Hn := Lib.hid (show Route.fit op l P = none by rw [← HCo.out, Route.fit_name hlt HQ.out hkp2, if_neg (by simpa using hb)]; rfl)
            go_wp2_with fail
            try rw [Exit.noGoto_ret]
            obtain ⟨Wf, hWf⟩ : ∃ Wf, Wf = set7 (wr) (w.heap.size + 1) (.bool false) (.slice none 0 0) (.int .i64 0) (.string ⟨#[]⟩) (.slice none 0 0) (.slice none 0 0) (.string ⟨#[]⟩) := ⟨_, rfl⟩
            have hrf : Wf.heap[w.heap.size + 1]? = some (.cells [.bool false, .slice none 0 0, .int .i64 0, .string ⟨#[]⟩, .slice none 0 0, .slice none 0 0, .string ⟨#[]⟩].toArray 43 (0, 0)) := by rw [hWf]; exact set7_row (hrR)
            have hbf : Below w.heap.size w Wf := by rw [hWf]; exact set7_below (hbl) (by omega)
            unfold set7 at hWf
            rw [← hWf]
            clear hWf
            obtain ⟨⟨z0, z1, z2, z3, z4, z5, z6⟩, _⟩ := row7 hrf
            refine bodyPost_ret (v := .agg #[.bool false, .slice none 0 0, .int .i64 0, .string ⟨#[]⟩, .slice none 0 0, .slice none 0 0, .string ⟨#[]⟩]) (by simp [results, Try.results36, go_sem, z0, z1, z2, z3, z4, z5, z6]) rfl ⟨_, rfl, ?_, hbf⟩
            rw [Hn.out]
            exact rfl
          · have Hc := Lib.hid (show Route.fit op (l.drop k) (P.drop k) = Route.fit op (l.drop (k + 1)) (P.drop (k + 1)) by rw [Route.fit_name hlt HQ.out hkp2, if_pos (by simpa using hb)])
            go_wp2
            refine ⟨⟨k + 1, N, V, _, _, by go_num, by omega, by omega, by omega, by omega, by rw [← HCo.out, Hc.out], hoN, hoV, hap, hrow, hkp, hbl⟩, by simp [intOf]; omega⟩
        · have hge : (P.length : Int) ≤ (k : Int) := by omega
          have Hn := Lib.hid (show Route.fit op l P = none by rw [← HCo.out, Route.fit_short hlt (by rw [HQ.out]; decide) (by omega)]; rfl)
          go_wp2_with fail
          try rw [Exit.noGoto_ret]
          obtain ⟨Wf, hWf⟩ : ∃ Wf, Wf = set7 (wr) (w.heap.size + 1) (.bool false) (.slice none 0 0) (.int .i64 0) (.string ⟨#[]⟩) (.slice none 0 0) (.slice none 0 0) (.string ⟨#[]⟩) := ⟨_, rfl⟩
          have hrf : Wf.heap[w.heap.size + 1]? = some (.cells [.bool false, .slice none 0 0, .int .i64 0, .string ⟨#[]⟩, .slice none 0 0, .slice none 0 0, .string ⟨#[]⟩].toArray 43 (0, 0)) := by rw [hWf]; exact set7_row (hrR)
          have hbf : Below w.heap.size w Wf := by rw [hWf]; exact set7_below (hbl) (by omega)
          unfold set7 at hWf
          rw [← hWf]
          clear hWf
          obtain ⟨⟨z0, z1, z2, z3, z4, z5, z6⟩, _⟩ := row7 hrf
          refine bodyPost_ret (v := .agg #[.bool false, .slice none 0 0, .int .i64 0, .string ⟨#[]⟩, .slice none 0 0, .slice none 0 0, .string ⟨#[]⟩]) (by simp [results, Try.results36, go_sem, z0, z1, z2, z3, z4, z5, z6]) rfl ⟨_, rfl, ?_, hbf⟩
          rw [Hn.out]
          exact rfl
      · by_cases hkp2 : k < P.length
        · have hlt2 : (k : Int) < (P.length : Int) := by omega
          have hpar : Route.param (Route.nth l k) = true := (Route.kind_2 (Route.valid_at he hlt)).1 HQ.out
          obtain ⟨sd, sx, rfl, hsdb, hPs, hscell⟩ := Strs.get hseg hkp2
          obtain rfl := Route.nth_get hPs
          have hL2 := Route.param_len hpar
          have hsl1 : (1 : Int) ≤ ((Route.nth l k).length : Int) := by omega
          have hsl2 : (1 : Int) ≤ ((Route.nth l k).length : Int) - 1 := by omega
          have hsl3 : ((Route.nth l k).length : Int) - 1 ≤ ((Route.nth l k).length : Int) := by omega
          have hwr : IntKind.i64.wrap (((Route.nth l k).length : Int) - 1) = ((Route.nth l k).length : Int) - 1 := IntWalk.i64_in _ (by omega)
          have d4a : ∀ o, (wr.alloc o).cell? ⟨w1.heap.size, 4, none⟩ = some vN := fun o => (World.cell?_of_block (w := wr) (a := ⟨w1.heap.size, 4, none⟩) (Below.heap_alloc wr o _ (by have := hkp.size; show w1.heap.size < _; omega))).trans d4
          have hmid : sv (Route.mid (Route.nth l k)) = .string ((⟨(Route.nth l k).toArray⟩ : ByteArray).extract 1 ((Route.nth l k).length - 1)) := by unfold sv Route.mid; rw [bs_extract, List.dropLast_eq_take, List.length_drop]
          have hvNf := hoN.form
          obtain ⟨aN, cN0, rfl, _⟩ := hvNf
          go_wp2
          refine wp_region_noPanic ?_
          refine wp_region_held_drew (S := fun _ => True) (by kernel_rfl) ?_ (fun hH => ?_)
          · trivial
          refine Reg.take (i := 0) (u := ?p18v0) rfl rfl rfl (by kernel_rfl) (by kernel_rfl) (by kernel_rfl) hH ?p18y0 ?p18r0
          case p18y0 => (intro w hSw; (try dsimp only at hSw); go_simp; try (with_reducible rfl))
          case' p18r0 => simp only [List.setIfInBounds_toArray, List.set_cons_zero, List.set_cons_succ]
          refine Reg.take (i := 2) (u := ?p18v2) rfl rfl rfl (by kernel_rfl) (by kernel_rfl) (by kernel_rfl) hH ?p18y2 ?p18r2
          case p18y2 => (intro w hSw; (try dsimp only at hSw); go_simp; try (with_reducible rfl))
          case' p18r2 => simp only [List.setIfInBounds_toArray, List.set_cons_zero, List.set_cons_succ]
          refine Reg.take (i := 3) (u := ?p18v3) rfl rfl rfl (by kernel_rfl) (by kernel_rfl) (by kernel_rfl) hH ?p18y3 ?p18r3
          case p18y3 => (intro w hSw; (try dsimp only at hSw); go_simp; try (with_reducible rfl))
          case' p18r3 => simp only [List.setIfInBounds_toArray, List.set_cons_zero, List.set_cons_succ]
          refine Reg.take (i := 4) (u := ?p18v4) rfl rfl rfl (by kernel_rfl) (by kernel_rfl) (by kernel_rfl) hH ?p18y4 ?p18r4
          case p18y4 => (intro w hSw; (try dsimp only at hSw); go_simp; try (with_reducible rfl))
          case' p18r4 => simp only [List.setIfInBounds_toArray, List.set_cons_zero, List.set_cons_succ]
          refine Reg.take (i := 5) (u := ?p18v5) rfl rfl rfl (by kernel_rfl) (by kernel_rfl) (by kernel_rfl) hH ?p18y5 ?p18r5
          case p18y5 => (intro w hSw; (try dsimp only at hSw); go_simp; try (with_reducible rfl))
          case' p18r5 => simp only [List.setIfInBounds_toArray, List.set_cons_zero, List.set_cons_succ]
          refine Reg.take (i := 6) (u := ?p18v6) rfl rfl rfl (by kernel_rfl) (by kernel_rfl) (by kernel_rfl) hH ?p18y6 ?p18r6
          case p18y6 => (intro w hSw; (try dsimp only at hSw); go_simp; try (with_reducible rfl))
          case' p18r6 => simp only [List.setIfInBounds_toArray, List.set_cons_zero, List.set_cons_succ]
          refine Reg.pair (i := 1) (j := 7) (u := .slice aN N.length cN0) (x := .slice (some ⟨wr.heap.size, 0, none⟩) 1 1) (w1 := (wr.alloc (.cells #[.string ((⟨(Route.nth l k).toArray⟩ : ByteArray).extract 1 ((Route.nth l k).length - 1))] 9)).drew) rfl rfl rfl rfl rfl rfl (by kernel_rfl) (by kernel_rfl) (by kernel_rfl) trivial trivial (by decide) (by decide) ?p18y1 ?p18y2 ?p18y3 ?p18y4 ?p18go
          case p18y1 => (go_simp; try (with_reducible rfl))
          case p18y2 => (go_simp; try (with_reducible rfl))
          case p18y3 => (go_simp; try (with_reducible rfl))
          case p18y4 => (go_simp; try (with_reducible rfl))
          case' p18go => simp only [List.setIfInBounds_toArray, List.set_cons_zero, List.set_cons_succ]
          refine Reg.only (i := 8) rfl (Reg.wanted_free rfl) (by kernel_rfl) (fun K hK => ?_)
          refine wp_append_lies (o := _) _ _ _ 33 rfl U.heap.size 9 ti (.string ⟨#[]⟩) 1 16 Try.underlying33 hi hz0 hz1 hz2 rfl (by decide) _ N.length (N.map sv) rfl (Owns.drew (hoN.alloc _)) _ 1 1 [sv (Route.mid (Route.nth l k))] rfl (Rd.drew (by rw [hmid]; exact Rd.one wr _ _)) (by simp [sv, Value.oneCell']) (by simp only [maxLen]; omega) (by omega) (by simp; have := hkp.size; omega) ?_
          intro vN' w6 hownN hgrowN hliesN
          obtain ⟨hkp7, hbl7, hoN7, hoV7, hap7, hrow6, hrow7⟩ := grow_field (i := 4) hDlt (by omega) hkp hbl hownN hgrowN hliesN hoN hoV hap hrow
          obtain ⟨gN, cN, rfl, _⟩ := hownN.succ
          obtain ⟨⟨d0', d1', d2', d3', d4', d5', d6'⟩, f0', f1', f2', f3', f4', f5', f6'⟩ := row7 hrow6
          refine hK.out _ _ trivial (fun hH2 => ?_)
          clear hK hH
          have hH := hH2; clear hH2
          try simp only [Act.put, List.setIfInBounds_toArray, List.set_cons_zero, List.set_cons_succ]
          refine Reg.only (i := 9) rfl (Reg.wanted_free rfl) (by kernel_rfl) (fun K hK => ?_)
          go_simp
          refine hK.out _ _ trivial (fun hH2 => ?_)
          clear hK hH
          have hH := hH2; clear hH2
          try simp only [Act.put, List.setIfInBounds_toArray, List.set_cons_zero, List.set_cons_succ]
          refine Reg.only (i := 10) rfl (Reg.wanted_free rfl) (by kernel_rfl) (fun K hK => ?_)
          go_simp
          refine hK.out _ _ trivial (fun hH2 => ?_)
          clear hK hH
          have hH := hH2; clear hH2
          try simp only [Act.put, List.setIfInBounds_toArray, List.set_cons_zero, List.set_cons_succ]
          refine wpAnyH_done (by kernel_rfl) ?_ _
          refine NoPanic.normal ?_
          obtain ⟨W7, hW7⟩ : ∃ W7, W7 = w6.setCell ⟨w1.heap.size, 4, none⟩ (.slice (some ⟨gN, 0, none⟩) (N.length + 1) cN) := ⟨_, rfl⟩
          rw [← hW7] at hkp7 hbl7 hoN7 hoV7 hrow7 ⊢
          clear hW7 d0' d1' d2' d3' d4' d5' d6' f0' f1' f2' f3' f4' f5' f6' d0 d1 d2 d3 d4 d5 d6 f0 f1 f2 f3 f4 f5 f6 d4a hscell
          obtain ⟨⟨d0, d1, d2, d3, d4, d5, d6⟩, f0, f1, f2, f3, f4, f5, f6⟩ := row7 hrow7
          have hsegc : ∀ W, Kp w1.heap.size U W → W.cell? (sd.add k) = some (.string ⟨(Route.nth P k).toArray⟩) := fun W hK => by
            obtain ⟨ad', s', e1, _, e2, e3⟩ := Strs.get (hrU.kp hK hsne) hkp2
            cases e1
            rw [hPs] at e2
            cases e2
            exact e3
          have hscell := hsegc _ hkp7
          have hvVf := hoV7.form
          obtain ⟨aV, cV0, rfl, _⟩ := hvVf
          have d5a : ∀ o, (W7.alloc o).cell? ⟨w1.heap.size, 5, none⟩ = some (.slice aV V.length cV0) := fun o => (World.cell?_of_block (w := W7) (a := ⟨w1.heap.size, 5, none⟩) (Below.heap_alloc W7 o _ (by have := hkp7.size; show w1.heap.size < _; omega))).trans d5
          go_wp2
          refine wp_region_noPanic ?_
          refine wp_region_held_drew (S := fun w' => w'.cell? (sd.add k) = some (.string ⟨(Route.nth P k).toArray⟩)) (by kernel_rfl) ?_ (fun hH => ?_)
          · exact (hsegc _ hkp7.drew)
          refine Reg.take (i := 0) (u := ?p19v0) rfl rfl rfl (by kernel_rfl) (by kernel_rfl) (by kernel_rfl) hH ?p19y0 ?p19r0
          case p19y0 => (intro w hSw; (try dsimp only at hSw); go_simp; try (with_reducible rfl))
          case' p19r0 => simp only [List.setIfInBounds_toArray, List.set_cons_zero, List.set_cons_succ]
          refine Reg.take (i := 2) (u := ?p19v2) rfl rfl rfl (by kernel_rfl) (by kernel_rfl) (by kernel_rfl) hH ?p19y2 ?p19r2
          case p19y2 => (intro w hSw; (try dsimp only at hSw); go_simp; try (with_reducible rfl))
          case' p19r2 => simp only [List.setIfInBounds_toArray, List.set_cons_zero, List.set_cons_succ]
          refine Reg.take (i := 3) (u := ?p19v3) rfl rfl rfl (by kernel_rfl) (by kernel_rfl) (by kernel_rfl) hH ?p19y3 ?p19r3
          case p19y3 => (intro w hSw; (try dsimp only at hSw); go_simp; try (with_reducible rfl))
          case' p19r3 => simp only [List.setIfInBounds_toArray, List.set_cons_zero, List.set_cons_succ]
          refine Reg.take (i := 4) (u := ?p19v4) rfl rfl rfl (by kernel_rfl) (by kernel_rfl) (by kernel_rfl) hH ?p19y4 ?p19r4
          case p19y4 => (intro w hSw; (try dsimp only at hSw); go_simp; try (with_reducible rfl))
          case' p19r4 => simp only [List.setIfInBounds_toArray, List.set_cons_zero, List.set_cons_succ]
          refine Reg.take (i := 5) (u := ?p19v5) rfl rfl rfl (by kernel_rfl) (by kernel_rfl) (by kernel_rfl) hH ?p19y5 ?p19r5
          case p19y5 => (intro w hSw; (try dsimp only at hSw); go_simp; try (with_reducible rfl))
          case' p19r5 => simp only [List.setIfInBounds_toArray, List.set_cons_zero, List.set_cons_succ]
          refine Reg.pair (i := 1) (j := 6) (u := .slice aV V.length cV0) (x := .slice (some ⟨W7.heap.size, 0, none⟩) 1 1) (w1 := (W7.alloc (.cells #[.string ⟨(Route.nth P k).toArray⟩] 9)).drew) rfl rfl rfl rfl rfl rfl (by kernel_rfl) (by kernel_rfl) (by kernel_rfl) (hsegc _ hkp7.drew) (hsegc _ (hkp7.alloc _).drew) (by decide) (by decide) ?p19y1 ?p19y2 ?p19y3 ?p19y4 ?p19go
          case p19y1 => (go_simp; try (with_reducible rfl))
          case p19y2 => (go_simp; try (with_reducible rfl))
          case p19y3 => (go_simp; try (with_reducible rfl))
          case p19y4 => (go_simp; try (with_reducible rfl))
          case' p19go => simp only [List.setIfInBounds_toArray, List.set_cons_zero, List.set_cons_succ]
          refine Reg.only (i := 7) rfl (Reg.wanted_free rfl) (by kernel_rfl) (fun K hK => ?_)
          refine wp_append_lies (o := _) _ _ _ 33 rfl U.heap.size 9 ti (.string ⟨#[]⟩) 1 16 Try.underlying33 hi hz0 hz1 hz2 rfl (by decide) _ V.length (V.map sv) rfl (Owns.drew (hoV7.alloc _)) _ 1 1 [sv (Route.nth P k)] rfl (Rd.drew (Rd.one W7 _ _)) (by simp [sv, Value.oneCell']) (by simp only [maxLen]; omega) (by omega) (by simp; have := hkp7.size; omega) ?_
          intro vV' w8 hownV hgrowV hliesV
          obtain ⟨hkp9, hbl9, hoV9, hoN9, hap9, hrow8, hrow9⟩ := grow_field (i := 5) hDlt (by omega) hkp7 hbl7 hownV hgrowV hliesV hoV7 hoN7 (fun j h1 h2 => hap7 j h2 h1) hrow7
          obtain ⟨gV, cV, rfl, _⟩ := hownV.succ
          obtain ⟨⟨d0', d1', d2', d3', d4', d5', d6'⟩, f0', f1', f2', f3', f4', f5', f6'⟩ := row7 hrow8
          have hkp8 := (hkp7.alloc (.cells #[.string ⟨(Route.nth P k).toArray⟩] 9)).drew.grown hgrowV (fun j hj => (hoV7.lt j hj).1)
          refine hK.out _ _ (hsegc _ hkp8) (fun hH2 => ?_)
          clear hK hH
          have hH := hH2; clear hH2
          try simp only [Act.put, List.setIfInBounds_toArray, List.set_cons_zero, List.set_cons_succ]
          refine Reg.only (i := 8) rfl (Reg.wanted_free rfl) (by kernel_rfl) (fun K hK => ?_)
          go_simp
          refine hK.out _ _ (hsegc _ hkp8) (fun hH2 => ?_)
          clear hK hH
          have hH := hH2; clear hH2
          try simp only [Act.put, List.setIfInBounds_toArray, List.set_cons_zero, List.set_cons_succ]
          refine Reg.only (i := 9) rfl (Reg.wanted_free rfl) (by kernel_rfl) (fun K hK => ?_)
          go_simp
          refine hK.out _ _ (hsegc _ hkp9) (fun hH2 => ?_)
          clear hK hH
          have hH := hH2; clear hH2
          try simp only [Act.put, List.setIfInBounds_toArray, List.set_cons_zero, List.set_cons_succ]
          refine wpAnyH_done (by kernel_rfl) ?_ _
          refine NoPanic.normal ?_
          go_wp2
          refine ⟨⟨k + 1, N ++ [Route.mid (Route.nth l k)], V ++ [Route.nth P k], _, _, by go_num, by omega, by omega, by simp; omega, by simp; omega, ?_, ?_, ?_, fun j h1 h2 => hap9 j h2 h1, hrow9, hkp9, hbl9⟩, by simp [intOf]; omega⟩
          · rw [← HCo.out, Route.fit_param hlt HQ.out hkp2, Route.comb_comb]
          · simpa using hoN9
          · simpa using hoV9
        · have hge : (P.length : Int) ≤ (k : Int) := by omega
          have Hn := Lib.hid (show Route.fit op l P = none by rw [← HCo.out, Route.fit_short hlt (by rw [HQ.out]; decide) (by omega)]; rfl)
          go_wp2_with fail
          try rw [Exit.noGoto_ret]
          obtain ⟨Wf, hWf⟩ : ∃ Wf, Wf = set7 (wr) (w.heap.size + 1) (.bool false) (.slice none 0 0) (.int .i64 0) (.string ⟨#[]⟩) (.slice none 0 0) (.slice none 0 0) (.string ⟨#[]⟩) := ⟨_, rfl⟩
          have hrf : Wf.heap[w.heap.size + 1]? = some (.cells [.bool false, .slice none 0 0, .int .i64 0, .string ⟨#[]⟩, .slice none 0 0, .slice none 0 0, .string ⟨#[]⟩].toArray 43 (0, 0)) := by rw [hWf]; exact set7_row (hrR)
          have hbf : Below w.heap.size w Wf := by rw [hWf]; exact set7_below (hbl) (by omega)
          unfold set7 at hWf
          rw [← hWf]
          clear hWf
          obtain ⟨⟨z0, z1, z2, z3, z4, z5, z6⟩, _⟩ := row7 hrf
          refine bodyPost_ret (v := .agg #[.bool false, .slice none 0 0, .int .i64 0, .string ⟨#[]⟩, .slice none 0 0, .slice none 0 0, .string ⟨#[]⟩]) (by simp [results, Try.results36, go_sem, z0, z1, z2, z3, z4, z5, z6]) rfl ⟨_, rfl, ?_, hbf⟩
          rw [Hn.out]
          exact rfl
      · by_cases hkp2 : k < P.length
        · obtain ⟨g, rfl⟩ : ∃ g, sa = some ⟨g, 0, none⟩ := by
            rcases hvs.2 with ⟨h0, h1⟩ | ⟨g, cap, cur, hv, _⟩
            · omega
            · cases hv; exact ⟨g, rfl⟩
          have hadd : (⟨g, 0, none⟩ : Addr).add k = ⟨g, k, none⟩ := by rw [add_flat, Nat.zero_add]
          have hj := join_at hseg hkp2 hcs (by omega)
          have hJl : (Dots.glue (P.drop k)).length ≤ 128 := Nat.le_trans (glue_le _) (Nat.le_trans (body_drop_le P k) hbody)
          have hsf := fun W => hasSuffix_any p ⟨#[47]⟩ (by unfold maxLen; omega) (by decide) W
          rw [show (⟨#[47]⟩ : ByteArray).data.toList = [47] from rfl, suffix_slash, ← HO.out] at hsf
          have hPd : P.drop k ≠ [] := by intro e; have := congrArg List.length e; simp at this; omega
          have Hn := Lib.hid (show Route.fit op l P = some (N, V, Dots.glue (P.drop k) ++ if op then [47] else []) by rw [← HCo.out, Route.fit_rest hlt HQ.out]; simp [Route.comb, Route.restOf, hPd])
          have hll : (0 : Int) < ((P.length - k : Nat) : Int) := by omega
          have hks : (k : Int) ≤ (P.length : Int) := by omega
          have hkc : (k : Int) < (sc : Int) := by omega
          have hne : ¬ k = sc := by omega
          obtain ⟨J, hJ⟩ : ∃ J, J = Dots.glue (P.drop k) := ⟨_, rfl⟩
          rw [← hJ] at hj hJl Hn
          obtain ⟨aN, cN0, rfl, _⟩ := hoN.form
          obtain ⟨aV, cV0, rfl, _⟩ := hoV.form
          clear hJ hPd
          go_wp2_with fail
          refine hj.mono ?_
          rintro e w6 ⟨rfl, g6⟩
          have hkp6 := hkp.below g6 (Nat.le_refl _)
          have hbl6 := hbl.trans (g6.mono hbl.size)
          have hrow6 := (g6.block w1.heap.size (by have := hkp.size; omega)).trans hrow
          have hrR6 := (g6.block (w.heap.size + 1) (by have := hkp.size; omega)).trans hrR
          have hcl6 := hcU.kp hkp6 hcne
          have hoN6 := hoN.below g6 (Nat.le_refl _)
          have hoV6 := hoV.below g6 (Nat.le_refl _)
          clear hj d0 d1 d2 d3 d4 d5 d6 f0 f1 f2 f3 f4 f5 f6 r0 r1 r2 r3 r4 r5 r6 e0 e1 e2 e3 e4 e5 e6
          obtain ⟨⟨d0, d1, d2, d3, d4, d5, d6⟩, f0, f1, f2, f3, f4, f5, f6⟩ := row7 hrow6
          have hrow7 := set_row hrow6 6 (.string ⟨J.toArray⟩)
          have hrR7 := (Below.heap_setCell w6 ⟨w1.heap.size, 6, none⟩ (.string ⟨J.toArray⟩) (w.heap.size + 1) (by show w.heap.size + 1 ≠ w1.heap.size; omega)).trans hrR6
          have hbl7 : Below w.heap.size w (w6.setCell ⟨w1.heap.size, 6, none⟩ (.string ⟨J.toArray⟩)) := hbl6.setCell (by show w.heap.size ≤ w1.heap.size; omega) _
          have hcl7 := (hcU.kp (hkp6.setD 6 (.string ⟨J.toArray⟩)) hcne)
          have hoN7 := hoN6.setOld (p := ⟨w1.heap.size, 6, none⟩) hDlt (.string ⟨J.toArray⟩)
          have hoV7 := hoV6.setOld (p := ⟨w1.heap.size, 6, none⟩) hDlt (.string ⟨J.toArray⟩)
          have hkp7 := hkp6.setD 6 (.string ⟨J.toArray⟩)
          go_wp2_with fail
          refine (hsf _).mono ?_
          rintro e w7 ⟨rfl, hw7⟩
          obtain ⟨W7, hW7⟩ : ∃ W7, W7 = w6.setCell ⟨w1.heap.size, 6, none⟩ (.string ⟨J.toArray⟩) := ⟨_, rfl⟩
          rw [← hW7] at hrow7 hrR7 hbl7 hcl7 hoN7 hoV7 hkp7 hw7
          subst hw7
          clear hW7 d0 d1 d2 d3 d4 d5 d6 f0 f1 f2 f3 f4 f5 f6
          obtain ⟨⟨d0, d1, d2, d3, d4, d5, d6⟩, f0, f1, f2, f3, f4, f5, f6⟩ := row7 hrow7
          obtain ⟨⟨r0, r1, r2, r3, r4, r5, r6⟩, e0, e1, e2, e3, e4, e5, e6⟩ := row7 hrR7
          rcases op with _ | _
          · go_wp2_with fail
            try rw [Exit.noGoto_ret]
            obtain ⟨Wf, hWf⟩ : ∃ Wf, Wf = set7 (W7) (w.heap.size + 1) (.bool true) (.slice ca l.length cc) (.int .i64 kd) (.string ⟨t.toArray⟩) (.slice aN N.length cN0) (.slice aV V.length cV0) (.string ⟨J.toArray⟩) := ⟨_, rfl⟩
            have hrf : Wf.heap[w.heap.size + 1]? = some (.cells [.bool true, .slice ca l.length cc, .int .i64 kd, .string ⟨t.toArray⟩, .slice aN N.length cN0, .slice aV V.length cV0, .string ⟨J.toArray⟩].toArray 43 (0, 0)) := by rw [hWf]; exact set7_row (hrR7)
            have hbf : Below w.heap.size w Wf := by rw [hWf]; exact set7_below (hbl7) (by omega)
            have sl1 : SlAt Wf w.heap.size (.slice ca l.length cc) l := by rw [hWf]; exact ⟨ca, cc, rfl, hcc, hccm, Rd.set7 (hcl7) hcneR, hcge⟩
            have sl2 : SlAt Wf w.heap.size (.slice aN N.length cN0) N := by rw [hWf]; exact SlAt.of_owns (Owns.set7 (hoN7) (by omega)) (by omega)
            have sl3 : SlAt Wf w.heap.size (.slice aV V.length cV0) V := by rw [hWf]; exact SlAt.of_owns (Owns.set7 (hoV7) (by omega)) (by omega)
            unfold set7 at hWf
            rw [← hWf]
            clear hWf
            obtain ⟨⟨z0, z1, z2, z3, z4, z5, z6⟩, _⟩ := row7 hrf
            refine bodyPost_ret (v := .agg #[.bool true, .slice ca l.length cc, .int .i64 kd, .string ⟨t.toArray⟩, .slice aN N.length cN0, .slice aV V.length cV0, .string ⟨J.toArray⟩]) (by simp [results, Try.results36, go_sem, z0, z1, z2, z3, z4, z5, z6]) rfl ⟨_, rfl, ?_, hbf⟩
            rw [Hn.out]
            exact ⟨_, _, _, by simp, sl1, sl2, sl3⟩
          · have hJs : (⟨J.toArray⟩ ++ ⟨#[47]⟩ : ByteArray) = ⟨(J ++ [47]).toArray⟩ := bs_add J [47]
            have hrow8 := set_row hrow7 6 (.string ⟨(J ++ [47]).toArray⟩)
            have hrR8 := (Below.heap_setCell W7 ⟨w1.heap.size, 6, none⟩ (.string ⟨(J ++ [47]).toArray⟩) (w.heap.size + 1) (by show w.heap.size + 1 ≠ w1.heap.size; omega)).trans hrR7
            have hbl8 : Below w.heap.size w (W7.setCell ⟨w1.heap.size, 6, none⟩ (.string ⟨(J ++ [47]).toArray⟩)) := hbl7.setCell (by show w.heap.size ≤ w1.heap.size; omega) _
            have hcl8 := (hcU.kp (hkp7.setD 6 (.string ⟨(J ++ [47]).toArray⟩)) hcne)
            have hoN8 := hoN7.setOld (p := ⟨w1.heap.size, 6, none⟩) hDlt (.string ⟨(J ++ [47]).toArray⟩)
            have hoV8 := hoV7.setOld (p := ⟨w1.heap.size, 6, none⟩) hDlt (.string ⟨(J ++ [47]).toArray⟩)
            obtain ⟨⟨d0', d1', d2', d3', d4', d5', d6'⟩, f0', f1', f2', f3', f4', f5', f6'⟩ := row7 hrow8
            obtain ⟨⟨r0', r1', r2', r3', r4', r5', r6'⟩, e0', e1', e2', e3', e4', e5', e6'⟩ := row7 hrR8
            go_wp2_with fail
            try rw [Exit.noGoto_ret]
            obtain ⟨Wf, hWf⟩ : ∃ Wf, Wf = set7 (W7.setCell ⟨w1.heap.size, 6, none⟩ (.string ⟨(J ++ [47]).toArray⟩)) (w.heap.size + 1) (.bool true) (.slice ca l.length cc) (.int .i64 kd) (.string ⟨t.toArray⟩) (.slice aN N.length cN0) (.slice aV V.length cV0) (.string ⟨(J ++ [47]).toArray⟩) := ⟨_, rfl⟩
            have hrf : Wf.heap[w.heap.size + 1]? = some (.cells [.bool true, .slice ca l.length cc, .int .i64 kd, .string ⟨t.toArray⟩, .slice aN N.length cN0, .slice aV V.length cV0, .string ⟨(J ++ [47]).toArray⟩].toArray 43 (0, 0)) := by rw [hWf]; exact set7_row (hrR8)
            have hbf : Below w.heap.size w Wf := by rw [hWf]; exact set7_below (hbl8) (by omega)
            have sl1 : SlAt Wf w.heap.size (.slice ca l.length cc) l := by rw [hWf]; exact ⟨ca, cc, rfl, hcc, hccm, Rd.set7 (hcl8) hcneR, hcge⟩
            have sl2 : SlAt Wf w.heap.size (.slice aN N.length cN0) N := by rw [hWf]; exact SlAt.of_owns (Owns.set7 (hoN8) (by omega)) (by omega)
            have sl3 : SlAt Wf w.heap.size (.slice aV V.length cV0) V := by rw [hWf]; exact SlAt.of_owns (Owns.set7 (hoV8) (by omega)) (by omega)
            unfold set7 at hWf
            rw [← hWf]
            clear hWf
            obtain ⟨⟨z0, z1, z2, z3, z4, z5, z6⟩, _⟩ := row7 hrf
            refine bodyPost_ret (v := .agg #[.bool true, .slice ca l.length cc, .int .i64 kd, .string ⟨t.toArray⟩, .slice aN N.length cN0, .slice aV V.length cV0, .string ⟨(J ++ [47]).toArray⟩]) (by simp [results, Try.results36, go_sem, z0, z1, z2, z3, z4, z5, z6]) rfl ⟨_, rfl, ?_, hbf⟩
            rw [Hn.out]
            exact ⟨_, _, _, rfl, sl1, sl2, sl3⟩
        · have hkP' : k = P.length := by omega
          have Hn := Lib.hid (show Route.fit op l P = some (N, V, []) by rw [← HCo.out, Route.fit_rest hlt HQ.out, List.drop_eq_nil_of_le (by omega)]; simp [Route.comb, Route.restOf, Dots.glue])
          subst hkP'
          have hj0 := fun (a0 : Option Addr) (c0 : Nat) (W : World) => sh_strings_Join_none a0 c0 ⟨#[47]⟩ W
          obtain ⟨aN, cN0, rfl, _⟩ := hoN.form
          obtain ⟨aV, cV0, rfl, _⟩ := hoV.form
          have hrow6 := set_row hrow 6 (.string ⟨#[]⟩)
          have hrR6 := (Below.heap_setCell wr ⟨w1.heap.size, 6, none⟩ (.string ⟨#[]⟩) (w.heap.size + 1) (by show w.heap.size + 1 ≠ w1.heap.size; omega)).trans hrR
          have hbl6 : Below w.heap.size w (wr.setCell ⟨w1.heap.size, 6, none⟩ (.string ⟨#[]⟩)) := hbl.setCell (by show w.heap.size ≤ w1.heap.size; omega) _
          have hcl6 := (hcU.kp (hkp.setD 6 (.string ⟨#[]⟩)) hcne)
          have hoN6 := hoN.setOld (p := ⟨w1.heap.size, 6, none⟩) hDlt (.string ⟨#[]⟩)
          have hoV6 := hoV.setOld (p := ⟨w1.heap.size, 6, none⟩) hDlt (.string ⟨#[]⟩)
          obtain ⟨⟨d0', d1', d2', d3', d4', d5', d6'⟩, f0', f1', f2', f3', f4', f5', f6'⟩ := row7 hrow6
          obtain ⟨⟨r0', r1', r2', r3', r4', r5', r6'⟩, e0', e1', e2', e3', e4', e5', e6'⟩ := row7 hrR6
          go_wp2_with fail
          all_goals
            refine (hj0 _ _ _).mono ?_
            rintro e w6 ⟨rfl, rfl⟩
            go_wp2_with fail
            try rw [Exit.noGoto_ret]
            obtain ⟨Wf, hWf⟩ : ∃ Wf, Wf = set7 (w6.setCell ⟨w1.heap.size, 6, none⟩ (.string ⟨#[]⟩)) (w.heap.size + 1) (.bool true) (.slice ca l.length cc) (.int .i64 kd) (.string ⟨t.toArray⟩) (.slice aN N.length cN0) (.slice aV V.length cV0) (.string ⟨#[]⟩) := ⟨_, rfl⟩
            have hrf : Wf.heap[w.heap.size + 1]? = some (.cells [.bool true, .slice ca l.length cc, .int .i64 kd, .string ⟨t.toArray⟩, .slice aN N.length cN0, .slice aV V.length cV0, .string ⟨#[]⟩].toArray 43 (0, 0)) := by rw [hWf]; exact set7_row (hrR6)
            have hbf : Below w.heap.size w Wf := by rw [hWf]; exact set7_below (hbl6) (by omega)
            have sl1 : SlAt Wf w.heap.size (.slice ca l.length cc) l := by rw [hWf]; exact ⟨ca, cc, rfl, hcc, hccm, Rd.set7 (hcl6) hcneR, hcge⟩
            have sl2 : SlAt Wf w.heap.size (.slice aN N.length cN0) N := by rw [hWf]; exact SlAt.of_owns (Owns.set7 (hoN6) (by omega)) (by omega)
            have sl3 : SlAt Wf w.heap.size (.slice aV V.length cV0) V := by rw [hWf]; exact SlAt.of_owns (Owns.set7 (hoV6) (by omega)) (by omega)
            unfold set7 at hWf
            rw [← hWf]
            clear hWf
            obtain ⟨⟨z0, z1, z2, z3, z4, z5, z6⟩, _⟩ := row7 hrf
            refine bodyPost_ret (v := .agg #[.bool true, .slice ca l.length cc, .int .i64 kd, .string ⟨t.toArray⟩, .slice aN N.length cN0, .slice aV V.length cV0, .string ⟨#[]⟩]) (by simp [results, Try.results36, go_sem, z0, z1, z2, z3, z4, z5, z6]) rfl ⟨_, rfl, ?_, hbf⟩
            rw [Hn.out]
            exact ⟨_, _, _, rfl, sl1, sl2, sl3⟩
    · obtain rfl : k = l.length := by omega
      obtain ⟨⟨r0, r1, r2, r3, r4, r5, r6⟩, e0, e1, e2, e3, e4, e5, e6⟩ := row7 hrR
      by_cases hlong : l.length < P.length
      · have hgt : (l.length : Int) < (P.length : Int) := by omega
        have Hn := Lib.hid (show Route.fit op l P = none by rw [← hcomb, Route.fit_long (Nat.le_refl _) hlong]; rfl)
        clear hcomb
        go_wp2_with fail
        try rw [Exit.noGoto_ret]
        obtain ⟨Wf, hWf⟩ : ∃ Wf, Wf = set7 (wr) (w.heap.size + 1) (.bool false) (.slice none 0 0) (.int .i64 0) (.string ⟨#[]⟩) (.slice none 0 0) (.slice none 0 0) (.string ⟨#[]⟩) := ⟨_, rfl⟩
        have hrf : Wf.heap[w.heap.size + 1]? = some (.cells [.bool false, .slice none 0 0, .int .i64 0, .string ⟨#[]⟩, .slice none 0 0, .slice none 0 0, .string ⟨#[]⟩].toArray 43 (0, 0)) := by rw [hWf]; exact set7_row (hrR)
        have hbf : Below w.heap.size w Wf := by rw [hWf]; exact set7_below (hbl) (by omega)
        unfold set7 at hWf
        rw [← hWf]
        clear hWf
        obtain ⟨⟨z0, z1, z2, z3, z4, z5, z6⟩, _⟩ := row7 hrf
        refine bodyPost_ret (v := .agg #[.bool false, .slice none 0 0, .int .i64 0, .string ⟨#[]⟩, .slice none 0 0, .slice none 0 0, .string ⟨#[]⟩]) (by simp [results, Try.results36, go_sem, z0, z1, z2, z3, z4, z5, z6]) rfl ⟨_, rfl, ?_, hbf⟩
        rw [Hn.out]
        exact rfl
      · have hgt : (P.length : Int) ≤ (l.length : Int) := by omega
        have hgt' : ¬ (l.length : Int) < (P.length : Int) := by omega
        have Hn := Lib.hid (show Route.fit op l P = some (N, V, []) by rw [← hcomb, Route.fit_end (Nat.le_refl _) (by omega)]; simp [Route.comb])
        clear hcomb
        obtain ⟨aN, cN0, rfl, _⟩ := hoN.form
        obtain ⟨aV, cV0, rfl, _⟩ := hoV.form
        obtain ⟨⟨d0, d1, d2, d3, d4, d5, d6⟩, f0, f1, f2, f3, f4, f5, f6⟩ := row7 hrow
        go_wp2_with fail
        try rw [Exit.noGoto_ret]
        obtain ⟨Wf, hWf⟩ : ∃ Wf, Wf = set7 (wr) (w.heap.size + 1) (.bool true) (.slice ca l.length cc) (.int .i64 kd) (.string ⟨t.toArray⟩) (.slice aN N.length cN0) (.slice aV V.length cV0) (.string ⟨#[]⟩) := ⟨_, rfl⟩
        have hrf : Wf.heap[w.heap.size + 1]? = some (.cells [.bool true, .slice ca l.length cc, .int .i64 kd, .string ⟨t.toArray⟩, .slice aN N.length cN0, .slice aV V.length cV0, .string ⟨#[]⟩].toArray 43 (0, 0)) := by rw [hWf]; exact set7_row (hrR)
        have hbf : Below w.heap.size w Wf := by rw [hWf]; exact set7_below (hbl) (by omega)
        have sl1 : SlAt Wf w.heap.size (.slice ca l.length cc) l := by rw [hWf]; exact ⟨ca, cc, rfl, hcc, hccm, Rd.set7 (hcl) hcneR, hcge⟩
        have sl2 : SlAt Wf w.heap.size (.slice aN N.length cN0) N := by rw [hWf]; exact SlAt.of_owns (Owns.set7 (hoN) (by omega)) (by omega)
        have sl3 : SlAt Wf w.heap.size (.slice aV V.length cV0) V := by rw [hWf]; exact SlAt.of_owns (Owns.set7 (hoV) (by omega)) (by omega)
        unfold set7 at hWf
        rw [← hWf]
        clear hWf
        obtain ⟨⟨z0, z1, z2, z3, z4, z5, z6⟩, _⟩ := row7 hrf
        refine bodyPost_ret (v := .agg #[.bool true, .slice ca l.length cc, .int .i64 kd, .string ⟨t.toArray⟩, .slice aN N.length cN0, .slice aV V.length cV0, .string ⟨#[]⟩]) (by simp [results, Try.results36, go_sem, z0, z1, z2, z3, z4, z5, z6]) rfl ⟨_, rfl, ?_, hbf⟩
        rw [Hn.out]
        exact ⟨_, _, _, rfl, sl1, sl2, sl3⟩
end Go.Proofs.Ytefilalapkdegaa
