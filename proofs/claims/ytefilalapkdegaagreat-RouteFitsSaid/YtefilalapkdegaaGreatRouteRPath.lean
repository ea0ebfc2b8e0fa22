/- Path: the path of values, by the reference. -/
import Derived.Test.YtefilalapkdegaaGreatRoutePath
namespace Go.Proofs.YtefilalapkdegaaGreat
open Go.RowKit Str Mem
set_option linter.unusedVariables false
set_option linter.unusedSimpArgs false

theorem psteps_mono {vals l : List (List UInt8)} {k : Nat} : ∀ m, k ≤ m → m ≤ l.length → (Route.psteps vals l k).2.1 ≤ (Route.psteps vals l m).2.1 := by
  intro m hkm
  induction m with
  | zero => intro _; rw [show k = 0 by omega]; exact Nat.le_refl _
  | succ m ih =>
    intro hm
    rcases Nat.lt_or_ge k (m + 1) with h1 | h1
    · refine Nat.le_trans (ih (by omega) (by omega)) ?_
      rw [Route.psteps_succ (by omega)]
      unfold Route.pstep
      split
      · exact Nat.le_refl _
      · split <;> simp
    · rw [show k = m + 1 by omega]; exact Nat.le_refl _
theorem body_snoc (P : List (List UInt8)) (s : List UInt8) : Dots.body (P ++ [s]) = Dots.body P ++ 47 :: s := by rw [Dots.body_append, Dots.body_cons]; simp [Dots.body]

def CntI (w1 : World) (l vals : List (List UInt8)) (i n op : Value) (wr : World) : Prop :=
  ∃ k : Nat, i = .int .i64 k ∧ k ≤ l.length ∧ n = .int .i64 (Route.psteps vals l k).2.1 ∧ op = .bool (Route.psteps vals l k).2.2 ∧ Below w1.heap.size w1 wr
def NamI2 (w1 : World) (vals : List (List UInt8)) (i : Value) (wr : World) : Prop :=
  ∃ k : Nat, i = .int .i64 k ∧ k ≤ vals.length ∧ (∀ j, j < k → Dots.name (Route.nth vals j) = true) ∧ Below w1.heap.size w1 wr
def OutI (w1 : World) (l vals : List (List UInt8)) (i out n : Value) (wr : World) : Prop :=
  ∃ k : Nat, i = .int .i64 k ∧ k ≤ l.length ∧ out = .string ⟨(Dots.body (Route.psteps vals l k).1).toArray⟩ ∧ n = .int .i64 (Route.psteps vals l k).2.1 ∧ Below w1.heap.size w1 wr

set_option maxRecDepth 20000 in
set_option maxHeartbeats 8000000 in
theorem rPath_any (a a2 : Option Addr) (c c2 : Nat) (l vals : List (List UInt8)) (kd : Int) (t : List UInt8) (tl : ByteArray) (w : World) (h : RtOk w a l.length c l t) (hV : Strs w a2 vals.length vals) (hbd : bounded vals tl.data.toList) :
    Calls Tryz.prog 15 #[rtv a l.length c kd t, .slice a2 vals.length c2, .string tl] w fun e w' => e = .returned (.tuple #[.string (bs (Route.pathR (Route.err l kd t) l vals tl.data.toList).1), .int .i64 (Route.pathR (Route.err l kd t) l vals tl.data.toList).2]) ∧ Below w.heap.size w w' := by
  have hkn := fun w' (hb : Below w.heap.size w w') => rkinds_any a c l kd t w' (h.below hb)
  have h16 := fun he => (Route.err_ok (l := l) (kd := kd) (t := t) he).1
  obtain ⟨e1, he1⟩ : ∃ e, Route.err l kd t = e := ⟨_, rfl⟩
  obtain ⟨R, hR⟩ : ∃ R, Route.pathR e1 l vals tl.data.toList = R := ⟨_, rfl⟩
  rw [he1] at hkn h16 ⊢
  rw [hR]
  clear he1
  unfold rtv at hkn ⊢
  have hb0 : Below w.heap.size w (w.alloc (.cells #[.slice a l.length c, .int .i64 kd, .string ⟨t.toArray⟩] 24)) := (Below.refl _ w).alloc (Nat.le_refl _) _
  have hx0 := box3_new w 24 (.slice a l.length c) (.int .i64 kd) (.string ⟨t.toArray⟩)
  obtain ⟨p0, p1, p2⟩ := box3 hx0
  by_cases h0 : e1 = 0
  · have hk0 := hkn _ hb0
    have hl16 := h16 h0
    have HR := Lib.hid hR
    have h0c : (e1 != 0) = false := by rw [h0]; rfl
    have H0 := Lib.hid h0
    unfold KindsPost at hk0
    have hks : Route.kindsR e1 l = Route.kindsOf l := by unfold Route.kindsR; rw [if_pos h0]
    rw [hks] at hk0
    have hkl := Route.kindsOf_length l
    clear hkn h16 h0 hR hks
    go_enter Tryz.func15, Tryz.ntmps15
    go_wp2_with fail
    refine hk0.mono ?_
    rintro e w1 ⟨ka, kc, rfl, hKI, hkc, hkcm, g1⟩
    have hb1 := hb0.trans (g1.mono hb0.size)
    have hx1 := hx0.below g1
    have hsz1 := g1.size
    obtain ⟨p0, p1, p2⟩ := box3 hx1
    rw [hkl] at hKI hkc ⊢
    clear hk0
    have hkat : ∀ {wr k}, Below w1.heap.size w1 wr → k < l.length → ∃ kad : Addr, ka = some kad ∧ wr.cell? (kad.add k) = some (.int .i64 (Route.kind (Route.nth l k))) := by
      intro wr k hbl hk
      obtain ⟨kad, kv, e, _, hkls, hkcell⟩ := (hKI.below hbl).get (k := k) (by omega)
      unfold Route.kindsOf at hkls
      rw [List.getElem?_map, Route.nth_some hk] at hkls
      simp at hkls
      exact ⟨kad, e, by rw [hkcell, ← hkls]⟩
    go_wp2
    go_loopw [12, 10, 11] (fun i n op wr => CntI w1 l vals i n op wr) (fun i _ _ _ => l.length - (intOf i).toNat)
    case atStart => exact ⟨0, rfl, Nat.zero_le _, rfl, rfl, Below.refl _ _⟩
    case round =>
      clear p0 p1 p2
      obtain ⟨k, rfl, hk, rfl, rfl, hbl⟩ := hrel
      obtain ⟨p0, p1, p2⟩ := box3 (hx1.below hbl)
      have hplen := Route.psteps_len vals l k hk
      have hb := hb1.trans (hbl.mono hb1.size)
      have hsz2 := hbl.size
      obtain ⟨⟨pP, pn, po⟩, hst⟩ : ∃ s, s = Route.psteps vals l k := ⟨_, rfl⟩
      rw [← hst] at hplen ⊢
      dsimp only at hplen ⊢
      by_cases hlt : k < l.length
      · have hst2 : Route.psteps vals l (k + 1) = Route.pstep vals (pP, pn, po) (Route.nth l k) := by rw [hst]; exact Route.psteps_succ hlt
        have HS := Lib.hid hst2
        obtain ⟨kad, rfl, hkcell⟩ := hkat hbl hlt
        obtain ⟨q, hq⟩ : ∃ q, Route.kind (Route.nth l k) = q := ⟨_, rfl⟩
        have hqc := Route.kind_cases (Route.nth l k)
        rw [hq] at hqc hkcell
        have HQ := Lib.hid hq
        have i0' : (0 : Int) ≤ (k : Int) := by omega
        have i1 : (k : Int) < (l.length : Int) := by omega
        clear hst hst2 hq
        rcases hqc with rfl | rfl | rfl <;> rcases po with _ | _
        all_goals
          go_wp2
          refine ⟨⟨k + 1, by go_num, by omega, ?_, ?_, hbl⟩, by simp [intOf]; omega⟩
          all_goals rw [HS.out]; unfold Route.pstep; rw [HQ.out]; first | rfl | go_num
      · obtain rfl : k = l.length := by omega
        have hRR : R = if pn ≠ vals.length then ([], 6) else if Route.allNames vals = false then ([], 3) else if tl.data.toList ≠ [] ∧ po = false then ([], 3) else Route.pathEnd (Dots.built (pP ++ if tl.data.toList = [] then [] else [tl.data.toList]) false) := by
          rw [← HR.out]; unfold Route.pathR; rw [if_neg (by simp [H0.out]), ← hst]
        clear HR
        by_cases hnv : pn = vals.length
        · subst hnv
          rw [if_neg (by simp)] at hRR
          have hvl := hbd.1
          have HST := Lib.hid hst
          clear hst
          go_wp2
          go_loopw [13, 14, 15] (fun i _ _ wr => NamI2 w1 vals i wr) (fun i _ _ _ => vals.length - (intOf i).toNat)
          case atStart => exact ⟨0, rfl, Nat.zero_le _, fun j hj => by omega, hbl⟩
          case round =>
            clear hbl hb p0 p1 p2 hsz2
            obtain ⟨k, rfl, hk, hall, hbl⟩ := hrel
            have hb := hb1.trans (hbl.mono hb1.size)
            have hsz2 := hbl.size
            by_cases hlt : k < vals.length
            · obtain ⟨vad, vs, rfl, _, hvls, hvcell⟩ := (Strs.below hV hb).get hlt
              obtain rfl := Route.nth_get hvls
              have hvs := hbd.2.1 _ (List.mem_of_getElem? hvls)
              have hjn := fun W => refJoin_any ⟨#[47]⟩ (bs (Route.nth vals k)) W (by rw [size_bs]; omega)
              rw [data_bs, data_bs] at hjn
              have hje := join_root_err (Route.nth vals k)
              obtain ⟨jr, hjr⟩ : ∃ x, Dots.join [47] (Route.nth vals k) = x := ⟨_, rfl⟩
              rw [hjr] at hjn hje
              obtain ⟨nb, hnb⟩ : ∃ b, Dots.name (Route.nth vals k) = b := ⟨_, rfl⟩
              rw [hnb] at hje
              have HN := Lib.hid hnb
              have Hall := Lib.hid hall
              have i0' : (0 : Int) ≤ (k : Int) := by omega
              have i1 : (k : Int) < (vals.length : Int) := by omega
              clear hvls hjr hnb hall
              rcases nb with _ | _
              · have hj3 : (jr.2 == 3) = true := by rw [beq_iff_eq]; exact hje.2 rfl
                have Hx := Lib.hid (show R = ([], 3) by rw [hRR, if_pos (allNames_bad hlt HN.out)])
                clear hje hRR
                go_wp2_with fail
                refine (hjn _).mono ?_
                rintro e w4 ⟨rfl, g4⟩
                go_wp2
                go_ret2
                exact ⟨by rw [Hx.out]; rfl, hb.trans (g4.mono hb.size)⟩
              · have hj3 : (jr.2 == 3) = false := by rw [beq_eq_false_iff_ne]; intro q; have := hje.1 q; cases this
                clear hje
                go_wp2_with fail
                refine (hjn _).mono ?_
                rintro e w4 ⟨rfl, g4⟩
                go_wp2
                refine ⟨⟨k + 1, by go_num, by omega, fun j hj => ?_, hbl.trans (g4.mono hbl.size)⟩, by simp [intOf]; omega⟩
                rcases Nat.lt_or_ge j k with h2 | h2
                · exact Hall.out j h2
                · rw [show j = k by omega]; exact HN.out
            · obtain rfl : k = vals.length := by omega
              rw [if_neg (by rw [allNames_good hall]; simp)] at hRR
              clear hall
              by_cases ht0 : tl.data.toList = []
              · have ht1 : (tl.toList == []) = true := by rw [toList_data, ht0]; rfl
                have ht2 : (tl.toList != []) = false := by rw [bne, ht1]; rfl
                rw [if_neg (by rintro ⟨q, _⟩; exact q ht0), if_pos ht0, List.append_nil] at hRR
                have HRR := Lib.hid hRR
                clear hRR ht0
                rcases po with _ | _
                · go_wp2
                  go_loopw [18, 16, 17] (fun i out n wr => OutI w1 l vals i out n wr) (fun i _ _ _ => l.length - (intOf i).toNat)
                  case atStart => exact ⟨0, rfl, Nat.zero_le _, rfl, rfl, hbl⟩
                  case round =>
                    clear hbl hb hsz2
                    obtain ⟨k, rfl, hk, rfl, rfl, hbl⟩ := hrel
                    obtain ⟨p0, p1, p2⟩ := box3 (hx1.below hbl)
                    have hplen := Route.psteps_len vals l k hk
                    have hb := hb1.trans (hbl.mono hb1.size)
                    have hmem := psteps_mem (vals := vals) (l := l) k hk
                    have hmono := psteps_mono (vals := vals) (l := l) (k := k + 1) l.length
                    rw [← HST.out] at hmono
                    dsimp only at hmono
                    have HQS := Lib.hid (show k = l.length → Route.psteps vals l k = (pP, vals.length, false) from fun q => by rw [q, ← HST.out])
                    obtain ⟨⟨qP, qn, qo⟩, hqs⟩ : ∃ s, s = Route.psteps vals l k := ⟨_, rfl⟩
                    have hbody : (Dots.body qP).length ≤ 16 * 100001 := by
                      rw [← hqs] at hmem hplen
                      exact Nat.le_trans (body_le (M := 100000) qP (fun s hs => by rcases hmem s hs with h1 | h1; exact h.short s h1; have := hbd.2.1 s h1; omega)) (Nat.mul_le_mul_right _ (by have := hplen.1; dsimp only at this; omega))
                    clear hmem
                    rw [← hqs] at hplen ⊢
                    dsimp only at hplen ⊢
                    obtain ⟨B, hB⟩ : ∃ B, B = Dots.body qP := ⟨_, rfl⟩
                    rw [← hB] at hbody ⊢
                    have HB := Lib.hid hB
                    clear hB
                    have hcA : (⟨B.toArray⟩ ++ ⟨#[47]⟩ : ByteArray) = ⟨(B ++ [47]).toArray⟩ := bs_add B [47]
                    have hc1 : ¬ 9223372036854775807 < B.length + 1 := by omega
                    by_cases hlt : k < l.length
                    · have hmono := hmono (by omega) (Nat.le_refl _)
                      have hst2 : Route.psteps vals l (k + 1) = Route.pstep vals (qP, qn, qo) (Route.nth l k) := by rw [hqs]; exact Route.psteps_succ hlt
                      have HS := Lib.hid hst2
                      obtain ⟨kad, rfl, hkcell⟩ := hkat hbl hlt
                      obtain ⟨ad, rfl, hbb, hls, hcell, hsl⟩ := (h.below hb).get hlt
                      obtain ⟨q, hq⟩ : ∃ q, Route.kind (Route.nth l k) = q := ⟨_, rfl⟩
                      have hqc := Route.kind_cases (Route.nth l k)
                      rw [hq] at hqc hkcell
                      have HQ := Lib.hid hq
                      have i0' : (0 : Int) ≤ (k : Int) := by omega
                      have i1 : (k : Int) < (l.length : Int) := by omega
                      clear hqs hst2 hq hls
                      rcases hqc with rfl | rfl | rfl
                      · have hcB : (⟨(B ++ [47]).toArray⟩ ++ ⟨(Route.nth l k).toArray⟩ : ByteArray) = ⟨(B ++ 47 :: Route.nth l k).toArray⟩ := (bs_add (B ++ [47]) (Route.nth l k)).trans (by simp)
                        have hc2 : ¬ 9223372036854775807 < B.length + 1 + (Route.nth l k).length := by omega
                        go_wp2
                        refine ⟨⟨k + 1, by go_num, by omega, ?_, ?_, hbl⟩, by simp [intOf]; omega⟩
                        all_goals rw [HS.out]; unfold Route.pstep; rw [if_pos HQ.out]
                        rw [body_snoc, HB.out]
                      · have hst3 : (Route.pstep vals (qP, qn, qo) (Route.nth l k)) = (if qn < vals.length then qP ++ [Route.nth vals qn] else qP, qn + 1, qo) := by unfold Route.pstep; rw [if_neg (by rw [HQ.out]; decide), if_pos HQ.out]
                        have hnv : qn < vals.length := by rw [HS.out, hst3] at hmono; dsimp only at hmono; omega
                        rw [if_pos hnv] at hst3
                        have HS3 := Lib.hid hst3
                        obtain ⟨vad, vs, rfl, _, hvls, hvcell⟩ := (Strs.below hV hb).get hnv
                        obtain rfl := Route.nth_get hvls
                        have hvs := hbd.2.1 _ (List.mem_of_getElem? hvls)
                        have hnv' : (qn : Int) < (vals.length : Int) := by omega
                        have i2 : (0 : Int) ≤ (qn : Int) := by omega
                        have hcB : (⟨(B ++ [47]).toArray⟩ ++ ⟨(Route.nth vals qn).toArray⟩ : ByteArray) = ⟨(B ++ 47 :: Route.nth vals qn).toArray⟩ := (bs_add (B ++ [47]) (Route.nth vals qn)).trans (by simp)
                        have hc2 : ¬ 9223372036854775807 < B.length + 1 + (Route.nth vals qn).length := by omega
                        clear hst3 hvls hmono
                        go_wp2
                        refine ⟨⟨k + 1, by go_num, by omega, ?_, ?_, hbl⟩, by simp [intOf]; omega⟩
                        all_goals rw [HS.out, HS3.out]
                        · rw [body_snoc, HB.out]
                        · go_num
                      · clear hmono
                        go_wp2
                        refine ⟨⟨k + 1, by go_num, by omega, ?_, ?_, hbl⟩, by simp [intOf]; omega⟩
                        all_goals rw [HS.out]; unfold Route.pstep; rw [if_neg (by rw [HQ.out]; decide), if_neg (by rw [HQ.out]; decide)]
                        rw [HB.out]
                    · have hkl2 : k = l.length := by omega
                      have hq2 := HQS.out hkl2
                      rw [← hqs] at hq2
                      injection hq2 with hq2 hq3
                      subst hq2
                      have hge : (l.length : Int) ≤ (k : Int) := by omega
                      have hge' : ¬ (k : Int) < (l.length : Int) := by omega
                      clear hmono hqs hq3 HQS
                      by_cases hB0 : B = []
                      · have HE := Lib.hid (show R = Route.pathEnd [47] by rw [HRR.out]; congr 1; unfold Dots.built; rw [← HB.out, hB0]; rfl)
                        subst hB0
                        obtain ⟨Q, hQ⟩ : ∃ Q, Q = ([47] : List UInt8) := ⟨_, rfl⟩
                        have hQ1 : (⟨#[47]⟩ : ByteArray) = ⟨Q.toArray⟩ := by rw [hQ]
                        rw [← hQ] at HE
                        have hQn : Dots.normal Q = true := by rw [hQ]; decide
                        have hQl : Q.length = 1 := by rw [hQ]; rfl
                        have hno := fun W => refNormal_any ⟨#[47]⟩ W
                        rw [show (⟨#[47]⟩ : ByteArray).data.toList = [47] from rfl, show Dots.normal [47] = true by decide] at hno
                        have HP := Lib.hid (show Route.pathEnd Q = (Q, 0) by unfold Route.pathEnd; rw [if_neg (by omega), if_neg (by rw [hQn]; simp)])
                        have HQ := Lib.hid hQ
                        clear hQ hQ1 hQn hQl
                        go_wp2_with fail
                        refine (hno _).mono ?_
                        rintro e w6 ⟨rfl, g6⟩
                        go_wp2
                        go_ret2
                        exact ⟨by rw [HE.out, HP.out, HQ.out]; rfl, hb.trans (g6.mono hb.size)⟩
                      · have hB1 : (B == []) = false := by simpa using hB0
                        obtain ⟨Q, hQ⟩ : ∃ Q, Q = B := ⟨_, rfl⟩
                        have HE := Lib.hid (show R = Route.pathEnd Q by rw [HRR.out, hQ]; congr 1; unfold Dots.built; rw [← HB.out, hB1]; rfl)
                        subst hQ
                        clear hB0
                        have hpe : Route.pathEnd Q = if 128 < Q.length then ([], 4) else if Dots.normal Q = false then ([], 18) else (Q, 0) := rfl
                        have hno := fun W => refNormal_any (bs Q) W
                        rw [data_bs] at hno
                        obtain ⟨nb, hnb⟩ : ∃ b, Dots.normal Q = b := ⟨_, rfl⟩
                        rw [hnb] at hno hpe
                        clear hnb
                        by_cases hlong : 128 < Q.length
                        · rw [if_pos hlong] at hpe
                          have HP := Lib.hid hpe
                          have hl2 : (128 : Int) < (Q.length : Int) := by omega
                          clear hpe hlong
                          go_wp2
                          go_ret2
                          exact ⟨by rw [HE.out, HP.out]; rfl, hb⟩
                        · rw [if_neg hlong] at hpe
                          have hl2 : (Q.length : Int) ≤ 128 := by omega
                          have hl3 : ¬ (128 : Int) < (Q.length : Int) := by omega
                          clear hlong
                          rcases nb with _ | _
                          · rw [if_pos rfl] at hpe
                            have HP := Lib.hid hpe
                            clear hpe
                            go_wp2_with fail
                            refine (hno _).mono ?_
                            rintro e w6 ⟨rfl, g6⟩
                            go_wp2
                            go_ret2
                            exact ⟨by rw [HE.out, HP.out]; rfl, hb.trans (g6.mono hb.size)⟩
                          · rw [if_neg (by simp)] at hpe
                            have HP := Lib.hid hpe
                            clear hpe
                            go_wp2_with fail
                            refine (hno _).mono ?_
                            rintro e w6 ⟨rfl, g6⟩
                            go_wp2
                            go_ret2
                            exact ⟨by rw [HE.out, HP.out]; rfl, hb.trans (g6.mono hb.size)⟩
                · go_wp2
                  go_loopw [18, 16, 17] (fun i out n wr => OutI w1 l vals i out n wr) (fun i _ _ _ => l.length - (intOf i).toNat)
                  case atStart => exact ⟨0, rfl, Nat.zero_le _, rfl, rfl, hbl⟩
                  case round =>
                    clear hbl hb hsz2
                    obtain ⟨k, rfl, hk, rfl, rfl, hbl⟩ := hrel
                    obtain ⟨p0, p1, p2⟩ := box3 (hx1.below hbl)
                    have hplen := Route.psteps_len vals l k hk
                    have hb := hb1.trans (hbl.mono hb1.size)
                    have hmem := psteps_mem (vals := vals) (l := l) k hk
                    have hmono := psteps_mono (vals := vals) (l := l) (k := k + 1) l.length
                    rw [← HST.out] at hmono
                    dsimp only at hmono
                    have HQS := Lib.hid (show k = l.length → Route.psteps vals l k = (pP, vals.length, true) from fun q => by rw [q, ← HST.out])
                    obtain ⟨⟨qP, qn, qo⟩, hqs⟩ : ∃ s, s = Route.psteps vals l k := ⟨_, rfl⟩
                    have hbody : (Dots.body qP).length ≤ 16 * 100001 := by
                      rw [← hqs] at hmem hplen
                      exact Nat.le_trans (body_le (M := 100000) qP (fun s hs => by rcases hmem s hs with h1 | h1; exact h.short s h1; have := hbd.2.1 s h1; omega)) (Nat.mul_le_mul_right _ (by have := hplen.1; dsimp only at this; omega))
                    clear hmem
                    rw [← hqs] at hplen ⊢
                    dsimp only at hplen ⊢
                    obtain ⟨B, hB⟩ : ∃ B, B = Dots.body qP := ⟨_, rfl⟩
                    rw [← hB] at hbody ⊢
                    have HB := Lib.hid hB
                    clear hB
                    have hcA : (⟨B.toArray⟩ ++ ⟨#[47]⟩ : ByteArray) = ⟨(B ++ [47]).toArray⟩ := bs_add B [47]
                    have hc1 : ¬ 9223372036854775807 < B.length + 1 := by omega
                    by_cases hlt : k < l.length
                    · have hmono := hmono (by omega) (Nat.le_refl _)
                      have hst2 : Route.psteps vals l (k + 1) = Route.pstep vals (qP, qn, qo) (Route.nth l k) := by rw [hqs]; exact Route.psteps_succ hlt
                      have HS := Lib.hid hst2
                      obtain ⟨kad, rfl, hkcell⟩ := hkat hbl hlt
                      obtain ⟨ad, rfl, hbb, hls, hcell, hsl⟩ := (h.below hb).get hlt
                      obtain ⟨q, hq⟩ : ∃ q, Route.kind (Route.nth l k) = q := ⟨_, rfl⟩
                      have hqc := Route.kind_cases (Route.nth l k)
                      rw [hq] at hqc hkcell
                      have HQ := Lib.hid hq
                      have i0' : (0 : Int) ≤ (k : Int) := by omega
                      have i1 : (k : Int) < (l.length : Int) := by omega
                      clear hqs hst2 hq hls
                      rcases hqc with rfl | rfl | rfl
                      · have hcB : (⟨(B ++ [47]).toArray⟩ ++ ⟨(Route.nth l k).toArray⟩ : ByteArray) = ⟨(B ++ 47 :: Route.nth l k).toArray⟩ := (bs_add (B ++ [47]) (Route.nth l k)).trans (by simp)
                        have hc2 : ¬ 9223372036854775807 < B.length + 1 + (Route.nth l k).length := by omega
                        go_wp2
                        refine ⟨⟨k + 1, by go_num, by omega, ?_, ?_, hbl⟩, by simp [intOf]; omega⟩
                        all_goals rw [HS.out]; unfold Route.pstep; rw [if_pos HQ.out]
                        rw [body_snoc, HB.out]
                      · have hst3 : (Route.pstep vals (qP, qn, qo) (Route.nth l k)) = (if qn < vals.length then qP ++ [Route.nth vals qn] else qP, qn + 1, qo) := by unfold Route.pstep; rw [if_neg (by rw [HQ.out]; decide), if_pos HQ.out]
                        have hnv : qn < vals.length := by rw [HS.out, hst3] at hmono; dsimp only at hmono; omega
                        rw [if_pos hnv] at hst3
                        have HS3 := Lib.hid hst3
                        obtain ⟨vad, vs, rfl, _, hvls, hvcell⟩ := (Strs.below hV hb).get hnv
                        obtain rfl := Route.nth_get hvls
                        have hvs := hbd.2.1 _ (List.mem_of_getElem? hvls)
                        have hnv' : (qn : Int) < (vals.length : Int) := by omega
                        have i2 : (0 : Int) ≤ (qn : Int) := by omega
                        have hcB : (⟨(B ++ [47]).toArray⟩ ++ ⟨(Route.nth vals qn).toArray⟩ : ByteArray) = ⟨(B ++ 47 :: Route.nth vals qn).toArray⟩ := (bs_add (B ++ [47]) (Route.nth vals qn)).trans (by simp)
                        have hc2 : ¬ 9223372036854775807 < B.length + 1 + (Route.nth vals qn).length := by omega
                        clear hst3 hvls hmono
                        go_wp2
                        refine ⟨⟨k + 1, by go_num, by omega, ?_, ?_, hbl⟩, by simp [intOf]; omega⟩
                        all_goals rw [HS.out, HS3.out]
                        · rw [body_snoc, HB.out]
                        · go_num
                      · clear hmono
                        go_wp2
                        refine ⟨⟨k + 1, by go_num, by omega, ?_, ?_, hbl⟩, by simp [intOf]; omega⟩
                        all_goals rw [HS.out]; unfold Route.pstep; rw [if_neg (by rw [HQ.out]; decide), if_neg (by rw [HQ.out]; decide)]
                        rw [HB.out]
                    · have hkl2 : k = l.length := by omega
                      have hq2 := HQS.out hkl2
                      rw [← hqs] at hq2
                      injection hq2 with hq2 hq3
                      subst hq2
                      have hge : (l.length : Int) ≤ (k : Int) := by omega
                      have hge' : ¬ (k : Int) < (l.length : Int) := by omega
                      clear hmono hqs hq3 HQS
                      by_cases hB0 : B = []
                      · have HE := Lib.hid (show R = Route.pathEnd [47] by rw [HRR.out]; congr 1; unfold Dots.built; rw [← HB.out, hB0]; rfl)
                        subst hB0
                        obtain ⟨Q, hQ⟩ : ∃ Q, Q = ([47] : List UInt8) := ⟨_, rfl⟩
                        have hQ1 : (⟨#[47]⟩ : ByteArray) = ⟨Q.toArray⟩ := by rw [hQ]
                        rw [← hQ] at HE
                        have hQn : Dots.normal Q = true := by rw [hQ]; decide
                        have hQl : Q.length = 1 := by rw [hQ]; rfl
                        have hno := fun W => refNormal_any ⟨#[47]⟩ W
                        rw [show (⟨#[47]⟩ : ByteArray).data.toList = [47] from rfl, show Dots.normal [47] = true by decide] at hno
                        have HP := Lib.hid (show Route.pathEnd Q = (Q, 0) by unfold Route.pathEnd; rw [if_neg (by omega), if_neg (by rw [hQn]; simp)])
                        have HQ := Lib.hid hQ
                        clear hQ hQ1 hQn hQl
                        go_wp2_with fail
                        refine (hno _).mono ?_
                        rintro e w6 ⟨rfl, g6⟩
                        go_wp2
                        go_ret2
                        exact ⟨by rw [HE.out, HP.out, HQ.out]; rfl, hb.trans (g6.mono hb.size)⟩
                      · have hB1 : (B == []) = false := by simpa using hB0
                        obtain ⟨Q, hQ⟩ : ∃ Q, Q = B := ⟨_, rfl⟩
                        have HE := Lib.hid (show R = Route.pathEnd Q by rw [HRR.out, hQ]; congr 1; unfold Dots.built; rw [← HB.out, hB1]; rfl)
                        subst hQ
                        clear hB0
                        have hpe : Route.pathEnd Q = if 128 < Q.length then ([], 4) else if Dots.normal Q = false then ([], 18) else (Q, 0) := rfl
                        have hno := fun W => refNormal_any (bs Q) W
                        rw [data_bs] at hno
                        obtain ⟨nb, hnb⟩ : ∃ b, Dots.normal Q = b := ⟨_, rfl⟩
                        rw [hnb] at hno hpe
                        clear hnb
                        by_cases hlong : 128 < Q.length
                        · rw [if_pos hlong] at hpe
                          have HP := Lib.hid hpe
                          have hl2 : (128 : Int) < (Q.length : Int) := by omega
                          clear hpe hlong
                          go_wp2
                          go_ret2
                          exact ⟨by rw [HE.out, HP.out]; rfl, hb⟩
                        · rw [if_neg hlong] at hpe
                          have hl2 : (Q.length : Int) ≤ 128 := by omega
                          have hl3 : ¬ (128 : Int) < (Q.length : Int) := by omega
                          clear hlong
                          rcases nb with _ | _
                          · rw [if_pos rfl] at hpe
                            have HP := Lib.hid hpe
                            clear hpe
                            go_wp2_with fail
                            refine (hno _).mono ?_
                            rintro e w6 ⟨rfl, g6⟩
                            go_wp2
                            go_ret2
                            exact ⟨by rw [HE.out, HP.out]; rfl, hb.trans (g6.mono hb.size)⟩
                          · rw [if_neg (by simp)] at hpe
                            have HP := Lib.hid hpe
                            clear hpe
                            go_wp2_with fail
                            refine (hno _).mono ?_
                            rintro e w6 ⟨rfl, g6⟩
                            go_wp2
                            go_ret2
                            exact ⟨by rw [HE.out, HP.out]; rfl, hb.trans (g6.mono hb.size)⟩
              · have ht1 : (tl.toList == []) = false := by rw [toList_data]; simpa using ht0
                have ht2 : (tl.toList != []) = true := by rw [bne, ht1]; rfl
                rcases po with _ | _
                · have Hx := Lib.hid (show R = ([], 3) by rw [hRR, if_pos ⟨ht0, rfl⟩])
                  clear hRR ht0
                  go_wp2
                  go_ret2
                  exact ⟨by rw [Hx.out]; rfl, hb⟩
                · rw [if_neg (by simp), if_neg ht0] at hRR
                  have HRR := Lib.hid hRR
                  clear hRR ht0
                  go_wp2
                  go_loopw [18, 16, 17] (fun i out n wr => OutI w1 l vals i out n wr) (fun i _ _ _ => l.length - (intOf i).toNat)
                  case atStart => exact ⟨0, rfl, Nat.zero_le _, rfl, rfl, hbl⟩
                  case round =>
                    clear hbl hb hsz2
                    obtain ⟨k, rfl, hk, rfl, rfl, hbl⟩ := hrel
                    obtain ⟨p0, p1, p2⟩ := box3 (hx1.below hbl)
                    have hplen := Route.psteps_len vals l k hk
                    have hb := hb1.trans (hbl.mono hb1.size)
                    have hmem := psteps_mem (vals := vals) (l := l) k hk
                    have hmono := psteps_mono (vals := vals) (l := l) (k := k + 1) l.length
                    rw [← HST.out] at hmono
                    dsimp only at hmono
                    have HQS := Lib.hid (show k = l.length → Route.psteps vals l k = (pP, vals.length, true) from fun q => by rw [q, ← HST.out])
                    obtain ⟨⟨qP, qn, qo⟩, hqs⟩ : ∃ s, s = Route.psteps vals l k := ⟨_, rfl⟩
                    have hbody : (Dots.body qP).length ≤ 16 * 100001 := by
                      rw [← hqs] at hmem hplen
                      exact Nat.le_trans (body_le (M := 100000) qP (fun s hs => by rcases hmem s hs with h1 | h1; exact h.short s h1; have := hbd.2.1 s h1; omega)) (Nat.mul_le_mul_right _ (by have := hplen.1; dsimp only at this; omega))
                    clear hmem
                    rw [← hqs] at hplen ⊢
                    dsimp only at hplen ⊢
                    obtain ⟨B, hB⟩ : ∃ B, B = Dots.body qP := ⟨_, rfl⟩
                    rw [← hB] at hbody ⊢
                    have HB := Lib.hid hB
                    clear hB
                    have hcA : (⟨B.toArray⟩ ++ ⟨#[47]⟩ : ByteArray) = ⟨(B ++ [47]).toArray⟩ := bs_add B [47]
                    have hc1 : ¬ 9223372036854775807 < B.length + 1 := by omega
                    by_cases hlt : k < l.length
                    · have hmono := hmono (by omega) (Nat.le_refl _)
                      have hst2 : Route.psteps vals l (k + 1) = Route.pstep vals (qP, qn, qo) (Route.nth l k) := by rw [hqs]; exact Route.psteps_succ hlt
                      have HS := Lib.hid hst2
                      obtain ⟨kad, rfl, hkcell⟩ := hkat hbl hlt
                      obtain ⟨ad, rfl, hbb, hls, hcell, hsl⟩ := (h.below hb).get hlt
                      obtain ⟨q, hq⟩ : ∃ q, Route.kind (Route.nth l k) = q := ⟨_, rfl⟩
                      have hqc := Route.kind_cases (Route.nth l k)
                      rw [hq] at hqc hkcell
                      have HQ := Lib.hid hq
                      have i0' : (0 : Int) ≤ (k : Int) := by omega
                      have i1 : (k : Int) < (l.length : Int) := by omega
                      clear hqs hst2 hq hls
                      rcases hqc with rfl | rfl | rfl
                      · have hcB : (⟨(B ++ [47]).toArray⟩ ++ ⟨(Route.nth l k).toArray⟩ : ByteArray) = ⟨(B ++ 47 :: Route.nth l k).toArray⟩ := (bs_add (B ++ [47]) (Route.nth l k)).trans (by simp)
                        have hc2 : ¬ 9223372036854775807 < B.length + 1 + (Route.nth l k).length := by omega
                        go_wp2
                        refine ⟨⟨k + 1, by go_num, by omega, ?_, ?_, hbl⟩, by simp [intOf]; omega⟩
                        all_goals rw [HS.out]; unfold Route.pstep; rw [if_pos HQ.out]
                        rw [body_snoc, HB.out]
                      · have hst3 : (Route.pstep vals (qP, qn, qo) (Route.nth l k)) = (if qn < vals.length then qP ++ [Route.nth vals qn] else qP, qn + 1, qo) := by unfold Route.pstep; rw [if_neg (by rw [HQ.out]; decide), if_pos HQ.out]
                        have hnv : qn < vals.length := by rw [HS.out, hst3] at hmono; dsimp only at hmono; omega
                        rw [if_pos hnv] at hst3
                        have HS3 := Lib.hid hst3
                        obtain ⟨vad, vs, rfl, _, hvls, hvcell⟩ := (Strs.below hV hb).get hnv
                        obtain rfl := Route.nth_get hvls
                        have hvs := hbd.2.1 _ (List.mem_of_getElem? hvls)
                        have hnv' : (qn : Int) < (vals.length : Int) := by omega
                        have i2 : (0 : Int) ≤ (qn : Int) := by omega
                        have hcB : (⟨(B ++ [47]).toArray⟩ ++ ⟨(Route.nth vals qn).toArray⟩ : ByteArray) = ⟨(B ++ 47 :: Route.nth vals qn).toArray⟩ := (bs_add (B ++ [47]) (Route.nth vals qn)).trans (by simp)
                        have hc2 : ¬ 9223372036854775807 < B.length + 1 + (Route.nth vals qn).length := by omega
                        clear hst3 hvls hmono
                        go_wp2
                        refine ⟨⟨k + 1, by go_num, by omega, ?_, ?_, hbl⟩, by simp [intOf]; omega⟩
                        all_goals rw [HS.out, HS3.out]
                        · rw [body_snoc, HB.out]
                        · go_num
                      · clear hmono
                        go_wp2
                        refine ⟨⟨k + 1, by go_num, by omega, ?_, ?_, hbl⟩, by simp [intOf]; omega⟩
                        all_goals rw [HS.out]; unfold Route.pstep; rw [if_neg (by rw [HQ.out]; decide), if_neg (by rw [HQ.out]; decide)]
                        rw [HB.out]
                    · have hkl2 : k = l.length := by omega
                      have hq2 := HQS.out hkl2
                      rw [← hqs] at hq2
                      injection hq2 with hq2 hq3
                      subst hq2
                      have hge : (l.length : Int) ≤ (k : Int) := by omega
                      have hge' : ¬ (k : Int) < (l.length : Int) := by omega
                      clear hmono hqs hq3 HQS
                      have hcB : (⟨(B ++ [47]).toArray⟩ ++ tl : ByteArray) = ⟨(B ++ 47 :: tl.data.toList).toArray⟩ := by
                        have := bs_add (B ++ [47]) tl.data.toList
                        rw [show bs tl.data.toList = tl from by unfold bs; congr 1] at this
                        exact this.trans (by rw [List.append_assoc]; rfl)
                      have htlen := hbd.2.2
                      rw [← size_data] at htlen
                      have hc2 : ¬ 9223372036854775807 < B.length + 1 + tl.size := by omega
                      obtain ⟨Q, hQ⟩ : ∃ Q, Q = B ++ 47 :: tl.data.toList := ⟨_, rfl⟩
                      rw [← hQ] at hcB
                      have HE := Lib.hid (show R = Route.pathEnd Q by rw [HRR.out, hQ]; congr 1; unfold Dots.built; rw [body_snoc, ← HB.out]; simp)
                      have hQ1 : (Q == []) = false := by rw [hQ]; simp
                      clear hQ
                      have hpe : Route.pathEnd Q = if 128 < Q.length then ([], 4) else if Dots.normal Q = false then ([], 18) else (Q, 0) := rfl
                      have hno := fun W => refNormal_any (bs Q) W
                      rw [data_bs] at hno
                      obtain ⟨nb, hnb⟩ : ∃ b, Dots.normal Q = b := ⟨_, rfl⟩
                      rw [hnb] at hno hpe
                      clear hnb
                      by_cases hlong : 128 < Q.length
                      · rw [if_pos hlong] at hpe
                        have HP := Lib.hid hpe
                        have hl2 : (128 : Int) < (Q.length : Int) := by omega
                        clear hpe hlong
                        go_wp2
                        go_ret2
                        exact ⟨by rw [HE.out, HP.out]; rfl, hb⟩
                      · rw [if_neg hlong] at hpe
                        have hl2 : (Q.length : Int) ≤ 128 := by omega
                        have hl3 : ¬ (128 : Int) < (Q.length : Int) := by omega
                        clear hlong
                        rcases nb with _ | _
                        · rw [if_pos rfl] at hpe
                          have HP := Lib.hid hpe
                          clear hpe
                          go_wp2_with fail
                          refine (hno _).mono ?_
                          rintro e w6 ⟨rfl, g6⟩
                          go_wp2
                          go_ret2
                          exact ⟨by rw [HE.out, HP.out]; rfl, hb.trans (g6.mono hb.size)⟩
                        · rw [if_neg (by simp)] at hpe
                          have HP := Lib.hid hpe
                          clear hpe
                          go_wp2_with fail
                          refine (hno _).mono ?_
                          rintro e w6 ⟨rfl, g6⟩
                          go_wp2
                          go_ret2
                          exact ⟨by rw [HE.out, HP.out]; rfl, hb.trans (g6.mono hb.size)⟩
        · have hnv' : ((pn : Int) != (vals.length : Int)) = true := by rw [bne_iff_ne]; omega
          rw [if_pos hnv] at hRR
          have Hx := Lib.hid hRR
          clear hRR hnv hst
          go_wp2
          go_ret2
          exact ⟨by rw [Hx.out]; rfl, hb⟩
  · have h0c : (e1 != 0) = true := by simpa using h0
    have Hx := Lib.hid (show R = ([], e1) by rw [← hR]; unfold Route.pathR; rw [if_pos h0])
    have hk0 := hkn _ hb0
    unfold KindsPost at hk0
    have hks : Route.kindsR e1 l = [] := by unfold Route.kindsR; rw [if_neg h0]
    rw [hks] at hk0
    clear hkn h16 h0 hR hks
    go_enter Tryz.func15, Tryz.ntmps15
    go_wp2_with fail
    refine hk0.mono ?_
    rintro e w1 ⟨ka, kc, rfl, hKI, hkc, hkcm, g1⟩
    go_wp2
    go_ret2
    exact ⟨by rw [Hx.out]; rfl, hb0.trans (g1.mono hb0.size)⟩
end Go.Proofs.YtefilalapkdegaaGreat
