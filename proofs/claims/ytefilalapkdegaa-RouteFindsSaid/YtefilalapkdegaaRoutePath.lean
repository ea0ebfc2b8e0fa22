/- Path: the path of values, by the program. -/
import Derived.Test.YtefilalapkdegaaRouteKinds
import Derived.Test.YtefilalapkdegaaJoinAt
import Derived.Test.YtefilalapkdegaaTwo
import Derived.Test.YtefilalapkdegaaNames
namespace Go.Proofs.Ytefilalapkdegaa
open Go.RowKit Str Mem
set_option linter.unusedVariables false
set_option linter.unusedSimpArgs false

theorem join_own {w : World} {base : Nat} {e : TypeId} {v : Value} {n : Nat} {P : List (List UInt8)} (h : Owns w base e 1 v n (P.map sv)) (hb : (Dots.body P).length ≤ 10000000000) :
    Calls Try.prog 41 #[v, .string ⟨#[47]⟩] w fun e w' => e = .returned (.string ⟨(Dots.glue P).toArray⟩) ∧ Below w.heap.size w w' := by
  have hl : P.length = n := by have := h.1; simpa using this
  subst hl
  rcases Nat.eq_zero_or_pos P.length with h0 | h0
  · have hP : P = [] := List.eq_nil_of_length_eq_zero h0
    subst hP
    obtain ⟨a, c, rfl, _⟩ := h.form
    refine (sh_strings_Join_none a c ⟨#[47]⟩ w).mono ?_
    rintro e w' ⟨rfl, rfl⟩
    exact ⟨rfl, Below.refl _ _⟩
  · obtain ⟨g, cap, rfl⟩ : ∃ g cap, v = .slice (some ⟨g, 0, none⟩) P.length cap := by
      rcases h.2 with ⟨_, h1⟩ | ⟨g, cap, cur, hv, _⟩
      · omega
      · exact ⟨g, cap, hv⟩
    obtain ⟨a', c', e', h2, h3, h4⟩ := h.form
    cases e'
    exact join_at (k := 0) h4 h0 h2 hb

theorem join_root_err (s : List UInt8) : ((Dots.join [47] s).2 = 3) ↔ Dots.name s = false := by
  have hd : Dots.directory [47] = true := by decide
  rcases hn : Dots.name s with _ | _
  · rw [join_err (by rw [hd, hn]; rfl)]; simp
  · rw [join_ok (by rw [hd, hn]; rfl)]
    simp [Dots.limited]
    split <;> simp

def bounded (vals : List (List UInt8)) (tl : List UInt8) : Prop := vals.length ≤ 100 ∧ (∀ s ∈ vals, s.length ≤ 1000) ∧ tl.length ≤ 1000
theorem body_le {M : Nat} : ∀ (l : List (List UInt8)), (∀ s ∈ l, s.length ≤ M) → (Dots.body l).length ≤ l.length * (M + 1)
  | [], _ => by simp [Dots.body]
  | x :: r, h => by
    rw [Dots.body_cons]
    have h1 := h x (by simp)
    have h2 := body_le r fun s hs => h s (by simp [hs])
    simp only [List.length_cons, List.length_append, Nat.succ_mul]
    omega
theorem psteps_mem {vals l : List (List UInt8)} : ∀ k, k ≤ l.length → ∀ s ∈ (Route.psteps vals l k).1, s ∈ l ∨ s ∈ vals
  | 0, _, s, h => by simp [Route.psteps] at h
  | k + 1, hk, s, h => by
    have ih := psteps_mem (vals := vals) (l := l) k (by omega)
    rw [Route.psteps_succ (by omega)] at h
    unfold Route.pstep at h
    split at h
    · rcases List.mem_append.1 h with h | h
      · exact ih s h
      · simp at h
        subst h
        exact .inl (List.mem_of_getElem? (Route.nth_some (by omega)))
    · split at h
      · split at h
        · rename_i hn
          rcases List.mem_append.1 h with h | h
          · exact ih s h
          · simp at h
            subst h
            exact .inr (List.mem_of_getElem? (Route.nth_some hn))
        · exact ih s h
      · exact ih s h

theorem built_false_glue (k : List (List UInt8)) : Dots.built k false = 47 :: Dots.glue k := by
  rw [Dots.built_glue]
  rcases k with _ | ⟨x, r⟩
  · rfl
  · simp
def NamI (w1 : World) (vals pP : List (List UInt8)) (vP : Value) (i : Value) (wr : World) : Prop :=
  ∃ k : Nat, i = .int .i64 k ∧ k ≤ vals.length ∧ (∀ j, j < k → Dots.name (Route.nth vals j) = true) ∧ Owns wr w1.heap.size 9 1 vP pP.length (pP.map sv) ∧ Below w1.heap.size w1 wr
theorem allNames_bad {vals : List (List UInt8)} {k : Nat} (hk : k < vals.length) (h : Dots.name (Route.nth vals k) = false) : Route.allNames vals = false := by
  unfold Route.allNames; rw [List.all_eq_false]; exact ⟨_, List.mem_of_getElem? (Route.nth_some hk), by rw [h]; simp⟩
theorem allNames_good {vals : List (List UInt8)} (h : ∀ j, j < vals.length → Dots.name (Route.nth vals j) = true) : Route.allNames vals = true := by
  unfold Route.allNames
  rw [List.all_eq_true]
  intro s hs
  obtain ⟨j, hj, e⟩ := List.mem_iff_getElem.1 hs
  rw [← e, ← Route.nth_get (List.getElem?_eq_getElem hj)]
  exact h j hj
/-- The last steps of Path: what is written, and whether it is a path. -/
def PathPost (w : World) (P : List UInt8) (e : Ending) (w' : World) : Prop := e = .returned (.tuple #[.string (bs (Route.pathEnd P).1), .int .i64 (Route.pathEnd P).2]) ∧ Below w.heap.size w w'
def PthI (w1 : World) (l vals : List (List UInt8)) (i vP n op : Value) (wr : World) : Prop :=
  ∃ k : Nat, i = .int .i64 k ∧ k ≤ l.length ∧ Owns wr w1.heap.size 9 1 vP (Route.psteps vals l k).1.length ((Route.psteps vals l k).1.map sv) ∧ n = .int .i64 (Route.psteps vals l k).2.1 ∧ op = .bool (Route.psteps vals l k).2.2 ∧ Below w1.heap.size w1 wr

set_option maxRecDepth 20000 in
set_option maxHeartbeats 8000000 in
theorem vPath_any (a a2 : Option Addr) (c c2 : Nat) (l vals : List (List UInt8)) (kd : Int) (t : List UInt8) (tl : ByteArray) (w : World) (h : RtOk w a l.length c l t) (hV : Strs w a2 vals.length vals) (hbd : bounded vals tl.data.toList) :
    Calls Try.prog 13 #[rtv a l.length c kd t, .slice a2 vals.length c2, .string tl] w fun e w' => e = .returned (.tuple #[.string (bs (Route.pathR (Route.err l kd t) l vals tl.data.toList).1), .int .i64 (Route.pathR (Route.err l kd t) l vals tl.data.toList).2]) ∧ Below w.heap.size w w' := by
  obtain ⟨ti, hi, hz0, hz1, hz2⟩ := info_of infoTxt
  have hkn := fun w' (hb : Below w.heap.size w w') => kinds_any a c l kd t w' (h.below hb)
  have h16 := fun he => (Route.err_ok (l := l) (kd := kd) (t := t) he).1
  obtain ⟨e1, he1⟩ : ∃ e, Route.err l kd t = e := ⟨_, rfl⟩
  obtain ⟨R, hR⟩ : ∃ R, Route.pathR e1 l vals tl.data.toList = R := ⟨_, rfl⟩
  rw [he1] at hkn h16 ⊢
  rw [hR]
  clear he1
  unfold rtv at hkn ⊢
  have hb0 : Below w.heap.size w (w.alloc (.cells #[.slice a l.length c, .int .i64 kd, .string ⟨t.toArray⟩] 35)) := (Below.refl _ w).alloc (Nat.le_refl _) _
  have hx0 := box3_new w 35 (.slice a l.length c) (.int .i64 kd) (.string ⟨t.toArray⟩)
  obtain ⟨p0, p1, p2⟩ := box3 hx0
  by_cases h0 : e1 = 0
  · have hk0 := hkn _ hb0
    have hl16 := h16 h0
    have HR := Lib.hid hR
    have h0c : (e1 != 0) = false := by rw [h0]; rfl
    have H0 := Lib.hid h0
    unfold KindsPost at hk0
    have hks : Route.kindsR e1 l = Route.kindsOf l := by unfold Route.kindsR; rw [if_pos h0]
    rw [hks] at hk0
    have hkl := Route.kindsOf_length l
    clear hkn h16 h0 hR hks
    go_enter Try.func13, Try.ntmps13
    go_wp2_with fail
    refine hk0.mono ?_
    rintro e w1 ⟨ka, kc, rfl, hKI, hkc, hkcm, g1⟩
    have hb1 := hb0.trans (g1.mono hb0.size)
    have hx1 := hx0.below g1
    have hsz1 := g1.size
    obtain ⟨p0, p1, p2⟩ := box3 hx1
    rw [hkl] at hKI hkc ⊢
    clear hk0
    go_wp2
    go_loopw [30, 10, 11, 12, 13, 14] (fun i vP n op _ _ wr => PthI w1 l vals i vP n op wr) (fun i _ _ _ _ _ _ => l.length - (intOf i).toNat)
    case atStart => exact ⟨0, rfl, Nat.zero_le _, Owns.nil _ _ _ _, rfl, rfl, Below.refl _ _⟩
    case round =>
      clear p0 p1 p2
      obtain ⟨k, rfl, hk, hown, rfl, rfl, hbl⟩ := hrel
      obtain ⟨p0, p1, p2⟩ := box3 (hx1.below hbl)
      have hplen := Route.psteps_len vals l k hk
      have hb := hb1.trans (hbl.mono hb1.size)
      have hsz2 := hbl.size
      obtain ⟨⟨pP, pn, po⟩, hst⟩ : ∃ s, s = Route.psteps vals l k := ⟨_, rfl⟩
      rw [← hst] at hown hplen ⊢
      dsimp only at hown hplen ⊢
      have hol : ∀ j, u10.ownBlock = some j → w1.heap.size ≤ j := fun j hj => (hown.lt j hj).1
      by_cases hlt : k < l.length
      · have hst2 : Route.psteps vals l (k + 1) = Route.pstep vals (pP, pn, po) (Route.nth l k) := by rw [hst]; exact Route.psteps_succ hlt
        have HS := Lib.hid hst2
        obtain ⟨kad, kv, rfl, _, hkls, hkcell⟩ := (hKI.below hbl).get (k := k) (by omega)
        obtain ⟨ad, rfl, hbb, hls, hcell, hsl⟩ := (h.below hb).get hlt
        have hkv : kv = (Route.kind (Route.nth l k) : Int) := by
          unfold Route.kindsOf at hkls
          rw [List.getElem?_map, hls] at hkls
          simpa using hkls.symm
        obtain ⟨q, hq⟩ : ∃ q, Route.kind (Route.nth l k) = q := ⟨_, rfl⟩
        have hqc := Route.kind_cases (Route.nth l k)
        rw [hq] at hqc hkv
        subst hkv
        have HQ := Lib.hid hq
        have i0' : (0 : Int) ≤ (k : Int) := by omega
        have i1 : (k : Int) < (l.length : Int) := by omega
        clear hst hst2 hkls hls hq
        rcases hqc with rfl | rfl | rfl
        · go_wp2_with (at_builtin; go_must (refine wpList_append_owns _ rfl _ _ 33 rfl w1.heap.size 9 ti (.string ⟨#[]⟩) 1 16 Try.underlying33 hi hz0 hz1 hz2 rfl (by decide) _ pP.length (pP.map sv) rfl (hown.alloc _) (some ⟨wr.heap.size, 0, none⟩) 1 1 [sv (Route.nth l k)] rfl (Rd.one _ _ _) (by simp [sv, Value.oneCell']) (by simp only [maxLen]; omega) (by omega) (by simp; omega) ?_); intro v' w3 hown' hgrow)
          refine ⟨⟨k + 1, by go_num, by omega, ?_, ?_, ?_, (hbl.alloc (by omega) _).grown hgrow (by simp; omega) hol⟩, by simp [intOf]; omega⟩
          all_goals rw [HS.out]; unfold Route.pstep; rw [if_pos HQ.out]
          rw [List.map_append, List.length_append]
          exact hown'
        · have hst3 : Route.pstep vals (pP, pn, po) (Route.nth l k) = (if pn < vals.length then pP ++ [Route.nth vals pn] else pP, pn + 1, po) := by unfold Route.pstep; rw [if_neg (by rw [HQ.out]; decide), if_pos HQ.out]
          have HS3 := Lib.hid hst3
          clear hst3
          by_cases hnv : pn < vals.length
          · have hnv' : (pn : Int) < (vals.length : Int) := by omega
            have i2 : (0 : Int) ≤ (pn : Int) := by omega
            obtain ⟨vad, vs, rfl, _, hvls, hvcell⟩ := (Strs.below hV hb).get hnv
            obtain rfl := Route.nth_get hvls
            clear hvls
            go_wp2_with (at_builtin; go_must (refine wpList_append_owns _ rfl _ _ 33 rfl w1.heap.size 9 ti (.string ⟨#[]⟩) 1 16 Try.underlying33 hi hz0 hz1 hz2 rfl (by decide) _ pP.length (pP.map sv) rfl (hown.alloc _) (some ⟨wr.heap.size, 0, none⟩) 1 1 [sv (Route.nth vals pn)] rfl (Rd.one _ _ _) (by simp [sv, Value.oneCell']) (by simp only [maxLen]; omega) (by omega) (by simp; omega) ?_); intro v' w3 hown' hgrow)
            refine ⟨⟨k + 1, by go_num, by omega, ?_, ?_, ?_, (hbl.alloc (by omega) _).grown hgrow (by simp; omega) hol⟩, by simp [intOf]; omega⟩
            all_goals rw [HS.out, HS3.out, if_pos hnv]
            · rw [List.map_append, List.length_append]
              exact hown'
            · go_num
          · have hnv' : (vals.length : Int) ≤ (pn : Int) := by omega
            have hnv2 : ¬ (pn : Int) < (vals.length : Int) := by omega
            go_wp2
            refine ⟨⟨k + 1, by go_num, by omega, ?_, ?_, ?_, hbl⟩, by simp [intOf]; omega⟩
            all_goals rw [HS.out, HS3.out, if_neg hnv]
            · exact hown
            · go_num
        · go_wp2
          refine ⟨⟨k + 1, by go_num, by omega, ?_, ?_, ?_, hbl⟩, by simp [intOf]; omega⟩
          all_goals rw [HS.out]; unfold Route.pstep; rw [if_neg (by rw [HQ.out]; decide), if_neg (by rw [HQ.out]; decide)]
          exact hown
      · obtain rfl : k = l.length := by omega
        have hpl : pP.length ≤ 16 := by omega
        have hmem := psteps_mem (vals := vals) (l := l) l.length (Nat.le_refl _)
        rw [← hst] at hmem
        have hbody : (Dots.body pP).length ≤ 16 * 100001 := Nat.le_trans (body_le (M := 100000) pP (fun s hs => by rcases hmem s hs with h1 | h1; exact h.short s h1; have := hbd.2.1 s h1; omega)) (Nat.mul_le_mul_right _ hpl)
        have hRR : R = if pn ≠ vals.length then ([], 6) else if Route.allNames vals = false then ([], 3) else if tl.data.toList ≠ [] ∧ po = false then ([], 3) else Route.pathEnd (Dots.built (pP ++ if tl.data.toList = [] then [] else [tl.data.toList]) false) := by
          rw [← HR.out]; unfold Route.pathR; rw [if_neg (by simp [H0.out]), ← hst]
        clear hst hmem HR
        by_cases hnv : pn = vals.length
        · subst hnv
          rw [if_neg (by simp)] at hRR
          have hvl := hbd.1
          go_wp2
          go_loopw [70, 16, 17, 18] (fun i _ _ _ wr => NamI w1 vals pP u10 i wr) (fun i _ _ _ _ => vals.length - (intOf i).toNat)
          case atStart => exact ⟨0, rfl, Nat.zero_le _, fun j hj => by omega, hown, hbl⟩
          case round =>
            clear hown hbl hb p0 p1 p2 hsz2 hol
            obtain ⟨k, rfl, hk, hall, hown, hbl⟩ := hrel
            have hb := hb1.trans (hbl.mono hb1.size)
            have hsz2 := hbl.size
            by_cases hlt : k < vals.length
            · obtain ⟨vad, vs, rfl, _, hvls, hvcell⟩ := (Strs.below hV hb).get hlt
              obtain rfl := Route.nth_get hvls
              have hvs := hbd.2.1 _ (List.mem_of_getElem? hvls)
              have hjn := fun W => join_any ⟨#[47]⟩ (bs (Route.nth vals k)) W (by decide) (by rw [size_bs]; omega)
              rw [data_bs, data_bs] at hjn
              have hje := join_root_err (Route.nth vals k)
              obtain ⟨jr, hjr⟩ : ∃ x, Dots.join [47] (Route.nth vals k) = x := ⟨_, rfl⟩
              rw [hjr] at hjn hje
              obtain ⟨nb, hnb⟩ : ∃ b, Dots.name (Route.nth vals k) = b := ⟨_, rfl⟩
              rw [hnb] at hje
              have HN := Lib.hid hnb
              have Hall := Lib.hid hall
              have i0' : (0 : Int) ≤ (k : Int) := by omega
              have i1 : (k : Int) < (vals.length : Int) := by omega
              clear hvls hjr hnb hall
              rcases nb with _ | _
              · have hj3 : (jr.2 == 3) = true := by rw [beq_iff_eq]; exact hje.2 rfl
                have Hx := Lib.hid (show R = ([], 3) by rw [hRR, if_pos (allNames_bad hlt HN.out)])
                clear hje hRR
                go_wp2_with fail
                refine (hjn _).mono ?_
                rintro e w4 ⟨rfl, g4⟩
                go_wp2
                go_ret2
                exact ⟨by rw [Hx.out]; rfl, hb.trans (g4.mono hb.size)⟩
              · have hj3 : (jr.2 == 3) = false := by rw [beq_eq_false_iff_ne]; intro q; have := hje.1 q; cases this
                clear hje
                go_wp2_with fail
                refine (hjn _).mono ?_
                rintro e w4 ⟨rfl, g4⟩
                go_wp2
                refine ⟨⟨k + 1, by go_num, by omega, fun j hj => ?_, hown.below g4 (Nat.le_refl _), hbl.trans (g4.mono hbl.size)⟩, by simp [intOf]; omega⟩
                rcases Nat.lt_or_ge j k with h2 | h2
                · exact Hall.out j h2
                · rw [show j = k by omega]; exact HN.out
            · obtain rfl : k = vals.length := by omega
              rw [if_neg (by rw [allNames_good hall]; simp)] at hRR
              clear hall
              have hbW := hb
              by_cases ht0 : tl.data.toList = []
              · have ht1 : (tl.toList == []) = true := by rw [toList_data, ht0]; rfl
                have ht2 : (tl.toList != []) = false := by rw [bne, ht1]; rfl

                have hjo := join_own hown (by omega)
                obtain ⟨G, hG⟩ : ∃ G, G = Dots.glue pP := ⟨_, rfl⟩
                have hGl : G.length ≤ 10000000 := by rw [hG]; have := glue_le pP; omega
                rw [← hG] at hjo
                have HE := Lib.hid (show R = Route.pathEnd (47 :: G) by rw [hRR, if_neg (by rintro ⟨q, _⟩; exact q ht0), if_pos ht0, List.append_nil, built_false_glue, ← hG])
                clear hG hRR
                have hpe : Route.pathEnd (47 :: G) = if 128 < (47 :: G).length then ([], 4) else if Dots.normal (47 :: G) = false then ([], 18) else (47 :: G, 0) := rfl
                have hcat : (⟨#[47]⟩ ++ ⟨G.toArray⟩ : ByteArray) = ⟨(47 :: G).toArray⟩ := bs_add [47] G
                have hc1 : ¬ 9223372036854775807 < 1 + G.length := by omega
                have hno := fun W => normal_any (bs (47 :: G)) W
                rw [data_bs] at hno
                obtain ⟨nb, hnb⟩ : ∃ b, Dots.normal (47 :: G) = b := ⟨_, rfl⟩
                rw [hnb] at hno hpe
                clear hnb
                by_cases hlong : 128 < (47 :: G).length
                · rw [if_pos hlong] at hpe
                  have HP := Lib.hid hpe
                  have hl1 : (128 : Int) < ((47 :: G).length : Int) := by omega
                  have hl2 : (128 : Int) < (G.length : Int) + 1 := by simp at hlong; omega
                  clear hpe hlong
                  go_wp2_with fail
                  refine hjo.mono ?_
                  rintro e w5 ⟨rfl, g5⟩
                  go_wp2
                  go_ret2
                  exact ⟨by rw [HE.out, HP.out]; rfl, hbW.trans (g5.mono hbW.size)⟩
                · rw [if_neg hlong] at hpe
                  have hl1 : ((47 :: G).length : Int) ≤ 128 := by omega
                  have hl2 : (G.length : Int) + 1 ≤ 128 := by simp at hlong; omega
                  have hl3 : ¬ (128 : Int) < (G.length : Int) + 1 := by omega
                  clear hlong
                  rcases nb with _ | _
                  · rw [if_pos rfl] at hpe
                    have HP := Lib.hid hpe
                    clear hpe
                    go_wp2_with fail
                    refine hjo.mono ?_
                    rintro e w5 ⟨rfl, g5⟩
                    have hb5 := hbW.trans (g5.mono hbW.size)
                    go_wp2_with fail
                    refine (hno _).mono ?_
                    rintro e w6 ⟨rfl, g6⟩
                    go_wp2
                    go_ret2
                    exact ⟨by rw [HE.out, HP.out]; rfl, hb5.trans (g6.mono hb5.size)⟩
                  · rw [if_neg (by simp)] at hpe
                    have HP := Lib.hid hpe
                    clear hpe
                    go_wp2_with fail
                    refine hjo.mono ?_
                    rintro e w5 ⟨rfl, g5⟩
                    have hb5 := hbW.trans (g5.mono hbW.size)
                    go_wp2_with fail
                    refine (hno _).mono ?_
                    rintro e w6 ⟨rfl, g6⟩
                    go_wp2
                    go_ret2
                    exact ⟨by rw [HE.out, HP.out]; rfl, hb5.trans (g6.mono hb5.size)⟩

              · have ht1 : (tl.toList == []) = false := by rw [toList_data]; simpa using ht0
                have ht2 : (tl.toList != []) = true := by rw [bne, ht1]; rfl
                rcases po with _ | _
                · have Hx := Lib.hid (show R = ([], 3) by rw [hRR, if_pos ⟨ht0, rfl⟩])
                  clear hRR
                  go_wp2
                  go_ret2
                  exact ⟨by rw [Hx.out]; rfl, hb⟩
                · rw [if_neg (by simp), if_neg ht0] at hRR
                  have HRR := Lib.hid hRR
                  clear hRR
                  go_wp2_with (first | (at_builtin; go_must (refine wpList_append_owns _ rfl _ _ 33 rfl w1.heap.size 9 ti (.string ⟨#[]⟩) 1 16 Try.underlying33 hi hz0 hz1 hz2 rfl (by decide) _ pP.length (pP.map sv) rfl (hown.alloc _) (some ⟨wr.heap.size, 0, none⟩) 1 1 [.string tl] rfl (Rd.one _ _ _) (by simp [Value.oneCell']) (by simp only [maxLen]; omega) (by omega) (by simp; omega) ?_); intro v' w3 hown' hgrow) | fail)
                  have htv : sv tl.data.toList = .string tl := by unfold sv; congr 1
                  have hown2 : Owns w3 w1.heap.size 9 1 v' (pP.length + 1) ((pP ++ [tl.data.toList]).map sv) := by rw [List.map_append, List.map_cons, List.map_nil, htv]; exact hown'
                  have hol := fun j (hj : u10.ownBlock = some j) => (hown.lt j hj).1
                  have hsb := hb.size
                  have hs1b := hb1.size
                  have hbW : Below w.heap.size w w3 := ((hb.alloc (by omega) _).grown hgrow (by simp; omega) (fun j hj => by have := hol j hj; omega))
                  have hjo := join_own hown2 (by rw [Dots.body_append, List.length_append, Dots.body_cons]; have := hbd.2.2; simp [Dots.body] at *; omega)
                  obtain ⟨G, hG⟩ : ∃ G, G = Dots.glue (pP ++ [tl.data.toList]) := ⟨_, rfl⟩
                  have hGl : G.length ≤ 10000000 := by
                    rw [hG]
                    have h1 := glue_le (pP ++ [tl.data.toList])
                    rw [Dots.body_append, List.length_append, Dots.body_cons] at h1
                    have := hbd.2.2
                    simp [Dots.body] at *
                    omega
                  rw [← hG] at hjo
                  have HE := Lib.hid (show R = Route.pathEnd (47 :: G) by rw [HRR.out, built_false_glue, ← hG])
                  clear hG
                  have hpe : Route.pathEnd (47 :: G) = if 128 < (47 :: G).length then ([], 4) else if Dots.normal (47 :: G) = false then ([], 18) else (47 :: G, 0) := rfl
                  have hcat : (⟨#[47]⟩ ++ ⟨G.toArray⟩ : ByteArray) = ⟨(47 :: G).toArray⟩ := bs_add [47] G
                  have hc1 : ¬ 9223372036854775807 < 1 + G.length := by omega
                  have hno := fun W => normal_any (bs (47 :: G)) W
                  rw [data_bs] at hno
                  obtain ⟨nb, hnb⟩ : ∃ b, Dots.normal (47 :: G) = b := ⟨_, rfl⟩
                  rw [hnb] at hno hpe
                  clear hnb
                  refine hjo.mono ?_
                  rintro e w5 ⟨rfl, g5⟩
                  have hb5 := hbW.trans (g5.mono hbW.size)
                  by_cases hlong : 128 < (47 :: G).length
                  · rw [if_pos hlong] at hpe
                    have HP := Lib.hid hpe
                    have hl2 : (128 : Int) < (G.length : Int) + 1 := by simp at hlong; omega
                    clear hpe hlong
                    go_wp2
                    go_ret2
                    exact ⟨by rw [HE.out, HP.out]; rfl, hb5⟩
                  · rw [if_neg hlong] at hpe
                    have hl2 : (G.length : Int) + 1 ≤ 128 := by simp at hlong; omega
                    have hl3 : ¬ (128 : Int) < (G.length : Int) + 1 := by omega
                    clear hlong
                    rcases nb with _ | _
                    · rw [if_pos rfl] at hpe
                      have HP := Lib.hid hpe
                      clear hpe
                      go_wp2_with fail
                      refine (hno _).mono ?_
                      rintro e w6 ⟨rfl, g6⟩
                      go_wp2
                      go_ret2
                      exact ⟨by rw [HE.out, HP.out]; rfl, hb5.trans (g6.mono hb5.size)⟩
                    · rw [if_neg (by simp)] at hpe
                      have HP := Lib.hid hpe
                      clear hpe
                      go_wp2_with fail
                      refine (hno _).mono ?_
                      rintro e w6 ⟨rfl, g6⟩
                      go_wp2
                      go_ret2
                      exact ⟨by rw [HE.out, HP.out]; rfl, hb5.trans (g6.mono hb5.size)⟩
        · have hnv' : ((pn : Int) != (vals.length : Int)) = true := by rw [bne_iff_ne]; omega
          rw [if_pos hnv] at hRR
          have Hx := Lib.hid hRR
          clear hRR hnv
          go_wp2
          go_ret2
          exact ⟨by rw [Hx.out]; rfl, hb⟩
  · have h0c : (e1 != 0) = true := by simpa using h0
    have Hx := Lib.hid (show R = ([], e1) by rw [← hR]; unfold Route.pathR; rw [if_pos h0])
    have hk0 := hkn _ hb0
    unfold KindsPost at hk0
    have hks : Route.kindsR e1 l = [] := by unfold Route.kindsR; rw [if_neg h0]
    rw [hks] at hk0
    clear hkn h16 h0 hR hks
    go_enter Try.func13, Try.ntmps13
    go_wp2_with fail
    refine hk0.mono ?_
    rintro e w1 ⟨ka, kc, rfl, hKI, hkc, hkcm, g1⟩
    go_wp2
    go_ret2
    exact ⟨by rw [Hx.out]; rfl, hb0.trans (g1.mono hb0.size)⟩
end Go.Proofs.Ytefilalapkdegaa
