/- TemplateExpands: expansions, errors. -/
import Derived.Test.YtllklgalghmnfaaDoorTplAwake
import Derived.Test.YtllklgalghmnfaaDoorTplTexts
import Derived.Test.YtllklgalghmnfaaDoorTplRefExpand
import Derived.Deep.Cut
import Derived.Deep.RegionWith
namespace Go.Proofs.YtllklgalghmnfaaDoor
open Go.RowKit Str Mem Tp
set_option linter.unusedVariables false
set_option linter.unusedSimpArgs false
theorem valueR_short (R C : List Tp.Bs) (x1 x2 x3 x4 : Tp.Bs) (hR : ∀ s ∈ R, s.length ≤ 60) (hC : ∀ s ∈ C, s.length ≤ 60) (h1 : x1.length ≤ 60) (h2 : x2.length ≤ 60) (h3 : x3.length ≤ 60) (h4 : x4.length ≤ 60) (p : Part) : (valueR R C x1 x2 x3 x4 p).length ≤ 60 := by
  have hg : ∀ (l : List Tp.Bs), (∀ s ∈ l, s.length ≤ 60) → ∀ n, (l.getD n []).length ≤ 60 := fun l hl n => by
    rw [List.getD_eq_getElem?_getD]
    cases h : l[n]? with
    | none => simp
    | some s => exact hl s (List.mem_of_getElem? h)
  unfold valueR
  split
  · split
    · exact h1
    · split
      · exact h2
      · split
        · exact h3
        · exact h4
  · split
    · exact hg C hC _
    · exact hg R hR _
def xAt (x1 x2 x3 x4 : Tp.Bs) (m : Nat) : Tp.Bs := if m = 0 then x1 else if m = 1 then x2 else if m = 2 then x3 else x4
structure ExF (w : World) (n0 : Nat) (a b e pa : Option Addr) (c d : Nat) (L : List Part) (R C : List Tp.Bs) (x1 x2 x3 x4 : Tp.Bs) (n9 : Nat) (W : World) (ra : Option Addr) (rc : Nat) (sa : Option Addr) (sc : Nat) : Prop where
  bl : Below w.heap.size w W
  r4 : Rw W n0 53 [.slice b R.length c, .slice e C.length d, .string (bs x1), .string (bs x2), .string (bs x3), .string (bs x4)]
  r9 : Rw W n9 53 [.slice ra R.length rc, .slice sa C.length sc, .string (bs x1), .string (bs x2), .string (bs x3), .string (bs x4)]
  tb : Strs W b R.length R
  te : Strs W e C.length C
  ta : Strs W ra R.length R
  ts : Strs W sa C.length C
  pl : Parts W a L.length L
  pp : Parts W pa L.length L
theorem cont_introE {F G : Nat → World → Option Addr → Nat → Option Addr → Nat → Prop} {R : Prop} (h1 : (∀ n W ra rc sa sc, F n W ra rc sa sc → G n W ra rc sa sc) → R) (h2 : ∀ n W ra rc sa sc, F n W ra rc sa sc → G n W ra rc sa sc) : R := h1 h2
def setV (W : World) (n : Nat) (v0 v1 v2 v3 v4 v5 : Value) : World := (((((W.setCell ⟨n, 0, none⟩ v0).setCell ⟨n, 1, none⟩ v1).setCell ⟨n, 2, none⟩ v2).setCell ⟨n, 3, none⟩ v3).setCell ⟨n, 4, none⟩ v4).setCell ⟨n, 5, none⟩ v5
section
variable {W w : World} {n g T : Nat} {v0 v1 v2 v3 v4 v5 : Value}
theorem setV_other (h : g ≠ n) : (setV W n v0 v1 v2 v3 v4 v5).heap[g]? = W.heap[g]? :=
  (Below.heap_setCell _ _ _ _ h).trans ((Below.heap_setCell _ _ _ _ h).trans ((Below.heap_setCell _ _ _ _ h).trans ((Below.heap_setCell _ _ _ _ h).trans ((Below.heap_setCell _ _ _ _ h).trans (Below.heap_setCell _ _ _ _ h)))))
theorem setV_size : (setV W n v0 v1 v2 v3 v4 v5).heap.size = W.heap.size := by unfold setV; simp [World.setCell]
theorem setV_below {B : Nat} (h : Below B w W) (hn : B ≤ n) : Below B w (setV W n v0 v1 v2 v3 v4 v5) :=
  (((((h.setCell (p := ⟨n, 0, none⟩) hn _).setCell (p := ⟨n, 1, none⟩) hn _).setCell (p := ⟨n, 2, none⟩) hn _).setCell (p := ⟨n, 3, none⟩) hn _).setCell (p := ⟨n, 4, none⟩) hn _).setCell (p := ⟨n, 5, none⟩) hn _
theorem setV_rw {u0 u1 u2 u3 u4 u5 : Value} (h : Rw W n T [u0, u1, u2, u3, u4, u5]) : Rw (setV W n v0 v1 v2 v3 v4 v5) n T [v0, v1, v2, v3, v4, v5] :=
  set_list (set_list (set_list (set_list (set_list (set_list h 0 v0) 1 v1) 2 v2) 3 v3) 4 v4) 5 v5
end
set_option maxRecDepth 100000 in
set_option maxHeartbeats 16000000 in
theorem lawTplExpands_any (a b e : Option Addr) (ca c d : Nat) (L : List Part) (R C : List Tp.Bs) (x1 x2 x3 x4 : Tp.Bs) (most : Int) (w : World) (hN : Nm w) (hP : Parts w a L.length L) (hc : L.length ≤ ca) (hcm : ca ≤ maxLen) (hR : Strs w b R.length R) (hC : Strs w e C.length C) :
    Calls Tryd.prog 6 #[.slice a L.length ca, valsV b R.length c e C.length d x1 x2 x3 x4, .int .i64 most] w fun e w' => e = .returned (.bool true) ∧ Below w.heap.size w w' := by
  have hb := (Below.refl _ w).alloc (Nat.le_refl _) (.cells #[.slice b R.length c, .slice e C.length d, .string (bs x1), .string (bs x2), .string (bs x3), .string (bs x4)] 53)
  have hrow : Rw _ _ 53 [.slice b R.length c, .slice e C.length d, .string (bs x1), .string (bs x2), .string (bs x3), .string (bs x4)] := Rw.new w 53 [.slice b R.length c, .slice e C.length d, .string (bs x1), .string (bs x2), .string (bs x3), .string (bs x4)]
  have hl1 := fun W hp => light_any a ca L W hp
  obtain ⟨A1, hA1⟩ : ∃ A, lightR L = A := ⟨_, rfl⟩
  rw [hA1] at hl1
  have HA1 := Lib.hid hA1
  have hP0 : Parts _ a L.length L := Rd.below hP hb
  have hR0 : Strs _ b R.length R := Rd.below hR hb
  have hC0 : Strs _ e C.length C := Rd.below hC hb
  have hN0 := hN.below hb hN.lt
  have hwz := hN.lt
  have HNW := Lib.hid hN
  clear hA1 hP hR hC hN
  have hv0 : valsV b R.length c e C.length d x1 x2 x3 x4 = .agg #[.slice b R.length c, .slice e C.length d, .string (bs x1), .string (bs x2), .string (bs x3), .string (bs x4)] := rfl
  rw [hv0]
  clear hv0
  have HB := Lib.hid hb
  have HROW := Lib.hid hrow
  have HP := Lib.hid hP0
  have HR := Lib.hid hR0
  have HC := Lib.hid hC0
  have HN := Lib.hid hN0
  clear hb hrow hP0 hR0 hC0 hN0
  go_enter Tryd.func6, Tryd.ntmps6
  go_upto_region 1 with fail
  obtain ⟨W0, hW0⟩ : ∃ W, W = w.alloc (.cells #[.slice b R.length c, .slice e C.length d, .string (bs x1), .string (bs x2), .string (bs x3), .string (bs x4)] 53) := ⟨_, rfl⟩
  rw [← hW0] at HB HROW HP HR HC HN ⊢
  clear hW0
  have haw := fun W h => awake25_any W h
  have q0 := HROW.out.c 0 _ rfl
  have q1 := HROW.out.c 1 _ rfl
  cases A1 with
  | false =>
    go_wp2_with fail
    refine (hl1 _ HP.out).mono ?_
    rintro e1 w1 ⟨rfl, rfl⟩
    go_wp2_with fail
    refine (haw _ HN.out).mono ?_
    rintro e2 w2 ⟨rfl, h2⟩
    go_wp2_with fail
    go_ret
    exact ⟨rfl, HB.out.trans (h2.mono HB.out.size)⟩
  | true =>
  by_cases hr20 : (20 : Int) < (R.length : Int)
  · go_wp2_with fail
    refine (hl1 _ HP.out).mono ?_
    rintro e1 w1 ⟨rfl, rfl⟩
    go_wp2_with fail
    refine (haw _ HN.out).mono ?_
    rintro e2 w2 ⟨rfl, h2⟩
    go_wp2_with fail
    go_ret
    exact ⟨rfl, HB.out.trans (h2.mono HB.out.size)⟩
  by_cases hc20 : (20 : Int) < (C.length : Int)
  · go_wp2_with fail
    refine (hl1 _ HP.out).mono ?_
    rintro e1 w1 ⟨rfl, rfl⟩
    go_wp2_with fail
    refine (haw _ HN.out).mono ?_
    rintro e2 w2 ⟨rfl, h2⟩
    go_wp2_with fail
    go_ret
    exact ⟨rfl, HB.out.trans (h2.mono HB.out.size)⟩
  go_wp2_with fail
  refine (hl1 _ HP.out).mono ?_
  rintro e1 w1 ⟨rfl, rfl⟩
  go_wp2_with fail
  go_loopg [7] 20 (fun g i W => W = w1 ∧ ∃ k : Nat, i = .int .i64 k ∧ k + g = 20 ∧ ∀ j, j < k → (∀ s, R[j]? = some s → s.length ≤ 60) ∧ (∀ s, C[j]? = some s → s.length ≤ 60) ∧ (xAt x1 x2 x3 x4 (j % 4)).length ≤ 60)
  case atStart => exact ⟨rfl, 0, rfl, rfl, fun j hj => by omega⟩
  case round =>
    obtain ⟨rfl, k, rfl, hk, hall⟩ := hrel
    have HALL := Lib.hid hall
    clear hall hl1
    by_cases hlt : k < 20
    · skip
      obtain ⟨g', rfl⟩ : ∃ g', gk = g' + 1 := ⟨gk - 1, by omega⟩
      have i0 : (0 : Int) ≤ (k : Int) := by omega
      obtain ⟨m, hm⟩ : ∃ m, k % 4 = m := ⟨_, rfl⟩
      have hm4 : m < 4 := by omega
      have e4 : (k : Int) % 4 = (m : Int) := by omega
      have m0 : (0 : Int) ≤ (m : Int) := by omega
      have m1 : (m : Int) < 4 := by omega
      have hxz : ((bs (xAt x1 x2 x3 x4 m)).size : Int) = ((xAt x1 x2 x3 x4 m).length : Int) := by rw [size_bs]
      have hvar : wr.cell? ⟨w.heap.size, 2 + m, none⟩ = some (.string (bs (xAt x1 x2 x3 x4 m))) := by
        rcases (by omega : m = 0 ∨ m = 1 ∨ m = 2 ∨ m = 3) with rfl | rfl | rfl | rfl
        · exact HROW.out.c 2 _ rfl
        · exact HROW.out.c 3 _ rfl
        · exact HROW.out.c 4 _ rfl
        · exact HROW.out.c 5 _ rfl
      have HM := Lib.hid hm
      obtain ⟨X, hX⟩ : ∃ X, bs (xAt x1 x2 x3 x4 m) = X := ⟨_, rfl⟩
      rw [hX] at hxz hvar
      have HXZ := Lib.hid hxz
      clear hm hxz hX
      have hRk : (∃ (ad : Addr) (S : ByteArray), b = some ad ∧ k < R.length ∧ wr.cell? (ad.add k) = some (.string S) ∧ ∀ s, R[k]? = some s → (s.length : Int) = (S.size : Int)) ∨ ¬ k < R.length := by
        by_cases h : k < R.length
        · obtain ⟨ad, s, he, _, hs, hcl⟩ := HR.out.get h
          exact .inl ⟨ad, bs s, he, h, hcl, fun s2 h2 => by rw [hs] at h2; injection h2 with h2; rw [← h2, size_bs]⟩
        · exact .inr h
      have hCk : (∃ (ad : Addr) (S : ByteArray), e = some ad ∧ k < C.length ∧ wr.cell? (ad.add k) = some (.string S) ∧ ∀ s, C[k]? = some s → (s.length : Int) = (S.size : Int)) ∨ ¬ k < C.length := by
        by_cases h : k < C.length
        · obtain ⟨ad, s, he, _, hs, hcl⟩ := HC.out.get h
          exact .inl ⟨ad, bs s, he, h, hcl, fun s2 h2 => by rw [hs] at h2; injection h2 with h2; rw [← h2, size_bs]⟩
        · exact .inr h
      rcases hRk with ⟨ad1, S1, rfl, hlt1, hcl1, hs1⟩ | hlt1
      · have j1 : (k : Int) < (R.length : Int) := by omega
        have HS1 := Lib.hid hs1
        clear hs1
        by_cases hy1 : (60 : Int) < (S1.size : Int)
        · go_wp2_with fail
          refine (haw _ HN.out).mono ?_
          rintro e2 w2 ⟨rfl, h2⟩
          go_wp2_with fail
          go_ret
          exact ⟨rfl, HB.out.trans (h2.mono HB.out.size)⟩
        · have HRK : Hid (∀ s, R[k]? = some s → s.length ≤ 60) := Lib.hid (fun s h => by have := HS1.out s h; omega)
          rcases hCk with ⟨ad2, S2, rfl, hlt2, hcl2, hs2⟩ | hlt2
          · have j2 : (k : Int) < (C.length : Int) := by omega
            have HS2 := Lib.hid hs2
            clear hs2
            by_cases hy2 : (60 : Int) < (S2.size : Int)
            · go_wp2_with fail
              refine (haw _ HN.out).mono ?_
              rintro e2 w2 ⟨rfl, h2⟩
              go_wp2_with fail
              go_ret
              exact ⟨rfl, HB.out.trans (h2.mono HB.out.size)⟩
            · have HCK : Hid (∀ s, C[k]? = some s → s.length ≤ 60) := Lib.hid (fun s h => by have := HS2.out s h; omega)
              by_cases hx : (60 : Int) < (X.size : Int)
              · go_wp2_with fail
                refine (haw _ HN.out).mono ?_
                rintro e2 w2 ⟨rfl, h2⟩
                go_wp2_with fail
                go_ret
                exact ⟨rfl, HB.out.trans (h2.mono HB.out.size)⟩
              · skip
                go_wp2_with fail
                go_roundg g'
                case measure => omega
                case rel =>
                  refine ⟨rfl, k + 1, by go_num, by omega, fun j hj => ?_⟩
                  by_cases hjk : j = k
                  · subst hjk
                    exact ⟨HRK.out, HCK.out, by rw [HM.out]; have := HXZ.out; omega⟩
                  · exact HALL.out j (by omega)
          · have j2 : ¬ (k : Int) < (C.length : Int) := by omega
            have HCK : Hid (∀ s, C[k]? = some s → s.length ≤ 60) := Lib.hid (fun s h => absurd (List.getElem?_eq_some_iff.1 h).1 hlt2)
            by_cases hx : (60 : Int) < (X.size : Int)
            · go_wp2_with fail
              refine (haw _ HN.out).mono ?_
              rintro e2 w2 ⟨rfl, h2⟩
              go_wp2_with fail
              go_ret
              exact ⟨rfl, HB.out.trans (h2.mono HB.out.size)⟩
            · skip
              go_wp2_with fail
              go_roundg g'
              case measure => omega
              case rel =>
                refine ⟨rfl, k + 1, by go_num, by omega, fun j hj => ?_⟩
                by_cases hjk : j = k
                · subst hjk
                  exact ⟨HRK.out, HCK.out, by rw [HM.out]; have := HXZ.out; omega⟩
                · exact HALL.out j (by omega)
      · have j1 : ¬ (k : Int) < (R.length : Int) := by omega
        have HRK : Hid (∀ s, R[k]? = some s → s.length ≤ 60) := Lib.hid (fun s h => absurd (List.getElem?_eq_some_iff.1 h).1 hlt1)
        rcases hCk with ⟨ad2, S2, rfl, hlt2, hcl2, hs2⟩ | hlt2
        · have j2 : (k : Int) < (C.length : Int) := by omega
          have HS2 := Lib.hid hs2
          clear hs2
          by_cases hy2 : (60 : Int) < (S2.size : Int)
          · go_wp2_with fail
            refine (haw _ HN.out).mono ?_
            rintro e2 w2 ⟨rfl, h2⟩
            go_wp2_with fail
            go_ret
            exact ⟨rfl, HB.out.trans (h2.mono HB.out.size)⟩
          · have HCK : Hid (∀ s, C[k]? = some s → s.length ≤ 60) := Lib.hid (fun s h => by have := HS2.out s h; omega)
            by_cases hx : (60 : Int) < (X.size : Int)
            · go_wp2_with fail
              refine (haw _ HN.out).mono ?_
              rintro e2 w2 ⟨rfl, h2⟩
              go_wp2_with fail
              go_ret
              exact ⟨rfl, HB.out.trans (h2.mono HB.out.size)⟩
            · skip
              go_wp2_with fail
              go_roundg g'
              case measure => omega
              case rel =>
                refine ⟨rfl, k + 1, by go_num, by omega, fun j hj => ?_⟩
                by_cases hjk : j = k
                · subst hjk
                  exact ⟨HRK.out, HCK.out, by rw [HM.out]; have := HXZ.out; omega⟩
                · exact HALL.out j (by omega)
        · have j2 : ¬ (k : Int) < (C.length : Int) := by omega
          have HCK : Hid (∀ s, C[k]? = some s → s.length ≤ 60) := Lib.hid (fun s h => absurd (List.getElem?_eq_some_iff.1 h).1 hlt2)
          by_cases hx : (60 : Int) < (X.size : Int)
          · go_wp2_with fail
            refine (haw _ HN.out).mono ?_
            rintro e2 w2 ⟨rfl, h2⟩
            go_wp2_with fail
            go_ret
            exact ⟨rfl, HB.out.trans (h2.mono HB.out.size)⟩
          · skip
            go_wp2_with fail
            go_roundg g'
            case measure => omega
            case rel =>
              refine ⟨rfl, k + 1, by go_num, by omega, fun j hj => ?_⟩
              by_cases hjk : j = k
              · subst hjk
                exact ⟨HRK.out, HCK.out, by rw [HM.out]; have := HXZ.out; omega⟩
              · exact HALL.out j (by omega)
    · obtain rfl : k = 20 := by omega
      have hRs : ∀ s ∈ R, s.length ≤ 60 := fun s hs => by
        obtain ⟨j, hj, e⟩ := List.getElem_of_mem hs
        exact (HALL.out j (by omega)).1 s (by rw [List.getElem?_eq_getElem hj, e])
      have hCs : ∀ s ∈ C, s.length ≤ 60 := fun s hs => by
        obtain ⟨j, hj, e⟩ := List.getElem_of_mem hs
        exact (HALL.out j (by omega)).2.1 s (by rw [List.getElem?_eq_getElem hj, e])
      have k1 : x1.length ≤ 60 := (HALL.out 0 (by omega)).2.2
      have k2 : x2.length ≤ 60 := (HALL.out 1 (by omega)).2.2
      have k3 : x3.length ≤ 60 := (HALL.out 2 (by omega)).2.2
      have k4 : x4.length ≤ 60 := (HALL.out 3 (by omega)).2.2
      obtain ⟨hLn, hLt⟩ := lightR_of HA1.out
      have hvs := valueR_short R C x1 x2 x3 x4 hRs hCs k1 k2 k3 k4
      have ex := fun a b e ca c d W h1 h2 h3 h4 h5 h6 => Expand_any most a b e ca c d L R C x1 x2 x3 x4 W h1 (by omega) h2 h3 (fun p hp => by have := hLt p hp; omega) h4 h5 h6 (fun p hp => by have := hvs p; omega)
      have rex := fun a b e ca c d W h1 h5 h6 => refExpand_any most a b e ca c d L R C x1 x2 x3 x4 W h1 (by omega) (fun p hp => by have := hLt p hp; omega) h5 h6 (fun p hp => by have := hvs p; omega)
      have en := fun a b e ca c d W h1 h2 h3 h4 h5 h6 => Encoded_any most a b e ca c d L R C x1 x2 x3 x4 W h1 (by omega) h2 h3 (fun p hp => by have := hLt p hp; omega) h4 h5 h6 (fun p hp => by have := hvs p; omega)
      have ren := fun a b e ca c d W h1 h5 h6 => refEncodedE_any most a b e ca c d L R C x1 x2 x3 x4 W h1 (by omega) (fun p hp => by have := hLt p hp; omega) h5 h6 (fun p hp => by have := hvs p; omega)
      obtain ⟨O, hO⟩ : ∃ O, expandR id R C x1 x2 x3 x4 most L = O := ⟨_, rfl⟩
      obtain ⟨O2, hO2⟩ : ∃ O, expandR (encS stayE) R C x1 x2 x3 x4 most L = O := ⟨_, rfl⟩
      rw [hO] at ex rex
      rw [hO2] at en ren
      have hv0 : ∀ b e c d, valsV b R.length c e C.length d x1 x2 x3 x4 = .agg #[.slice b R.length c, .slice e C.length d, .string (bs x1), .string (bs x2), .string (bs x3), .string (bs x4)] := fun _ _ _ _ => rfl
      simp only [hv0] at ex rex en ren
      have EX := Lib.hid ex
      have REX := Lib.hid rex
      have EN := Lib.hid en
      have REN := Lib.hid ren
      have hRn : R.length ≤ 1000 := by omega
      have hCn : C.length ≤ 1000 := by omega
      have hLn2 : L.length ≤ 1000 := by omega
      clear hO hO2 hRs hCs k1 k2 k3 k4 hLt hvs ex rex en ren hv0 HALL HA1 q0 q1
      go_wp2_with fail
      refine (own25_any a ca L _ HP.out hLn2 hc hcm).mono ?_
      rintro e3 w3 ⟨v3, rfl, hO3, h3⟩
      obtain ⟨pa, pc, rfl, hLp, hpm, hPp⟩ := OwnParts.form hO3
      have HB3 := Lib.hid (HB.out.trans (h3.mono HB.out.size))
      have HP3 := Lib.hid (show Parts w3 a L.length L from Rd.below HP.out h3)
      have HPP := Lib.hid hPp
      have HR3 := Lib.hid (show Strs w3 b R.length R from Rd.below HR.out h3)
      have HC3 := Lib.hid (show Strs w3 e C.length C from Rd.below HC.out h3)
      have HROW3 := Lib.hid (HROW.out.below h3)
      have HN3 := Lib.hid (HN.out.below h3 HN.out.lt)
      clear HB HP hPp HR HC HROW HN h3 hO3
      have n30 := HROW3.out.lt
      go_wp2_with fail
      refine cont_introE (F := ExF w w.heap.size a b e pa c d L R C x1 x2 x3 x4) (G := ?G) (fun cont => ?br) ?pf
      case br =>
        refine wp_region_noPanic ?_
        refine wp_region_held_drew (S := fun W => W.cell? ⟨w.heap.size, 0, none⟩ = some (.slice b R.length c) ∧ W.cell? ⟨w.heap.size, 1, none⟩ = some (.slice e C.length d) ∧ W.cell? ⟨w.heap.size, 2, none⟩ = some (.string (bs x1)) ∧ W.cell? ⟨w.heap.size, 3, none⟩ = some (.string (bs x2)) ∧ W.cell? ⟨w.heap.size, 4, none⟩ = some (.string (bs x3)) ∧ W.cell? ⟨w.heap.size, 5, none⟩ = some (.string (bs x4))) (by kernel_rfl) ?_ (fun hH => ?_)
        · exact ⟨HROW3.out.drew.c 0 _ rfl, HROW3.out.drew.c 1 _ rfl, HROW3.out.drew.c 2 _ rfl, HROW3.out.drew.c 3 _ rfl, HROW3.out.drew.c 4 _ rfl, HROW3.out.drew.c 5 _ rfl⟩
        refine Reg.take (i := 0) (u := ?z1v) rfl rfl rfl (by kernel_rfl) (by kernel_rfl) (by kernel_rfl) hH ?z1y ?z1r
        case z1y => (intro w hSw; (try dsimp only at hSw); go_simp; try (with_reducible rfl))
        case' z1r => simp only [List.setIfInBounds_toArray, List.set_cons_zero, List.set_cons_succ]
        refine Reg.take (i := 1) (u := ?z2v) rfl rfl rfl (by kernel_rfl) (by kernel_rfl) (by kernel_rfl) hH ?z2y ?z2r
        case z2y => (intro w hSw; (try dsimp only at hSw); go_simp; try (with_reducible rfl))
        case' z2r => simp only [List.setIfInBounds_toArray, List.set_cons_zero, List.set_cons_succ]
        refine Reg.take (i := 3) (u := ?z3v) rfl rfl rfl (by kernel_rfl) (by kernel_rfl) (by kernel_rfl) hH ?z3y ?z3r
        case z3y => (intro w hSw; (try dsimp only at hSw); go_simp; try (with_reducible rfl))
        case' z3r => simp only [List.setIfInBounds_toArray, List.set_cons_zero, List.set_cons_succ]
        refine Reg.take (i := 4) (u := ?z4v) rfl rfl rfl (by kernel_rfl) (by kernel_rfl) (by kernel_rfl) hH ?z4y ?z4r
        case z4y => (intro w hSw; (try dsimp only at hSw); go_simp; try (with_reducible rfl))
        case' z4r => simp only [List.setIfInBounds_toArray, List.set_cons_zero, List.set_cons_succ]
        refine Reg.take (i := 6) (u := ?z5v) rfl rfl rfl (by kernel_rfl) (by kernel_rfl) (by kernel_rfl) hH ?z5y ?z5r
        case z5y => (intro w hSw; (try dsimp only at hSw); go_simp; try (with_reducible rfl))
        case' z5r => simp only [List.setIfInBounds_toArray, List.set_cons_zero, List.set_cons_succ]
        refine Reg.take (i := 7) (u := ?z6v) rfl rfl rfl (by kernel_rfl) (by kernel_rfl) (by kernel_rfl) hH ?z6y ?z6r
        case z6y => (intro w hSw; (try dsimp only at hSw); go_simp; try (with_reducible rfl))
        case' z6r => simp only [List.setIfInBounds_toArray, List.set_cons_zero, List.set_cons_succ]
        refine Reg.either (i := 2) (j := 9) rfl rfl (Reg.wanted_free rfl) (Reg.wanted_free rfl) (by kernel_rfl) (fun K hK => ?A) (fun K hK => ?B)
        case A =>
          go_simp
          go_at_call 31
          refine (ownTexts_any b _ R _ (Rd.drew HR3.out) hRn).mono ?_
          rintro e4 w4 ⟨ra, rc, rfl, hRa, hra, h4⟩
          have row4 := HROW3.out.drew.below h4
          refine hK.out _ _ ?_ (fun hH2 => ?_)
          · exact ⟨row4.c 0 _ rfl, row4.c 1 _ rfl, row4.c 2 _ rfl, row4.c 3 _ rfl, row4.c 4 _ rfl, row4.c 5 _ rfl⟩
          clear hK hH
          have hH := hH2; clear hH2
          try simp only [Act.put, List.setIfInBounds_toArray, List.set_cons_zero, List.set_cons_succ]
          refine Reg.either (i := 5) (j := 9) rfl rfl (Reg.wanted_free rfl) (Reg.wanted_free rfl) (by kernel_rfl) (fun K hK => ?A1) (fun K hK => ?A2)
          case A1 =>
            go_simp
            go_at_call 31
            refine (ownTexts_any e _ C _ (Rd.below (Rd.drew HC3.out) h4) hCn).mono ?_
            rintro e5 w5 ⟨sa, sc, rfl, hSa, hsa, h5⟩
            have row5 := row4.below h5
            refine hK.out _ _ ?_ (fun hH2 => ?_)
            · exact ⟨row5.c 0 _ rfl, row5.c 1 _ rfl, row5.c 2 _ rfl, row5.c 3 _ rfl, row5.c 4 _ rfl, row5.c 5 _ rfl⟩
            clear hK hH
            have hH := hH2; clear hH2
            try simp only [Act.put, List.setIfInBounds_toArray, List.set_cons_zero, List.set_cons_succ]
            refine Reg.take (i := 8) (u := ?z7v) rfl rfl rfl (by kernel_rfl) (by kernel_rfl) (by kernel_rfl) hH ?z7y ?z7r
            case z7y => (intro w hSw; (try dsimp only at hSw); go_simp; try (with_reducible rfl))
            case' z7r => simp only [List.setIfInBounds_toArray, List.set_cons_zero, List.set_cons_succ]
            refine Reg.only (i := 9) rfl (Reg.wanted_free rfl) (by kernel_rfl) (fun K hK => ?_)
            go_simp
            refine hK.out _ _ ?_ (fun hH2 => ?_)
            · exact ⟨(row5.alloc (.cells #[.slice none 0 0, .slice none 0 0, .string ⟨#[]⟩, .string ⟨#[]⟩, .string ⟨#[]⟩, .string ⟨#[]⟩] 53)).c 0 _ rfl, (row5.alloc (.cells #[.slice none 0 0, .slice none 0 0, .string ⟨#[]⟩, .string ⟨#[]⟩, .string ⟨#[]⟩, .string ⟨#[]⟩] 53)).c 1 _ rfl, (row5.alloc (.cells #[.slice none 0 0, .slice none 0 0, .string ⟨#[]⟩, .string ⟨#[]⟩, .string ⟨#[]⟩, .string ⟨#[]⟩] 53)).c 2 _ rfl, (row5.alloc (.cells #[.slice none 0 0, .slice none 0 0, .string ⟨#[]⟩, .string ⟨#[]⟩, .string ⟨#[]⟩, .string ⟨#[]⟩] 53)).c 3 _ rfl, (row5.alloc (.cells #[.slice none 0 0, .slice none 0 0, .string ⟨#[]⟩, .string ⟨#[]⟩, .string ⟨#[]⟩, .string ⟨#[]⟩] 53)).c 4 _ rfl, (row5.alloc (.cells #[.slice none 0 0, .slice none 0 0, .string ⟨#[]⟩, .string ⟨#[]⟩, .string ⟨#[]⟩, .string ⟨#[]⟩] 53)).c 5 _ rfl⟩
            clear hK hH
            have hH := hH2; clear hH2
            try simp only [Act.put, List.setIfInBounds_toArray, List.set_cons_zero, List.set_cons_succ]
            refine Reg.only (i := 10) rfl (Reg.wanted_free rfl) (by kernel_rfl) (fun K hK => ?_)
            go_simp
            refine hK.out _ _ ?_ (fun hH2 => ?_)
            · exact ⟨(row5.alloc (.cells #[.slice ra R.length rc, .slice sa C.length sc, .string (bs x1), .string (bs x2), .string (bs x3), .string (bs x4)] 53)).c 0 _ rfl, (row5.alloc (.cells #[.slice ra R.length rc, .slice sa C.length sc, .string (bs x1), .string (bs x2), .string (bs x3), .string (bs x4)] 53)).c 1 _ rfl, (row5.alloc (.cells #[.slice ra R.length rc, .slice sa C.length sc, .string (bs x1), .string (bs x2), .string (bs x3), .string (bs x4)] 53)).c 2 _ rfl, (row5.alloc (.cells #[.slice ra R.length rc, .slice sa C.length sc, .string (bs x1), .string (bs x2), .string (bs x3), .string (bs x4)] 53)).c 3 _ rfl, (row5.alloc (.cells #[.slice ra R.length rc, .slice sa C.length sc, .string (bs x1), .string (bs x2), .string (bs x3), .string (bs x4)] 53)).c 4 _ rfl, (row5.alloc (.cells #[.slice ra R.length rc, .slice sa C.length sc, .string (bs x1), .string (bs x2), .string (bs x3), .string (bs x4)] 53)).c 5 _ rfl⟩
            clear hK hH
            have hH := hH2; clear hH2
            try simp only [Act.put, List.setIfInBounds_toArray, List.set_cons_zero, List.set_cons_succ]
            refine wpAnyH_done (by kernel_rfl) ?_ _
            refine NoPanic.normal ?_
            have hd : Below w3.drew.heap.size w3.drew w5 := h4.trans (h5.mono h4.size)
            have hd2 := (hd.alloc hd.size (.cells #[.slice ra R.length rc, .slice sa C.length sc, .string (bs x1), .string (bs x2), .string (bs x3), .string (bs x4)] 53))
            have hb5 := HB3.out.drew.trans (hd2.mono HB3.out.drew.size)
            have r9 := Rw.new w5 53 [.slice ra R.length rc, .slice sa C.length sc, .string (bs x1), .string (bs x2), .string (bs x3), .string (bs x4)]
            have r4 := row5.alloc (.cells #[.slice ra R.length rc, .slice sa C.length sc, .string (bs x1), .string (bs x2), .string (bs x3), .string (bs x4)] 53)
            have t1 : Strs _ b R.length R := Rd.below (Rd.drew HR3.out) hd2
            have t2 : Strs _ e C.length C := Rd.below (Rd.drew HC3.out) hd2
            have t3 : Strs _ ra R.length R := Rd.alloc (Rd.below hRa h5) (.cells #[.slice ra R.length rc, .slice sa C.length sc, .string (bs x1), .string (bs x2), .string (bs x3), .string (bs x4)] 53)
            have t4 : Strs _ sa C.length C := Rd.alloc hSa (.cells #[.slice ra R.length rc, .slice sa C.length sc, .string (bs x1), .string (bs x2), .string (bs x3), .string (bs x4)] 53)
            have t5 : Parts _ a L.length L := Rd.below (Rd.drew HP3.out) hd2
            have t6 : Parts _ pa L.length L := Rd.below (Rd.drew HPP.out) hd2
            obtain ⟨W5, hW5⟩ : ∃ W5, W5 = w5.alloc (.cells #[.slice ra R.length rc, .slice sa C.length sc, .string (bs x1), .string (bs x2), .string (bs x3), .string (bs x4)] 53) := ⟨_, rfl⟩
            obtain ⟨n9, hn9⟩ : ∃ n, n = w5.heap.size := ⟨_, rfl⟩
            rw [← hW5] at hb5 r9 r4 t1 t2 t3 t4 t5 t6 ⊢
            rw [← hn9] at r9 ⊢
            exact cont n9 W5 ra rc sa sc ⟨hb5, r4, r9, t1, t2, t3, t4, t5, t6⟩
          case A2 =>
            go_simp
            refine hK.out _ _ ?_ (fun hH2 => ?_)
            · exact ⟨(row4.alloc (.cells #[.slice none 0 0, .slice none 0 0, .string ⟨#[]⟩, .string ⟨#[]⟩, .string ⟨#[]⟩, .string ⟨#[]⟩] 53)).c 0 _ rfl, (row4.alloc (.cells #[.slice none 0 0, .slice none 0 0, .string ⟨#[]⟩, .string ⟨#[]⟩, .string ⟨#[]⟩, .string ⟨#[]⟩] 53)).c 1 _ rfl, (row4.alloc (.cells #[.slice none 0 0, .slice none 0 0, .string ⟨#[]⟩, .string ⟨#[]⟩, .string ⟨#[]⟩, .string ⟨#[]⟩] 53)).c 2 _ rfl, (row4.alloc (.cells #[.slice none 0 0, .slice none 0 0, .string ⟨#[]⟩, .string ⟨#[]⟩, .string ⟨#[]⟩, .string ⟨#[]⟩] 53)).c 3 _ rfl, (row4.alloc (.cells #[.slice none 0 0, .slice none 0 0, .string ⟨#[]⟩, .string ⟨#[]⟩, .string ⟨#[]⟩, .string ⟨#[]⟩] 53)).c 4 _ rfl, (row4.alloc (.cells #[.slice none 0 0, .slice none 0 0, .string ⟨#[]⟩, .string ⟨#[]⟩, .string ⟨#[]⟩, .string ⟨#[]⟩] 53)).c 5 _ rfl⟩
            clear hK hH
            have hH := hH2; clear hH2
            try simp only [Act.put, List.setIfInBounds_toArray, List.set_cons_zero, List.set_cons_succ]
            refine Reg.only (i := 5) rfl (Reg.wanted_free rfl) (by kernel_rfl) (fun K hK => ?_)
            go_simp
            go_at_call 31
            refine (ownTexts_any e _ C _ (Rd.alloc (Rd.below (Rd.drew HC3.out) h4) (.cells #[.slice none 0 0, .slice none 0 0, .string ⟨#[]⟩, .string ⟨#[]⟩, .string ⟨#[]⟩, .string ⟨#[]⟩] 53)) hCn).mono ?_
            rintro e5 w5 ⟨sa, sc, rfl, hSa, hsa, h5⟩
            have row5 := (row4.alloc (.cells #[.slice none 0 0, .slice none 0 0, .string ⟨#[]⟩, .string ⟨#[]⟩, .string ⟨#[]⟩, .string ⟨#[]⟩] 53)).below h5
            have z9 := (Rw.new w4 53 [.slice none 0 0, .slice none 0 0, .string ⟨#[]⟩, .string ⟨#[]⟩, .string ⟨#[]⟩, .string ⟨#[]⟩]).below h5
            refine hK.out _ _ ?_ (fun hH2 => ?_)
            · exact ⟨row5.c 0 _ rfl, row5.c 1 _ rfl, row5.c 2 _ rfl, row5.c 3 _ rfl, row5.c 4 _ rfl, row5.c 5 _ rfl⟩
            clear hK hH
            have hH := hH2; clear hH2
            try simp only [Act.put, List.setIfInBounds_toArray, List.set_cons_zero, List.set_cons_succ]
            refine Reg.take (i := 8) (u := ?z8v) rfl rfl rfl (by kernel_rfl) (by kernel_rfl) (by kernel_rfl) hH ?z8y ?z8r
            case z8y => (intro w hSw; (try dsimp only at hSw); go_simp; try (with_reducible rfl))
            case' z8r => simp only [List.setIfInBounds_toArray, List.set_cons_zero, List.set_cons_succ]
            have c0 := z9.c 0 _ rfl
            have c1 := z9.c 1 _ rfl
            have c2 := z9.c 2 _ rfl
            have c3 := z9.c 3 _ rfl
            have c4 := z9.c 4 _ rfl
            have c5 := z9.c 5 _ rfl
            have cf := frozen_list z9
            have hd : Below w3.drew.heap.size w3.drew w5 := (h4.alloc h4.size (.cells #[.slice none 0 0, .slice none 0 0, .string ⟨#[]⟩, .string ⟨#[]⟩, .string ⟨#[]⟩, .string ⟨#[]⟩] 53)).trans (h5.mono (h4.alloc h4.size (.cells #[.slice none 0 0, .slice none 0 0, .string ⟨#[]⟩, .string ⟨#[]⟩, .string ⟨#[]⟩, .string ⟨#[]⟩] 53)).size)
            have l4 := row4.lt
            refine Reg.only (i := 10) rfl (Reg.wanted_free rfl) (by kernel_rfl) (fun K hK => ?_)
            go_simp
            refine hK.out _ _ ?_ (fun hH2 => ?_)
            · exact ⟨(Rw.c ((setV_other (W := w5) (n := w4.heap.size) (v0 := .slice ra R.length rc) (v1 := .slice sa C.length sc) (v2 := .string (bs x1)) (v3 := .string (bs x2)) (v4 := .string (bs x3)) (v5 := .string (bs x4)) (g := w.heap.size) (by omega)).trans row5 : Rw _ _ 53 [.slice b R.length c, .slice e C.length d, .string (bs x1), .string (bs x2), .string (bs x3), .string (bs x4)]) 0 _ rfl), (Rw.c ((setV_other (W := w5) (n := w4.heap.size) (v0 := .slice ra R.length rc) (v1 := .slice sa C.length sc) (v2 := .string (bs x1)) (v3 := .string (bs x2)) (v4 := .string (bs x3)) (v5 := .string (bs x4)) (g := w.heap.size) (by omega)).trans row5 : Rw _ _ 53 [.slice b R.length c, .slice e C.length d, .string (bs x1), .string (bs x2), .string (bs x3), .string (bs x4)]) 1 _ rfl), (Rw.c ((setV_other (W := w5) (n := w4.heap.size) (v0 := .slice ra R.length rc) (v1 := .slice sa C.length sc) (v2 := .string (bs x1)) (v3 := .string (bs x2)) (v4 := .string (bs x3)) (v5 := .string (bs x4)) (g := w.heap.size) (by omega)).trans row5 : Rw _ _ 53 [.slice b R.length c, .slice e C.length d, .string (bs x1), .string (bs x2), .string (bs x3), .string (bs x4)]) 2 _ rfl), (Rw.c ((setV_other (W := w5) (n := w4.heap.size) (v0 := .slice ra R.length rc) (v1 := .slice sa C.length sc) (v2 := .string (bs x1)) (v3 := .string (bs x2)) (v4 := .string (bs x3)) (v5 := .string (bs x4)) (g := w.heap.size) (by omega)).trans row5 : Rw _ _ 53 [.slice b R.length c, .slice e C.length d, .string (bs x1), .string (bs x2), .string (bs x3), .string (bs x4)]) 3 _ rfl), (Rw.c ((setV_other (W := w5) (n := w4.heap.size) (v0 := .slice ra R.length rc) (v1 := .slice sa C.length sc) (v2 := .string (bs x1)) (v3 := .string (bs x2)) (v4 := .string (bs x3)) (v5 := .string (bs x4)) (g := w.heap.size) (by omega)).trans row5 : Rw _ _ 53 [.slice b R.length c, .slice e C.length d, .string (bs x1), .string (bs x2), .string (bs x3), .string (bs x4)]) 4 _ rfl), (Rw.c ((setV_other (W := w5) (n := w4.heap.size) (v0 := .slice ra R.length rc) (v1 := .slice sa C.length sc) (v2 := .string (bs x1)) (v3 := .string (bs x2)) (v4 := .string (bs x3)) (v5 := .string (bs x4)) (g := w.heap.size) (by omega)).trans row5 : Rw _ _ 53 [.slice b R.length c, .slice e C.length d, .string (bs x1), .string (bs x2), .string (bs x3), .string (bs x4)]) 5 _ rfl)⟩
            clear hK hH
            have hH := hH2; clear hH2
            try simp only [Act.put, List.setIfInBounds_toArray, List.set_cons_zero, List.set_cons_succ]
            refine wpAnyH_done (by kernel_rfl) ?_ _
            refine NoPanic.normal ?_
            have e9 : ¬ w.heap.size = w4.heap.size := by omega
            have s1 : Below w3.drew.heap.size w3.drew (setV w5 (w4.heap.size) (.slice ra R.length rc) (.slice sa C.length sc) (.string (bs x1)) (.string (bs x2)) (.string (bs x3)) (.string (bs x4))) := setV_below hd (by first | exact h4.size | exact Nat.le_refl _)
            have hb5 := HB3.out.drew.trans (s1.mono HB3.out.drew.size)
            have r9 : Rw (setV w5 (w4.heap.size) (.slice ra R.length rc) (.slice sa C.length sc) (.string (bs x1)) (.string (bs x2)) (.string (bs x3)) (.string (bs x4))) (w4.heap.size) 53 [.slice ra R.length rc, .slice sa C.length sc, .string (bs x1), .string (bs x2), .string (bs x3), .string (bs x4)] := setV_rw z9
            have r4 : Rw (setV w5 (w4.heap.size) (.slice ra R.length rc) (.slice sa C.length sc) (.string (bs x1)) (.string (bs x2)) (.string (bs x3)) (.string (bs x4))) w.heap.size 53 [.slice b R.length c, .slice e C.length d, .string (bs x1), .string (bs x2), .string (bs x3), .string (bs x4)] := (setV_other e9).trans row5
            have t1 : Strs _ b R.length R := Rd.below (Rd.drew HR3.out) s1
            have t2 : Strs _ e C.length C := Rd.below (Rd.drew HC3.out) s1
            have t3 : Strs (setV w5 (w4.heap.size) (.slice ra R.length rc) (.slice sa C.length sc) (.string (bs x1)) (.string (bs x2)) (.string (bs x3)) (.string (bs x4))) ra R.length R := Rd.keep (Rd.below hRa ((Below.refl _ w4).alloc (Nat.le_refl _) (.cells #[.slice none 0 0, .slice none 0 0, .string ⟨#[]⟩, .string ⟨#[]⟩, .string ⟨#[]⟩, .string ⟨#[]⟩] 53) |>.trans (h5.mono (by simp)))) (by rw [setV_size]; exact Nat.le_refl _) (fun ad h0 hn _ => setV_other (by obtain ⟨ad2, he, hlt, _⟩ := Rd.get hRa hn; rw [h0] at he; cases he; omega))
            have t4 : Strs (setV w5 (w4.heap.size) (.slice ra R.length rc) (.slice sa C.length sc) (.string (bs x1)) (.string (bs x2)) (.string (bs x3)) (.string (bs x4))) sa C.length C := Rd.keep hSa (by rw [setV_size]; exact Nat.le_refl _) (fun ad h0 _ _ => setV_other (by have := hsa ad h0; have e2 : (w4.alloc (.cells #[.slice none 0 0, .slice none 0 0, .string ⟨#[]⟩, .string ⟨#[]⟩, .string ⟨#[]⟩, .string ⟨#[]⟩] 53)).heap.size = w4.heap.size + 1 := World.size_alloc _ _; rw [e2] at this; omega))
            have t5 : Parts _ a L.length L := Rd.below (Rd.drew HP3.out) s1
            have t6 : Parts _ pa L.length L := Rd.below (Rd.drew HPP.out) s1
            exact cont (w4.heap.size) _ ra rc sa sc ⟨hb5, r4, r9, t1, t2, t3, t4, t5, t6⟩
        case B =>
          go_simp
          refine hK.out _ _ ?_ (fun hH2 => ?_)
          · exact ⟨(HROW3.out.drew.alloc (.cells #[.slice none 0 0, .slice none 0 0, .string ⟨#[]⟩, .string ⟨#[]⟩, .string ⟨#[]⟩, .string ⟨#[]⟩] 53)).c 0 _ rfl, (HROW3.out.drew.alloc (.cells #[.slice none 0 0, .slice none 0 0, .string ⟨#[]⟩, .string ⟨#[]⟩, .string ⟨#[]⟩, .string ⟨#[]⟩] 53)).c 1 _ rfl, (HROW3.out.drew.alloc (.cells #[.slice none 0 0, .slice none 0 0, .string ⟨#[]⟩, .string ⟨#[]⟩, .string ⟨#[]⟩, .string ⟨#[]⟩] 53)).c 2 _ rfl, (HROW3.out.drew.alloc (.cells #[.slice none 0 0, .slice none 0 0, .string ⟨#[]⟩, .string ⟨#[]⟩, .string ⟨#[]⟩, .string ⟨#[]⟩] 53)).c 3 _ rfl, (HROW3.out.drew.alloc (.cells #[.slice none 0 0, .slice none 0 0, .string ⟨#[]⟩, .string ⟨#[]⟩, .string ⟨#[]⟩, .string ⟨#[]⟩] 53)).c 4 _ rfl, (HROW3.out.drew.alloc (.cells #[.slice none 0 0, .slice none 0 0, .string ⟨#[]⟩, .string ⟨#[]⟩, .string ⟨#[]⟩, .string ⟨#[]⟩] 53)).c 5 _ rfl⟩
          clear hK hH
          have hH := hH2; clear hH2
          try simp only [Act.put, List.setIfInBounds_toArray, List.set_cons_zero, List.set_cons_succ]
          refine Reg.only (i := 2) rfl (Reg.wanted_free rfl) (by kernel_rfl) (fun K hK => ?_)
          go_simp
          go_at_call 31
          refine (ownTexts_any b _ R _ (Rd.alloc (Rd.drew HR3.out) (.cells #[.slice none 0 0, .slice none 0 0, .string ⟨#[]⟩, .string ⟨#[]⟩, .string ⟨#[]⟩, .string ⟨#[]⟩] 53)) hRn).mono ?_
          rintro e4 w4 ⟨ra, rc, rfl, hRa, hra, h4⟩
          have row4 := (HROW3.out.drew.alloc (.cells #[.slice none 0 0, .slice none 0 0, .string ⟨#[]⟩, .string ⟨#[]⟩, .string ⟨#[]⟩, .string ⟨#[]⟩] 53)).below h4
          have z4 := (Rw.new w3.drew 53 [.slice none 0 0, .slice none 0 0, .string ⟨#[]⟩, .string ⟨#[]⟩, .string ⟨#[]⟩, .string ⟨#[]⟩]).below h4
          refine hK.out _ _ ?_ (fun hH2 => ?_)
          · exact ⟨row4.c 0 _ rfl, row4.c 1 _ rfl, row4.c 2 _ rfl, row4.c 3 _ rfl, row4.c 4 _ rfl, row4.c 5 _ rfl⟩
          clear hK hH
          have hH := hH2; clear hH2
          try simp only [Act.put, List.setIfInBounds_toArray, List.set_cons_zero, List.set_cons_succ]
          refine Reg.only (i := 5) rfl (Reg.wanted_free rfl) (by kernel_rfl) (fun K hK => ?_)
          go_simp
          go_at_call 31
          refine (ownTexts_any e _ C _ (Rd.below (Rd.alloc (Rd.drew HC3.out) (.cells #[.slice none 0 0, .slice none 0 0, .string ⟨#[]⟩, .string ⟨#[]⟩, .string ⟨#[]⟩, .string ⟨#[]⟩] 53)) h4) hCn).mono ?_
          rintro e5 w5 ⟨sa, sc, rfl, hSa, hsa, h5⟩
          have row5 := row4.below h5
          have z9 : Rw w5 w3.heap.size 53 [.slice none 0 0, .slice none 0 0, .string ⟨#[]⟩, .string ⟨#[]⟩, .string ⟨#[]⟩, .string ⟨#[]⟩] := z4.below h5
          refine hK.out _ _ ?_ (fun hH2 => ?_)
          · exact ⟨row5.c 0 _ rfl, row5.c 1 _ rfl, row5.c 2 _ rfl, row5.c 3 _ rfl, row5.c 4 _ rfl, row5.c 5 _ rfl⟩
          clear hK hH
          have hH := hH2; clear hH2
          try simp only [Act.put, List.setIfInBounds_toArray, List.set_cons_zero, List.set_cons_succ]
          refine Reg.take (i := 8) (u := ?z9v) rfl rfl rfl (by kernel_rfl) (by kernel_rfl) (by kernel_rfl) hH ?z9y ?z9r
          case z9y => (intro w hSw; (try dsimp only at hSw); go_simp; try (with_reducible rfl))
          case' z9r => simp only [List.setIfInBounds_toArray, List.set_cons_zero, List.set_cons_succ]
          have c0 := z9.c 0 _ rfl
          have c1 := z9.c 1 _ rfl
          have c2 := z9.c 2 _ rfl
          have c3 := z9.c 3 _ rfl
          have c4 := z9.c 4 _ rfl
          have c5 := z9.c 5 _ rfl
          have cf := frozen_list z9
          have ha : Below w3.drew.heap.size w3.drew (w3.drew.alloc (.cells #[.slice none 0 0, .slice none 0 0, .string ⟨#[]⟩, .string ⟨#[]⟩, .string ⟨#[]⟩, .string ⟨#[]⟩] 53)) := (Below.refl _ w3.drew).alloc (Nat.le_refl _) _
          have hd : Below w3.drew.heap.size w3.drew w5 := (ha.trans (h4.mono ha.size)).trans (h5.mono ((ha.trans (h4.mono ha.size)).size))
          refine Reg.only (i := 10) rfl (Reg.wanted_free rfl) (by kernel_rfl) (fun K hK => ?_)
          go_simp
          refine hK.out _ _ ?_ (fun hH2 => ?_)
          · exact ⟨(Rw.c ((setV_other (W := w5) (n := w3.heap.size) (v0 := .slice ra R.length rc) (v1 := .slice sa C.length sc) (v2 := .string (bs x1)) (v3 := .string (bs x2)) (v4 := .string (bs x3)) (v5 := .string (bs x4)) (g := w.heap.size) (by omega)).trans row5 : Rw _ _ 53 [.slice b R.length c, .slice e C.length d, .string (bs x1), .string (bs x2), .string (bs x3), .string (bs x4)]) 0 _ rfl), (Rw.c ((setV_other (W := w5) (n := w3.heap.size) (v0 := .slice ra R.length rc) (v1 := .slice sa C.length sc) (v2 := .string (bs x1)) (v3 := .string (bs x2)) (v4 := .string (bs x3)) (v5 := .string (bs x4)) (g := w.heap.size) (by omega)).trans row5 : Rw _ _ 53 [.slice b R.length c, .slice e C.length d, .string (bs x1), .string (bs x2), .string (bs x3), .string (bs x4)]) 1 _ rfl), (Rw.c ((setV_other (W := w5) (n := w3.heap.size) (v0 := .slice ra R.length rc) (v1 := .slice sa C.length sc) (v2 := .string (bs x1)) (v3 := .string (bs x2)) (v4 := .string (bs x3)) (v5 := .string (bs x4)) (g := w.heap.size) (by omega)).trans row5 : Rw _ _ 53 [.slice b R.length c, .slice e C.length d, .string (bs x1), .string (bs x2), .string (bs x3), .string (bs x4)]) 2 _ rfl), (Rw.c ((setV_other (W := w5) (n := w3.heap.size) (v0 := .slice ra R.length rc) (v1 := .slice sa C.length sc) (v2 := .string (bs x1)) (v3 := .string (bs x2)) (v4 := .string (bs x3)) (v5 := .string (bs x4)) (g := w.heap.size) (by omega)).trans row5 : Rw _ _ 53 [.slice b R.length c, .slice e C.length d, .string (bs x1), .string (bs x2), .string (bs x3), .string (bs x4)]) 3 _ rfl), (Rw.c ((setV_other (W := w5) (n := w3.heap.size) (v0 := .slice ra R.length rc) (v1 := .slice sa C.length sc) (v2 := .string (bs x1)) (v3 := .string (bs x2)) (v4 := .string (bs x3)) (v5 := .string (bs x4)) (g := w.heap.size) (by omega)).trans row5 : Rw _ _ 53 [.slice b R.length c, .slice e C.length d, .string (bs x1), .string (bs x2), .string (bs x3), .string (bs x4)]) 4 _ rfl), (Rw.c ((setV_other (W := w5) (n := w3.heap.size) (v0 := .slice ra R.length rc) (v1 := .slice sa C.length sc) (v2 := .string (bs x1)) (v3 := .string (bs x2)) (v4 := .string (bs x3)) (v5 := .string (bs x4)) (g := w.heap.size) (by omega)).trans row5 : Rw _ _ 53 [.slice b R.length c, .slice e C.length d, .string (bs x1), .string (bs x2), .string (bs x3), .string (bs x4)]) 5 _ rfl)⟩
          clear hK hH
          have hH := hH2; clear hH2
          try simp only [Act.put, List.setIfInBounds_toArray, List.set_cons_zero, List.set_cons_succ]
          refine wpAnyH_done (by kernel_rfl) ?_ _
          refine NoPanic.normal ?_
          have e9 : ¬ w.heap.size = w3.heap.size := by omega
          have s1 : Below w3.drew.heap.size w3.drew (setV w5 (w3.heap.size) (.slice ra R.length rc) (.slice sa C.length sc) (.string (bs x1)) (.string (bs x2)) (.string (bs x3)) (.string (bs x4))) := setV_below hd (by first | exact h4.size | exact Nat.le_refl _)
          have hb5 := HB3.out.drew.trans (s1.mono HB3.out.drew.size)
          have r9 : Rw (setV w5 (w3.heap.size) (.slice ra R.length rc) (.slice sa C.length sc) (.string (bs x1)) (.string (bs x2)) (.string (bs x3)) (.string (bs x4))) (w3.heap.size) 53 [.slice ra R.length rc, .slice sa C.length sc, .string (bs x1), .string (bs x2), .string (bs x3), .string (bs x4)] := setV_rw z9
          have r4 : Rw (setV w5 (w3.heap.size) (.slice ra R.length rc) (.slice sa C.length sc) (.string (bs x1)) (.string (bs x2)) (.string (bs x3)) (.string (bs x4))) w.heap.size 53 [.slice b R.length c, .slice e C.length d, .string (bs x1), .string (bs x2), .string (bs x3), .string (bs x4)] := (setV_other e9).trans row5
          have t1 : Strs _ b R.length R := Rd.below (Rd.drew HR3.out) s1
          have t2 : Strs _ e C.length C := Rd.below (Rd.drew HC3.out) s1
          have t3 : Strs (setV w5 (w3.heap.size) (.slice ra R.length rc) (.slice sa C.length sc) (.string (bs x1)) (.string (bs x2)) (.string (bs x3)) (.string (bs x4))) ra R.length R := Rd.keep (Rd.below hRa h5) (by rw [setV_size]; exact Nat.le_refl _) (fun ad h0 _ _ => setV_other (by have := hra ad h0; have e2 : (w3.drew.alloc (.cells #[.slice none 0 0, .slice none 0 0, .string ⟨#[]⟩, .string ⟨#[]⟩, .string ⟨#[]⟩, .string ⟨#[]⟩] 53)).heap.size = w3.heap.size + 1 := World.size_alloc _ _; have e3 := h4.size; rw [e2] at this; omega))
          have t4 : Strs (setV w5 (w3.heap.size) (.slice ra R.length rc) (.slice sa C.length sc) (.string (bs x1)) (.string (bs x2)) (.string (bs x3)) (.string (bs x4))) sa C.length C := Rd.keep hSa (by rw [setV_size]; exact Nat.le_refl _) (fun ad h0 _ _ => setV_other (by have := hsa ad h0; have e2 : (w3.drew.alloc (.cells #[.slice none 0 0, .slice none 0 0, .string ⟨#[]⟩, .string ⟨#[]⟩, .string ⟨#[]⟩, .string ⟨#[]⟩] 53)).heap.size = w3.heap.size + 1 := World.size_alloc _ _; have e3 := h4.size; rw [e2] at e3; omega))
          have t5 : Parts _ a L.length L := Rd.below (Rd.drew HP3.out) s1
          have t6 : Parts _ pa L.length L := Rd.below (Rd.drew HPP.out) s1
          exact cont (w3.heap.size) _ ra rc sa sc ⟨hb5, r4, r9, t1, t2, t3, t4, t5, t6⟩
      case pf =>
        rintro n9 W5 ra rc sa sc ⟨hb5, r4, r9, t1, t2, t3, t4, t5, t6⟩
        clear HB3 HP3 HPP HR3 HC3 HROW3 HN3 n30
        have r9x5_0 := r9.c 0 _ rfl
        have r9x5_1 := r9.c 1 _ rfl
        have r9x5_2 := r9.c 2 _ rfl
        have r9x5_3 := r9.c 3 _ rfl
        have r9x5_4 := r9.c 4 _ rfl
        have r9x5_5 := r9.c 5 _ rfl
        go_wp2_with fail
        refine (EX.out pa ra sa pc rc sc _ t6 hLp hpm (HNW.out.below hb5 hwz) t3 t4).mono ?_
        rintro e6 w6 ⟨rfl, g6⟩
        have b6 := hb5.trans (g6.mono hb5.size)
        clear r9x5_0 r9x5_1 r9x5_2 r9x5_3 r9x5_4 r9x5_5
        have r4 := r4.below g6
        have r9 := r9.below g6
        have t1 := Rd.below t1 g6
        have t2 := Rd.below t2 g6
        have t3 := Rd.below t3 g6
        have t4 := Rd.below t4 g6
        have t5 := Rd.below t5 g6
        have t6 := Rd.below t6 g6
        have r4x6_0 := r4.c 0 _ rfl
        have r4x6_1 := r4.c 1 _ rfl
        have r4x6_2 := r4.c 2 _ rfl
        have r4x6_3 := r4.c 3 _ rfl
        have r4x6_4 := r4.c 4 _ rfl
        have r4x6_5 := r4.c 5 _ rfl
        go_wp2_with fail
        refine (REX.out a b e ca c d _ t5 t1 t2).mono ?_
        rintro e7 w7 ⟨rfl, g7⟩
        have b7 := b6.trans (g7.mono b6.size)
        clear r4x6_0 r4x6_1 r4x6_2 r4x6_3 r4x6_4 r4x6_5
        have r4 := r4.below g7
        have r9 := r9.below g7
        have t1 := Rd.below t1 g7
        have t2 := Rd.below t2 g7
        have t3 := Rd.below t3 g7
        have t4 := Rd.below t4 g7
        have t5 := Rd.below t5 g7
        have t6 := Rd.below t6 g7
        have r9x7_0 := r9.c 0 _ rfl
        have r9x7_1 := r9.c 1 _ rfl
        have r9x7_2 := r9.c 2 _ rfl
        have r9x7_3 := r9.c 3 _ rfl
        have r9x7_4 := r9.c 4 _ rfl
        have r9x7_5 := r9.c 5 _ rfl
        go_wp2_with fail
        refine (EN.out pa ra sa pc rc sc _ t6 hLp hpm (HNW.out.below b7 hwz) t3 t4).mono ?_
        rintro e8 w8 ⟨rfl, g8⟩
        have b8 := b7.trans (g8.mono b7.size)
        clear r9x7_0 r9x7_1 r9x7_2 r9x7_3 r9x7_4 r9x7_5
        have r4 := r4.below g8
        have r9 := r9.below g8
        have t1 := Rd.below t1 g8
        have t2 := Rd.below t2 g8
        have t3 := Rd.below t3 g8
        have t4 := Rd.below t4 g8
        have t5 := Rd.below t5 g8
        have t6 := Rd.below t6 g8
        have r4x8_0 := r4.c 0 _ rfl
        have r4x8_1 := r4.c 1 _ rfl
        have r4x8_2 := r4.c 2 _ rfl
        have r4x8_3 := r4.c 3 _ rfl
        have r4x8_4 := r4.c 4 _ rfl
        have r4x8_5 := r4.c 5 _ rfl
        go_wp2_with fail
        refine (REN.out a b e ca c d _ t5 t1 t2).mono ?_
        rintro e9 w9 ⟨rfl, g9⟩
        have b9 := b8.trans (g9.mono b8.size)
        clear r4x8_0 r4x8_1 r4x8_2 r4x8_3 r4x8_4 r4x8_5
        have r4 := r4.below g9
        have r9 := r9.below g9
        have t1 := Rd.below t1 g9
        have t2 := Rd.below t2 g9
        have t3 := Rd.below t3 g9
        have t4 := Rd.below t4 g9
        have t5 := Rd.below t5 g9
        have t6 := Rd.below t6 g9
        clear EX REX EN REN
        obtain ⟨Z1, hZ1⟩ : ∃ Z, bs O.1 = Z := ⟨_, rfl⟩
        obtain ⟨Z2, hZ2⟩ : ∃ Z, bs O2.1 = Z := ⟨_, rfl⟩
        obtain ⟨m1, hm1⟩ : ∃ m, O.2 = m := ⟨_, rfl⟩
        obtain ⟨m2, hm2⟩ : ∃ m, O2.2 = m := ⟨_, rfl⟩
        rw [hZ1, hZ2, hm1, hm2]
        clear hZ1 hZ2 hm1 hm2
        go_wp2_with fail
        refine (sameParts_any pa a pc ca L _ t6 t5 (by omega)).mono ?_
        rintro e10 w10 ⟨rfl, n10, rfl⟩
        have b10 := below_drewN b9 n10
        have r4 := r4.drewN n10
        have r9 := r9.drewN n10
        have t1 := Rd.drewN t1 n10
        have t2 := Rd.drewN t2 n10
        have t3 := Rd.drewN t3 n10
        have t4 := Rd.drewN t4 n10
        have t5 := Rd.drewN t5 n10
        have t6 := Rd.drewN t6 n10
        obtain ⟨V10, hV10⟩ : ∃ W, W = w9.drewN n10 := ⟨_, rfl⟩
        rw [← hV10] at b10 r4 r9 t1 t2 t3 t4 t5 t6 ⊢
        clear hV10
        have r9x10_0 := r9.c 0 _ rfl
        have r4x10_0 := r4.c 0 _ rfl
        go_wp2_with fail
        refine (sameTexts_any ra b rc c R _ t3 t1 (by omega)).mono ?_
        rintro e11 w11 ⟨rfl, n11, rfl⟩
        have b11 := below_drewN b10 n11
        have r4 := r4.drewN n11
        have r9 := r9.drewN n11
        have t1 := Rd.drewN t1 n11
        have t2 := Rd.drewN t2 n11
        have t3 := Rd.drewN t3 n11
        have t4 := Rd.drewN t4 n11
        have t5 := Rd.drewN t5 n11
        have t6 := Rd.drewN t6 n11
        obtain ⟨V11, hV11⟩ : ∃ W, W = V10.drewN n11 := ⟨_, rfl⟩
        rw [← hV11] at b11 r4 r9 t1 t2 t3 t4 t5 t6 ⊢
        clear hV11
        have r9x11_1 := r9.c 1 _ rfl
        have r4x11_1 := r4.c 1 _ rfl
        go_wp2_with fail
        refine (sameTexts_any sa e sc d C _ t4 t2 (by omega)).mono ?_
        rintro e12 w12 ⟨rfl, n12, rfl⟩
        have b12 := below_drewN b11 n12
        have r4 := r4.drewN n12
        have r9 := r9.drewN n12
        have t1 := Rd.drewN t1 n12
        have t2 := Rd.drewN t2 n12
        have t3 := Rd.drewN t3 n12
        have t4 := Rd.drewN t4 n12
        have t5 := Rd.drewN t5 n12
        have t6 := Rd.drewN t6 n12
        obtain ⟨V12, hV12⟩ : ∃ W, W = V11.drewN n12 := ⟨_, rfl⟩
        rw [← hV12] at b12 r4 r9 t1 t2 t3 t4 t5 t6 ⊢
        clear hV12
        go_wp2_with fail
        refine (haw _ (HNW.out.below b12 hwz)).mono ?_
        rintro e13 w13 ⟨rfl, g13⟩
        have b13 := b12.trans (g13.mono b12.size)
        go_wp2_with fail
        go_ret
        exact ⟨rfl, b13⟩
end Go.Proofs.YtllklgalghmnfaaDoor
