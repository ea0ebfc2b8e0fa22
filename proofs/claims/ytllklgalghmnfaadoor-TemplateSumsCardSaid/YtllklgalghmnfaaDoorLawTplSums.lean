/- TemplateSums: how long expansions are. -/
import Derived.Test.YtllklgalghmnfaaDoorLawTplKnown
import Derived.Test.YtllklgalghmnfaaDoorTplSums
import Derived.Deep.Cut
import Derived.Deep.RegionWith
import Derived.Deep.QuietTactic
import Derived.BigQuiet
namespace Go.Proofs.YtllklgalghmnfaaDoor
open Go.RowKit Str Mem Tp
set_option linter.unusedVariables false
set_option linter.unusedSimpArgs false
theorem partCells_dropS : ∀ (L : List Part) (n : Nat), (partCells L).drop (n * 3) = partCells (L.drop n)
  | [], n => by simp [partCells]
  | p :: L, 0 => by simp
  | p :: L, n + 1 => by
    rw [List.drop_succ_cons, Nat.succ_mul]
    show ((.int .i64 p.k :: .string (bs p.t) :: .int .i64 p.n :: partCells L : List Value)).drop (n * 3 + 3) = partCells (L.drop n)
    rw [List.drop_succ_cons, List.drop_succ_cons, List.drop_succ_cons, partCells_dropS L n]
def Drewn (W W' : World) : Prop := ∃ m, W' = W.drewN m
theorem Drewn.drewN {W W' : World} (h : Drewn W W') (n : Nat) : Drewn W (W'.drewN n) := by
  obtain ⟨m, rfl⟩ := h
  exact ⟨m + n, by simp [World.drewN, Nat.add_assoc]⟩
theorem prod_add (N n z B : Nat) (hN : N ≤ B) (hn : n ≤ 8) (hz : z ≤ 10) (hB : B ≤ 100000) : wrap64 ((n : Int) * (z : Int)) = ((n * z : Nat) : Int) ∧ wrap64 ((N : Int) + ((n * z : Nat) : Int)) = ((N + n * z : Nat) : Int) ∧ N + n * z ≤ B + 80 := by
  have h : n * z ≤ 8 * 10 := Nat.mul_le_mul hn hz
  have e : (n : Int) * (z : Int) = ((n * z : Nat) : Int) := by rw [Int.natCast_mul]
  rw [e]
  generalize n * z = y at *
  refine ⟨?_, ?_, by omega⟩
  · unfold wrap64; omega
  · unfold wrap64; omega
theorem fin_add {X N a b c N1 N2 : Nat} (h : X = N + (a + b + c)) (h1 : N1 = N + a) (h2 : N2 = N1 + b) : X = N2 + c := by omega
theorem addTo_le (R C : List Tp.Bs) (x1 x2 x3 x4 : Tp.Bs) (M : List Part) : ∀ k, k ≤ 10 → M.length ≤ 8 → GM M → (∀ s ∈ R, s.length ≤ 10) → (∀ s ∈ C, s.length ≤ 10) → (∀ m, (xAt4 x1 x2 x3 x4 m).length ≤ 10) → addTo R C x1 x2 x3 x4 M k ≤ 10000 := fun k hk hM hg hR hC hx => by
  have hgl : ∀ (l : List Tp.Bs), (∀ s ∈ l, s.length ≤ 10) → ∀ n, (l.getD n []).length ≤ 10 := fun l hl n => by
    rw [List.getD_eq_getElem?_getD]
    cases h : l[n]? with
    | none => simp
    | some s => exact hl s (List.mem_of_getElem? h)
  have ha : ∀ i, addA R C x1 x2 x3 x4 M i ≤ 240 := fun i => by
    have h2 : cntP 2 M (i : Int) * (R.getD i []).length ≤ 8 * 10 := Nat.mul_le_mul (Nat.le_trans (cntP_le _ _ _) hM) (hgl R hR i)
    have h3 : cntP 3 M (i : Int) * (C.getD i []).length ≤ 8 * 10 := Nat.mul_le_mul (Nat.le_trans (cntP_le _ _ _) hM) (hgl C hC i)
    have h4 : cntP 4 M (1 + (i : Int)) * (xAt4 x1 x2 x3 x4 i).length ≤ 8 * 10 := Nat.mul_le_mul (Nat.le_trans (cntP_le _ _ _) hM) (hx i)
    unfold addA
    split <;> omega
  have hb : bytesP M ≤ M.length * 100 := by
    have : ∀ (L : List Part), (∀ p ∈ L, gp p) → bytesP L ≤ L.length * 100 := fun L => by
      induction L with
      | nil => intro _; simp [bytesP]
      | cons p L ih =>
        intro h
        have h1 := (h p (by simp)).2.2
        have h2 := ih (fun q hq => h q (by simp [hq]))
        simp only [bytesP, List.map_cons, List.sum_cons, List.length_cons] at h2 ⊢
        omega
    exact this M hg.g
  have : ∀ k, addTo R C x1 x2 x3 x4 M k ≤ 800 + k * 240 := fun k => by
    induction k with
    | zero => rw [addTo]; omega
    | succ k ih => rw [addTo]; have := ha k; omega
  have := this k
  omega
theorem valueR_le (R C : List Tp.Bs) (x1 x2 x3 x4 : Tp.Bs) (hR : ∀ s ∈ R, s.length ≤ 10) (hC : ∀ s ∈ C, s.length ≤ 10) (h1 : x1.length ≤ 10) (h2 : x2.length ≤ 10) (h3 : x3.length ≤ 10) (h4 : x4.length ≤ 10) (p : Part) : (valueR R C x1 x2 x3 x4 p).length ≤ 10 := by
  have hg : ∀ (l : List Tp.Bs), (∀ s ∈ l, s.length ≤ 10) → ∀ n, (l.getD n []).length ≤ 10 := fun l hl n => by
    rw [List.getD_eq_getElem?_getD]
    cases h : l[n]? with
    | none => simp
    | some s => exact hl s (List.mem_of_getElem? h)
  unfold valueR
  split
  · split
    · exact h1
    · split
      · exact h2
      · split
        · exact h3
        · exact h4
  · split
    · exact hg C hC _
    · exact hg R hR _
set_option maxRecDepth 100000 in
set_option maxHeartbeats 16000000 in
theorem lawTplSums_any (ai : Option Addr) (ci : Nat) (li : List Int) (at' : Int) (b e : Option Addr) (c d : Nat) (R C : List Tp.Bs) (x1 x2 x3 x4 : Tp.Bs) (w : World) (hN : Nm w) (hI : Ints w ai li.length li) (hR : Strs w b R.length R) (hC : Strs w e C.length C) :
    Calls Tryd.prog 8 #[.slice ai li.length ci, .int .i64 at', valsV b R.length c e C.length d x1 x2 x3 x4] w fun e w' => e = .returned (.bool true) ∧ Below w.heap.size w w' := by
  have hb := (Below.refl _ w).alloc (Nat.le_refl _) (.cells #[.slice b R.length c, .slice e C.length d, .string (bs x1), .string (bs x2), .string (bs x3), .string (bs x4)] 53)
  have hrow : Rw _ _ 53 [.slice b R.length c, .slice e C.length d, .string (bs x1), .string (bs x2), .string (bs x3), .string (bs x4)] := Rw.new w 53 [.slice b R.length c, .slice e C.length d, .string (bs x1), .string (bs x2), .string (bs x3), .string (bs x4)]
  have hI0 : Ints _ ai li.length li := Rd.below hI hb
  have hR0 : Strs _ b R.length R := Rd.below hR hb
  have hC0 : Strs _ e C.length C := Rd.below hC hb
  have hN0 := hN.below hb hN.lt
  have hwz := hN.lt
  have HNW := Lib.hid hN
  clear hI hR hC hN
  have hv0 : valsV b R.length c e C.length d x1 x2 x3 x4 = .agg #[.slice b R.length c, .slice e C.length d, .string (bs x1), .string (bs x2), .string (bs x3), .string (bs x4)] := rfl
  rw [hv0]
  clear hv0
  have HB := Lib.hid hb
  have HROW := Lib.hid hrow
  have HI := Lib.hid hI0
  have HR := Lib.hid hR0
  have HC := Lib.hid hC0
  have HN := Lib.hid hN0
  clear hb hrow hI0 hR0 hC0 hN0
  go_enter Tryd.func8, Tryd.ntmps8
  go_upto_region 1 with fail
  obtain ⟨W0, hW0⟩ : ∃ W, W = w.alloc (.cells #[.slice b R.length c, .slice e C.length d, .string (bs x1), .string (bs x2), .string (bs x3), .string (bs x4)] 53) := ⟨_, rfl⟩
  rw [← hW0] at HB HROW HI HR HC HN ⊢
  clear hW0
  go_wp2_with fail
  refine (lawTplKnown_any _ HN.out).mono ?_
  rintro e1 w1 ⟨rfl, h1⟩
  have HB := Lib.hid (HB.out.trans (h1.mono HB.out.size))
  have HROW := Lib.hid (HROW.out.below h1)
  have HI := Lib.hid (show Ints w1 ai li.length li from Rd.below HI.out h1)
  have HR := Lib.hid (show Strs w1 b R.length R from Rd.below HR.out h1)
  have HC := Lib.hid (show Strs w1 e C.length C from Rd.below HC.out h1)
  have HN := Lib.hid (HN.out.below h1 HN.out.lt)
  clear h1
  have q0 := HROW.out.c 0 _ rfl
  have q1 := HROW.out.c 1 _ rfl
  by_cases hr20 : (10 : Int) < (R.length : Int)
  · go_wp2_with fail
    go_ret
    exact ⟨rfl, HB.out⟩
  by_cases hc20 : (10 : Int) < (C.length : Int)
  · go_wp2_with fail
    go_ret
    exact ⟨rfl, HB.out⟩
  go_wp2_with fail
  go_loopg [8] 10 (fun g i W => W = w1 ∧ ∃ k : Nat, i = .int .i64 k ∧ k + g = 10 ∧ ∀ j, j < k → (∀ s, R[j]? = some s → s.length ≤ 10) ∧ (∀ s, C[j]? = some s → s.length ≤ 10) ∧ (xAt4 x1 x2 x3 x4 (j % 4)).length ≤ 10)
  case atStart => exact ⟨rfl, 0, rfl, rfl, fun j hj => by omega⟩
  case round =>
    obtain ⟨rfl, k, rfl, hk, hall⟩ := hrel
    have HALL := Lib.hid hall
    clear hall
    by_cases hlt : k < 10
    · skip
      obtain ⟨g', rfl⟩ : ∃ g', gk = g' + 1 := ⟨gk - 1, by omega⟩
      have i0 : (0 : Int) ≤ (k : Int) := by omega
      obtain ⟨m, hm⟩ : ∃ m, k % 4 = m := ⟨_, rfl⟩
      have hm4 : m < 4 := by omega
      have e4 : (k : Int) % 4 = (m : Int) := by omega
      have m0 : (0 : Int) ≤ (m : Int) := by omega
      have m1 : (m : Int) < 4 := by omega
      have hxz : ((bs (xAt4 x1 x2 x3 x4 m)).size : Int) = ((xAt4 x1 x2 x3 x4 m).length : Int) := by rw [size_bs]
      have hvar : wr.cell? ⟨w.heap.size, 2 + m, none⟩ = some (.string (bs (xAt4 x1 x2 x3 x4 m))) := by
        rcases (by omega : m = 0 ∨ m = 1 ∨ m = 2 ∨ m = 3) with rfl | rfl | rfl | rfl
        · exact HROW.out.c 2 _ rfl
        · exact HROW.out.c 3 _ rfl
        · exact HROW.out.c 4 _ rfl
        · exact HROW.out.c 5 _ rfl
      have HM := Lib.hid hm
      obtain ⟨X, hX⟩ : ∃ X, bs (xAt4 x1 x2 x3 x4 m) = X := ⟨_, rfl⟩
      rw [hX] at hxz hvar
      have HXZ := Lib.hid hxz
      clear hm hxz hX
      have hRk : (∃ (ad : Addr) (S : ByteArray), b = some ad ∧ k < R.length ∧ wr.cell? (ad.add k) = some (.string S) ∧ ∀ s, R[k]? = some s → (s.length : Int) = (S.size : Int)) ∨ ¬ k < R.length := by
        by_cases h : k < R.length
        · obtain ⟨ad, s, he, _, hs, hcl⟩ := HR.out.get h
          exact .inl ⟨ad, bs s, he, h, hcl, fun s2 h2 => by rw [hs] at h2; injection h2 with h2; rw [← h2, size_bs]⟩
        · exact .inr h
      have hCk : (∃ (ad : Addr) (S : ByteArray), e = some ad ∧ k < C.length ∧ wr.cell? (ad.add k) = some (.string S) ∧ ∀ s, C[k]? = some s → (s.length : Int) = (S.size : Int)) ∨ ¬ k < C.length := by
        by_cases h : k < C.length
        · obtain ⟨ad, s, he, _, hs, hcl⟩ := HC.out.get h
          exact .inl ⟨ad, bs s, he, h, hcl, fun s2 h2 => by rw [hs] at h2; injection h2 with h2; rw [← h2, size_bs]⟩
        · exact .inr h
      rcases hRk with ⟨ad1, S1, rfl, hlt1, hcl1, hs1⟩ | hlt1
      · have j1 : (k : Int) < (R.length : Int) := by omega
        have HS1 := Lib.hid hs1
        clear hs1
        by_cases hy1 : (10 : Int) < (S1.size : Int)
        · go_wp2_with fail
          go_ret
          exact ⟨rfl, HB.out⟩
        · have HRK : Hid (∀ s, R[k]? = some s → s.length ≤ 10) := Lib.hid (fun s h => by have := HS1.out s h; omega)
          rcases hCk with ⟨ad2, S2, rfl, hlt2, hcl2, hs2⟩ | hlt2
          · have j2 : (k : Int) < (C.length : Int) := by omega
            have HS2 := Lib.hid hs2
            clear hs2
            by_cases hy2 : (10 : Int) < (S2.size : Int)
            · go_wp2_with fail
              go_ret
              exact ⟨rfl, HB.out⟩
            · have HCK : Hid (∀ s, C[k]? = some s → s.length ≤ 10) := Lib.hid (fun s h => by have := HS2.out s h; omega)
              by_cases hx : (10 : Int) < (X.size : Int)
              · go_wp2_with fail
                go_ret
                exact ⟨rfl, HB.out⟩
              · skip
                go_wp2_with fail
                go_roundg g'
                case measure => omega
                case rel =>
                  refine ⟨rfl, k + 1, by go_num, by omega, fun j hj => ?_⟩
                  by_cases hjk : j = k
                  · subst hjk
                    exact ⟨HRK.out, HCK.out, by rw [HM.out]; have := HXZ.out; omega⟩
                  · exact HALL.out j (by omega)
          · have j2 : ¬ (k : Int) < (C.length : Int) := by omega
            have HCK : Hid (∀ s, C[k]? = some s → s.length ≤ 10) := Lib.hid (fun s h => absurd (List.getElem?_eq_some_iff.1 h).1 hlt2)
            by_cases hx : (10 : Int) < (X.size : Int)
            · go_wp2_with fail
              go_ret
              exact ⟨rfl, HB.out⟩
            · skip
              go_wp2_with fail
              go_roundg g'
              case measure => omega
              case rel =>
                refine ⟨rfl, k + 1, by go_num, by omega, fun j hj => ?_⟩
                by_cases hjk : j = k
                · subst hjk
                  exact ⟨HRK.out, HCK.out, by rw [HM.out]; have := HXZ.out; omega⟩
                · exact HALL.out j (by omega)
      · have j1 : ¬ (k : Int) < (R.length : Int) := by omega
        have HRK : Hid (∀ s, R[k]? = some s → s.length ≤ 10) := Lib.hid (fun s h => absurd (List.getElem?_eq_some_iff.1 h).1 hlt1)
        rcases hCk with ⟨ad2, S2, rfl, hlt2, hcl2, hs2⟩ | hlt2
        · have j2 : (k : Int) < (C.length : Int) := by omega
          have HS2 := Lib.hid hs2
          clear hs2
          by_cases hy2 : (10 : Int) < (S2.size : Int)
          · go_wp2_with fail
            go_ret
            exact ⟨rfl, HB.out⟩
          · have HCK : Hid (∀ s, C[k]? = some s → s.length ≤ 10) := Lib.hid (fun s h => by have := HS2.out s h; omega)
            by_cases hx : (10 : Int) < (X.size : Int)
            · go_wp2_with fail
              go_ret
              exact ⟨rfl, HB.out⟩
            · skip
              go_wp2_with fail
              go_roundg g'
              case measure => omega
              case rel =>
                refine ⟨rfl, k + 1, by go_num, by omega, fun j hj => ?_⟩
                by_cases hjk : j = k
                · subst hjk
                  exact ⟨HRK.out, HCK.out, by rw [HM.out]; have := HXZ.out; omega⟩
                · exact HALL.out j (by omega)
        · have j2 : ¬ (k : Int) < (C.length : Int) := by omega
          have HCK : Hid (∀ s, C[k]? = some s → s.length ≤ 10) := Lib.hid (fun s h => absurd (List.getElem?_eq_some_iff.1 h).1 hlt2)
          by_cases hx : (10 : Int) < (X.size : Int)
          · go_wp2_with fail
            go_ret
            exact ⟨rfl, HB.out⟩
          · skip
            go_wp2_with fail
            go_roundg g'
            case measure => omega
            case rel =>
              refine ⟨rfl, k + 1, by go_num, by omega, fun j hj => ?_⟩
              by_cases hjk : j = k
              · subst hjk
                exact ⟨HRK.out, HCK.out, by rw [HM.out]; have := HXZ.out; omega⟩
              · exact HALL.out j (by omega)
    · obtain rfl : k = 10 := by omega
      have hRn : R.length ≤ 10 := by omega
      have hCn : C.length ≤ 10 := by omega
      have hRs : ∀ s ∈ R, s.length ≤ 10 := fun s hs => by
        obtain ⟨j, hj, e⟩ := List.getElem_of_mem hs
        exact (HALL.out j (by omega)).1 s (by rw [List.getElem?_eq_getElem hj, e])
      have hCs : ∀ s ∈ C, s.length ≤ 10 := fun s hs => by
        obtain ⟨j, hj, e⟩ := List.getElem_of_mem hs
        exact (HALL.out j (by omega)).2.1 s (by rw [List.getElem?_eq_getElem hj, e])
      have k1 : x1.length ≤ 10 := (HALL.out 0 (by omega)).2.2
      have k2 : x2.length ≤ 10 := (HALL.out 1 (by omega)).2.2
      have k3 : x3.length ≤ 10 := (HALL.out 2 (by omega)).2.2
      have k4 : x4.length ≤ 10 := (HALL.out 3 (by omega)).2.2
      have hxs : ∀ m, (xAt4 x1 x2 x3 x4 m).length ≤ 10 := fun m => by unfold xAt4; split; exact k1; split; exact k2; split; exact k3; exact k4
      have hvs := valueR_le R C x1 x2 x3 x4 hRs hCs k1 k2 k3 k4
      have HXS := Lib.hid hxs
      have HRS := Lib.hid hRs
      have HCS := Lib.hid hCs
      have HVS := Lib.hid hvs
      clear hRs hCs k1 k2 k3 k4 hvs hxs HALL q0 q1
      go_wp2_with fail
      refine (made_any ai ci li _ HI.out).mono ?_
      rintro e3 w3 ⟨v3, rfl, hO3, h3⟩
      obtain ⟨ma, mc, rfl, hLp, hpm, hPp⟩ := OwnParts.form hO3
      have hgm := madeL_GM li
      have hln := madeL_len li
      obtain ⟨M, hM⟩ : ∃ M, madeL li = M := ⟨_, rfl⟩
      rw [hM] at hgm hln hLp hPp ⊢
      clear hM hO3
      have HB3 := Lib.hid (HB.out.trans (h3.mono HB.out.size))
      have HP3 := Lib.hid hPp
      have HR3 := Lib.hid (show Strs w3 b R.length R from Rd.below HR.out h3)
      have HC3 := Lib.hid (show Strs w3 e C.length C from Rd.below HC.out h3)
      have HROW3 := Lib.hid (HROW.out.below h3)
      clear HB HI hPp HR HC HROW HN h3
      have HGM := Lib.hid hgm
      have hone : ∀ p ∈ M, oneE p = 0 := fun p hp => (hgm.g p hp).1
      have htx : ∀ p ∈ M, p.t.length ≤ 100000 := fun p hp => by have := (hgm.g p hp).2.2; omega
      have hvx : ∀ p : Part, (valueR R C x1 x2 x3 x4 p).length ≤ 1000000 := fun p => by have := HVS.out p; omega
      have hsl : (sumP id R C x1 x2 x3 x4 M).length ≤ M.length * 10 := sum_len id R C x1 x2 x3 x4 10 M (fun p hp => piece_short R C x1 x2 x3 x4 p (hgm.g p hp) (HVS.out p))
      have ck := hgm.ok hln
      have ckT := hgm.okT hln
      have ckD := hgm.okD hln
      have hsp := fun n => sum_split id R C x1 x2 x3 x4 M n
      have hadd := addTo_sum R C x1 x2 x3 x4 M hone
      obtain ⟨rh, hhead⟩ := sum_head R C x1 x2 x3 x4 M hone
      obtain ⟨rl, hlast⟩ := sum_last R C x1 x2 x3 x4 M hone
      have hex := fun W h1 h4 h5 h6 => Expand_any 1024 ma b e mc c d M R C x1 x2 x3 x4 W h1 (by omega) hLp hpm htx h4 h5 h6 (fun p _ => hvx p)
      rw [sum_ok R C x1 x2 x3 x4 M 1024 ck hRn hCn (by omega) (by omega)] at hex
      have hex3 := fun W h1 h4 h5 h6 => Expand_any (((sumP id R C x1 x2 x3 x4 M).length : Int) - 1) ma b e mc c d M R C x1 x2 x3 x4 W h1 (by omega) hLp hpm htx h4 h5 h6 (fun p _ => hvx p)
      rw [sum_less R C x1 x2 x3 x4 M ck hRn hCn (by omega)] at hex3
      have hli := fun W h1 h4 => Lit_any ma mc M W h1 (by omega) hLp hpm htx h4
      rw [show litR M = ⟨headT M, lastT M, (bytesP M : Nat), 0⟩ from by unfold litR; rw [if_neg (by omega)]] at hli
      have hus : ∀ W, Parts W ma M.length M → Nm W → Calls Tryd.prog 26 #[.slice ma M.length mc] W fun e w' => ∃ a1 c1 a2 c2, e = .returned (.tuple #[.slice a1 10 c1, .slice a2 10 c2, .agg #[.int .i64 (cntP 4 M (1 + ((0 : Nat) : Int)) : Nat), .int .i64 (cntP 4 M (1 + ((1 : Nat) : Int)) : Nat), .int .i64 (cntP 4 M (1 + ((2 : Nat) : Int)) : Nat), .int .i64 (cntP 4 M (1 + ((3 : Nat) : Int)) : Nat)], .int .i64 0]) ∧ Rd w' 1 a1 10 (rowP 2 M 10 0) ∧ Rd w' 1 a2 10 (rowP 3 M 10 0) ∧ Below W.heap.size W w' := fun W h1 h4 => by
        refine (uses_any ma mc M W h1 (by omega) hLp hpm htx h4).mono ?_
        rintro e w' ⟨a1, c1, a2, c2, rfl, hA, hB, hbl⟩
        have g1 : usesG 2 M = rowP 2 M 10 0 := by unfold usesG; rw [if_neg (by omega)]
        have g2 : usesG 3 M = rowP 3 M 10 0 := by unfold usesG; rw [if_neg (by omega)]
        have g3 : usesV M = rowP 4 M 4 1 := by unfold usesV; rw [if_neg (by omega)]
        rw [g1, rowP_len] at hA
        rw [g2, rowP_len] at hB
        rw [g1, g2, g3, ck, rowP_len, rowP_len]
        exact ⟨a1, c1, a2, c2, rfl, hA, hB, hbl⟩
      obtain ⟨m0, hm0⟩ : ∃ m, cntP 4 M (1 + ((0 : Nat) : Int)) = m := ⟨_, rfl⟩
      obtain ⟨m1, hm1⟩ : ∃ m, cntP 4 M (1 + ((1 : Nat) : Int)) = m := ⟨_, rfl⟩
      obtain ⟨m2, hm2⟩ : ∃ m, cntP 4 M (1 + ((2 : Nat) : Int)) = m := ⟨_, rfl⟩
      obtain ⟨m3, hm3⟩ : ∃ m, cntP 4 M (1 + ((3 : Nat) : Int)) = m := ⟨_, rfl⟩
      rw [hm0, hm1, hm2, hm3] at hus
      have HM0 := Lib.hid hm0
      have HM1 := Lib.hid hm1
      have HM2 := Lib.hid hm2
      have HM3 := Lib.hid hm3
      clear hm0 hm1 hm2 hm3
      have hv0 : valsV b R.length c e C.length d x1 x2 x3 x4 = .agg #[.slice b R.length c, .slice e C.length d, .string (bs x1), .string (bs x2), .string (bs x3), .string (bs x4)] := rfl
      rw [hv0] at hex hex3
      obtain ⟨SS, hSS⟩ : ∃ SS, sumP id R C x1 x2 x3 x4 M = SS := ⟨_, rfl⟩
      rw [hSS] at hsl hadd hhead hlast hex hex3
      simp only [hSS] at hsp
      have HSP := Lib.hid hsp
      have HADD := Lib.hid hadd
      have HHEAD := Lib.hid hhead
      have HLAST := Lib.hid hlast
      have HEX3 := Lib.hid hex3
      have HCKT := Lib.hid ckT
      have HCKD := Lib.hid ckD
      have HTX := Lib.hid htx
      have HUS := Lib.hid hus
      have HLI := Lib.hid hli
      have HSL := Lib.hid (show SS.length ≤ 80 by omega)
      have hNw3 := HNW.out.below HB3.out hwz
      have q0 := HROW3.out.c 0 _ rfl
      have q1 := HROW3.out.c 1 _ rfl
      have q2 := HROW3.out.c 2 _ rfl
      have q3 := HROW3.out.c 3 _ rfl
      have q4 := HROW3.out.c 4 _ rfl
      have q5 := HROW3.out.c 5 _ rfl
      clear hsp hadd hhead hlast hex3 ckT ckD htx hus hli hsl hv0 hgm hone ck hvx hSS
      go_wp2_with fail
      refine (hex _ HP3.out hNw3 HR3.out HC3.out).mono ?_
      rintro e4 w4 ⟨rfl, h4⟩
      clear q0 q1 q2 q3 q4 q5 hex hNw3
      have HB4 := Lib.hid (HB3.out.trans (h4.mono HB3.out.size))
      have HP4 := Lib.hid (show Parts w4 ma M.length M from Rd.below HP3.out h4)
      have HR4 := Lib.hid (show Strs w4 b R.length R from Rd.below HR3.out h4)
      have HC4 := Lib.hid (show Strs w4 e C.length C from Rd.below HC3.out h4)
      have HROW4 := Lib.hid (HROW3.out.below h4)
      clear HB3 HP3 HR3 HC3 HROW3 h4
      have hNw4 := HNW.out.below HB4.out hwz
      go_wp2_with fail
      refine (HLI.out _ HP4.out hNw4).mono ?_
      rintro e5 w5 ⟨rfl, h5⟩
      clear HLI hNw4
      have HB5 := Lib.hid (HB4.out.trans (h5.mono HB4.out.size))
      have HP5 := Lib.hid (show Parts w5 ma M.length M from Rd.below HP4.out h5)
      have HR5 := Lib.hid (show Strs w5 b R.length R from Rd.below HR4.out h5)
      have HC5 := Lib.hid (show Strs w5 e C.length C from Rd.below HC4.out h5)
      have HROW5 := Lib.hid (HROW4.out.below h5)
      clear HB4 HP4 HR4 HC4 HROW4 h5
      have hNw5 := HNW.out.below HB5.out hwz
      go_wp2_with fail
      refine (HUS.out _ HP5.out hNw5).mono ?_
      rintro e6 w6 ⟨ua, uc, va, vc, rfl, hU, hV, h6⟩
      clear HUS hNw5
      have HU6 := Lib.hid (hU.alloc (.cells #[.int .i64 (m0 : Nat), .int .i64 (m1 : Nat), .int .i64 (m2 : Nat), .int .i64 (m3 : Nat)] 44))
      have HV6 := Lib.hid (hV.alloc (.cells #[.int .i64 (m0 : Nat), .int .i64 (m1 : Nat), .int .i64 (m2 : Nat), .int .i64 (m3 : Nat)] 44))
      have hb6 := HB5.out.trans (h6.mono HB5.out.size)
      have HB7 := Lib.hid (hb6.alloc hb6.size (.cells #[.int .i64 (m0 : Nat), .int .i64 (m1 : Nat), .int .i64 (m2 : Nat), .int .i64 (m3 : Nat)] 44))
      have HP7 := Lib.hid (Rd.alloc (show Parts w6 ma M.length M from Rd.below HP5.out h6) (.cells #[.int .i64 (m0 : Nat), .int .i64 (m1 : Nat), .int .i64 (m2 : Nat), .int .i64 (m3 : Nat)] 44))
      have HR7 := Lib.hid (Rd.alloc (show Strs w6 b R.length R from Rd.below HR5.out h6) (.cells #[.int .i64 (m0 : Nat), .int .i64 (m1 : Nat), .int .i64 (m2 : Nat), .int .i64 (m3 : Nat)] 44))
      have HC7 := Lib.hid (Rd.alloc (show Strs w6 e C.length C from Rd.below HC5.out h6) (.cells #[.int .i64 (m0 : Nat), .int .i64 (m1 : Nat), .int .i64 (m2 : Nat), .int .i64 (m3 : Nat)] 44))
      have HROW7 := Lib.hid ((HROW5.out.below h6).alloc (.cells #[.int .i64 (m0 : Nat), .int .i64 (m1 : Nat), .int .i64 (m2 : Nat), .int .i64 (m3 : Nat)] 44))
      have HV4 := Lib.hid (Rw.new w6 44 [.int .i64 (m0 : Nat), .int .i64 (m1 : Nat), .int .i64 (m2 : Nat), .int .i64 (m3 : Nat)])
      clear HB5 HP5 HR5 HC5 HROW5 h6 hU hV hb6
      have eF : ∃ FB, bs (headT M) = FB := ⟨_, rfl⟩
      obtain ⟨FB, hFB⟩ := eF
      have eL : ∃ LB, bs (lastT M) = LB := ⟨_, rfl⟩
      obtain ⟨LB, hLB⟩ := eL
      have eS : ∃ SB, bs SS = SB := ⟨_, rfl⟩
      obtain ⟨SB, hSB⟩ := eS
      rw [hFB, hLB, hSB]
      have HFB := Lib.hid hFB
      have HLB := Lib.hid hLB
      have HSB := Lib.hid hSB
      clear hFB hLB hSB
      go_wp2_with fail
      obtain ⟨W7, hW7⟩ : ∃ W, W = w6.alloc (.cells #[.int .i64 (m0 : Nat), .int .i64 (m1 : Nat), .int .i64 (m2 : Nat), .int .i64 (m3 : Nat)] 44) := ⟨_, rfl⟩
      obtain ⟨n7, hn7⟩ : ∃ n, n = w6.heap.size := ⟨_, rfl⟩
      rw [← hW7] at HU6 HV6 HB7 HP7 HR7 HC7 HROW7 HV4 ⊢
      rw [← hn7] at HV4 ⊢
      clear hW7 hn7
      go_loopg [14, 20] 10 (fun g nv i W => ∃ k : Nat, i = .int .i64 k ∧ k + g = 10 ∧ nv = .int .i64 (addTo R C x1 x2 x3 x4 M k : Nat) ∧ Drewn W7 W)
      case atStart => exact ⟨0, rfl, rfl, rfl, 0, rfl⟩
      case round =>
        obtain ⟨k, rfl, hk, rfl, hd⟩ := hrel
        have HD := Lib.hid hd
        obtain ⟨m, rfl⟩ := hd
        by_cases hlt : k < 10
        · skip
          obtain ⟨g', rfl⟩ : ∃ g', gk = g' + 1 := ⟨gk - 1, by omega⟩
          have i0 : (0 : Int) ≤ (k : Int) := by omega
          have i10 : (k : Int) < 10 := by omega
          obtain ⟨au, rfl, -, hcu⟩ := Rd.get HU6.out (by decide)
          have u2 := hcu k _ (rowP_get 2 M 10 0 k hlt)
          obtain ⟨av, rfl, -, hcv⟩ := Rd.get HV6.out (by decide)
          have u3 := hcv k _ (rowP_get 3 M 10 0 k hlt)
          rw [Int.zero_add] at u2 u3
          have hnx : addTo R C x1 x2 x3 x4 M (k + 1) = addTo R C x1 x2 x3 x4 M k + addA R C x1 x2 x3 x4 M k := rfl
          unfold addA at hnx
          have c2 := cntP_le 2 M (k : Int)
          have c3 := cntP_le 3 M (k : Int)
          have c4 := cntP_le 4 M (1 + (k : Int))
          obtain ⟨N, hN⟩ : ∃ N, addTo R C x1 x2 x3 x4 M k = N := ⟨_, rfl⟩
          obtain ⟨n2, hn2⟩ : ∃ N, cntP 2 M (k : Int) = N := ⟨_, rfl⟩
          obtain ⟨n3, hn3⟩ : ∃ N, cntP 3 M (k : Int) = N := ⟨_, rfl⟩
          have hv4 : k < 4 → W7.cell? ⟨n7, k, none⟩ = some (.int .i64 (cntP 4 M (1 + (k : Int)) : Nat)) ∧ W7.cell? ⟨w.heap.size, 2 + k, none⟩ = some (.string (bs (xAt4 x1 x2 x3 x4 k))) := fun h => by
            rcases (by omega : k = 0 ∨ k = 1 ∨ k = 2 ∨ k = 3) with rfl | rfl | rfl | rfl
            · exact ⟨by rw [HM0.out]; exact HV4.out.c 0 _ rfl, HROW7.out.c 2 _ rfl⟩
            · exact ⟨by rw [HM1.out]; exact HV4.out.c 1 _ rfl, HROW7.out.c 3 _ rfl⟩
            · exact ⟨by rw [HM2.out]; exact HV4.out.c 2 _ rfl, HROW7.out.c 4 _ rfl⟩
            · exact ⟨by rw [HM3.out]; exact HV4.out.c 3 _ rfl, HROW7.out.c 5 _ rfl⟩
          obtain ⟨n4, hn4⟩ : ∃ N, cntP 4 M (1 + (k : Int)) = N := ⟨_, rfl⟩
          rw [hN, hn2, hn3, hn4] at hnx
          have c28 := Nat.le_trans c2 hln
          have c38 := Nat.le_trans c3 hln
          have c48 := Nat.le_trans c4 hln
          clear c2 c3 c4
          rw [hn2] at c28 u2
          rw [hn3] at c38 u3
          rw [hn4] at c48 hv4
          rw [hN]
          have hNb : N ≤ 10000 := by rw [← hN]; exact addTo_le R C x1 x2 x3 x4 M k (by omega) hln HGM.out HRS.out HCS.out HXS.out
          have HNX := Lib.hid hnx
          clear hnx hn2 hn3 hn4 hN hcu hcv
          have q0 := HROW7.out.c 0 _ rfl
          have q1 := HROW7.out.c 1 _ rfl
          have hRk : (∃ (ad : Addr) (S : ByteArray) (y N1 : Nat), b = some ad ∧ k < R.length ∧ W7.cell? (ad.add k) = some (.string S) ∧ wrap64 ((n2 : Int) * (S.size : Int)) = (y : Int) ∧ wrap64 ((N : Int) + (y : Int)) = (N1 : Int) ∧ N1 = N + n2 * (R.getD k []).length ∧ N1 ≤ 10080) ∨ (¬ k < R.length ∧ N = N + n2 * (R.getD k []).length) := by
            by_cases h : k < R.length
            · obtain ⟨ad, s, he, _, hs, hcl⟩ := (show Strs W7 b R.length R from HR7.out).get h
              have hg : R.getD k [] = s := by rw [List.getD_eq_getElem?_getD, hs]; rfl
              have hz := HRS.out s (List.mem_of_getElem? hs)
              obtain ⟨p1, p2, p3⟩ := prod_add N n2 s.length 10000 hNb c28 hz (by decide)
              exact .inl ⟨ad, bs s, n2 * s.length, N + n2 * s.length, he, h, hcl, p1, p2, by rw [hg], p3⟩
            · exact .inr ⟨h, by rw [List.getD_eq_getElem?_getD, List.getElem?_eq_none (by omega)]; simp⟩
          rcases hRk with ⟨ad1, S1, y1, N1, rfl, hlt1, hcl1, ep1, ea1, hN1, hB1⟩ | ⟨hlt1, hN1⟩
          · have j1 : (k : Int) < (R.length : Int) := by omega
            have hCk : (∃ (ad : Addr) (S : ByteArray) (y NX : Nat), e = some ad ∧ k < C.length ∧ W7.cell? (ad.add k) = some (.string S) ∧ wrap64 ((n3 : Int) * (S.size : Int)) = (y : Int) ∧ wrap64 ((N1 : Int) + (y : Int)) = (NX : Int) ∧ NX = N1 + n3 * (C.getD k []).length ∧ NX ≤ 10160) ∨ (¬ k < C.length ∧ N1 = N1 + n3 * (C.getD k []).length) := by
              by_cases h : k < C.length
              · obtain ⟨ad, s, he, _, hs, hcl⟩ := (show Strs W7 e C.length C from HC7.out).get h
                have hg : C.getD k [] = s := by rw [List.getD_eq_getElem?_getD, hs]; rfl
                have hz := HCS.out s (List.mem_of_getElem? hs)
                obtain ⟨p1, p2, p3⟩ := prod_add N1 n3 s.length 10080 hB1 c38 hz (by decide)
                exact .inl ⟨ad, bs s, n3 * s.length, N1 + n3 * s.length, he, h, hcl, p1, p2, by rw [hg], p3⟩
              · exact .inr ⟨h, by rw [List.getD_eq_getElem?_getD, List.getElem?_eq_none (by omega)]; simp⟩
            rcases hCk with ⟨ad2, S2, y2, N2, rfl, hlt2, hcl2, ep2, ea2, hN2, hB2⟩ | ⟨hlt2, hN2⟩
            · have j2 : (k : Int) < (C.length : Int) := by omega
              by_cases h4 : k < 4
              · obtain ⟨v1, v2⟩ := hv4 h4
                have j4 : (k : Int) < 4 := by omega
                have hz := HXS.out k
                obtain ⟨p1, p2, p3⟩ := prod_add N2 n4 (xAt4 x1 x2 x3 x4 k).length 10160 hB2 c48 hz (by decide)
                rw [if_pos h4] at HNX
                have hfin : addTo R C x1 x2 x3 x4 M (k + 1) = N2 + n4 * (xAt4 x1 x2 x3 x4 k).length := fin_add HNX.out hN1 hN2
                have HFIN := Lib.hid hfin
                obtain ⟨X, hX⟩ : ∃ X, bs (xAt4 x1 x2 x3 x4 k) = X := ⟨_, rfl⟩
                have hXz : (xAt4 x1 x2 x3 x4 k).length = X.size := by rw [← hX, size_bs]
                rw [hX] at v2
                have p1x := p1
                rw [hXz] at p1 p2 HFIN
                obtain ⟨y3, hy3⟩ : ∃ y, n4 * X.size = y := ⟨_, rfl⟩
                rw [hy3] at p1 p2 HFIN
                obtain ⟨N3, hN3⟩ : ∃ y, N2 + y3 = y := ⟨_, rfl⟩
                rw [hN3] at p2 HFIN
                rw [hXz, hy3, ← hXz] at p1x
                have P1X := Lib.hid p1x
                clear p1x
                clear hfin hX hXz hy3 hN3 hz p3 hN1 hN2 HNX
                skip
                go_wp2_with fail
                go_quiet (fail)
                go_wp2_with fail
                go_quiet (fail)
                go_wp2_with fail
                go_quiet (fail)
                go_wp2_with fail
                go_roundg g'
                case measure => omega
                case rel => exact ⟨k + 1, by go_num, by omega, by rw [HFIN.out] <;> first | rfl | simp only [ep1, ea1, ep2, ea2, P1X.out, p1, p2], ⟨_, rfl⟩⟩
              · have j4 : ¬ (k : Int) < 4 := by omega
                rw [if_neg h4] at HNX
                have HFIN := Lib.hid (show addTo R C x1 x2 x3 x4 M (k + 1) = N2 from fin_add HNX.out hN1 hN2)
                clear hN1 hN2 HNX
                skip
                go_wp2_with fail
                go_quiet (fail)
                go_wp2_with fail
                go_quiet (fail)
                go_wp2_with fail
                go_roundg g'
                case measure => omega
                case rel => exact ⟨k + 1, by go_num, by omega, by rw [HFIN.out] <;> first | rfl | simp only [ep1, ea1, ep2, ea2], ⟨_, rfl⟩⟩
            · have j2 : ¬ (k : Int) < (C.length : Int) := by omega
              by_cases h4 : k < 4
              · obtain ⟨v1, v2⟩ := hv4 h4
                have j4 : (k : Int) < 4 := by omega
                have hz := HXS.out k
                obtain ⟨p1, p2, p3⟩ := prod_add N1 n4 (xAt4 x1 x2 x3 x4 k).length 10160 (show N1 ≤ 10160 from Nat.le_trans hB1 (by decide)) c48 hz (by decide)
                rw [if_pos h4] at HNX
                have hfin : addTo R C x1 x2 x3 x4 M (k + 1) = N1 + n4 * (xAt4 x1 x2 x3 x4 k).length := fin_add HNX.out hN1 hN2
                have HFIN := Lib.hid hfin
                obtain ⟨X, hX⟩ : ∃ X, bs (xAt4 x1 x2 x3 x4 k) = X := ⟨_, rfl⟩
                have hXz : (xAt4 x1 x2 x3 x4 k).length = X.size := by rw [← hX, size_bs]
                rw [hX] at v2
                have p1x := p1
                rw [hXz] at p1 p2 HFIN
                obtain ⟨y3, hy3⟩ : ∃ y, n4 * X.size = y := ⟨_, rfl⟩
                rw [hy3] at p1 p2 HFIN
                obtain ⟨N3, hN3⟩ : ∃ y, N1 + y3 = y := ⟨_, rfl⟩
                rw [hN3] at p2 HFIN
                rw [hXz, hy3, ← hXz] at p1x
                have P1X := Lib.hid p1x
                clear p1x
                clear hfin hX hXz hy3 hN3 hz p3 hN1 hN2 HNX
                skip
                go_wp2_with fail
                go_quiet (fail)
                go_wp2_with fail
                go_quiet (fail)
                go_wp2_with fail
                go_roundg g'
                case measure => omega
                case rel => exact ⟨k + 1, by go_num, by omega, by rw [HFIN.out] <;> first | rfl | simp only [ep1, ea1, P1X.out, p1, p2], ⟨_, rfl⟩⟩
              · have j4 : ¬ (k : Int) < 4 := by omega
                rw [if_neg h4] at HNX
                have HFIN := Lib.hid (show addTo R C x1 x2 x3 x4 M (k + 1) = N1 from fin_add HNX.out hN1 hN2)
                clear hN1 hN2 HNX
                skip
                go_wp2_with fail
                go_quiet (fail)
                go_wp2_with fail
                go_roundg g'
                case measure => omega
                case rel => exact ⟨k + 1, by go_num, by omega, by rw [HFIN.out] <;> first | rfl | simp only [ep1, ea1], ⟨_, rfl⟩⟩
          · have j1 : ¬ (k : Int) < (R.length : Int) := by omega
            have hCk : (∃ (ad : Addr) (S : ByteArray) (y NX : Nat), e = some ad ∧ k < C.length ∧ W7.cell? (ad.add k) = some (.string S) ∧ wrap64 ((n3 : Int) * (S.size : Int)) = (y : Int) ∧ wrap64 ((N : Int) + (y : Int)) = (NX : Int) ∧ NX = N + n3 * (C.getD k []).length ∧ NX ≤ 10160) ∨ (¬ k < C.length ∧ N = N + n3 * (C.getD k []).length) := by
              by_cases h : k < C.length
              · obtain ⟨ad, s, he, _, hs, hcl⟩ := (show Strs W7 e C.length C from HC7.out).get h
                have hg : C.getD k [] = s := by rw [List.getD_eq_getElem?_getD, hs]; rfl
                have hz := HCS.out s (List.mem_of_getElem? hs)
                obtain ⟨p1, p2, p3⟩ := prod_add N n3 s.length 10080 (show N ≤ 10080 from Nat.le_trans hNb (by decide)) c38 hz (by decide)
                exact .inl ⟨ad, bs s, n3 * s.length, N + n3 * s.length, he, h, hcl, p1, p2, by rw [hg], p3⟩
              · exact .inr ⟨h, by rw [List.getD_eq_getElem?_getD, List.getElem?_eq_none (by omega)]; simp⟩
            rcases hCk with ⟨ad2, S2, y2, N2, rfl, hlt2, hcl2, ep2, ea2, hN2, hB2⟩ | ⟨hlt2, hN2⟩
            · have j2 : (k : Int) < (C.length : Int) := by omega
              by_cases h4 : k < 4
              · obtain ⟨v1, v2⟩ := hv4 h4
                have j4 : (k : Int) < 4 := by omega
                have hz := HXS.out k
                obtain ⟨p1, p2, p3⟩ := prod_add N2 n4 (xAt4 x1 x2 x3 x4 k).length 10160 hB2 c48 hz (by decide)
                rw [if_pos h4] at HNX
                have hfin : addTo R C x1 x2 x3 x4 M (k + 1) = N2 + n4 * (xAt4 x1 x2 x3 x4 k).length := fin_add HNX.out hN1 hN2
                have HFIN := Lib.hid hfin
                obtain ⟨X, hX⟩ : ∃ X, bs (xAt4 x1 x2 x3 x4 k) = X := ⟨_, rfl⟩
                have hXz : (xAt4 x1 x2 x3 x4 k).length = X.size := by rw [← hX, size_bs]
                rw [hX] at v2
                have p1x := p1
                rw [hXz] at p1 p2 HFIN
                obtain ⟨y3, hy3⟩ : ∃ y, n4 * X.size = y := ⟨_, rfl⟩
                rw [hy3] at p1 p2 HFIN
                obtain ⟨N3, hN3⟩ : ∃ y, N2 + y3 = y := ⟨_, rfl⟩
                rw [hN3] at p2 HFIN
                rw [hXz, hy3, ← hXz] at p1x
                have P1X := Lib.hid p1x
                clear p1x
                clear hfin hX hXz hy3 hN3 hz p3 hN1 hN2 HNX
                skip
                go_wp2_with fail
                go_quiet (fail)
                go_wp2_with fail
                go_quiet (fail)
                go_wp2_with fail
                go_roundg g'
                case measure => omega
                case rel => exact ⟨k + 1, by go_num, by omega, by rw [HFIN.out] <;> first | rfl | simp only [ep2, ea2, P1X.out, p1, p2], ⟨_, rfl⟩⟩
              · have j4 : ¬ (k : Int) < 4 := by omega
                rw [if_neg h4] at HNX
                have HFIN := Lib.hid (show addTo R C x1 x2 x3 x4 M (k + 1) = N2 from fin_add HNX.out hN1 hN2)
                clear hN1 hN2 HNX
                skip
                go_wp2_with fail
                go_quiet (fail)
                go_wp2_with fail
                go_roundg g'
                case measure => omega
                case rel => exact ⟨k + 1, by go_num, by omega, by rw [HFIN.out] <;> first | rfl | simp only [ep2, ea2], ⟨_, rfl⟩⟩
            · have j2 : ¬ (k : Int) < (C.length : Int) := by omega
              by_cases h4 : k < 4
              · obtain ⟨v1, v2⟩ := hv4 h4
                have j4 : (k : Int) < 4 := by omega
                have hz := HXS.out k
                obtain ⟨p1, p2, p3⟩ := prod_add N n4 (xAt4 x1 x2 x3 x4 k).length 10160 (show N ≤ 10160 from Nat.le_trans hNb (by decide)) c48 hz (by decide)
                rw [if_pos h4] at HNX
                have hfin : addTo R C x1 x2 x3 x4 M (k + 1) = N + n4 * (xAt4 x1 x2 x3 x4 k).length := fin_add HNX.out hN1 hN2
                have HFIN := Lib.hid hfin
                obtain ⟨X, hX⟩ : ∃ X, bs (xAt4 x1 x2 x3 x4 k) = X := ⟨_, rfl⟩
                have hXz : (xAt4 x1 x2 x3 x4 k).length = X.size := by rw [← hX, size_bs]
                rw [hX] at v2
                have p1x := p1
                rw [hXz] at p1 p2 HFIN
                obtain ⟨y3, hy3⟩ : ∃ y, n4 * X.size = y := ⟨_, rfl⟩
                rw [hy3] at p1 p2 HFIN
                obtain ⟨N3, hN3⟩ : ∃ y, N + y3 = y := ⟨_, rfl⟩
                rw [hN3] at p2 HFIN
                rw [hXz, hy3, ← hXz] at p1x
                have P1X := Lib.hid p1x
                clear p1x
                clear hfin hX hXz hy3 hN3 hz p3 hN1 hN2 HNX
                skip
                go_wp2_with fail
                go_quiet (fail)
                go_wp2_with fail
                go_roundg g'
                case measure => omega
                case rel => exact ⟨k + 1, by go_num, by omega, by rw [HFIN.out] <;> first | rfl | simp only [P1X.out, p1, p2], ⟨_, rfl⟩⟩
              · have j4 : ¬ (k : Int) < 4 := by omega
                rw [if_neg h4] at HNX
                have HFIN := Lib.hid (show addTo R C x1 x2 x3 x4 M (k + 1) = N from fin_add HNX.out hN1 hN2)
                clear hN1 hN2 HNX
                skip
                go_wp2_with fail
                go_roundg g'
                case measure => omega
                case rel => exact ⟨k + 1, by go_num, by omega, by rw [HFIN.out] <;> first | rfl | simp only [Nat.add_zero], ⟨_, rfl⟩⟩
        · skip
          obtain rfl : k = 10 := by omega
          rw [HADD.out]
          have hB8 := below_drewN HB7.out m
          have hP8 : Parts _ ma M.length M := Rd.drewN HP7.out m
          have hR8 : Strs _ b R.length R := Rd.drewN HR7.out m
          have hC8 : Strs _ e C.length C := Rd.drewN HC7.out m
          have hrow8 := HROW7.out.drewN m
          obtain ⟨W8, hW8⟩ : ∃ W, W = W7.drewN m := ⟨_, rfl⟩
          rw [← hW8] at hB8 hP8 hR8 hC8 hrow8 ⊢
          have HB8 := Lib.hid hB8
          have HP8 := Lib.hid hP8
          have HR8 := Lib.hid hR8
          have HC8 := Lib.hid hC8
          have HROW8 := Lib.hid hrow8
          have hsz : SB.size = SS.length := by rw [← HSB.out, size_bs]
          have hf1 : FB.size ≤ SB.size ∧ SB.extract 0 FB.size = FB := by
            rw [← HSB.out, ← HFB.out, HHEAD.out]
            refine ⟨by rw [size_bs, size_bs, List.length_append]; omega, eq_of_data ?_⟩
            rw [extract_data, data_bs, data_bs, size_bs]
            simp
          have hl1 : LB.size ≤ SB.size ∧ SB.extract (SB.size - LB.size) SB.size = LB := by
            rw [← HSB.out, ← HLB.out, HLAST.out]
            refine ⟨by rw [size_bs, size_bs, List.length_append]; omega, eq_of_data ?_⟩
            rw [extract_data, data_bs, data_bs, size_bs, size_bs, List.length_append]
            simp
          obtain ⟨hf1, hf2⟩ := hf1
          obtain ⟨hl1, hl2⟩ := hl1
          obtain ⟨D, hD⟩ : ∃ D, SB.size - LB.size = D := ⟨_, rfl⟩
          rw [hD] at hl2
          have g1 : ¬ (SB.size : Int) < (FB.size : Int) := by omega
          have g2 : ¬ (SB.size : Int) < (LB.size : Int) := by omega
          have g3 : (SB.size : Int) - (LB.size : Int) = (D : Int) := by omega
          have g4 : (D : Int) ≤ (SB.size : Int) := by omega
          have g5 : (0 : Int) ≤ (D : Int) := Int.natCast_nonneg _
          have HSZ := Lib.hid hsz
          rw [← hsz]
          clear hB8 hP8 hR8 hC8 hrow8 hW8 hsz hD HD HU6 HV6 HB7 HP7 HR7 HC7 HROW7 HV4
          have hneq : ¬ ((!(SB.extract (wrap64 (D : Int)).toNat SB.size).toList == LB.toList) = true) := by
            have h80 := HSL.out
            have hz := HSZ.out
            rw [show wrap64 (D : Int) = (D : Int) from by unfold wrap64; omega, Int.toNat_natCast, hl2]
            simp
          have HNEQ := Lib.hid hneq
          clear hneq
          have hcat : bs SS = SB := HSB.out
          have HNB : Hid (0 ≤ wrap64 (D : Int) ∧ wrap64 (D : Int) ≤ (SB.size : Int)) := Lib.hid (by
            have h80 := HSL.out
            have hz := HSZ.out
            rw [show wrap64 (D : Int) = (D : Int) from by unfold wrap64; omega]
            exact ⟨g5, g4⟩)
          go_wp2_with fail
          all_goals first
            | (exfalso; exact absurd (by assumption) HNEQ.out)
            | (exfalso; exact absurd HNB.out (by assumption))
            | skip
          clear hf1 hf2 hl1 hl2 g1 g2 g3 g4 g5
          have hm1 := Int.emod_nonneg at' (show ((M.length : Int) + 1) ≠ 0 by omega)
          have hm2 := Int.emod_lt_of_pos at' (show (0 : Int) < (M.length : Int) + 1 by omega)
          have hmd := fun W => kitMod_any at' ((M.length : Int) + 1) W (by omega) (by omega)
          obtain ⟨t, ht⟩ : ∃ t : Nat, at' % ((M.length : Int) + 1) = (t : Int) := ⟨(at' % ((M.length : Int) + 1)).toNat, by omega⟩
          rw [ht] at hmd hm2
          have htM : t ≤ M.length := by omega
          clear hm1 hm2 ht
          refine (hmd _).mono ?_
          rintro e9 w9 ⟨rfl, rfl⟩
          clear hmd
          have htl : (M.take t).length = t := by rw [List.length_take]; omega
          have hdl : (M.drop t).length = M.length - t := List.length_drop
          have hsp := HSP.out t
          have hlen := congrArg List.length hsp
          rw [List.length_append] at hlen
          have h80 := HSL.out
          have hvx : ∀ p : Part, (valueR R C x1 x2 x3 x4 p).length ≤ 1000000 := fun p => by have := HVS.out p; omega
          have ex1 := fun W h1 h4 h5 h6 => Expand_any 1024 ma b e mc c d (M.take t) R C x1 x2 x3 x4 W h1 (by omega) (by omega) hpm (fun p hp => HTX.out p (List.mem_of_mem_take hp)) h4 h5 h6 (fun p _ => hvx p)
          rw [sum_ok R C x1 x2 x3 x4 (M.take t) 1024 (HCKT.out t) hRn hCn (by omega) (by omega), htl] at ex1
          have ex2 := fun a ca hca hcm W h1 h4 h5 h6 => Expand_any 1024 a b e ca c d (M.drop t) R C x1 x2 x3 x4 W h1 (by omega) hca hcm (fun p hp => HTX.out p (List.mem_of_mem_drop hp)) h4 h5 h6 (fun p _ => hvx p)
          rw [sum_ok R C x1 x2 x3 x4 (M.drop t) 1024 (HCKD.out t) hRn hCn (by omega) (by omega), hdl] at ex2
          have hv0 : valsV b R.length c e C.length d x1 x2 x3 x4 = .agg #[.slice b R.length c, .slice e C.length d, .string (bs x1), .string (bs x2), .string (bs x3), .string (bs x4)] := rfl
          rw [hv0] at ex1 ex2
          have hcat2 : bs (sumP id R C x1 x2 x3 x4 (M.take t)) ++ bs (sumP id R C x1 x2 x3 x4 (M.drop t)) = SB := by rw [bs_append, hsp, hcat]
          have hz12 : (bs (sumP id R C x1 x2 x3 x4 (M.take t))).size ≤ 80 ∧ (bs (sumP id R C x1 x2 x3 x4 (M.drop t))).size ≤ 80 := by rw [size_bs, size_bs]; omega
          obtain ⟨A1, hA1⟩ : ∃ A, bs (sumP id R C x1 x2 x3 x4 (M.take t)) = A := ⟨_, rfl⟩
          obtain ⟨A2, hA2⟩ : ∃ A, bs (sumP id R C x1 x2 x3 x4 (M.drop t)) = A := ⟨_, rfl⟩
          rw [hA1, hA2] at hcat2 hz12
          rw [hA1] at ex1
          rw [hA2] at ex2
          obtain ⟨hz1, hz2⟩ := hz12
          have HCAT2 := Lib.hid hcat2
          have EX2 := Lib.hid ex2
          have hPt : Parts W8 ma t (M.take t) := by
            have := Rd.take HP8.out htM
            rw [← partCells_take M t htM] at this
            exact this
          have HPT := Lib.hid hPt
          have i0 : (0 : Int) ≤ (t : Int) := Int.natCast_nonneg _
          have i1 : (t : Int) ≤ (M.length : Int) := by omega
          have i2 : (t : Int) ≤ (mc : Int) := by omega
          have q0 := HROW8.out.drew.c 0 _ rfl
          have q1 := HROW8.out.drew.c 1 _ rfl
          have q2 := HROW8.out.drew.c 2 _ rfl
          have q3 := HROW8.out.drew.c 3 _ rfl
          have q4 := HROW8.out.drew.c 4 _ rfl
          have q5 := HROW8.out.drew.c 5 _ rfl
          have hNw8 := HNW.out.below HB8.out.drew hwz
          clear hPt ex2 hcat2 hcat hA1 hA2 hv0 hvx h80 hlen hsp htl hdl
          go_wp2_with fail
          go_region_with (go_at_call 32; refine (ex1 _ (Rd.drew HPT.out) hNw8 (Rd.drew HR8.out) (Rd.drew HC8.out)).mono ?_; rintro e10 w10 ⟨rfl, h10⟩)
          all_goals
            clear q0 q1 q2 q3 q4 q5 ex1 hNw8
            have HB10 := Lib.hid (HB8.out.drew.trans (h10.mono HB8.out.drew.size))
            have HP10 := Lib.hid (show Parts w10 ma M.length M from Rd.below (Rd.drew HP8.out) h10)
            have HR10 := Lib.hid (show Strs w10 b R.length R from Rd.below (Rd.drew HR8.out) h10)
            have HC10 := Lib.hid (show Strs w10 e C.length C from Rd.below (Rd.drew HC8.out) h10)
            have HROW10 := Lib.hid (HROW8.out.drew.below h10)
            clear HB8 HP8 HPT HR8 HC8 HROW8 h10
            have q0 := HROW10.out.drew.c 0 _ rfl
            have q1 := HROW10.out.drew.c 1 _ rfl
            have q2 := HROW10.out.drew.c 2 _ rfl
            have q3 := HROW10.out.drew.c 3 _ rfl
            have q4 := HROW10.out.drew.c 4 _ rfl
            have q5 := HROW10.out.drew.c 5 _ rfl
            have hNw10 := HNW.out.below HB10.out.drew hwz
            have hPd : ∀ a', (t < M.length → a' = ma.map (·.add (t * 3))) → Parts w10.drew a' (M.length - t) (M.drop t) := fun a' ha => by
              have := Rd.drop (Rd.drew HP10.out) htM a' ha
              rw [partCells_dropS] at this
              exact this
            have HPD := Lib.hid hPd
            clear hPd
            by_cases hcap : t < mc
            · have i3 : (t : Int) < (mc : Int) := by omega
              rcases ma with _ | ad
              · skip
                go_wp2_with fail
                go_region_with (go_at_call 32; refine (EX2.out _ _ ?_ ?_ _ (HPD.out _ ?_) hNw10 (Rd.drew HR10.out) (Rd.drew HC10.out)).mono ?_; omega; (first | exact Nat.zero_le _ | exact Nat.le_trans (Nat.sub_le _ _) hpm); exact fun h => (by first | rfl | (exfalso; omega)); rintro e11 w11 ⟨rfl, h11⟩)
                all_goals
                  clear q0 q1 q2 q3 q4 q5 hNw10 HPD EX2 i0 i1 i2
                  have HB11 := Lib.hid (HB10.out.drew.trans (h11.mono HB10.out.drew.size))
                  have HP11 := Lib.hid (show Parts w11 _ M.length M from Rd.below (Rd.drew HP10.out) h11)
                  have HR11 := Lib.hid (show Strs w11 b R.length R from Rd.below (Rd.drew HR10.out) h11)
                  have HC11 := Lib.hid (show Strs w11 e C.length C from Rd.below (Rd.drew HC10.out) h11)
                  have hrow11 := HROW10.out.drew.below h11
                  have q0 := hrow11.c 0 _ rfl
                  have q1 := hrow11.c 1 _ rfl
                  have q2 := hrow11.c 2 _ rfl
                  have q3 := hrow11.c 3 _ rfl
                  have q4 := hrow11.c 4 _ rfl
                  have q5 := hrow11.c 5 _ rfl
                  have hx3 := HEX3.out
                  rw [← HSZ.out] at hx3
                  have h80 : SB.size ≤ 80 := by rw [HSZ.out]; exact HSL.out
                  have hNw11 := HNW.out.below HB11.out hwz
                  have hcat2 := HCAT2.out
                  clear HB10 HP10 HR10 HC10 HROW10 h11 hrow11 HEX3
                  by_cases hz0 : SB.size = 0
                  · rw [if_pos hz0] at hx3
                    have e0 : ((SB.size : Int) == 0) = true := by rw [hz0]; rfl
                    clear hz0
                    go_wp2_with fail
                    refine (hx3 _ HP11.out hNw11 HR11.out HC11.out).mono ?_
                    rintro e12 w12 ⟨rfl, h12⟩
                    clear hx3 hNw11 q0 q1 q2 q3 q4 q5
                    go_wp2_with fail
                    go_ret
                    exact ⟨rfl, HB11.out.trans (h12.mono HB11.out.size)⟩
                  · rw [if_neg hz0] at hx3
                    have e0 : ((SB.size : Int) == 0) = false := beq_eq_false_iff_ne.2 (fun h => hz0 (Int.natCast_eq_zero.1 h))
                    have e1 : (0 : Int) < (SB.size : Int) := Int.natCast_pos.2 (Nat.pos_of_ne_zero hz0)
                    clear hz0
                    go_wp2_with fail
                    refine (hx3 _ HP11.out hNw11 HR11.out HC11.out).mono ?_
                    rintro e12 w12 ⟨rfl, h12⟩
                    clear hx3 hNw11 q0 q1 q2 q3 q4 q5
                    go_wp2_with fail
                    go_ret
                    exact ⟨rfl, HB11.out.trans (h12.mono HB11.out.size)⟩
              · skip
                go_wp2_with fail
                go_region_with (go_at_call 32; refine (EX2.out _ _ ?_ ?_ _ (HPD.out _ ?_) hNw10 (Rd.drew HR10.out) (Rd.drew HC10.out)).mono ?_; omega; (first | exact Nat.zero_le _ | exact Nat.le_trans (Nat.sub_le _ _) hpm); exact fun h => (by first | rfl | (exfalso; omega)); rintro e11 w11 ⟨rfl, h11⟩)
                all_goals
                  clear q0 q1 q2 q3 q4 q5 hNw10 HPD EX2 i0 i1 i2
                  have HB11 := Lib.hid (HB10.out.drew.trans (h11.mono HB10.out.drew.size))
                  have HP11 := Lib.hid (show Parts w11 _ M.length M from Rd.below (Rd.drew HP10.out) h11)
                  have HR11 := Lib.hid (show Strs w11 b R.length R from Rd.below (Rd.drew HR10.out) h11)
                  have HC11 := Lib.hid (show Strs w11 e C.length C from Rd.below (Rd.drew HC10.out) h11)
                  have hrow11 := HROW10.out.drew.below h11
                  have q0 := hrow11.c 0 _ rfl
                  have q1 := hrow11.c 1 _ rfl
                  have q2 := hrow11.c 2 _ rfl
                  have q3 := hrow11.c 3 _ rfl
                  have q4 := hrow11.c 4 _ rfl
                  have q5 := hrow11.c 5 _ rfl
                  have hx3 := HEX3.out
                  rw [← HSZ.out] at hx3
                  have h80 : SB.size ≤ 80 := by rw [HSZ.out]; exact HSL.out
                  have hNw11 := HNW.out.below HB11.out hwz
                  have hcat2 := HCAT2.out
                  clear HB10 HP10 HR10 HC10 HROW10 h11 hrow11 HEX3
                  by_cases hz0 : SB.size = 0
                  · rw [if_pos hz0] at hx3
                    have e0 : ((SB.size : Int) == 0) = true := by rw [hz0]; rfl
                    clear hz0
                    go_wp2_with fail
                    refine (hx3 _ HP11.out hNw11 HR11.out HC11.out).mono ?_
                    rintro e12 w12 ⟨rfl, h12⟩
                    clear hx3 hNw11 q0 q1 q2 q3 q4 q5
                    go_wp2_with fail
                    go_ret
                    exact ⟨rfl, HB11.out.trans (h12.mono HB11.out.size)⟩
                  · rw [if_neg hz0] at hx3
                    have e0 : ((SB.size : Int) == 0) = false := beq_eq_false_iff_ne.2 (fun h => hz0 (Int.natCast_eq_zero.1 h))
                    have e1 : (0 : Int) < (SB.size : Int) := Int.natCast_pos.2 (Nat.pos_of_ne_zero hz0)
                    clear hz0
                    go_wp2_with fail
                    refine (hx3 _ HP11.out hNw11 HR11.out HC11.out).mono ?_
                    rintro e12 w12 ⟨rfl, h12⟩
                    clear hx3 hNw11 q0 q1 q2 q3 q4 q5
                    go_wp2_with fail
                    go_ret
                    exact ⟨rfl, HB11.out.trans (h12.mono HB11.out.size)⟩
            · have i3 : ¬ (t : Int) < (mc : Int) := by omega
              have hnt : ¬ t < M.length := Nat.not_lt.2 (Nat.le_trans hLp (Nat.le_of_not_lt hcap))
              have hcz : M.length - t ≤ 0 := Nat.le_of_eq (Nat.sub_eq_zero_of_le (Nat.le_of_not_lt hnt))
              have htc : t = mc := Nat.le_antisymm (Nat.le_trans htM hLp) (Nat.le_of_not_lt hcap)
              subst htc
              clear hcap i3
              rcases ma with _ | ad
              · skip
                have e0 : M.length - t = 0 := Nat.eq_zero_of_le_zero hcz
                have ex4 := EX2.out none 0 hcz (Nat.zero_le _) w10.drew (HPD.out none (fun h => absurd h hnt)) hNw10 (Rd.drew HR10.out) (Rd.drew HC10.out)
                rw [e0] at ex4
                clear e0 hcz
                go_wp2_with fail
                go_region_with (go_at_call 32; refine ex4.mono ?_; rintro e11 w11 ⟨rfl, h11⟩)
                all_goals
                  clear q0 q1 q2 q3 q4 q5 hNw10 HPD EX2 i0 i1 i2
                  have HB11 := Lib.hid (HB10.out.drew.trans (h11.mono HB10.out.drew.size))
                  have HP11 := Lib.hid (show Parts w11 _ M.length M from Rd.below (Rd.drew HP10.out) h11)
                  have HR11 := Lib.hid (show Strs w11 b R.length R from Rd.below (Rd.drew HR10.out) h11)
                  have HC11 := Lib.hid (show Strs w11 e C.length C from Rd.below (Rd.drew HC10.out) h11)
                  have hrow11 := HROW10.out.drew.below h11
                  have q0 := hrow11.c 0 _ rfl
                  have q1 := hrow11.c 1 _ rfl
                  have q2 := hrow11.c 2 _ rfl
                  have q3 := hrow11.c 3 _ rfl
                  have q4 := hrow11.c 4 _ rfl
                  have q5 := hrow11.c 5 _ rfl
                  have hx3 := HEX3.out
                  rw [← HSZ.out] at hx3
                  have h80 : SB.size ≤ 80 := by rw [HSZ.out]; exact HSL.out
                  have hNw11 := HNW.out.below HB11.out hwz
                  have hcat2 := HCAT2.out
                  clear HB10 HP10 HR10 HC10 HROW10 h11 hrow11 HEX3
                  by_cases hz0 : SB.size = 0
                  · rw [if_pos hz0] at hx3
                    have e0 : ((SB.size : Int) == 0) = true := by rw [hz0]; rfl
                    clear hz0
                    go_wp2_with fail
                    refine (hx3 _ HP11.out hNw11 HR11.out HC11.out).mono ?_
                    rintro e12 w12 ⟨rfl, h12⟩
                    clear hx3 hNw11 q0 q1 q2 q3 q4 q5
                    go_wp2_with fail
                    go_ret
                    exact ⟨rfl, HB11.out.trans (h12.mono HB11.out.size)⟩
                  · rw [if_neg hz0] at hx3
                    have e0 : ((SB.size : Int) == 0) = false := beq_eq_false_iff_ne.2 (fun h => hz0 (Int.natCast_eq_zero.1 h))
                    have e1 : (0 : Int) < (SB.size : Int) := Int.natCast_pos.2 (Nat.pos_of_ne_zero hz0)
                    clear hz0
                    go_wp2_with fail
                    refine (hx3 _ HP11.out hNw11 HR11.out HC11.out).mono ?_
                    rintro e12 w12 ⟨rfl, h12⟩
                    clear hx3 hNw11 q0 q1 q2 q3 q4 q5
                    go_wp2_with fail
                    go_ret
                    exact ⟨rfl, HB11.out.trans (h12.mono HB11.out.size)⟩
              · skip
                have e0 : M.length - t = 0 := Nat.eq_zero_of_le_zero hcz
                have ex4 := EX2.out (some ad) 0 hcz (Nat.zero_le _) w10.drew (HPD.out (some ad) (fun h => absurd h hnt)) hNw10 (Rd.drew HR10.out) (Rd.drew HC10.out)
                rw [e0] at ex4
                clear e0 hcz
                go_wp2_with fail
                go_region_with (go_at_call 32; refine ex4.mono ?_; rintro e11 w11 ⟨rfl, h11⟩)
                all_goals
                  clear q0 q1 q2 q3 q4 q5 hNw10 HPD EX2 i0 i1 i2
                  have HB11 := Lib.hid (HB10.out.drew.trans (h11.mono HB10.out.drew.size))
                  have HP11 := Lib.hid (show Parts w11 _ M.length M from Rd.below (Rd.drew HP10.out) h11)
                  have HR11 := Lib.hid (show Strs w11 b R.length R from Rd.below (Rd.drew HR10.out) h11)
                  have HC11 := Lib.hid (show Strs w11 e C.length C from Rd.below (Rd.drew HC10.out) h11)
                  have hrow11 := HROW10.out.drew.below h11
                  have q0 := hrow11.c 0 _ rfl
                  have q1 := hrow11.c 1 _ rfl
                  have q2 := hrow11.c 2 _ rfl
                  have q3 := hrow11.c 3 _ rfl
                  have q4 := hrow11.c 4 _ rfl
                  have q5 := hrow11.c 5 _ rfl
                  have hx3 := HEX3.out
                  rw [← HSZ.out] at hx3
                  have h80 : SB.size ≤ 80 := by rw [HSZ.out]; exact HSL.out
                  have hNw11 := HNW.out.below HB11.out hwz
                  have hcat2 := HCAT2.out
                  clear HB10 HP10 HR10 HC10 HROW10 h11 hrow11 HEX3
                  by_cases hz0 : SB.size = 0
                  · rw [if_pos hz0] at hx3
                    have e0 : ((SB.size : Int) == 0) = true := by rw [hz0]; rfl
                    clear hz0
                    go_wp2_with fail
                    refine (hx3 _ HP11.out hNw11 HR11.out HC11.out).mono ?_
                    rintro e12 w12 ⟨rfl, h12⟩
                    clear hx3 hNw11 q0 q1 q2 q3 q4 q5
                    go_wp2_with fail
                    go_ret
                    exact ⟨rfl, HB11.out.trans (h12.mono HB11.out.size)⟩
                  · rw [if_neg hz0] at hx3
                    have e0 : ((SB.size : Int) == 0) = false := beq_eq_false_iff_ne.2 (fun h => hz0 (Int.natCast_eq_zero.1 h))
                    have e1 : (0 : Int) < (SB.size : Int) := Int.natCast_pos.2 (Nat.pos_of_ne_zero hz0)
                    clear hz0
                    go_wp2_with fail
                    refine (hx3 _ HP11.out hNw11 HR11.out HC11.out).mono ?_
                    rintro e12 w12 ⟨rfl, h12⟩
                    clear hx3 hNw11 q0 q1 q2 q3 q4 q5
                    go_wp2_with fail
                    go_ret
                    exact ⟨rfl, HB11.out.trans (h12.mono HB11.out.size)⟩
end Go.Proofs.YtllklgalghmnfaaDoor
