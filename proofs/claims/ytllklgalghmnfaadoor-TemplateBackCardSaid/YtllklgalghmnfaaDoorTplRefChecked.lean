/- The reference's checked, Check; Text of both. -/
import Derived.Test.YtllklgalghmnfaaDoorTplRefText
import Derived.Deep.LoopGhost
namespace Go.Proofs.YtllklgalghmnfaaDoor
open Go.RowKit Str Mem Tp
set_option linter.unusedVariables false
set_option linter.unusedSimpArgs false

theorem prevLit_at (L : List Part) (k : Nat) (y : Part) (h : L[k]? = some y) : prevLit L (k + 1) = (y.k == 1) := prevLit_next L k y h
set_option maxRecDepth 100000 in
set_option maxHeartbeats 4000000 in
theorem refChecked_any (a : Option Addr) (c : Nat) (L : List Part) (w : World) (hP : Parts w a L.length L) (hn : L.length ≤ 100000) (ht : ∀ p ∈ L, p.t.length ≤ 100000) :
    Calls Tryd.prog 63 #[.slice a L.length c] w fun e w' => e = .returned (.int .i64 (checkTo L false)) ∧ Below w.heap.size w w' := by
  obtain ⟨V, hV⟩ : ∃ V, checkTo L false = V := ⟨_, rfl⟩
  rw [hV]
  have HV := Lib.hid hV
  clear hV
  go_enter Tryd.func63, Tryd.ntmps63
  go_wp2_with fail
  go_loopg [3] L.length (fun g i wr => ∃ k : Nat, i = .int .i64 k ∧ k + g = L.length ∧ V = checkTo (L.drop k) (prevLit L k) ∧ Below w.heap.size w wr)
  case atStart => exact ⟨0, rfl, by omega, HV.out.symm, Below.refl _ _⟩
  case round =>
    obtain ⟨k, rfl, hk, hct, hbl⟩ := hrel
    have HCT := Lib.hid hct
    clear hct
    by_cases hlt : k < L.length
    · obtain ⟨g', rfl⟩ : ∃ g', gk = g' + 1 := ⟨gk - 1, by omega⟩
      obtain ⟨x, hx⟩ : ∃ x, L[k]? = some x := ⟨_, List.getElem?_eq_getElem hlt⟩
      have hPr : Parts wr a L.length L := Rd.keep hP hbl.size (fun _ _ _ h => hbl.block _ h)
      obtain ⟨ad, rfl, had, g0, g1, g2⟩ := Parts.get (L := L) hPr k x hx
      have hnx := Lib.hid (checkTo_next L k x hx)
      have hb0 := hbl.alloc hbl.size (.cells #[.int .i64 x.k, .string (bs x.t), .int .i64 x.n] 59)
      have i0 : (0 : Int) ≤ (k : Int) := by omega
      have i1 : (k : Int) < (L.length : Int) := by omega
      have hprev : k = 0 ∧ prevLit L k = false ∨ ∃ j y, k = j + 1 ∧ L[j]? = some y ∧ prevLit L k = (y.k == 1) := by
        rcases k with _ | j
        · exact .inl ⟨rfl, rfl⟩
        · obtain ⟨y, hy⟩ : ∃ y, L[j]? = some y := ⟨_, List.getElem?_eq_getElem (by omega)⟩
          exact .inr ⟨j, y, rfl, hy, prevLit_next L j y hy⟩
      have HPV := Lib.hid hprev
      have HPr := Lib.hid hPr
      obtain ⟨T, hT⟩ : ∃ T, T = bs x.t := ⟨_, rfl⟩
      have hTe : T.toList.isEmpty = x.t.isEmpty := by rw [hT, toList_data, data_bs]
      have HTE := Lib.hid hTe
      rw [← hT] at g1 hb0
      have lad := had
      clear hx hprev hPr hT hTe
      by_cases hk : x.k = 1
      · have b1 : (x.k == 1) = true := by rw [hk]; rfl
        have hlo : lowR x.k = 0 := by rw [hk]; rfl
        have hhi : highR x.k = 0 := by rw [hk]; rfl
        have hkr : ¬ (x.k < 1 ∨ 4 < x.k) := by omega
        by_cases hl : x.n < 0
        · have hE : oneE x = 2 := by unfold oneE; rw [if_neg hkr, if_pos (by rw [hlo]; exact .inl hl)]
          have HE := Lib.hid hE
          clear hE hlo hhi hkr hk
          go_wp2_with fail
          go_ret
          exact ⟨by rw [HCT.out, hnx.out, HE.out, if_pos (by decide)]; rfl, hb0⟩
        by_cases hh : 0 < x.n
        · have hE : oneE x = 2 := by unfold oneE; rw [if_neg hkr, if_pos (by rw [hhi]; exact .inr hh)]
          have HE := Lib.hid hE
          clear hE hlo hhi hkr hk
          go_wp2_with fail
          go_ret
          exact ⟨by rw [HCT.out, hnx.out, HE.out, if_pos (by decide)]; rfl, hb0⟩
        have hnr : ¬ (x.n < lowR x.k ∨ highR x.k < x.n) := by rw [hlo, hhi]; omega
        by_cases hte : x.t = []
        · have hE : oneE x = 3 := by unfold oneE; rw [if_neg hkr, if_neg hnr, if_pos (by simp [hk, hte])]
          have hTe : T.toList.isEmpty = true := by rw [HTE.out, hte]; rfl
          have HE := Lib.hid hE
          clear hE hlo hhi hkr hk hnr hte
          go_wp2_with fail
          go_ret
          exact ⟨by rw [HCT.out, hnx.out, HE.out, if_pos (by decide)]; rfl, hb0⟩
        have hE : oneE x = 0 := by unfold oneE; rw [if_neg hkr, if_neg hnr, if_neg (by simp [hk, hte])]
        have hTe : T.toList.isEmpty = false := by rw [HTE.out]; simpa using hte
        have HE := Lib.hid hE
        have HK := Lib.hid hk
        clear hE hlo hhi hkr hk hnr hte
        rcases HPV.out with ⟨hk0, hpv⟩ | ⟨j, y, hkj, hy, hpv⟩
        · have HPF := Lib.hid hpv
          have hp : ¬ (0 : Int) < (k : Int) := by omega
          clear hpv hk0
          go_wp2_with fail
          go_roundg g'
          case measure => omega
          case rel => exact ⟨k + 1, by go_num, by omega, by rw [HCT.out, hnx.out, HE.out, if_neg (by simp), if_neg (by rw [HPF.out]; simp)], hb0⟩
        obtain ⟨ad2, e2, _, y0, _, _⟩ := Parts.get (L := L) (Rd.alloc HPr.out (.cells #[.int .i64 x.k, .string T, .int .i64 x.n] 59)) j y hy
        cases e2
        have hp : (0 : Int) < (k : Int) := by omega
        have j0 : (0 : Int) ≤ (k : Int) - 1 := by omega
        have j1 : (k : Int) - 1 < (L.length : Int) := by omega
        have j2 : ((k : Int) - 1).toNat = j := by omega
        have j3 : (1 : Int) ≤ (k : Int) := by omega
        rcases hyk : (y.k == 1) with _ | _
        · have HPF : Hid (prevLit L k = false) := Lib.hid (by rw [hpv, hyk])
          clear hpv hy hkj
          go_wp2_with fail
          go_roundg g'
          case measure => omega
          case rel => exact ⟨k + 1, by go_num, by omega, by rw [HCT.out, hnx.out, HE.out, if_neg (by simp), if_neg (by rw [HPF.out]; simp)], hb0⟩
        · have HPF : Hid (prevLit L k = true) := Lib.hid (by rw [hpv, hyk])
          clear hpv hy hkj
          go_wp2_with fail
          go_ret
          exact ⟨by rw [HCT.out, hnx.out, HE.out, if_neg (by simp), if_pos ⟨HK.out, HPF.out⟩]; rfl, hb0⟩
      have n1 : (x.k == 1) = false := by simpa using hk
      have m1 : x.k ≠ 1 := hk
      clear hk
      by_cases hk : x.k = 2
      · have b1 : (x.k == 1) = false := by rw [hk]; rfl
        have b2 : (x.k == 2) = true := by rw [hk]; rfl
        have hlo : lowR x.k = 0 := by rw [hk]; rfl
        have hhi : highR x.k = 9 := by rw [hk]; rfl
        have hkr : ¬ (x.k < 1 ∨ 4 < x.k) := by omega
        by_cases hl : x.n < 0
        · have hE : oneE x = 2 := by unfold oneE; rw [if_neg hkr, if_pos (by rw [hlo]; exact .inl hl)]
          have HE := Lib.hid hE
          clear hE hlo hhi hkr hk
          go_wp2_with fail
          go_ret
          exact ⟨by rw [HCT.out, hnx.out, HE.out, if_pos (by decide)]; rfl, hb0⟩
        by_cases hh : 9 < x.n
        · have hE : oneE x = 2 := by unfold oneE; rw [if_neg hkr, if_pos (by rw [hhi]; exact .inr hh)]
          have HE := Lib.hid hE
          clear hE hlo hhi hkr hk
          go_wp2_with fail
          go_ret
          exact ⟨by rw [HCT.out, hnx.out, HE.out, if_pos (by decide)]; rfl, hb0⟩
        have hnr : ¬ (x.n < lowR x.k ∨ highR x.k < x.n) := by rw [hlo, hhi]; omega
        by_cases hte : x.t = []
        · have hE : oneE x = 0 := by unfold oneE; rw [if_neg hkr, if_neg hnr, if_neg (by simp [hk, hte])]
          have hTe : T.toList.isEmpty = true := by rw [HTE.out, hte]; rfl
          have hk1 : x.k ≠ 1 := by omega
          have b10 : (x.k == 1) = false := by simpa using hk1
          have HE := Lib.hid hE
          have HK := Lib.hid hk1
          clear hE hlo hhi hkr hk hnr hte hk1
          go_wp2_with fail
          go_roundg g'
          case measure => omega
          case rel => exact ⟨k + 1, by go_num, by omega, by rw [HCT.out, hnx.out, HE.out, if_neg (by simp), if_neg (fun h => HK.out h.1)], hb0⟩
        have hE : oneE x = 3 := by unfold oneE; rw [if_neg hkr, if_neg hnr, if_pos (by simp [hk, hte])]
        have hTe : T.toList.isEmpty = false := by rw [HTE.out]; simpa using hte
        have b10 : (x.k == 1) = false := by rw [hk]; rfl
        have HE := Lib.hid hE
        clear hE hlo hhi hkr hk hnr hte
        go_wp2_with fail
        go_ret
        exact ⟨by rw [HCT.out, hnx.out, HE.out, if_pos (by decide)]; rfl, hb0⟩
      have n2 : (x.k == 2) = false := by simpa using hk
      have m2 : x.k ≠ 2 := hk
      clear hk
      by_cases hk : x.k = 3
      · have b1 : (x.k == 1) = false := by rw [hk]; rfl
        have b2 : (x.k == 2) = false := by rw [hk]; rfl
        have b3 : (x.k == 3) = true := by rw [hk]; rfl
        have hlo : lowR x.k = 0 := by rw [hk]; rfl
        have hhi : highR x.k = 9 := by rw [hk]; rfl
        have hkr : ¬ (x.k < 1 ∨ 4 < x.k) := by omega
        by_cases hl : x.n < 0
        · have hE : oneE x = 2 := by unfold oneE; rw [if_neg hkr, if_pos (by rw [hlo]; exact .inl hl)]
          have HE := Lib.hid hE
          clear hE hlo hhi hkr hk
          go_wp2_with fail
          go_ret
          exact ⟨by rw [HCT.out, hnx.out, HE.out, if_pos (by decide)]; rfl, hb0⟩
        by_cases hh : 9 < x.n
        · have hE : oneE x = 2 := by unfold oneE; rw [if_neg hkr, if_pos (by rw [hhi]; exact .inr hh)]
          have HE := Lib.hid hE
          clear hE hlo hhi hkr hk
          go_wp2_with fail
          go_ret
          exact ⟨by rw [HCT.out, hnx.out, HE.out, if_pos (by decide)]; rfl, hb0⟩
        have hnr : ¬ (x.n < lowR x.k ∨ highR x.k < x.n) := by rw [hlo, hhi]; omega
        by_cases hte : x.t = []
        · have hE : oneE x = 0 := by unfold oneE; rw [if_neg hkr, if_neg hnr, if_neg (by simp [hk, hte])]
          have hTe : T.toList.isEmpty = true := by rw [HTE.out, hte]; rfl
          have hk1 : x.k ≠ 1 := by omega
          have b10 : (x.k == 1) = false := by simpa using hk1
          have HE := Lib.hid hE
          have HK := Lib.hid hk1
          clear hE hlo hhi hkr hk hnr hte hk1
          go_wp2_with fail
          go_roundg g'
          case measure => omega
          case rel => exact ⟨k + 1, by go_num, by omega, by rw [HCT.out, hnx.out, HE.out, if_neg (by simp), if_neg (fun h => HK.out h.1)], hb0⟩
        have hE : oneE x = 3 := by unfold oneE; rw [if_neg hkr, if_neg hnr, if_pos (by simp [hk, hte])]
        have hTe : T.toList.isEmpty = false := by rw [HTE.out]; simpa using hte
        have b10 : (x.k == 1) = false := by rw [hk]; rfl
        have HE := Lib.hid hE
        clear hE hlo hhi hkr hk hnr hte
        go_wp2_with fail
        go_ret
        exact ⟨by rw [HCT.out, hnx.out, HE.out, if_pos (by decide)]; rfl, hb0⟩
      have n3 : (x.k == 3) = false := by simpa using hk
      have m3 : x.k ≠ 3 := hk
      clear hk
      by_cases hk : x.k = 4
      · have b1 : (x.k == 1) = false := by rw [hk]; rfl
        have b2 : (x.k == 2) = false := by rw [hk]; rfl
        have b3 : (x.k == 3) = false := by rw [hk]; rfl
        have b4 : (x.k == 4) = true := by rw [hk]; rfl
        have hlo : lowR x.k = 1 := by rw [hk]; rfl
        have hhi : highR x.k = 4 := by rw [hk]; rfl
        have hkr : ¬ (x.k < 1 ∨ 4 < x.k) := by omega
        by_cases hl : x.n < 1
        · have hE : oneE x = 2 := by unfold oneE; rw [if_neg hkr, if_pos (by rw [hlo]; exact .inl hl)]
          have HE := Lib.hid hE
          clear hE hlo hhi hkr hk
          go_wp2_with fail
          go_ret
          exact ⟨by rw [HCT.out, hnx.out, HE.out, if_pos (by decide)]; rfl, hb0⟩
        by_cases hh : 4 < x.n
        · have hE : oneE x = 2 := by unfold oneE; rw [if_neg hkr, if_pos (by rw [hhi]; exact .inr hh)]
          have HE := Lib.hid hE
          clear hE hlo hhi hkr hk
          go_wp2_with fail
          go_ret
          exact ⟨by rw [HCT.out, hnx.out, HE.out, if_pos (by decide)]; rfl, hb0⟩
        have hnr : ¬ (x.n < lowR x.k ∨ highR x.k < x.n) := by rw [hlo, hhi]; omega
        by_cases hte : x.t = []
        · have hE : oneE x = 0 := by unfold oneE; rw [if_neg hkr, if_neg hnr, if_neg (by simp [hk, hte])]
          have hTe : T.toList.isEmpty = true := by rw [HTE.out, hte]; rfl
          have hk1 : x.k ≠ 1 := by omega
          have b10 : (x.k == 1) = false := by simpa using hk1
          have HE := Lib.hid hE
          have HK := Lib.hid hk1
          clear hE hlo hhi hkr hk hnr hte hk1
          go_wp2_with fail
          go_roundg g'
          case measure => omega
          case rel => exact ⟨k + 1, by go_num, by omega, by rw [HCT.out, hnx.out, HE.out, if_neg (by simp), if_neg (fun h => HK.out h.1)], hb0⟩
        have hE : oneE x = 3 := by unfold oneE; rw [if_neg hkr, if_neg hnr, if_pos (by simp [hk, hte])]
        have hTe : T.toList.isEmpty = false := by rw [HTE.out]; simpa using hte
        have b10 : (x.k == 1) = false := by rw [hk]; rfl
        have HE := Lib.hid hE
        clear hE hlo hhi hkr hk hnr hte
        go_wp2_with fail
        go_ret
        exact ⟨by rw [HCT.out, hnx.out, HE.out, if_pos (by decide)]; rfl, hb0⟩
      have n4 : (x.k == 4) = false := by simpa using hk
      have m4 : x.k ≠ 4 := hk
      clear hk
      have hE : oneE x = 10 := by unfold oneE; rw [if_pos (by omega)]
      have HE := Lib.hid hE
      clear hE m1 m2 m3 m4
      go_wp2_with fail
      go_ret
      exact ⟨by rw [HCT.out, hnx.out, HE.out, if_pos (by decide)]; rfl, hb0⟩
    · obtain rfl : k = L.length := by omega
      have hct := HCT.out
      rw [List.drop_length, checkTo] at hct
      have HC := Lib.hid hct
      clear hct HCT
      go_wp2_with fail
      go_ret
      exact ⟨by rw [HC.out]; rfl, hbl⟩

theorem checkTo_fit : ∀ (L : List Part) (b : Bool), checkTo L b = 0 → ∀ p ∈ L, oneE p = 0
  | [], b, h, p, hp => by simp at hp
  | x :: L, b, h, p, hp => by
    rw [checkTo] at h
    split at h
    · rename_i h1; exact absurd h h1
    · rename_i h1
      split at h
      · cases h
      · rcases List.mem_cons.1 hp with rfl | hp
        · simpa using h1
        · exact checkTo_fit L _ h p hp
set_option maxRecDepth 100000 in
set_option maxHeartbeats 4000000 in
theorem refCheck_any (a : Option Addr) (c : Nat) (L : List Part) (w : World) (hP : Parts w a L.length L) (hn : L.length ≤ 100000) (ht : ∀ p ∈ L, p.t.length ≤ 100000) :
    Calls Tryd.prog 25 #[.slice a L.length c] w fun e w' => e = .returned (.int .i64 (checkR L)) ∧ Below w.heap.size w w' := by
  obtain ⟨V, hV⟩ : ∃ V, checkR L = V := ⟨_, rfl⟩
  rw [hV]
  have HV := Lib.hid hV
  clear hV
  have hq := fun W h => refChecked_any a c L W h hn ht
  have hfit : checkTo L false = 0 → ∀ p ∈ L, fitX p := fun h p hp => one_fitX p (checkTo_fit L false h p hp) (ht p hp)
  have HF := Lib.hid hfit
  obtain ⟨E, hE⟩ : ∃ E, checkTo L false = E := ⟨_, rfl⟩
  rw [hE] at hq
  have HE := Lib.hid hE
  clear hE hfit ht
  go_enter Tryd.func25, Tryd.ntmps25
  go_wp2_with fail
  refine (hq _ hP).mono ?_
  rintro e w1 ⟨rfl, h1⟩
  by_cases hE0 : E = 0
  · subst hE0
    have htx := fun W h => refText_any a c L W h hn (HF.out HE.out)
    obtain ⟨B, hB⟩ : ∃ B, bs (textP L) = B := ⟨_, rfl⟩
    have hBs : (B.size : Int) = ((textP L).length : Int) := by rw [← hB, size_bs]
    have HBs := Lib.hid hBs
    rw [hB] at htx
    have hP1 : Parts w1 a L.length L := Rd.below hP h1
    have HP1 := Lib.hid hP1
    clear hB hBs hP1 hP
    go_wp2_with fail
    refine (htx _ HP1.out).mono ?_
    rintro e w2 ⟨rfl, h2⟩
    by_cases h96 : 96 < B.size
    · have h96' : (96 : Int) < (B.size : Int) := by omega
      go_wp2_with fail
      go_ret
      exact ⟨by rw [← HV.out]; unfold checkR; rw [HE.out, if_neg (by simp), if_pos (by have := HBs.out; omega)]; rfl, h1.trans (h2.mono h1.size)⟩
    · have h96' : ¬ (96 : Int) < (B.size : Int) := by omega
      go_wp2_with fail
      go_ret
      exact ⟨by rw [← HV.out]; unfold checkR; rw [HE.out, if_neg (by simp), if_neg (by have := HBs.out; omega)]; rfl, h1.trans (h2.mono h1.size)⟩
  · have hE1 : (E == 0) = false := by simpa using hE0
    go_wp2_with fail
    go_ret
    exact ⟨by rw [← HV.out]; unfold checkR; rw [HE.out, if_pos hE0]; rfl, h1⟩
end Go.Proofs.YtllklgalghmnfaaDoor
