/- All: which routes fit a path, the best first (the program). -/
import Derived.Test.YtefilalapkdegaaRouteStable
import Derived.Test.YtefilalapkdegaaRouteFits
namespace Go.Proofs.Ytefilalapkdegaa
open Go.RowKit Str Mem
set_option linter.unusedVariables false
set_option linter.unusedSimpArgs false

def fitsAt (L : List RtV) (p : List UInt8) (i : Nat) : Bool := (Route.fit (Dots.isOpen p) (lAt L i) (Dots.segments p)).isSome
def fitTo (L : List RtV) (p : List UInt8) (k : Nat) : List Int := ((List.range k).filter (fitsAt L p)).map fun (i : Nat) => (i : Int)
def allE (L : List RtV) (p : List UInt8) : Int := if (checkR L).1 ≠ 0 then (checkR L).1 else if Dots.normal p = true then 0 else 18
def allK (L : List RtV) (p : List UInt8) : List Int := if allE L p = 0 then Route.sorted (ltR L) (fitTo L p L.length) else []
theorem fitTo_succ (L : List RtV) (p : List UInt8) (k : Nat) : fitTo L p (k + 1) = fitTo L p k ++ if fitsAt L p k = true then [(k : Int)] else [] := by
  unfold fitTo
  rw [List.range_succ, List.filter_append, List.map_append]
  congr 1
  by_cases h : fitsAt L p k = true <;> simp [List.filter, h]
theorem fitTo_length (L : List RtV) (p : List UInt8) (k : Nat) : (fitTo L p k).length ≤ k := by
  unfold fitTo
  rw [List.length_map]
  exact Nat.le_trans (List.length_filter_le _ _) (by simp)
theorem fitTo_mem {L : List RtV} {p : List UInt8} {k : Nat} {x : Int} (h : x ∈ fitTo L p k) : ∃ i : Nat, x = (i : Int) ∧ i < k ∧ fitsAt L p i = true := by
  unfold fitTo at h
  obtain ⟨i, hi, rfl⟩ := List.mem_map.1 h
  obtain ⟨h1, h2⟩ := List.mem_filter.1 hi
  exact ⟨i, rfl, by simpa using h1, h2⟩
theorem fitTo_mono (L : List RtV) (p : List UInt8) {k m : Nat} (h : k ≤ m) : (fitTo L p k).length ≤ (fitTo L p m).length := by
  induction m with
  | zero => rw [show k = 0 by omega]; exact Nat.le_refl _
  | succ m ih =>
    rcases Nat.lt_or_ge k (m + 1) with h1 | h1
    · rw [fitTo_succ, List.length_append]; have := ih (by omega); omega
    · rw [show k = m + 1 by omega]; exact Nat.le_refl _
theorem sorted_nil (lt : Int → Int → Bool) : Route.sorted lt ([] : List Int) = [] := rfl

theorem ins_none (fv : Value) (w : World) : Calls Try.prog 88 #[.slice none 0 0, .int .i64 0, .int .i64 0, fv] w fun e w' => (∃ v, e = .returned v) ∧ w' = w := by
  go_enter Try.func88, Try.ntmps88
  go_wp2
  go_loopw [8, 9] (fun i _ wr => i = .int .i64 1 ∧ wr = w) (fun _ _ _ => 0)
  case atStart => exact ⟨rfl, rfl⟩
  case round =>
    obtain ⟨rfl, rfl⟩ := hrel
    go_wp2
    go_end0
    exact ⟨⟨_, rfl⟩, rfl⟩
theorem stable_none (fv : Value) (w : World) : Calls Try.prog 37 #[.slice none 0 0, fv] w fun e w' => (∃ v, e = .returned v) ∧ w' = w := by
  have hin : Calls Try.prog 60 #[.slice none 0 0, .int .i64 0, fv] w fun e w' => (∃ v, e = .returned v) ∧ w' = w := by
    have hi := ins_none fv w
    go_enter Try.func60, Try.ntmps60
    go_wp2
    go_loopw [7, 8] (fun a b wr => a = .int .i64 0 ∧ b = .int .i64 20 ∧ wr = w) (fun _ _ _ => 0)
    case atStart => exact ⟨rfl, rfl, rfl⟩
    case round =>
      obtain ⟨rfl, rfl, rfl⟩ := hrel
      go_wp2_with fail
      refine hi.mono ?_
      rintro e w1 ⟨⟨v, rfl⟩, rfl⟩
      go_wp2
      go_loopw [6, 7, 8, 9] (fun a _ _ _ wr => a = .int .i64 20 ∧ wr = w1) (fun _ _ _ _ _ => 0)
      case atStart => exact ⟨rfl, rfl⟩
      case round =>
        obtain ⟨rfl, rfl⟩ := hrel
        go_wp2
        go_end0
        exact ⟨⟨_, rfl⟩, rfl⟩
  go_enter Try.func37, Try.ntmps37
  go_wp2_with fail
  refine hin.mono ?_
  rintro e w1 ⟨⟨v, rfl⟩, rfl⟩
  go_wp2
  go_end0
  exact ⟨⟨_, rfl⟩, rfl⟩

theorem firstBad_nz {L : List RtV} : ∀ k, firstBad L k ≠ (0, 0) → (firstBad L k).1 ≠ 0
  | 0, h => absurd rfl h
  | k + 1, h => by
    rw [firstBad] at h ⊢
    split
    · rename_i h1; exact firstBad_nz k h1
    · rename_i h1
      rw [if_neg h1] at h
      cases hr : L[k]? with
      | none => rw [hr] at h; simp at h
      | some r =>
        rw [hr] at h
        simp only at h ⊢
        by_cases he : r.err = 0
        · simp [he] at h
        · rw [if_neg he]; exact he

theorem okField (b : Bool) (y1 y2 y3 y4 y5 y6 : Value) (w : World) : (Instr.field 43 (.agg #[.bool b, y1, y2, y3, y4, y5, y6]) 0).run Try.prog w = .ok (.bool b) w := by kernel_rfl
def AllPost (w : World) (L : List RtV) (p : List UInt8) (e : Ending) (w' : World) : Prop :=
  ∃ a c, e = .returned (.tuple #[.slice a (allK L p).length c, .int .i64 (allE L p)]) ∧ Ints w' a (allK L p).length (allK L p) ∧ (allK L p).length ≤ c ∧ c ≤ maxLen ∧ (∀ ad : Addr, a = some ad → w.heap.size ≤ ad.block) ∧ Below w.heap.size w w'
def AllI (w w2 : World) (L : List RtV) (p : List UInt8) (i out : Value) (wr : World) : Prop :=
  ∃ k : Nat, i = .int .i64 k ∧ k ≤ L.length ∧ Owns wr w2.heap.size 3 1 out (fitTo L p k).length ((fitTo L p k).map iv) ∧ Below w2.heap.size w2 wr

set_option maxRecDepth 20000 in
set_option maxHeartbeats 8000000 in
theorem vAll_all (a : Option Addr) (c : Nat) (L : List RtV) (p : ByteArray) (w : World) (h : Rts w a L) (hl : L.length ≤ 100000) :
    Calls Try.prog 8 #[.slice a L.length c, .string p] w fun e w' => AllPost w L p.data.toList e w' := by
  obtain ⟨i0, hi, hz0, hz1, hz2⟩ := info_of infoInt
  have hck := fun w' (hb : Below w.heap.size w w') => check_any a c L w' (h.below hb) hl
  have hno := fun w => normal_any p w
  unfold AllPost
  have hchk : checkR L = firstBad L L.length ∨ checkR L = (5, 0) := by unfold checkR; split <;> simp
  obtain ⟨ck, hckv⟩ : ∃ x, checkR L = x := ⟨_, rfl⟩
  obtain ⟨nb, hnb⟩ : ∃ b, Dots.normal p.data.toList = b := ⟨_, rfl⟩
  rw [hckv] at hck
  rw [hnb] at hno
  have HE := Lib.hid (show allE L p.data.toList = if ck.1 ≠ 0 then ck.1 else if nb = true then 0 else 18 by unfold allE; rw [hckv, hnb])
  have hb0 : Below w.heap.size w (w.alloc (.cells #[.slice a L.length c] 26)) := (Below.refl _ w).alloc (Nat.le_refl _) _
  have hx0 := Rd.one w 26 (.slice a L.length c)
  have hcell : ∀ W, Rd W 1 (some ⟨w.heap.size, 0, none⟩) 1 [.slice a L.length c] → W.cell? ⟨w.heap.size, 0, none⟩ = some (.slice a L.length c) := fun W hW => by
    obtain ⟨ad, e, _, hc⟩ := hW.get (by omega)
    cases e
    exact hc 0 _ rfl
  have p0 := hcell _ hx0
  by_cases hc0 : ck.1 = 0
  · have hc0b : (ck.1 == 0) = true := by rw [hc0]; rfl
    have hc0c : (ck.1 != 0) = false := by rw [hc0]; rfl
    rcases nb with _ | _
    · have Hx := Lib.hid (show allE L p.data.toList = 18 by rw [HE.out, if_neg (by simp [hc0])]; rfl)
      have Hk := Lib.hid (show allK L p.data.toList = [] by unfold allK; rw [Hx.out]; rfl)
      clear hc0 hckv hchk hnb
      go_enter Try.func8, Try.ntmps8
      go_wp2_with fail
      refine (hck _ hb0).mono ?_
      rintro e w1 ⟨rfl, g1⟩
      have hb1 := hb0.trans (g1.mono hb0.size)
      go_wp2_with fail
      refine (hno _).mono ?_
      rintro e w2 ⟨rfl, g2⟩
      go_wp2
      go_ret2
      rw [Hk.out, Hx.out]
      exact ⟨none, 0, rfl, Rd.nil _ _ _, Nat.le_refl _, by simp [maxLen], by simp, hb1.trans (g2.mono hb1.size)⟩
    · have Hx := Lib.hid (show allE L p.data.toList = 0 by rw [HE.out, if_neg (by simp [hc0])]; rfl)
      have Hk := Lib.hid (show allK L p.data.toList = Route.sorted (ltR L) (fitTo L p.data.toList L.length) by unfold allK; rw [Hx.out]; rfl)
      have hl32 : L.length ≤ 32 := by
        rcases Nat.lt_or_ge 32 L.length with h5 | h5
        · exfalso
          have h6 : checkR L = (5, 0) := by unfold checkR; rw [if_pos h5]
          rw [h6] at hckv
          rw [← hckv] at hc0
          cases hc0
        · exact h5
      have hgood : ∀ r ∈ L, r.err = 0 := by
        intro r hr
        obtain ⟨j, hj, e⟩ := List.mem_iff_getElem.1 hr
        rcases hchk with hq | hq
        · have hz : firstBad L L.length = (0, 0) := by
            rw [hq] at hckv
            have h1 : (firstBad L L.length).1 = 0 := by rw [hckv]; exact hc0
            rcases Decidable.em (firstBad L L.length = (0, 0)) with h2 | h2
            · exact h2
            · exfalso
              exact firstBad_nz L.length h2 h1
          exact firstBad_all L.length (Nat.le_refl _) hz j r hj (by rw [List.getElem?_eq_getElem hj, e])
        · rw [hq] at hckv
          rw [← hckv] at hc0
          cases hc0
      have hnn := hnb
      clear hc0 hckv hchk hnb
      go_enter Try.func8, Try.ntmps8
      go_wp2_with fail
      refine (hck _ hb0).mono ?_
      rintro e w1 ⟨rfl, g1⟩
      have hb1 := hb0.trans (g1.mono hb0.size)
      have hx1 := hx0.below g1
      go_wp2_with fail
      refine (hno _).mono ?_
      rintro e w2 ⟨rfl, g2⟩
      have hb2 := hb1.trans (g2.mono hb1.size)
      have hx2 := hx1.below g2
      have hB2 : w.heap.size < w2.heap.size := by have h1 := g1.size; have h2 := g2.size; simp at h1; omega
      have p2 := hcell _ hx2
      go_wp2
      go_loopw [28, 8, 9, 10] (fun i out _ _ wr => AllI w w2 L p.data.toList i out wr) (fun i _ _ _ _ => L.length - (intOf i).toNat)
      case atStart => exact ⟨0, rfl, Nat.zero_le _, Owns.nil _ _ _ _, Below.refl _ _⟩
      case round =>
        obtain ⟨k, rfl, hk, hown, hbl⟩ := hrel
        have hsz := hbl.size
        have hb := hb2.trans (hbl.mono hb2.size)
        by_cases hlt : k < L.length
        · obtain ⟨ad, r, rfl, hbb, hr, hmem, c0, c1, c2⟩ := (h.below hb).fields hlt
          have hba := hb.alloc (by have := hb.size; omega) (.cells #[.slice r.a r.l.length r.c, .int .i64 r.kd, .string ⟨r.t.toArray⟩] 35)
          have hbla := hbl.alloc hsz (.cells #[.slice r.a r.l.length r.c, .int .i64 r.kd, .string ⟨r.t.toArray⟩] 35)
          have hft := vfits_any r.a r.c r.l r.kd r.t p _ ((h.each r hmem).below hba) (hgood r hmem) hnn
          unfold rtv at hft
          have HF := Lib.hid (show fitsAt L p.data.toList k = (Route.fit (Dots.isOpen p.data.toList) r.l (Dots.segments p.data.toList)).isSome by unfold fitsAt lAt; rw [hr]; rfl)
          have HT := Lib.hid (fitTo_succ L p.data.toList k)
          have hkl := fitTo_length L p.data.toList k
          have j0 : (0 : Int) ≤ (k : Int) := by omega
          have j1 : (k : Int) < (L.length : Int) := by omega
          obtain ⟨o, ho⟩ : ∃ o, Route.fit (Dots.isOpen p.data.toList) r.l (Dots.segments p.data.toList) = o := ⟨_, rfl⟩
          rw [ho] at hft HF
          obtain ⟨X, hX⟩ : ∃ X, X = fitTo L p.data.toList k := ⟨_, rfl⟩
          rw [← hX] at hown hkl HT
          have hown1 := hown.alloc (.cells #[.slice r.a r.l.length r.c, .int .i64 r.kd, .string ⟨r.t.toArray⟩] 35)
          have hol : ∀ j, u8.ownBlock = some j → w2.heap.size ≤ j := fun j hj => (hown.lt j hj).1
          clear hr ho hX
          go_wp2_with fail
          refine hft.mono ?_
          rintro e w3 ⟨v, rfl, hF, g3⟩
          have hbl3 := hbla.trans (g3.mono (by simp; omega))
          have hown3 := hown1.below g3 (Nat.le_refl _)
          rcases o with _ | ⟨N, V, R⟩
          · obtain rfl := hF
            have hfld := fun w => okField false (.slice none 0 0) (.int .i64 0) (.string ⟨#[]⟩) (.slice none 0 0) (.slice none 0 0) (.string ⟨#[]⟩) w
            go_wp2
            refine ⟨⟨k + 1, by go_num, by omega, ?_, hbl3⟩, by simp [intOf]; omega⟩
            rw [HT.out, HF.out]
            simpa using hown3
          · obtain ⟨vl, vN, vV, rfl, ⟨a1, d1, rfl, _⟩, ⟨a2, d2, rfl, _⟩, ⟨a3, d3, rfl, _⟩⟩ := hF
            have hfld := fun w => okField true (.slice a1 r.l.length d1) (.int .i64 r.kd) (.string ⟨r.t.toArray⟩) (.slice a2 N.length d2) (.slice a3 V.length d3) (.string ⟨R.toArray⟩) w
            go_wp2_with (at_builtin; go_must (refine wpList_append_owns _ rfl _ _ 22 rfl w2.heap.size 3 i0 (.int .i64 0) 1 8 Try.underlying22 hi hz0 hz1 hz2 rfl (by decide) _ X.length (X.map iv) rfl (hown3.alloc _) (some ⟨w3.heap.size, 0, none⟩) 1 1 [.int .i64 k] rfl (Rd.one _ _ _) (by simp [Value.oneCell']) (by simp only [maxLen]; omega) (by omega) (by simp; have := hbl3.size; omega) ?_); intro v' w4 hown' hgrow)
            refine ⟨⟨k + 1, by go_num, by omega, ?_, (hbl3.alloc hbl3.size _).grown hgrow (by simp; have := hbl3.size; omega) hol⟩, by simp [intOf]; omega⟩
            rw [HT.out, HF.out]
            simp only [Option.isSome_some, if_true, List.length_append, List.map_append]
            exact hown'
        · obtain rfl : k = L.length := by omega
          have p3 := hcell _ (hx2.below hbl)
          obtain ⟨X, hX⟩ : ∃ X, X = fitTo L p.data.toList L.length := ⟨_, rfl⟩
          have hXm : ∀ x ∈ X, ∃ i : Nat, x = (i : Int) ∧ i < L.length := fun x hx => by
            rw [hX] at hx
            obtain ⟨i, e, hi, _⟩ := fitTo_mem hx
            exact ⟨i, e, hi⟩
          have hX32 : X.length ≤ 32 := by have := fitTo_length L p.data.toList L.length; rw [hX]; omega
          rw [← hX] at hown
          have HK := Lib.hid (show allK L p.data.toList = Route.sorted (ltR L) X by rw [Hk.out, hX])
          have HL := Lib.hid (show (allK L p.data.toList).length = X.length by rw [HK.out, Route.sorted_length])
          clear hX
          rcases hown.2 with ⟨rfl, hz⟩ | ⟨g, cap, cur, rfl, hbg, hg, hnc, hcm, hcs, ht⟩
          · have hX0 : X = [] := List.eq_nil_of_length_eq_zero hz
            subst hX0
            have hst := fun fv W => stable_none fv W
            go_wp2_with fail
            refine (hst _ _).mono ?_
            rintro e w5 ⟨⟨v, rfl⟩, rfl⟩
            go_wp2
            go_ret2
            rw [HK.out, Hx.out]
            exact ⟨none, 0, rfl, Rd.nil _ _ _, Nat.le_refl _, by simp [maxLen], by simp, hb⟩
          · have hgl := (Array.getElem?_eq_some_iff.1 hg).1
            rw [Nat.mul_one] at ht hcs
            have hcur : cur = (X.map iv ++ cur.toList.drop X.length).toArray := by
              rw [← ht, List.take_append_drop]
            obtain ⟨rest, hrest⟩ : ∃ rest, rest = cur.toList.drop X.length := ⟨_, rfl⟩
            rw [← hrest] at hcur
            rw [hcur] at hg
            have hst := stable_all 38 #[.pointer (some ⟨w.heap.size, 0, none⟩)] (enters_of Try.func38 (by kernel_rfl) rfl) (ltR L) (ltR_weak L) X g cap rest wr wr hX32 hnc w (cmpAll_ok a c L X g w.heap.size wr w h hgood hl hXm (hx2.below hbl) (by omega)) hg (Kp.refl _ _) hgl hb (by omega)
            clear hrest hcur ht hcs hown
            go_wp2_with fail
            refine hst.mono ?_
            rintro e w5 ⟨⟨v, rfl⟩, h1, h2, h3⟩
            go_wp2
            go_ret2
            rw [HL.out, Hx.out]
            refine ⟨some ⟨g, 0, none⟩, cap, rfl, ?_, hnc, hcm, by rintro ad q; cases q; show w.heap.size ≤ g; omega, h3⟩
            rw [HK.out]
            refine ⟨by simp [Route.sorted_length], fun _ => ⟨_, rfl, (Array.getElem?_eq_some_iff.1 h1).1, fun j u hu => ?_⟩⟩
            rw [add_flat, Nat.zero_add, row_cell h1, List.getElem?_append_left (by have := (List.getElem?_eq_some_iff.1 hu).1; exact this)]
            exact hu
  · have hc0b : (ck.1 == 0) = false := by simpa using hc0
    have hc0c : (ck.1 != 0) = true := by simpa using hc0
    have Hx := Lib.hid (show allE L p.data.toList = ck.1 by rw [HE.out, if_pos hc0])
    have Hk := Lib.hid (show allK L p.data.toList = [] by unfold allK; rw [Hx.out, if_neg hc0])
    clear hc0 hckv hchk hnb
    go_enter Try.func8, Try.ntmps8
    go_wp2_with fail
    refine (hck _ hb0).mono ?_
    rintro e w1 ⟨rfl, g1⟩
    go_wp2
    go_ret2
    rw [Hk.out, Hx.out]
    exact ⟨none, 0, rfl, Rd.nil _ _ _, Nat.le_refl _, by simp [maxLen], by simp, hb0.trans (g1.mono hb0.size)⟩
theorem vAll_any (a : Option Addr) (c : Nat) (L : List RtV) (p : ByteArray) (w : World) (h : Rts w a L) (hl : L.length ≤ 100000) (h20 : (fitTo L p.data.toList L.length).length < 20) :
    Calls Try.prog 8 #[.slice a L.length c, .string p] w fun e w' => AllPost w L p.data.toList e w' := vAll_all a c L p w h hl
end Go.Proofs.Ytefilalapkdegaa
