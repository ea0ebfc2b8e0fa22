/- Plainly: lists of the same routes are checked, found and hidden alike; two routes have one form where they are alike. No program. -/
import Derived.Test.YtefilalapkdegaaRouteFindG
import Derived.Test.YtefilalapkdegaaRouteHidden
import Derived.Test.YtefilalapkdegaaRouteRAll
import Derived.Test.YtefilalapkdegaaRouteAwake
namespace Go.Proofs.Ytefilalapkdegaa.Route
set_option linter.unusedVariables false

theorem brace_free {s : Bs} {b : Bool} (h : segOk s b = true) : 47 ∉ brace s := by
  unfold brace
  by_cases hk : kind s = 2
  · rw [if_pos hk]; decide
  · rw [if_neg hk]
    unfold segOk at h
    by_cases hp : param s = true
    · exfalso
      unfold param at hp
      have h1 : s.head? = some 123 := by simp at hp; exact hp.1.2
      exact hk (by unfold kind; rw [h1]; decide)
    · rw [if_neg hp] at h
      by_cases h42 : (s == [42]) = true
      · have : s = [42] := by simpa using h42
        rw [this]; decide
      · rw [if_neg h42] at h
        unfold nameOk at h
        simp only [Bool.and_eq_true] at h
        intro hm
        have := List.all_eq_true.1 h.2 47 hm
        revert this
        decide
theorem brace_eq {s t : Bs} (hs : s.head? = some 42 → s = [42]) (ht : t.head? = some 42 → t = [42]) : brace s = brace t ↔ (kind s = kind t ∧ (kind s = 1 → s = t)) := by
  have k2 : ∀ s : Bs, kind s = 2 ↔ s.head? = some 123 := fun s => by
    unfold kind
    by_cases h : s.head? = some 42
    · rw [if_pos h, h]; decide
    · rw [if_neg h]
      by_cases h2 : s.head? = some 123
      · rw [if_pos h2, h2]; simp
      · rw [if_neg h2]; simp [h2]
  have k3 : ∀ s : Bs, kind s = 3 → s.head? = some 42 := fun s h => by
    unfold kind at h
    by_cases h2 : s.head? = some 42
    · exact h2
    · rw [if_neg h2] at h
      split at h <;> cases h
  have kk : ∀ s : Bs, kind s = 1 ∨ kind s = 2 ∨ kind s = 3 := fun s => by unfold kind; split <;> (try split) <;> simp
  unfold brace
  by_cases h1 : kind s = 2
  · rw [if_pos h1, h1]
    by_cases h2 : kind t = 2
    · rw [if_pos h2, h2]; simp
    · rw [if_neg h2]
      constructor
      · intro e; exact absurd ((k2 t).2 (by rw [← e]; rfl)) h2
      · rintro ⟨e, _⟩; exact absurd e.symm h2
  · rw [if_neg h1]
    by_cases h2 : kind t = 2
    · rw [if_pos h2]
      constructor
      · intro e; exact absurd ((k2 s).2 (by rw [e]; rfl)) h1
      · rintro ⟨e, _⟩; exact absurd (e.trans h2) h1
    · rw [if_neg h2]
      constructor
      · rintro rfl; exact ⟨rfl, fun _ => rfl⟩
      · rintro ⟨e, hn⟩
        rcases kk s with h | h | h
        · exact hn h
        · exact absurd h h1
        · rw [hs (k3 s h), ht (k3 t (e ▸ h))]
/-- Two valid routes have one form where they are alike. -/
theorem same_alike {a b : List Bs} {ka kb : Int} {ta tb : Bs} (ha : err a ka ta = 0) (hb : err b kb tb = 0) : same a b = alike a b := by
  have fa := fine_of ha
  have fb := fine_of hb
  have sa := (err_ok ha).2.1
  have sb := (err_ok hb).2.1
  have free : ∀ l : List Bs, segsOk l = true → ∀ x ∈ l.map brace, 47 ∉ x := fun l hl x hx => by
    obtain ⟨s, hs, rfl⟩ := List.mem_map.1 hx
    obtain ⟨i, hi, rfl⟩ := List.mem_iff_getElem.1 hs
    have := segsOk_at hl hi
    unfold okAt at this
    rw [nth_get (List.getElem?_eq_getElem hi)] at this
    exact brace_free this
  unfold same alike
  by_cases hl : a.length = b.length
  · rw [show (a.length == b.length) = true by simpa using hl, decide_eq_true hl, Bool.and_true, Bool.true_and]
    have hin : (formOf a == formOf b) = true ↔ a.map brace = b.map brace := by
      rw [beq_iff_eq]
      unfold formOf
      constructor
      · intro e
        by_cases h0 : a = []
        · subst h0
          have : b = [] := List.length_eq_zero_iff.1 (by simpa using hl.symm)
          rw [this]
        · have hb0 : b ≠ [] := fun h => h0 (List.length_eq_zero_iff.1 (by rw [hl, h]; rfl))
          have e1 := Dots.split_glue (a.map brace) (by simpa using h0) (free a sa)
          have e2 := Dots.split_glue (b.map brace) (by simpa using hb0) (free b sb)
          rw [← e1, ← e2, e]
      · intro e; rw [e]
    have hal : (List.range a.length).all (alikeAt a b) = true ↔ a.map brace = b.map brace := by
      rw [List.all_eq_true]
      have hat : ∀ i, i < a.length → (alikeAt a b i = true ↔ brace (nth a i) = brace (nth b i)) := fun i hi => by
        have h1 := fa (nth a i) (List.mem_of_getElem? (nth_some hi))
        have h2 := fb (nth b i) (List.mem_of_getElem? (nth_some (by omega)))
        rw [brace_eq h1.2 h2.2]
        unfold alikeAt
        simp only [Bool.and_eq_true, Bool.or_eq_true, decide_eq_true_eq, Bool.not_eq_true', decide_eq_false_iff_not, beq_iff_eq]
        constructor
        · rintro ⟨h3, h4⟩; exact ⟨h3, fun h5 => h4.resolve_left (fun h6 => h6 h5)⟩
        · rintro ⟨h3, h4⟩
          refine ⟨h3, ?_⟩
          by_cases h5 : kind (nth a i) = 1
          · exact .inr (h4 h5)
          · exact .inl h5
      constructor
      · intro h
        refine List.ext_getElem? fun i => ?_
        rw [List.getElem?_map, List.getElem?_map]
        by_cases hi : i < a.length
        · rw [nth_some hi, nth_some (show i < b.length by omega)]
          show some _ = some _
          rw [(hat i hi).1 (h i (by simpa using hi))]
        · rw [List.getElem?_eq_none (by omega), List.getElem?_eq_none (by omega)]
      · intro e i hi
        have hi : i < a.length := by simpa using hi
        rw [hat i hi]
        have := congrArg (fun l => l[i]?) e
        simp only [List.getElem?_map] at this
        rw [nth_some hi, nth_some (show i < b.length by omega)] at this
        simpa using this
    rw [Bool.eq_iff_iff, hin, hal]
  · rw [show (a.length == b.length) = false by simpa using hl, decide_eq_false hl]
    simp
end Go.Proofs.Ytefilalapkdegaa.Route
namespace Go.Proofs.Ytefilalapkdegaa
open Str Mem
/-! ### The same routes, wherever they lie -/
section
variable {A B : List RtV} {p : List UInt8}
theorem SameR.get (h : SameR A B) (k : Nat) : (A[k]?).map core = (B[k]?).map core := by
  unfold SameR at h
  have := congrArg (fun l => l[k]?) h
  simpa using this
theorem SameR.cases (h : SameR A B) (k : Nat) : (A[k]? = none ∧ B[k]? = none) ∨ ∃ r s : RtV, A[k]? = some r ∧ B[k]? = some s ∧ r.l = s.l ∧ r.kd = s.kd ∧ r.t = s.t := by
  have e := h.get k
  cases ha : A[k]? with
  | none =>
    cases hb : B[k]? with
    | none => exact .inl ⟨rfl, rfl⟩
    | some s => rw [ha, hb] at e; cases e
  | some r =>
    cases hb : B[k]? with
    | none => rw [ha, hb] at e; cases e
    | some s =>
      rw [ha, hb] at e
      have e : core r = core s := by simpa using e
      unfold core at e
      injection e with e1 e2
      injection e2 with e2 e3
      exact .inr ⟨r, s, rfl, rfl, e1, e2, e3⟩
theorem SameR.lAt (h : SameR A B) (k : Nat) : lAt A k = lAt B k := by
  unfold Proofs.Ytefilalapkdegaa.lAt
  rcases h.cases k with ⟨h1, h2⟩ | ⟨r, s, h1, h2, h3, _⟩
  · rw [h1, h2]
  · rw [h1, h2]; show r.l = s.l; exact h3
theorem SameR.firstBad (h : SameR A B) : ∀ k, firstBad A k = firstBad B k
  | 0 => rfl
  | k + 1 => by
    rw [Proofs.Ytefilalapkdegaa.firstBad, Proofs.Ytefilalapkdegaa.firstBad, h.firstBad k]
    rcases h.cases k with ⟨h1, h2⟩ | ⟨r, s, h1, h2, h3, h4, h5⟩
    · rw [h1, h2]
    · have he : r.err = s.err := by unfold RtV.err; rw [h3, h4, h5]
      rw [h1, h2]
      show (if _ then _ else (if r.err = 0 then (0, 0) else (r.err, (k : Int)))) = (if _ then _ else (if s.err = 0 then (0, 0) else (s.err, (k : Int))))
      rw [he]
theorem SameR.checkR (h : SameR A B) : checkR A = checkR B := by
  unfold Proofs.Ytefilalapkdegaa.checkR
  rw [h.len, h.firstBad]
theorem SameR.allE (h : SameR A B) : allE A p = allE B p := by unfold Proofs.Ytefilalapkdegaa.allE; rw [h.checkR]
theorem SameR.fitsAt (h : SameR A B) (i : Nat) : fitsAt A p i = fitsAt B p i := by unfold Proofs.Ytefilalapkdegaa.fitsAt; rw [h.lAt]
theorem SameR.fitTo (h : SameR A B) (k : Nat) : fitTo A p k = fitTo B p k := by
  unfold Proofs.Ytefilalapkdegaa.fitTo
  rw [show Proofs.Ytefilalapkdegaa.fitsAt A p = Proofs.Ytefilalapkdegaa.fitsAt B p from funext h.fitsAt]
theorem SameR.ltR (h : SameR A B) : ltR A = ltR B := by
  funext x y; unfold Proofs.Ytefilalapkdegaa.ltR; rw [h.lAt, h.lAt]
theorem SameR.allK (h : SameR A B) : allK A p = allK B p := by unfold Proofs.Ytefilalapkdegaa.allK; rw [h.allE, h.ltR, h.len, h.fitTo]
theorem SameR.findN (h : SameR A B) : findN A p = findN B p := by unfold Proofs.Ytefilalapkdegaa.findN; rw [h.allE, h.allK]
theorem SameR.firstK (h : SameR A B) : firstK A p = firstK B p := by unfold Proofs.Ytefilalapkdegaa.firstK; rw [h.allE, h.allK]
/-- What is found, as one value. -/
def fdAll (L : List RtV) (p : List UInt8) : FD := match firstK L p with
  | none => ⟨false, [], 0, [], [], [], []⟩
  | some i => match L[i]? with
    | none => ⟨false, [], 0, [], [], [], []⟩
    | some r => fdOf r.l r.kd r.t (Route.fit (Dots.isOpen p) r.l (Dots.segments p))
theorem SameR.fdAll (h : SameR A B) : fdAll A p = fdAll B p := by
  unfold Proofs.Ytefilalapkdegaa.fdAll
  rw [h.firstK]
  cases Proofs.Ytefilalapkdegaa.firstK B p with
  | none => rfl
  | some i =>
    simp only
    rcases h.cases i with ⟨h1, h2⟩ | ⟨r, s, h1, h2, h3, h4, h5⟩
    · rw [h1, h2]
    · rw [h1, h2]; simp only [h3, h4, h5]
theorem FindIs.all {w : World} {b : Nat} {L : List RtV} {v : Value} (h : FindIs w b L p v) : FForm w (fdAll L p) v := by
  unfold FindIs at h
  unfold Proofs.Ytefilalapkdegaa.fdAll
  cases hk : Proofs.Ytefilalapkdegaa.firstK L p with
  | none => rw [hk] at h; exact ⟨none, 0, none, 0, none, 0, h, Rd.nil _ _ _, Rd.nil _ _ _, Rd.nil _ _ _⟩
  | some i =>
    rw [hk] at h
    obtain ⟨r, hr, h⟩ := h
    simp only [hr]
    exact h.form
theorem fdAll_small (L : List RtV) (p : List UInt8) : (fdAll L p).l.length ≤ 100000 ∧ (fdAll L p).N.length ≤ 100000 ∧ (fdAll L p).V.length ≤ 100000 := by
  unfold Proofs.Ytefilalapkdegaa.fdAll
  cases hk : Proofs.Ytefilalapkdegaa.firstK L p with
  | none => simp
  | some i =>
    cases hr : L[i]? with
    | none => simp [hr]
    | some r =>
      simp only [hr]
      have he : Proofs.Ytefilalapkdegaa.allE L p = 0 := by
        unfold Proofs.Ytefilalapkdegaa.firstK at hk
        by_cases h0 : Proofs.Ytefilalapkdegaa.allE L p ≠ 0
        · rw [if_pos h0] at hk; cases hk
        · simpa using h0
      have hl := (Route.err_ok ((allE_good he).1 r (List.mem_of_getElem? hr))).1
      cases hf : Route.fit (Dots.isOpen p) r.l (Dots.segments p) with
      | none => simp [fdOf]
      | some x =>
        obtain ⟨N, V, R⟩ := x
        have := fit_len _ _ _ hf
        simp only [fdOf]
        simp only at this
        omega
theorem SameR.hidK (h : SameR A B) : hidK A = hidK B := by
  have hm : A.map RtV.l = B.map RtV.l := by
    have := congrArg (List.map (fun c : List (List UInt8) × Int × List UInt8 => c.1)) (show A.map core = B.map core from h)
    simpa [core, Function.comp_def] using this
  have ha : Proofs.Ytefilalapkdegaa.hidAt A = Proofs.Ytefilalapkdegaa.hidAt B := by
    funext i
    unfold Proofs.Ytefilalapkdegaa.hidAt
    rw [h.lAt, List.map_take, List.map_take, hm]
  unfold Proofs.Ytefilalapkdegaa.hidK Proofs.Ytefilalapkdegaa.hidTo
  rw [h.checkR, h.len, ha]
/-- The program's and the reference's hidden routes. -/
theorem hid_eq (L : List RtV) : hidK L = rhK L := by
  unfold Proofs.Ytefilalapkdegaa.hidK rhK
  by_cases hc : (Proofs.Ytefilalapkdegaa.checkR L).1 = 0
  · rw [if_pos hc, if_pos hc]
    have hg := (checkR_good hc).2
    unfold Proofs.Ytefilalapkdegaa.hidTo rhTo
    congr 1
    refine List.filter_congr fun i hi => ?_
    have hi : i < L.length := by simpa using hi
    have hgi := hg _ (List.getElem_mem hi)
    have hli : Proofs.Ytefilalapkdegaa.lAt L i = L[i].l := lAt_of (List.getElem?_eq_getElem hi)
    unfold Proofs.Ytefilalapkdegaa.hidAt rhAny
    rw [Bool.eq_iff_iff, List.any_eq_true, List.any_eq_true]
    constructor
    · rintro ⟨x, hx, he⟩
      obtain ⟨r, hr, rfl⟩ := List.mem_map.1 hx
      obtain ⟨j, hj, rfl⟩ := List.mem_iff_getElem.1 hr
      rw [List.length_take] at hj
      rw [List.getElem_take] at he
      refine ⟨j, by simp; omega, ?_⟩
      rw [lAt_of (List.getElem?_eq_getElem (show j < L.length by omega))]
      rw [hli] at he ⊢
      rw [Route.same_alike hgi (hg _ (List.getElem_mem (show j < L.length by omega)))] at he
      exact he
    · rintro ⟨j, hj, he⟩
      have hj : j < i := by simpa using hj
      have hjl : j < L.length := by omega
      refine ⟨L[j].l, List.mem_map.2 ⟨L[j], List.mem_iff_getElem.2 ⟨j, by rw [List.length_take]; omega, by rw [List.getElem_take]⟩, rfl⟩, ?_⟩
      rw [lAt_of (List.getElem?_eq_getElem hjl), hli] at he
      rw [hli, Route.same_alike hgi (hg _ (List.getElem_mem hjl))]
      exact he
  · rw [if_neg hc, if_neg hc]
end
end Go.Proofs.Ytefilalapkdegaa
namespace Go.Proofs.Ytefilalapkdegaa
open Go.RowKit Str Mem
set_option linter.unusedVariables false
set_option linter.unusedSimpArgs false

set_option maxRecDepth 20000 in
set_option maxHeartbeats 4000000 in
theorem light_big (a : Option Addr) (c : Nat) (L : List RtV) (w : World) (h : Rd w 3 a L.length (L.flatMap RtV.cells)) (hS : ∀ r ∈ L, Strs w r.a r.l.length r.l) (hl : 40 < L.length) :
    Calls Try.prog 26 #[.slice a L.length c] w fun e w' => e = .returned (.bool false) ∧ w = w' := by
  go_enter Try.func26, Try.ntmps26
  go_wp2
  go_loopw [3] (fun i wr => wr = w ∧ ∃ k : Nat, i = .int .i64 k ∧ k ≤ 40) (fun i _ => 40 - (intOf i).toNat)
  case atStart => exact ⟨rfl, 0, rfl, Nat.zero_le _⟩
  case round =>
    obtain ⟨rfl, k, rfl, hk⟩ := hrel
    have hkL : (k : Int) < (L.length : Int) := by omega
    by_cases hlt : k < 40
    · obtain ⟨ad, r, rfl, _, hr, hrm, c0, c1, c2⟩ := row_fields h (show k < L.length by omega)
      have hk40 : (k : Int) < 40 := by omega
      have HM := Lib.hid hrm
      clear hr hrm
      by_cases h1 : r.l.length ≤ 20
      · have h1' : (r.l.length : Int) ≤ 20 := by omega
        by_cases h2 : r.t.length ≤ 100
        · have h2' : (r.t.length : Int) ≤ 100 := by omega
          have hsh := short_any r.a r.c 100 r.l wr (hS r HM.out) (by omega)
          obtain ⟨b, hb⟩ : ∃ b, r.l.all (shortP 100) = b := ⟨_, rfl⟩
          rw [hb] at hsh
          clear hb h1 h2
          rcases b with _ | _
          · go_wp2_with fail
            refine hsh.mono ?_
            rintro e w1 ⟨rfl, rfl⟩
            go_wp2
            go_ret
            exact ⟨rfl, rfl⟩
          · go_wp2_with fail
            refine hsh.mono ?_
            rintro e w1 ⟨rfl, rfl⟩
            go_wp2
            exact ⟨⟨by first | rfl | trivial, k + 1, by go_num, by omega⟩, by simp [intOf]; omega⟩
        · have h2' : (100 : Int) < (r.t.length : Int) := by omega
          clear h1 h2
          go_wp2
          go_ret
          exact ⟨rfl, rfl⟩
      · have h1' : (20 : Int) < (r.l.length : Int) := by omega
        clear h1
        go_wp2
        go_ret
        exact ⟨rfl, rfl⟩
    · have hk40 : ¬ (k : Int) < 40 := by omega
      have h40 : ¬ (L.length : Int) ≤ 40 := by omega
      go_wp2
      go_ret
      exact ⟨by first | rfl | (simp; omega), rfl⟩
theorem light_all (a : Option Addr) (c : Nat) (L : List RtV) (w : World) (h : Rd w 3 a L.length (L.flatMap RtV.cells)) (hS : ∀ r ∈ L, Strs w r.a r.l.length r.l) :
    Calls Try.prog 26 #[.slice a L.length c] w fun e w' => e = .returned (.bool (decide (L.length ≤ 40) && L.all okR)) ∧ w = w' := by
  by_cases hl : L.length ≤ 40
  · rw [decide_eq_true hl, Bool.true_and]; exact light_any a c L w h hS hl
  · rw [decide_eq_false hl, Bool.false_and]; exact light_big a c L w h hS (by omega)
set_option maxRecDepth 20000 in
set_option maxHeartbeats 4000000 in
theorem sameRoutes_any (a b : Option Addr) (c d : Nat) (A B : List RtV) (w : World) (ha : Rts w a A) (hb : Rts w b B) (hs : SameR A B) (hA : A.length ≤ 100000) (hl : ∀ r ∈ A, r.l.length ≤ 100000) :
    Calls Try.prog 33 #[.slice a A.length c, .slice b B.length d] w fun e w' => e = .returned (.bool true) ∧ Below w.heap.size w w' := by
  have hbl0 : B.length = A.length := hs.len.symm
  rw [hbl0]
  have HB := Lib.hid hb
  have HL := Lib.hid hbl0
  have HSR := Lib.hid hs
  clear hbl0 hb hs
  go_enter Try.func33, Try.ntmps33
  go_wp2
  go_loopw [5] (fun i wr => ∃ k : Nat, i = .int .i64 k ∧ k ≤ A.length ∧ Below w.heap.size w wr) (fun i _ => A.length - (intOf i).toNat)
  case atStart => exact ⟨0, rfl, Nat.zero_le _, Below.refl _ _⟩
  case round =>
    obtain ⟨k, rfl, hk, hbl⟩ := hrel
    by_cases hlt : k < A.length
    · obtain ⟨ad, r, rfl, hba, hr, hrm, c0, c1', c2'⟩ := (ha.below hbl).fields hlt
      obtain ⟨bd, s, rfl, hbb, hs', hsm, x0, x1, x2⟩ := (HB.out.below hbl).fields (show k < B.length by rw [HL.out]; exact hlt)
      have hlr := hl r hrm
      have hso := ((HB.out.below hbl).each s hsm).strs
      have hro := ((ha.below hbl).each r hrm).strs
      obtain ⟨sa, sc, sl, skd, st⟩ := s
      obtain ⟨a1, c1, l, kd, t⟩ := r
      obtain ⟨rfl, rfl, rfl⟩ : l = sl ∧ kd = skd ∧ t = st := by
        rcases HSR.out.cases k with ⟨h1, h2⟩ | ⟨r', s', h1, h2, h3, h4, h5⟩
        · rw [hr] at h1; cases h1
        · rw [hr] at h1; rw [hs'] at h2; cases h1; cases h2; exact ⟨h3, h4, h5⟩
      dsimp only at *
      have hq := fun w' (hb : Below wr.heap.size wr w') => sameTexts_any a1 sa c1 sc l l w' (hro.below hb) (hso.below hb) (by simp only [maxLen]; omega)
      rw [show (l == l) = true by simp] at hq
      clear hr hs' hrm hsm
      have la : (ad.add (k * 3)).block < wr.heap.size := by rw [add_block]; exact hba
      have lb : (bd.add (k * 3)).block < wr.heap.size := by rw [add_block]; exact hbb
      have i0' : (0 : Int) ≤ (k : Int) := by omega
      have i1' : (k : Int) < (A.length : Int) := by omega
      have hw1 : (t.toArray == t.toArray) = true := by simp
      have hsz := hbl.size
      go_wp2
      refine wp_region_noPanic ?_
      refine wp_region_held_drew (S := fun w' => w'.cell? (ad.add (k * 3)) = some (.slice a1 l.length c1) ∧ w'.cell? ⟨(ad.add (k * 3)).block, (ad.add (k * 3)).off + 1, none⟩ = some (.int .i64 kd) ∧ w'.cell? ⟨(ad.add (k * 3)).block, (ad.add (k * 3)).off + 2, none⟩ = some (.string ⟨t.toArray⟩) ∧ w'.cell? (bd.add (k * 3)) = some (.slice sa l.length sc) ∧ w'.cell? ⟨(bd.add (k * 3)).block, (bd.add (k * 3)).off + 1, none⟩ = some (.int .i64 kd) ∧ w'.cell? ⟨(bd.add (k * 3)).block, (bd.add (k * 3)).off + 2, none⟩ = some (.string ⟨t.toArray⟩)) (by kernel_rfl) ?_ (fun hH => ?_)
      · exact ⟨c0, c1', c2', x0, x1, x2⟩
      refine Reg.take (i := 0) (u := ?b1_v0) rfl rfl rfl (by kernel_rfl) (by kernel_rfl) (by kernel_rfl) hH ?b1_y0 ?b1_r0
      case b1_y0 => (intro w hSw; (try dsimp only at hSw); go_simp; try (with_reducible rfl))
      case' b1_r0 => simp only [List.setIfInBounds_toArray, List.set_cons_zero, List.set_cons_succ]
      refine Reg.take (i := 1) (u := ?b1_v1) rfl rfl rfl (by kernel_rfl) (by kernel_rfl) (by kernel_rfl) hH ?b1_y1 ?b1_r1
      case b1_y1 => (intro w hSw; (try dsimp only at hSw); go_simp; try (with_reducible rfl))
      case' b1_r1 => simp only [List.setIfInBounds_toArray, List.set_cons_zero, List.set_cons_succ]
      refine Reg.take (i := 2) (u := ?b1_v2) rfl rfl rfl (by kernel_rfl) (by kernel_rfl) (by kernel_rfl) hH ?b1_y2 ?b1_r2
      case b1_y2 => (intro w hSw; (try dsimp only at hSw); go_simp; try (with_reducible rfl))
      case' b1_r2 => simp only [List.setIfInBounds_toArray, List.set_cons_zero, List.set_cons_succ]
      refine Reg.take (i := 3) (u := ?b1_v3) rfl rfl rfl (by kernel_rfl) (by kernel_rfl) (by kernel_rfl) hH ?b1_y3 ?b1_r3
      case b1_y3 => (intro w hSw; (try dsimp only at hSw); go_simp; try (with_reducible rfl))
      case' b1_r3 => simp only [List.setIfInBounds_toArray, List.set_cons_zero, List.set_cons_succ]
      refine Reg.take (i := 4) (u := ?b1_v4) rfl rfl rfl (by kernel_rfl) (by kernel_rfl) (by kernel_rfl) hH ?b1_y4 ?b1_r4
      case b1_y4 => (intro w hSw; (try dsimp only at hSw); go_simp; try (with_reducible rfl))
      case' b1_r4 => simp only [List.setIfInBounds_toArray, List.set_cons_zero, List.set_cons_succ]
      refine Reg.take (i := 5) (u := ?b1_v5) rfl rfl rfl (by kernel_rfl) (by kernel_rfl) (by kernel_rfl) hH ?b1_y5 ?b1_r5
      case b1_y5 => (intro w hSw; (try dsimp only at hSw); go_simp; try (with_reducible rfl))
      case' b1_r5 => simp only [List.setIfInBounds_toArray, List.set_cons_zero, List.set_cons_succ]
      refine Reg.take (i := 6) (u := ?b1_v6) rfl rfl rfl (by kernel_rfl) (by kernel_rfl) (by kernel_rfl) hH ?b1_y6 ?b1_r6
      case b1_y6 => (intro w hSw; (try dsimp only at hSw); go_simp; try (with_reducible rfl))
      case' b1_r6 => simp only [List.setIfInBounds_toArray, List.set_cons_zero, List.set_cons_succ]
      refine Reg.take (i := 7) (u := ?b1_v7) rfl rfl rfl (by kernel_rfl) (by kernel_rfl) (by kernel_rfl) hH ?b1_y7 ?b1_r7
      case b1_y7 => (intro w hSw; (try dsimp only at hSw); go_simp; try (with_reducible rfl))
      case' b1_r7 => simp only [List.setIfInBounds_toArray, List.set_cons_zero, List.set_cons_succ]
      refine Reg.take (i := 8) (u := ?b1_v8) rfl rfl rfl (by kernel_rfl) (by kernel_rfl) (by kernel_rfl) hH ?b1_y8 ?b1_r8
      case b1_y8 => (intro w hSw; (try dsimp only at hSw); go_simp; try (with_reducible rfl))
      case' b1_r8 => simp only [List.setIfInBounds_toArray, List.set_cons_zero, List.set_cons_succ]
      refine Reg.take (i := 9) (u := ?b1_v9) rfl rfl rfl (by kernel_rfl) (by kernel_rfl) (by kernel_rfl) hH ?b1_y9 ?b1_r9
      case b1_y9 => (intro w hSw; (try dsimp only at hSw); go_simp; try (with_reducible rfl))
      case' b1_r9 => simp only [List.setIfInBounds_toArray, List.set_cons_zero, List.set_cons_succ]
      refine Reg.take (i := 10) (u := ?b1_v10) rfl rfl rfl (by kernel_rfl) (by kernel_rfl) (by kernel_rfl) hH ?b1_y10 ?b1_r10
      case b1_y10 => (intro w hSw; (try dsimp only at hSw); go_simp; try (with_reducible rfl))
      case' b1_r10 => simp only [List.setIfInBounds_toArray, List.set_cons_zero, List.set_cons_succ]
      refine Reg.take (i := 11) (u := ?b1_v11) rfl rfl rfl (by kernel_rfl) (by kernel_rfl) (by kernel_rfl) hH ?b1_y11 ?b1_r11
      case b1_y11 => (intro w hSw; (try dsimp only at hSw); go_simp; try (with_reducible rfl))
      case' b1_r11 => simp only [List.setIfInBounds_toArray, List.set_cons_zero, List.set_cons_succ]
      refine Reg.takeIf (i := 12) (u := ?b1_v12) rfl rfl rfl rfl rfl (by kernel_rfl) (by kernel_rfl) (by kernel_rfl) hH ?b1_y12 ?b1_r12
      case b1_y12 => (intro w hSw; (try dsimp only at hSw); go_simp; try (with_reducible rfl))
      case' b1_r12 => simp only [List.setIfInBounds_toArray, List.set_cons_zero, List.set_cons_succ]
      refine Reg.takeIf (i := 13) (u := ?b1_v13) rfl rfl rfl rfl rfl (by kernel_rfl) (by kernel_rfl) (by kernel_rfl) hH ?b1_y13 ?b1_r13
      case b1_y13 => (intro w hSw; (try dsimp only at hSw); go_simp; try (with_reducible rfl))
      case' b1_r13 => simp only [List.setIfInBounds_toArray, List.set_cons_zero, List.set_cons_succ]
      refine Reg.takeIf (i := 14) (u := ?b1_v14) rfl rfl rfl rfl rfl (by kernel_rfl) (by kernel_rfl) (by kernel_rfl) hH ?b1_y14 ?b1_r14
      case b1_y14 => (intro w hSw; (try dsimp only at hSw); go_simp; try (with_reducible rfl))
      case' b1_r14 => simp only [List.setIfInBounds_toArray, List.set_cons_zero, List.set_cons_succ]
      refine Reg.takeIf (i := 15) (u := ?b1_v15) rfl rfl rfl rfl rfl (by kernel_rfl) (by kernel_rfl) (by kernel_rfl) hH ?b1_y15 ?b1_r15
      case b1_y15 => (intro w hSw; (try dsimp only at hSw); go_simp; try (with_reducible rfl))
      case' b1_r15 => simp only [List.setIfInBounds_toArray, List.set_cons_zero, List.set_cons_succ]
      refine Reg.takeIf (i := 16) (u := ?b1_v16) rfl rfl rfl rfl rfl (by kernel_rfl) (by kernel_rfl) (by kernel_rfl) hH ?b1_y16 ?b1_r16
      case b1_y16 => (intro w hSw; (try dsimp only at hSw); go_simp; try (with_reducible rfl))
      case' b1_r16 => simp only [List.setIfInBounds_toArray, List.set_cons_zero, List.set_cons_succ]
      refine Reg.takeIf (i := 17) (u := ?b1_v17) rfl rfl rfl rfl rfl (by kernel_rfl) (by kernel_rfl) (by kernel_rfl) hH ?b1_y17 ?b1_r17
      case b1_y17 => (intro w hSw; (try dsimp only at hSw); go_simp; try (with_reducible rfl))
      case' b1_r17 => simp only [List.setIfInBounds_toArray, List.set_cons_zero, List.set_cons_succ]
      refine Reg.takeIf (i := 18) (u := ?b1_v18) rfl rfl rfl rfl rfl (by kernel_rfl) (by kernel_rfl) (by kernel_rfl) hH ?b1_y18 ?b1_r18
      case b1_y18 => (intro w hSw; (try dsimp only at hSw); go_simp; try (with_reducible rfl))
      case' b1_r18 => simp only [List.setIfInBounds_toArray, List.set_cons_zero, List.set_cons_succ]
      refine Reg.takeIf (i := 19) (u := ?b1_v19) rfl rfl rfl rfl rfl (by kernel_rfl) (by kernel_rfl) (by kernel_rfl) hH ?b1_y19 ?b1_r19
      case b1_y19 => (intro w hSw; (try dsimp only at hSw); go_simp; try (with_reducible rfl))
      case' b1_r19 => simp only [List.setIfInBounds_toArray, List.set_cons_zero, List.set_cons_succ]
      refine Reg.takeIf (i := 20) (u := ?b1_v20) rfl rfl rfl rfl rfl (by kernel_rfl) (by kernel_rfl) (by kernel_rfl) hH ?b1_y20 ?b1_r20
      case b1_y20 => (intro w hSw; (try dsimp only at hSw); go_simp; try (with_reducible rfl))
      case' b1_r20 => simp only [List.setIfInBounds_toArray, List.set_cons_zero, List.set_cons_succ]
      refine Reg.takeIf (i := 21) (u := ?b1_v21) rfl rfl rfl rfl rfl (by kernel_rfl) (by kernel_rfl) (by kernel_rfl) hH ?b1_y21 ?b1_r21
      case b1_y21 => (intro w hSw; (try dsimp only at hSw); go_simp; try (with_reducible rfl))
      case' b1_r21 => simp only [List.setIfInBounds_toArray, List.set_cons_zero, List.set_cons_succ]
      refine Reg.takeIf (i := 22) (u := ?b1_v22) rfl rfl rfl rfl rfl (by kernel_rfl) (by kernel_rfl) (by kernel_rfl) hH ?b1_y22 ?b1_r22
      case b1_y22 => (intro w hSw; (try dsimp only at hSw); go_simp; try (with_reducible rfl))
      case' b1_r22 => simp only [List.setIfInBounds_toArray, List.set_cons_zero, List.set_cons_succ]
      refine Reg.take (i := 23) (u := ?b1_v23) rfl rfl rfl (by kernel_rfl) (by kernel_rfl) (by kernel_rfl) hH ?b1_y23 ?b1_r23
      case b1_y23 => (intro w hSw; (try dsimp only at hSw); go_simp; try (with_reducible rfl))
      case' b1_r23 => simp only [List.setIfInBounds_toArray, List.set_cons_zero, List.set_cons_succ]
      refine Reg.take (i := 24) (u := ?b1_v24) rfl rfl rfl (by kernel_rfl) (by kernel_rfl) (by kernel_rfl) hH ?b1_y24 ?b1_r24
      case b1_y24 => (intro w hSw; (try dsimp only at hSw); go_simp; try (with_reducible rfl))
      case' b1_r24 => simp only [List.setIfInBounds_toArray, List.set_cons_zero, List.set_cons_succ]
      refine Reg.takeIf (i := 25) (u := ?b1_v25) rfl rfl rfl rfl rfl (by kernel_rfl) (by kernel_rfl) (by kernel_rfl) hH ?b1_y25 ?b1_r25
      case b1_y25 => (intro w hSw; (try dsimp only at hSw); go_simp; try (with_reducible rfl))
      case' b1_r25 => simp only [List.setIfInBounds_toArray, List.set_cons_zero, List.set_cons_succ]
      refine Reg.takeIf (i := 26) (u := ?b1_v26) rfl rfl rfl rfl rfl (by kernel_rfl) (by kernel_rfl) (by kernel_rfl) hH ?b1_y26 ?b1_r26
      case b1_y26 => (intro w hSw; (try dsimp only at hSw); go_simp; try (with_reducible rfl))
      case' b1_r26 => simp only [List.setIfInBounds_toArray, List.set_cons_zero, List.set_cons_succ]
      refine Reg.takeIf (i := 27) (u := ?b1_v27) rfl rfl rfl rfl rfl (by kernel_rfl) (by kernel_rfl) (by kernel_rfl) hH ?b1_y27 ?b1_r27
      case b1_y27 => (intro w hSw; (try dsimp only at hSw); go_simp; try (with_reducible rfl))
      case' b1_r27 => simp only [List.setIfInBounds_toArray, List.set_cons_zero, List.set_cons_succ]
      refine Reg.takeIf (i := 28) (u := ?b1_v28) rfl rfl rfl rfl rfl (by kernel_rfl) (by kernel_rfl) (by kernel_rfl) hH ?b1_y28 ?b1_r28
      case b1_y28 => (intro w hSw; (try dsimp only at hSw); go_simp; try (with_reducible rfl))
      case' b1_r28 => simp only [List.setIfInBounds_toArray, List.set_cons_zero, List.set_cons_succ]
      refine Reg.takeIf (i := 29) (u := ?b1_v29) rfl rfl rfl rfl rfl (by kernel_rfl) (by kernel_rfl) (by kernel_rfl) hH ?b1_y29 ?b1_r29
      case b1_y29 => (intro w hSw; (try dsimp only at hSw); go_simp; try (with_reducible rfl))
      case' b1_r29 => simp only [List.setIfInBounds_toArray, List.set_cons_zero, List.set_cons_succ]
      refine Reg.takeIf (i := 30) (u := ?b1_v30) rfl rfl rfl rfl rfl (by kernel_rfl) (by kernel_rfl) (by kernel_rfl) hH ?b1_y30 ?b1_r30
      case b1_y30 => (intro w hSw; (try dsimp only at hSw); go_simp; try (with_reducible rfl))
      case' b1_r30 => simp only [List.setIfInBounds_toArray, List.set_cons_zero, List.set_cons_succ]
      refine Reg.takeIf (i := 31) (u := ?b1_v31) rfl rfl rfl rfl rfl (by kernel_rfl) (by kernel_rfl) (by kernel_rfl) hH ?b1_y31 ?b1_r31
      case b1_y31 => (intro w hSw; (try dsimp only at hSw); go_simp; try (with_reducible rfl))
      case' b1_r31 => simp only [List.setIfInBounds_toArray, List.set_cons_zero, List.set_cons_succ]
      refine Reg.takeIf (i := 32) (u := ?b1_v32) rfl rfl rfl rfl rfl (by kernel_rfl) (by kernel_rfl) (by kernel_rfl) hH ?b1_y32 ?b1_r32
      case b1_y32 => (intro w hSw; (try dsimp only at hSw); go_simp; try (with_reducible rfl))
      case' b1_r32 => simp only [List.setIfInBounds_toArray, List.set_cons_zero, List.set_cons_succ]
      refine Reg.takeIf (i := 33) (u := ?b1_v33) rfl rfl rfl rfl rfl (by kernel_rfl) (by kernel_rfl) (by kernel_rfl) hH ?b1_y33 ?b1_r33
      case b1_y33 => (intro w hSw; (try dsimp only at hSw); go_simp; try (with_reducible rfl))
      case' b1_r33 => simp only [List.setIfInBounds_toArray, List.set_cons_zero, List.set_cons_succ]
      refine Reg.takeIf (i := 34) (u := ?b1_v34) rfl rfl rfl rfl rfl (by kernel_rfl) (by kernel_rfl) (by kernel_rfl) hH ?b1_y34 ?b1_r34
      case b1_y34 => (intro w hSw; (try dsimp only at hSw); go_simp; try (with_reducible rfl))
      case' b1_r34 => simp only [List.setIfInBounds_toArray, List.set_cons_zero, List.set_cons_succ]
      refine Reg.only (i := 35) rfl (Reg.wanted_hit rfl rfl rfl) (by kernel_rfl) (fun K hK => ?_)
      go_simp
      go_at_call 34; refine (hq _ (Below.refl _ wr).drew).mono ?_; rintro e w2 ⟨rfl, h2'⟩; go_simp
      refine hK.out _ _ ?_ (fun hH2 => ?_)
      · exact ⟨(World.cell?_of_block (w := wr) (h2'.block _ la)).trans c0, (World.cell?_of_block (w := wr) (a := ⟨(ad.add (k * 3)).block, (ad.add (k * 3)).off + 1, none⟩) (h2'.block _ la)).trans c1', (World.cell?_of_block (w := wr) (a := ⟨(ad.add (k * 3)).block, (ad.add (k * 3)).off + 2, none⟩) (h2'.block _ la)).trans c2', (World.cell?_of_block (w := wr) (h2'.block _ lb)).trans x0, (World.cell?_of_block (w := wr) (a := ⟨(bd.add (k * 3)).block, (bd.add (k * 3)).off + 1, none⟩) (h2'.block _ lb)).trans x1, (World.cell?_of_block (w := wr) (a := ⟨(bd.add (k * 3)).block, (bd.add (k * 3)).off + 2, none⟩) (h2'.block _ lb)).trans x2⟩
      clear hK hH
      have hH := hH2; clear hH2
      try simp only [Act.put, List.setIfInBounds_toArray, List.set_cons_zero, List.set_cons_succ]
      refine Reg.takeIf (i := 36) (u := ?b1_v36) rfl rfl rfl rfl rfl (by kernel_rfl) (by kernel_rfl) (by kernel_rfl) hH ?b1_y36 ?b1_r36
      case b1_y36 => (intro w hSw; (try dsimp only at hSw); go_simp; try (with_reducible rfl))
      case' b1_r36 => simp only [List.setIfInBounds_toArray, List.set_cons_zero, List.set_cons_succ]
      refine Reg.take (i := 37) (u := ?b1_v37) rfl rfl rfl (by kernel_rfl) (by kernel_rfl) (by kernel_rfl) hH ?b1_y37 ?b1_r37
      case b1_y37 => (intro w hSw; (try dsimp only at hSw); go_simp; try (with_reducible rfl))
      case' b1_r37 => simp only [List.setIfInBounds_toArray, List.set_cons_zero, List.set_cons_succ]
      refine wpAnyH_done (by kernel_rfl) ?_ _
      refine NoPanic.normal ?_
      go_wp2
      refine ⟨⟨k + 1, by go_num, by omega, hbl.trans (⟨h2'.os, h2'.tape, h2'.output, h2'.size, fun j hj => h2'.block j (by show j < wr.heap.size; omega)⟩)⟩, by simp [intOf]; omega⟩
    · obtain rfl : k = A.length := by omega
      go_wp2
      go_ret
      exact ⟨rfl, hbl⟩
end Go.Proofs.Ytefilalapkdegaa
namespace Go.Proofs.Ytefilalapkdegaa
open Go.RowKit Str Mem
set_option linter.unusedVariables false
set_option linter.unusedSimpArgs false

theorem allK_len (L : List RtV) (p : List UInt8) : (allK L p).length ≤ L.length := by
  unfold allK
  split
  · rw [Route.sorted_length]; exact fitTo_length L p L.length
  · simp
theorem rhK_len (L : List RtV) : (rhK L).length ≤ L.length := by
  unfold rhK
  split
  · exact rhTo_length L L.length
  · simp
set_option maxRecDepth 100000 in
set_option maxHeartbeats 16000000 in
theorem lawRouteFinds_any (a : Option Addr) (c : Nat) (L : List RtV) (p : ByteArray) (w : World) (h : Rd w 3 a L.length (L.flatMap RtV.cells)) (hS : ∀ r ∈ L, Strs w r.a r.l.length r.l ∧ r.l.length ≤ r.c ∧ r.c ≤ maxLen) :
    Calls Try.prog 6 #[.slice a L.length c, .string p] w fun e w' => e = .returned (.bool true) ∧ Below w.heap.size w w' := by
  have hlt := light_all a c L w h (fun r hr => (hS r hr).1)
  obtain ⟨b, hb⟩ : ∃ b, (decide (L.length ≤ 40) && L.all okR) = b := ⟨_, rfl⟩
  rw [hb] at hlt
  rcases b with _ | _
  · clear hb h hS
    go_enter Try.func6, Try.ntmps6
    go_wp2_with fail
    refine hlt.mono ?_
    rintro e w1 ⟨rfl, rfl⟩
    go_wp2_with fail
    refine (awake41_any _).mono ?_
    rintro e w2 ⟨rfl, h2⟩
    go_wp2_with fail
    go_ret
    exact ⟨rfl, h2⟩
  · by_cases hp : p.size ≤ 200
    · have hp' : ¬ (200 : Int) < (p.size : Int) := by omega
      simp only [Bool.and_eq_true, decide_eq_true_eq, List.all_eq_true] at hb
      obtain ⟨hl40, hok⟩ := hb
      have hok2 : ∀ r ∈ L, r.l.length ≤ 20 ∧ r.t.length ≤ 100 ∧ ∀ s ∈ r.l, s.length ≤ 100 := fun r hr => by
        have := hok r hr
        unfold okR at this
        simp only [Bool.and_eq_true, decide_eq_true_eq, List.all_eq_true] at this
        exact ⟨this.1.1, this.1.2, fun s hs => by have := this.2 s hs; unfold shortP at this; simpa using this⟩
      have hR : Rts w a L := ⟨h, fun r hr => ⟨(hS r hr).1, (hS r hr).2.1, (hS r hr).2.2, fun s hs => by have := (hok2 r hr).2.2 s hs; omega, by have := (hok2 r hr).2.1; omega⟩⟩
      have hown := own_any a c L w hR (by omega) (fun r hr => by have := (hok2 r hr).1; omega)
      have HR := Lib.hid hR
      have H20 := Lib.hid (show ∀ r ∈ L, r.l.length ≤ 20 from fun r hr => (hok2 r hr).1)
      clear hok hok2 h hS hR
      go_enter Try.func6, Try.ntmps6
      go_wp2_with fail
      refine hlt.mono ?_
      rintro e w1 ⟨rfl, rfl⟩
      clear hlt
      go_wp2_with fail
      refine hown.mono ?_
      rintro e w2 ⟨v, X, rfl, hO, hs, h2⟩
      clear hown
      obtain ⟨ax, cx, rfl, -, -, hRx⟩ := hO.rts
      have HX2 := Lib.hid hRx
      have HR2 := Lib.hid (HR.out.below h2)
      have HB2 := Lib.hid h2
      have HS := Lib.hid hs
      have hXl : X.length = L.length := hs.len
      have HXl := Lib.hid hXl
      have hXs : X.length ≤ 100000 := by omega
      have hLs : L.length ≤ 100000 := by omega
      have hck := check_any ax cx X w2 hRx hXs
      rw [hs.checkR] at hck
      obtain ⟨ck, hckv⟩ : ∃ x, checkR L = x := ⟨_, rfl⟩
      rw [hckv] at hck
      have HCK := Lib.hid hckv
      clear hO hs h2 hRx hckv hXl
      go_wp2_with fail
      refine hck.mono ?_
      rintro e w3 ⟨rfl, h3⟩
      clear hck
      have HX3 := Lib.hid (HX2.out.below h3)
      have HR3 := Lib.hid (HR2.out.below h3)
      have HB3 := Lib.hid (HB2.out.trans (h3.mono HB2.out.size))
      have hrk := rCheck_any a c L w3 HR3.out hLs
      rw [HCK.out] at hrk
      clear h3 HX2 HR2 HB2
      go_wp2_with fail
      refine hrk.mono ?_
      rintro e w4 ⟨rfl, h4⟩
      clear hrk
      have HX4 := Lib.hid (HX3.out.below h4)
      have HR4 := Lib.hid (HR3.out.below h4)
      have HB4 := Lib.hid (HB3.out.trans (h4.mono HB3.out.size))
      have hfi := vFind_all ax cx X p w4 HX4.out hXs
      unfold FindPost at hfi
      rw [HS.out.findN, HS.out.allE] at hfi
      obtain ⟨fn, hfn⟩ : ∃ x, findN L p.data.toList = x := ⟨_, rfl⟩
      obtain ⟨ae, hae⟩ : ∃ x, allE L p.data.toList = x := ⟨_, rfl⟩
      obtain ⟨D, hD⟩ : ∃ D, fdAll L p.data.toList = D := ⟨_, rfl⟩
      rw [hfn, hae] at hfi
      have HFN := Lib.hid hfn
      have HAE := Lib.hid hae
      have HD := Lib.hid hD
      clear h4 HX3 HR3 HB3 hfn hae hD
      go_wp2_with fail
      refine hfi.mono ?_
      rintro e w5 ⟨v5, rfl, hF5, h5⟩
      clear hfi
      have hF5 := hF5.all
      rw [HS.out.fdAll, HD.out] at hF5
      have HX5 := Lib.hid (HX4.out.below h5)
      have HR5 := Lib.hid (HR4.out.below h5)
      have HB5 := Lib.hid (HB4.out.trans (h5.mono HB4.out.size))
      have HF5 := Lib.hid hF5
      obtain ⟨al, cl, aN, cN, aV, cV, rfl, -, -, -⟩ := hF5
      have hrow := heap_alloc_new w5 (.cells #[.bool D.b, .slice al D.l.length cl, .int .i64 D.kd, .string ⟨D.t.toArray⟩, .slice aN D.N.length cN, .slice aV D.V.length cV, .string ⟨D.R.toArray⟩] 43)
      have hba := (Below.refl _ w5).alloc (Nat.le_refl _) (.cells #[.bool D.b, .slice al D.l.length cl, .int .i64 D.kd, .string ⟨D.t.toArray⟩, .slice aN D.N.length cN, .slice aV D.V.length cV, .string ⟨D.R.toArray⟩] 43)
      obtain ⟨W6, hW6⟩ : ∃ W, W = w5.alloc (.cells #[.bool D.b, .slice al D.l.length cl, .int .i64 D.kd, .string ⟨D.t.toArray⟩, .slice aN D.N.length cN, .slice aV D.V.length cV, .string ⟨D.R.toArray⟩] 43) := ⟨_, rfl⟩
      rw [← hW6] at hrow hba
      have HX6 := Lib.hid (HX5.out.below hba)
      have HR6 := Lib.hid (HR5.out.below hba)
      have HB6 := Lib.hid (HB5.out.trans (hba.mono HB5.out.size))
      have HF6 := Lib.hid (HF5.out.below hba)
      have HROW6 := Lib.hid hrow
      clear h5 hrow hba HX4 HR4 HB4 HX5 HR5 HB5 HF5
      go_upto_region 9 with fail
      rw [← hW6]
      clear hW6
      have hfr := rFind_any a c L p W6 HR6.out hLs
      unfold FindPost at hfr
      rw [HFN.out, HAE.out] at hfr
      go_wp2_with fail
      refine hfr.mono ?_
      rintro e w7 ⟨v7, rfl, hF7, h7⟩
      clear hfr
      have hF7 := hF7.all
      rw [HD.out] at hF7
      have HX7 := Lib.hid (HX6.out.below h7)
      have HR7 := Lib.hid (HR6.out.below h7)
      have HB7 := Lib.hid (HB6.out.trans (h7.mono HB6.out.size))
      have HF7 := Lib.hid hF7
      have HG7 := Lib.hid (HF6.out.below h7)
      have HROW7 := Lib.hid ((h7.block _ (Array.getElem?_eq_some_iff.1 HROW6.out).1).trans HROW6.out)
      obtain ⟨bl, dl, bN, dN, bV, dV, rfl, -, -, -⟩ := hF7
      have hrow := heap_alloc_new w7 (.cells #[.bool D.b, .slice bl D.l.length dl, .int .i64 D.kd, .string ⟨D.t.toArray⟩, .slice bN D.N.length dN, .slice bV D.V.length dV, .string ⟨D.R.toArray⟩] 43)
      have hba := (Below.refl _ w7).alloc (Nat.le_refl _) (.cells #[.bool D.b, .slice bl D.l.length dl, .int .i64 D.kd, .string ⟨D.t.toArray⟩, .slice bN D.N.length dN, .slice bV D.V.length dV, .string ⟨D.R.toArray⟩] 43)
      obtain ⟨W8, hW8⟩ : ∃ W, W = w7.alloc (.cells #[.bool D.b, .slice bl D.l.length dl, .int .i64 D.kd, .string ⟨D.t.toArray⟩, .slice bN D.N.length dN, .slice bV D.V.length dV, .string ⟨D.R.toArray⟩] 43) := ⟨_, rfl⟩
      rw [← hW8] at hrow hba
      have HX8 := Lib.hid (HX7.out.below hba)
      have HR8 := Lib.hid (HR7.out.below hba)
      have HB8 := Lib.hid (HB7.out.trans (hba.mono HB7.out.size))
      have HF8 := Lib.hid (HF7.out.below hba)
      have HG8 := Lib.hid (HG7.out.below hba)
      have HROW8 := Lib.hid ((hba.block _ (Array.getElem?_eq_some_iff.1 HROW7.out).1).trans HROW7.out)
      have HRW8 := Lib.hid hrow
      obtain ⟨g1, hg1⟩ : ∃ g, g = w5.heap.size := ⟨_, rfl⟩
      obtain ⟨g2, hg2⟩ : ∃ g, g = w7.heap.size := ⟨_, rfl⟩
      rw [← hg1] at HROW8
      rw [← hg2] at HRW8
      clear h7 hrow hba HX6 HR6 HB6 HX7 HR7 HB7 HF7 HG7 HROW6 HROW7 HF6
      go_upto_region 10 with fail
      rw [← hW8, ← hg1, ← hg2]
      clear hW8 hg1 hg2
      have hav := vAll_all ax cx X p W8 HX8.out hXs
      unfold AllPost at hav
      rw [HS.out.allK, HS.out.allE, HAE.out] at hav
      obtain ⟨K, hK⟩ : ∃ K, allK L p.data.toList = K := ⟨_, rfl⟩
      rw [hK] at hav
      have HK := Lib.hid hK
      have hKl := allK_len L p.data.toList
      rw [hK] at hKl
      clear hK
      go_wp2_with fail
      refine hav.mono ?_
      rintro e w9 ⟨ka, kc, rfl, hI9, -, -, -, h9⟩
      clear hav
      have HX9 := Lib.hid (HX8.out.below h9)
      have HR9 := Lib.hid (HR8.out.below h9)
      have HB9 := Lib.hid (HB8.out.trans (h9.mono HB8.out.size))
      have HF9 := Lib.hid (HF8.out.below h9)
      have HG9 := Lib.hid (HG8.out.below h9)
      have HROW9 := Lib.hid ((h9.block _ (Array.getElem?_eq_some_iff.1 HROW8.out).1).trans HROW8.out)
      have HRW9 := Lib.hid ((h9.block _ (Array.getElem?_eq_some_iff.1 HRW8.out).1).trans HRW8.out)
      have HI9 := Lib.hid hI9
      have har := rAll_any a c L p w9 HR9.out hLs
      unfold AllPost at har
      rw [HK.out, HAE.out] at har
      clear h9 hI9 HX8 HR8 HB8 HF8 HG8 HROW8 HRW8
      go_wp2_with fail
      refine har.mono ?_
      rintro e w10 ⟨kb, kd, rfl, hI10, -, -, -, h10⟩
      clear har
      have HX10 := Lib.hid (HX9.out.below h10)
      have HR10 := Lib.hid (HR9.out.below h10)
      have HB10 := Lib.hid (HB9.out.trans (h10.mono HB9.out.size))
      have HROW10 := Lib.hid ((h10.block _ (Array.getElem?_eq_some_iff.1 HROW9.out).1).trans HROW9.out)
      have HRW10 := Lib.hid ((h10.block _ (Array.getElem?_eq_some_iff.1 HRW9.out).1).trans HRW9.out)
      have HI10 := Lib.hid (show Ints w10 ka K.length K from Rd.below HI9.out h10)
      have HJ10 := Lib.hid hI10
      have hsm := fdAll_small L p.data.toList
      rw [HD.out] at hsm
      have hsf := sameFound_any D _ _ w10 (HG9.out.below h10) (HF9.out.below h10) hsm.1 hsm.2.1 hsm.2.2
      obtain ⟨⟨p0, p1, p2, p3, p4, p5, p6⟩, -⟩ := row7 (x0 := .bool D.b) (x1 := .slice bl D.l.length dl) (x2 := .int .i64 D.kd) (x3 := .string ⟨D.t.toArray⟩) (x4 := .slice bN D.N.length dN) (x5 := .slice bV D.V.length dV) (x6 := .string ⟨D.R.toArray⟩) HRW10.out
      obtain ⟨⟨r0, r1, r2, r3, r4, r5, r6⟩, -⟩ := row7 (x0 := .bool D.b) (x1 := .slice al D.l.length cl) (x2 := .int .i64 D.kd) (x3 := .string ⟨D.t.toArray⟩) (x4 := .slice aN D.N.length cN) (x5 := .slice aV D.V.length cV) (x6 := .string ⟨D.R.toArray⟩) HROW10.out
      clear hsm h10 hI10 HX9 HR9 HB9 HF9 HG9 HROW9 HRW9 HI9
      go_wp2_with fail
      refine hsf.mono ?_
      rintro e w11 ⟨rfl, h11⟩
      clear hsf p0 p1 p2 p3 p4 p5 p6 r0 r1 r2 r3 r4 r5 r6 HROW10 HRW10
      have HX11 := Lib.hid (HX10.out.below h11)
      have HR11 := Lib.hid (HR10.out.below h11)
      have HB11 := Lib.hid (HB10.out.trans (h11.mono HB10.out.size))
      have hsi := sameInts_any ka kb kc kd K w11 (Rd.below HI10.out h11) (Rd.below HJ10.out h11) (by omega)
      clear h11 HX10 HR10 HB10 HI10 HJ10
      go_wp2_with fail
      refine hsi.mono ?_
      rintro e w12 ⟨rfl, h12⟩
      clear hsi
      have HX12 := Lib.hid (HX11.out.below h12)
      have HR12 := Lib.hid (HR11.out.below h12)
      have HB12 := Lib.hid (HB11.out.trans (h12.mono HB11.out.size))
      have hvh := vHidden_any ax cx X w12 HX12.out hXs
      unfold HidPost at hvh
      rw [HS.out.hidK, hid_eq, HS.out.checkR, HCK.out] at hvh
      obtain ⟨H, hH⟩ : ∃ H, rhK L = H := ⟨_, rfl⟩
      rw [hH] at hvh
      have HH := Lib.hid hH
      have hHl := rhK_len L
      rw [hH] at hHl
      clear hH h12 HX11 HR11 HB11
      go_wp2_with fail
      refine hvh.mono ?_
      rintro e w13 ⟨ha, hc, rfl, hI13, -, -, -, h13⟩
      clear hvh
      have HX13 := Lib.hid (HX12.out.below h13)
      have HR13 := Lib.hid (HR12.out.below h13)
      have HB13 := Lib.hid (HB12.out.trans (h13.mono HB12.out.size))
      have HI13 := Lib.hid hI13
      have hrh := rHidden_any a c L w13 HR13.out hLs
      unfold RHidPost at hrh
      rw [HH.out, HCK.out] at hrh
      clear h13 HX12 HR12 HB12 hI13
      go_wp2_with fail
      refine hrh.mono ?_
      rintro e w14 ⟨hb1, hd1, rfl, hI14, -, -, h14⟩
      clear hrh
      have HX14 := Lib.hid (HX13.out.below h14)
      have HR14 := Lib.hid (HR13.out.below h14)
      have HB14 := Lib.hid (HB13.out.trans (h14.mono HB13.out.size))
      have hsh := sameInts_any ha hb1 hc hd1 H w14 (Rd.below HI13.out h14) hI14 (by omega)
      clear h14 HX13 HR13 HB13 HI13 hI14
      go_wp2_with fail
      refine hsh.mono ?_
      rintro e w15 ⟨rfl, h15⟩
      clear hsh
      have HB15 := Lib.hid (HB14.out.trans (h15.mono HB14.out.size))
      have hss := sameRoutes_any ax a cx c X L w15 (HX14.out.below h15) (HR14.out.below h15) HS.out hXs (fun r hr => by
        obtain ⟨j, hj, rfl⟩ := List.mem_iff_getElem.1 hr
        rcases HS.out.cases j with ⟨e1, _⟩ | ⟨r', s', e1, e2, e3, _⟩
        · rw [List.getElem?_eq_getElem hj] at e1; cases e1
        · rw [List.getElem?_eq_getElem hj] at e1; cases e1
          have := H20.out s' (List.mem_of_getElem? e2)
          rw [e3]; omega)
      clear h15 HX14 HR14 HB14
      go_wp2_with fail
      refine hss.mono ?_
      rintro e w16 ⟨rfl, h16⟩
      clear hss
      have HB16 := Lib.hid (HB15.out.trans (h16.mono HB15.out.size))
      clear h16 HB15
      go_wp2_with fail
      refine (awake41_any _).mono ?_
      rintro e w17 ⟨rfl, h17⟩
      go_wp2_with fail
      go_ret
      exact ⟨rfl, HB16.out.trans (h17.mono HB16.out.size)⟩
    · have hp' : (200 : Int) < (p.size : Int) := by omega
      clear hb h hS
      go_enter Try.func6, Try.ntmps6
      go_wp2_with fail
      refine hlt.mono ?_
      rintro e w1 ⟨rfl, rfl⟩
      go_wp2_with fail
      refine (awake41_any _).mono ?_
      rintro e w2 ⟨rfl, h2⟩
      go_wp2_with fail
      go_ret
      exact ⟨rfl, h2⟩
end Go.Proofs.Ytefilalapkdegaa
