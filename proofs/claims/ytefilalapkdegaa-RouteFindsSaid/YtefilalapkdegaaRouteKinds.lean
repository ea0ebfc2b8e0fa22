/- Kinds of a route's segments: the program and the reference. -/
import Derived.Test.YtefilalapkdegaaRouteTop
import Derived.Test.YtefilalapkdegaaOwnsMore
import Derived.Test.YtefilalapkdegaaInts
namespace Go.Proofs.Ytefilalapkdegaa
open Go.RowKit Str Mem
set_option linter.unusedVariables false
set_option linter.unusedSimpArgs false

theorem infoInt : (Try.prog.info? 3).map (fun i => (i.zero, i.size, i.bytes)) = some (some (.int .i64 0), 1, 8) := by kernel_rfl
theorem infoTxt : (Try.prog.info? 9).map (fun i => (i.zero, i.size, i.bytes)) = some (some (.string ⟨#[]⟩), 1, 16) := by kernel_rfl
theorem info_of {T : TypeId} {z : Value} {sz by' : Nat} (h : (Try.prog.info? T).map (fun i => (i.zero, i.size, i.bytes)) = some (some z, sz, by')) : ∃ i, Try.prog.info? T = some i ∧ i.zero = some z ∧ i.size = sz ∧ i.bytes = by' := by
  obtain ⟨i, hi, hx⟩ := Option.map_eq_some_iff.1 h
  simp only [Prod.mk.injEq] at hx
  exact ⟨i, hi, hx.1, hx.2.1, hx.2.2⟩

namespace Route
def kindsOf (l : List Bs) : List Int := l.map fun s => (kind s : Int)
def kindsR (e : Int) (l : List Bs) : List Int := if e = 0 then kindsOf l else []
theorem kindsOf_take {l : List Bs} {k : Nat} (h : k < l.length) : kindsOf (l.take (k + 1)) = kindsOf (l.take k) ++ [(kind (nth l k) : Int)] := by
  unfold kindsOf
  rw [← List.take_append_getElem h, List.map_append]
  rw [show l[k] = nth l k from (nth_get (List.getElem?_eq_getElem h)).symm]; rfl
theorem kindsOf_length (l : List Bs) : (kindsOf l).length = l.length := by simp [kindsOf]
end Route

def KindsPost (w : World) (l : List (List UInt8)) (er : Int) (e : Ending) (w' : World) : Prop :=
  ∃ a c, e = .returned (.tuple #[.slice a (Route.kindsR er l).length c, .int .i64 er]) ∧ Ints w' a (Route.kindsR er l).length (Route.kindsR er l) ∧ (Route.kindsR er l).length ≤ c ∧ c ≤ maxLen ∧ Below w.heap.size w w'

def KI (w : World) (l : List (List UInt8)) (v1 v2 v3 : Value) (i out : Value) (wr : World) : Prop :=
  ∃ k : Nat, i = .int .i64 k ∧ k ≤ l.length ∧ Owns wr (w.heap.size + 1) 3 1 out k ((Route.kindsOf (l.take k)).map iv) ∧ Below w.heap.size w wr ∧ Rd wr 3 (some ⟨w.heap.size, 0, none⟩) 1 [v1, v2, v3]

theorem one_iv (l : List Int) : ∀ u ∈ l.map iv, u.oneCell' = true := by
  intro u hu
  obtain ⟨s, _, rfl⟩ := List.mem_map.1 hu
  rfl
theorem Ints.of_owns {w : World} {base : Nat} {v : Value} {n : Nat} {T : TypeId} {l : List Int} (h : Owns w base T 1 v n (l.map iv)) : ∃ a c, v = .slice a l.length c ∧ Ints w a l.length l ∧ l.length ≤ c ∧ c ≤ maxLen := by
  have hl : l.length = n := by have := h.1; simpa using this
  subst hl
  obtain ⟨a, c, h1, h2, h3, h4⟩ := h.form
  exact ⟨a, c, h1, h4, h2, h3⟩

set_option maxRecDepth 20000 in
set_option maxHeartbeats 4000000 in
theorem kinds_any (a : Option Addr) (c : Nat) (l : List (List UInt8)) (kd : Int) (t : List UInt8) (w : World) (h : RtOk w a l.length c l t) :
    Calls Try.prog 15 #[rtv a l.length c kd t] w fun e w' => KindsPost w l (Route.err l kd t) e w' := by
  obtain ⟨i0, hi, hz0, hz1, hz2⟩ := info_of infoInt
  have hv := fun w' (hb : Below w.heap.size w w') => vroute_any a c l kd t w' (h.below hb)
  have hfine := Route.fine_of (l := l) (kd := kd) (t := t)
  have h16 := fun he => (Route.err_ok (l := l) (kd := kd) (t := t) he).1
  obtain ⟨e1, he1⟩ : ∃ e, Route.err l kd t = e := ⟨_, rfl⟩
  rw [he1] at hv hfine h16 ⊢
  clear he1
  unfold rtv at hv ⊢
  have hb0 : Below w.heap.size w (w.alloc (.cells #[.slice a l.length c, .int .i64 kd, .string ⟨t.toArray⟩] 35)) := (Below.refl _ w).alloc (Nat.le_refl _) _
  have hx0 := box3_new w 35 (.slice a l.length c) (.int .i64 kd) (.string ⟨t.toArray⟩)
  obtain ⟨p0, p1, p2⟩ := box3 hx0
  unfold KindsPost
  by_cases h0 : e1 = 0
  · have h0c : (e1 != 0) = false := by rw [h0]; rfl
    have hf := hfine h0
    have H0 := Lib.hid h0
    have hl16 := h16 h0
    have HK := Lib.hid (show Route.kindsR e1 l = Route.kindsOf l by unfold Route.kindsR; rw [if_pos h0])
    clear hfine h16 h0
    go_enter Try.func15, Try.ntmps15
    go_wp2_with fail
    refine (hv _ hb0).mono ?_
    rintro e w1 ⟨rfl, g1⟩
    have hb1 := hb0.trans (g1.mono hb0.size)
    have hx1 := hx0.below g1
    obtain ⟨p0, p1, p2⟩ := box3 hx1
    go_wp2
    go_loopw [16, 5, 7] (fun i out _ wr => KI w l (.slice a l.length c) (.int .i64 kd) (.string ⟨t.toArray⟩) i out wr) (fun i out _ _ => l.length - (intOf i).toNat)
    case atStart => exact ⟨0, rfl, Nat.zero_le _, Owns.nil _ _ _ _, hb1, hx1⟩
    case round =>
      clear p0 p1 p2 hx0 hb0 hx1 hb1 hv
      obtain ⟨k, rfl, hk, hown, hbl, hbx⟩ := hrel
      obtain ⟨p0, p1, p2⟩ := box3 hbx
      have hsz : w.heap.size + 1 ≤ wr.heap.size := by have := (Rd.get hbx (by omega)); obtain ⟨ad, e, hlt, _⟩ := this; cases e; exact hlt
      have hol : ∀ j, u5.ownBlock = some j → w.heap.size + 1 ≤ j := fun j hj => (hown.lt j hj).1
      by_cases hlt : k < l.length
      · obtain ⟨ad, rfl, hbb, hls, hcell, hsl⟩ := (h.below hbl).get hlt
        have hs0 : 0 < (bs (Route.nth l k)).size := by rw [size_bs]; exact List.length_pos_iff.2 (hf.at hlt).1
        have hkd := fun w => kind_any (bs (Route.nth l k)) hs0 w
        rw [data_bs] at hkd
        have HT := Lib.hid (Route.kindsOf_take hlt)
        obtain ⟨q, hq⟩ : ∃ q, Route.kind (Route.nth l k) = q := ⟨_, rfl⟩
        rw [hq] at hkd
        have HQ := Lib.hid hq
        clear hs0 hls hq
        have i0' : (0 : Int) ≤ (k : Int) := by omega
        have i1 : (k : Int) < (l.length : Int) := by omega
        go_wp2_with (first
          | (go_at_call 44; refine (hkd _).mono ?_; rintro e w2 ⟨rfl, rfl⟩)
          | (at_builtin; go_must (refine wpList_append_owns _ rfl _ _ 22 rfl (w.heap.size + 1) 3 i0 (.int .i64 0) 1 8 Try.underlying22 hi hz0 hz1 hz2 rfl (by decide) _ k _ rfl (hown.alloc _) (some ⟨wr.heap.size, 0, none⟩) 1 1 [.int .i64 q] rfl (Rd.one _ _ _) (by simp [Value.oneCell']) (by simp only [maxLen]; omega) (by omega) (by simp; omega) ?_); intro v' w3 hown' hgrow))
        go_roundw
        case rel =>
          refine ⟨k + 1, by go_num, by omega, ?_, (hbl.alloc (by omega) _).grown hgrow (by simp; omega) (by rintro j hj; have := hol j hj; omega), Rd.grown (hbx.alloc _) hgrow (by rintro ad' e' hj; cases e'; have := hol _ hj.symm; simp at this; omega)⟩
          rw [HT.out, List.map_append, HQ.out]
          exact hown'
        case measure => simp [intOf]; omega
      · obtain rfl : k = l.length := by omega
        rw [List.take_length] at hown
        obtain ⟨a', c', rfl, hI, hc1, hc2⟩ := Ints.of_owns hown
        go_wp2
        go_ret2
        rw [HK.out]
        exact ⟨a', c', by rw [H0.out]; rfl, hI, hc1, hc2, hbl⟩
  · have h0c : (e1 != 0) = true := by simpa using h0
    have HK := Lib.hid (show Route.kindsR e1 l = [] by unfold Route.kindsR; rw [if_neg h0])
    clear hfine h16 h0
    go_enter Try.func15, Try.ntmps15
    go_wp2_with fail
    refine (hv _ hb0).mono ?_
    rintro e w1 ⟨rfl, g1⟩
    go_wp2
    go_ret2
    rw [HK.out]
    exact ⟨none, 0, rfl, Rd.nil _ _ _, Nat.le_refl _, by simp [maxLen], hb0.trans (g1.mono hb0.size)⟩

end Go.Proofs.Ytefilalapkdegaa
