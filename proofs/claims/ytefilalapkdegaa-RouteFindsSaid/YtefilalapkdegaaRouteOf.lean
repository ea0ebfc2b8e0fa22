/- The form of a route (what alike routes have in common), by the program. -/
import Derived.Test.YtefilalapkdegaaRouteKinds
import Derived.Test.YtefilalapkdegaaRoutePath
import Derived.Test.YtefilalapkdegaaFitMem
namespace Go.Proofs.Ytefilalapkdegaa
open Go.RowKit Str Mem
set_option linter.unusedVariables false
set_option linter.unusedSimpArgs false

namespace Route
def brace (s : Bs) : Bs := if kind s = 2 then [123, 125] else s
def formOf (l : List Bs) : Bs := Dots.glue (l.map brace)
theorem brace_take {l : List Bs} {k : Nat} (h : k < l.length) : (l.take (k + 1)).map brace = (l.take k).map brace ++ [brace (nth l k)] := by
  rw [← List.take_append_getElem h, List.map_append]
  rw [show l[k] = nth l k from (nth_get (List.getElem?_eq_getElem h)).symm]; rfl
end Route

def OfI (w : World) (l : List (List UInt8)) (v1 v2 v3 : Value) (i out : Value) (wr : World) : Prop :=
  ∃ k : Nat, i = .int .i64 k ∧ k ≤ l.length ∧ Owns wr (w.heap.size + 2) 9 1 out k (((l.take k).map Route.brace).map sv) ∧ Below w.heap.size w wr ∧ Rd wr 3 (some ⟨w.heap.size, 0, none⟩) 1 [v1, v2, v3] ∧ wr.heap[w.heap.size + 1]? = some (.cells [.string ⟨#[]⟩, .int .i64 0].toArray 69 (0, 0))

set_option maxRecDepth 20000 in
set_option maxHeartbeats 4000000 in
theorem of_any (a : Option Addr) (c : Nat) (l : List (List UInt8)) (kd : Int) (t : List UInt8) (w : World) (h : RtOk w a l.length c l t) (he : Route.err l kd t = 0) :
    Calls Try.prog 42 #[rtv a l.length c kd t] w fun e w' => e = .returned (.agg #[.string ⟨(Route.formOf l).toArray⟩, .int .i64 l.length]) ∧ Below w.heap.size w w' := by
  obtain ⟨i0, hi, hz0, hz1, hz2⟩ := info_of infoTxt
  have hf := Route.fine_of he
  have hl16 := (Route.err_ok he).1
  unfold rtv
  obtain ⟨W0, hW0⟩ : ∃ W0, W0 = (w.alloc (.cells #[.slice a l.length c, .int .i64 kd, .string ⟨t.toArray⟩] 35)).alloc (.cells #[.string ⟨#[]⟩, .int .i64 0] 69) := ⟨_, rfl⟩
  have hb0 : Below w.heap.size w W0 := by rw [hW0]; exact ((Below.refl _ w).alloc (Nat.le_refl _) _).alloc (by simp) _
  have hsz0 : W0.heap.size = w.heap.size + 2 := by rw [hW0]; simp
  have hx0 : Rd W0 3 (some ⟨w.heap.size, 0, none⟩) 1 [.slice a l.length c, .int .i64 kd, .string ⟨t.toArray⟩] := by rw [hW0]; exact (box3_new w _ _ _ _).alloc _
  have hr0 : W0.heap[w.heap.size + 1]? = some (.cells [.string ⟨#[]⟩, .int .i64 0].toArray 69 (0, 0)) := by
    rw [hW0]
    have := heap_alloc_new (w.alloc (.cells #[.slice a l.length c, .int .i64 kd, .string ⟨t.toArray⟩] 35)) (.cells #[.string ⟨#[]⟩, .int .i64 0] 69)
    rw [World.size_alloc] at this
    exact this
  obtain ⟨p0, p1, p2⟩ := box3 hx0
  rw [hW0] at p0 p1 p2
  have HW := Lib.hid hW0
  rw [hW0] at hb0 hx0 hr0 hsz0
  clear hW0
  go_enter Try.func42, Try.ntmps42
  go_wp2
  go_loopw [9, 3, 5] (fun i out _ wr => OfI w l (.slice a l.length c) (.int .i64 kd) (.string ⟨t.toArray⟩) i out wr) (fun i _ _ _ => l.length - (intOf i).toNat)
  case atStart => exact ⟨0, rfl, Nat.zero_le _, Owns.nil _ _ _ _, hb0, hx0, hr0⟩
  case round =>
    clear p0 p1 p2 hx0 hr0 hb0
    obtain ⟨k, rfl, hk, hown, hbl, hbx, hrow⟩ := hrel
    obtain ⟨p0, p1, p2⟩ := box3 hbx
    have hsz : w.heap.size + 2 ≤ wr.heap.size := (Array.getElem?_eq_some_iff.1 hrow).1
    have hol : ∀ j, u3.ownBlock = some j → w.heap.size + 2 ≤ j := fun j hj => (hown.lt j hj).1
    by_cases hlt : k < l.length
    · obtain ⟨ad, rfl, hbb, hls, hcell, hsl⟩ := (h.below hbl).get hlt
      have hs0 : 0 < (bs (Route.nth l k)).size := by rw [size_bs]; exact List.length_pos_iff.2 (hf.at hlt).1
      have hkd := fun w => kind_any (bs (Route.nth l k)) hs0 w
      rw [data_bs] at hkd
      have HT := Lib.hid (Route.brace_take hlt)
      obtain ⟨q, hq⟩ : ∃ q, Route.kind (Route.nth l k) = q := ⟨_, rfl⟩
      have hqc := Route.kind_cases (Route.nth l k)
      rw [hq] at hkd hqc
      have HQ := Lib.hid hq
      clear hs0 hls hq
      have i0' : (0 : Int) ≤ (k : Int) := by omega
      have i1 : (k : Int) < (l.length : Int) := by omega
      rcases hqc with rfl | rfl | rfl
      · have HB := Lib.hid (show Route.brace (Route.nth l k) = Route.nth l k by unfold Route.brace; rw [if_neg (by rw [HQ.out]; decide)])
        go_wp2_with (first
          | (go_at_call 44; refine (hkd _).mono ?_; rintro e w2 ⟨rfl, rfl⟩)
          | (at_builtin; go_must (refine wpList_append_owns _ rfl _ _ 33 rfl (w.heap.size + 2) 9 i0 (.string ⟨#[]⟩) 1 16 Try.underlying33 hi hz0 hz1 hz2 rfl (by decide) _ k _ rfl (hown.alloc _) (some ⟨wr.heap.size, 0, none⟩) 1 1 [sv (Route.nth l k)] rfl (Rd.one _ _ _) (by simp [sv, Value.oneCell']) (by simp only [maxLen]; omega) (by omega) (by simp; omega) ?_); intro v' w3 hown' hgrow))
        refine ⟨⟨k + 1, by go_num, by omega, ?_, (hbl.alloc (by omega) _).grown hgrow (by simp; omega) (by rintro j hj; have := hol j hj; omega), Rd.grown (hbx.alloc _) hgrow (by rintro ad' e' hj; cases e'; have := hol _ hj.symm; simp at this; omega), ?_⟩, by simp [intOf]; omega⟩
        · rw [HT.out, HB.out, List.map_append]; exact hown'
        · exact (hgrow.block _ (by simp; omega) (fun q => by have := hol _ q.symm; omega)).trans ((Below.heap_alloc wr _ _ (by omega)).trans hrow)
      · have HB := Lib.hid (show Route.brace (Route.nth l k) = [123, 125] by unfold Route.brace; rw [if_pos HQ.out])
        go_wp2_with (first
          | (go_at_call 44; refine (hkd _).mono ?_; rintro e w2 ⟨rfl, rfl⟩)
          | (at_builtin; go_must (refine wpList_append_owns _ rfl _ _ 33 rfl (w.heap.size + 2) 9 i0 (.string ⟨#[]⟩) 1 16 Try.underlying33 hi hz0 hz1 hz2 rfl (by decide) _ k _ rfl (hown.alloc _) (some ⟨wr.heap.size, 0, none⟩) 1 1 [sv [123, 125]] rfl (Rd.one _ _ _) (by simp [sv, Value.oneCell']) (by simp only [maxLen]; omega) (by omega) (by simp; omega) ?_); intro v' w3 hown' hgrow))
        refine ⟨⟨k + 1, by go_num, by omega, ?_, (hbl.alloc (by omega) _).grown hgrow (by simp; omega) (by rintro j hj; have := hol j hj; omega), Rd.grown (hbx.alloc _) hgrow (by rintro ad' e' hj; cases e'; have := hol _ hj.symm; simp at this; omega), ?_⟩, by simp [intOf]; omega⟩
        · rw [HT.out, HB.out, List.map_append]; exact hown'
        · exact (hgrow.block _ (by simp; omega) (fun q => by have := hol _ q.symm; omega)).trans ((Below.heap_alloc wr _ _ (by omega)).trans hrow)
      · have HB := Lib.hid (show Route.brace (Route.nth l k) = Route.nth l k by unfold Route.brace; rw [if_neg (by rw [HQ.out]; decide)])
        go_wp2_with (first
          | (go_at_call 44; refine (hkd _).mono ?_; rintro e w2 ⟨rfl, rfl⟩)
          | (at_builtin; go_must (refine wpList_append_owns _ rfl _ _ 33 rfl (w.heap.size + 2) 9 i0 (.string ⟨#[]⟩) 1 16 Try.underlying33 hi hz0 hz1 hz2 rfl (by decide) _ k _ rfl (hown.alloc _) (some ⟨wr.heap.size, 0, none⟩) 1 1 [sv (Route.nth l k)] rfl (Rd.one _ _ _) (by simp [sv, Value.oneCell']) (by simp only [maxLen]; omega) (by omega) (by simp; omega) ?_); intro v' w3 hown' hgrow))
        refine ⟨⟨k + 1, by go_num, by omega, ?_, (hbl.alloc (by omega) _).grown hgrow (by simp; omega) (by rintro j hj; have := hol j hj; omega), Rd.grown (hbx.alloc _) hgrow (by rintro ad' e' hj; cases e'; have := hol _ hj.symm; simp at this; omega), ?_⟩, by simp [intOf]; omega⟩
        · rw [HT.out, HB.out, List.map_append]; exact hown'
        · exact (hgrow.block _ (by simp; omega) (fun q => by have := hol _ q.symm; omega)).trans ((Below.heap_alloc wr _ _ (by omega)).trans hrow)
    · obtain rfl : k = l.length := by omega
      rw [List.take_length] at hown
      have hbody : (Dots.body (l.map Route.brace)).length ≤ 16 * 100001 := Nat.le_trans (body_le (M := 100000) (l.map Route.brace) (fun s hs => by
        obtain ⟨s0, h0, rfl⟩ := List.mem_map.1 hs
        have := h.short s0 h0
        unfold Route.brace
        split
        · simp
        · exact this)) (Nat.mul_le_mul_right _ (by simpa using hl16))
      have hjo := join_own hown (by omega)
      have HG := Lib.hid (show Route.formOf l = Dots.glue (l.map Route.brace) from rfl)
      obtain ⟨G, hG⟩ : ∃ G, G = Dots.glue (l.map Route.brace) := ⟨_, rfl⟩
      rw [← hG] at hjo HG
      obtain ⟨a', c', rfl, _⟩ := hown.form
      clear hG
      go_wp2_with fail
      refine hjo.mono ?_
      rintro e w5 ⟨rfl, g5⟩
      have hb5 := hbl.trans (g5.mono hbl.size)
      have hr5 := (g5.block (w.heap.size + 1) (by omega)).trans hrow
      have c0 := row_cell hr5 0
      have c1 := row_cell hr5 1
      have f0 := row_frozen hr5 0
      have f1 := row_frozen hr5 1
      simp only [List.getElem?_cons_zero, List.getElem?_cons_succ] at c0 c1
      go_wp2_with fail
      obtain ⟨Wf, hWf⟩ : ∃ Wf, Wf = (w5.setCell ⟨w.heap.size + 1, 0, none⟩ (.string ⟨G.toArray⟩)).setCell ⟨w.heap.size + 1, 1, none⟩ (.int .i64 l.length) := ⟨_, rfl⟩
      have hrf : Wf.heap[w.heap.size + 1]? = some (.cells [.string ⟨G.toArray⟩, .int .i64 l.length].toArray 69 (0, 0)) := by rw [hWf]; exact set_row (set_row hr5 0 _) 1 _
      have hbf : Below w.heap.size w Wf := by rw [hWf]; exact (hb5.setCell (p := ⟨w.heap.size + 1, 0, none⟩) (by show w.heap.size ≤ w.heap.size + 1; omega) _).setCell (p := ⟨w.heap.size + 1, 1, none⟩) (by show w.heap.size ≤ w.heap.size + 1; omega) _
      rw [← hWf]
      clear hWf
      have z0 := row_cell hrf 0
      have z1 := row_cell hrf 1
      simp only [List.getElem?_cons_zero, List.getElem?_cons_succ] at z0 z1
      refine bodyPost_ret (v := .agg #[.string ⟨G.toArray⟩, .int .i64 l.length]) (by simp [results, Try.results42, go_sem, z0, z1]) rfl ⟨?_, hbf⟩
      rw [HG.out]
end Go.Proofs.Ytefilalapkdegaa
