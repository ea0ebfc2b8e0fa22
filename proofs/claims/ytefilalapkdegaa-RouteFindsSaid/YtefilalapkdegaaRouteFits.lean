/- Fits of a route and a path: the program and the reference. -/
import Derived.Test.YtefilalapkdegaaRouteRFit
namespace Go.Proofs.Ytefilalapkdegaa
open Go.RowKit Str Mem
set_option linter.unusedVariables false
set_option linter.unusedSimpArgs false

namespace Route
def fitsErr (e : Int) (p : Bs) : Int := if e = 0 then (if Dots.normal p = true then 0 else 18) else e
def fitR (e : Int) (l : List Bs) (p : Bs) : Option (List Bs × List Bs × Bs) := if fitsErr e p = 0 then fit (Dots.isOpen p) l (Dots.segments p) else none
end Route
theorem SlAt.set7 {w : World} {B R : Nat} {v : Value} {l : List (List UInt8)} {x0 x1 x2 x3 x4 x5 x6 : Value} (h : SlAt w B v l) (hR : R < B) : SlAt (set7 w R x0 x1 x2 x3 x4 x5 x6) B v l := by
  obtain ⟨a, c, rfl, h1, h2, h3, h4⟩ := h
  exact ⟨a, c, rfl, h1, h2, Rd.set7 h3 (fun ad e q => by have := h4 ad e; omega), h4⟩
theorem SlAt.mono {w : World} {B B' : Nat} {v : Value} {l : List (List UInt8)} (h : SlAt w B v l) (hB : B' ≤ B) : SlAt w B' v l := by
  obtain ⟨a, c, rfl, h1, h2, h3, h4⟩ := h
  exact ⟨a, c, rfl, h1, h2, h3, fun ad e => Nat.le_trans hB (h4 ad e)⟩
theorem SlAt.below {w w' : World} {B : Nat} {v : Value} {l : List (List UInt8)} (h : SlAt w B v l) (hb : Below w.heap.size w w') : SlAt w' B v l := by
  obtain ⟨a, c, rfl, h1, h2, h3, h4⟩ := h
  exact ⟨a, c, rfl, h1, h2, Strs.below h3 hb, h4⟩
section
variable {w w' : World} {B B' R : Nat} {l : List (List UInt8)} {kd : Int} {t : List UInt8} {o : Option (List (List UInt8) × List (List UInt8) × List UInt8)} {v : Value}
theorem FoundIs.below (h : FoundIs w B l kd t o v) (hb : Below w.heap.size w w') : FoundIs w' B l kd t o v := by
  rcases o with _ | ⟨N, V, R⟩
  · exact h
  · obtain ⟨vl, vN, vV, e, h1, h2, h3⟩ := h
    exact ⟨vl, vN, vV, e, h1.below hb, h2.below hb, h3.below hb⟩
theorem FoundIs.mono (h : FoundIs w B l kd t o v) (hB : B' ≤ B) : FoundIs w B' l kd t o v := by
  rcases o with _ | ⟨N, V, R⟩
  · exact h
  · obtain ⟨vl, vN, vV, e, h1, h2, h3⟩ := h
    exact ⟨vl, vN, vV, e, h1.mono hB, h2.mono hB, h3.mono hB⟩
theorem FoundIs.set7 {x0 x1 x2 x3 x4 x5 x6 : Value} (h : FoundIs w B l kd t o v) (hR : R < B) : FoundIs (Mem.set7 w R x0 x1 x2 x3 x4 x5 x6) B l kd t o v := by
  rcases o with _ | ⟨N, V, R⟩
  · simp only [FoundIs] at h ⊢
    exact h
  · obtain ⟨vl, vN, vV, e, h1, h2, h3⟩ := h
    exact ⟨vl, vN, vV, e, h1.set7 hR, h2.set7 hR, h3.set7 hR⟩
/-- What is found, cell by cell. -/
theorem FoundIs.cells (h : FoundIs w B l kd t o v) :
    ∃ (b : Bool) (al : Option Addr) (nl cl : Nat) (kd' : Int) (t' : ByteArray) (aN : Option Addr) (nN cN : Nat) (aV : Option Addr) (nV cV : Nat) (r : ByteArray), v = .agg #[.bool b, .slice al nl cl, .int .i64 kd', .string t', .slice aN nN cN, .slice aV nV cV, .string r] := by
  rcases o with _ | ⟨N, V, R⟩
  · exact ⟨_, _, _, _, _, _, _, _, _, _, _, _, _, h⟩
  · obtain ⟨vl, vN, vV, e, ⟨a1, c1, rfl, _⟩, ⟨a2, c2, rfl, _⟩, ⟨a3, c3, rfl, _⟩⟩ := h
    exact ⟨_, _, _, _, _, _, _, _, _, _, _, _, _, e⟩
end

set_option maxRecDepth 20000 in
set_option maxHeartbeats 4000000 in
theorem vFits_any (a : Option Addr) (c : Nat) (l : List (List UInt8)) (kd : Int) (t : List UInt8) (p : ByteArray) (w : World) (h : RtOk w a l.length c l t) :
    Calls Try.prog 21 #[rtv a l.length c kd t, .string p] w fun e w' => ∃ v, e = .returned (.tuple #[v, .int .i64 (Route.fitsErr (Route.err l kd t) p.data.toList)]) ∧ FoundIs w' w.heap.size l kd t (Route.fitR (Route.err l kd t) l p.data.toList) v ∧ Below w.heap.size w w' := by
  have hv := fun w' (hb : Below w.heap.size w w') => vroute_any a c l kd t w' (h.below hb)
  have hno := fun w => normal_any p w
  have hfi := fun w' (hb : Below w.heap.size w w') he hn => vfits_any a c l kd t p w' (h.below hb) he hn
  obtain ⟨e1, he1⟩ : ∃ e, Route.err l kd t = e := ⟨_, rfl⟩
  obtain ⟨b1, hb1⟩ : ∃ b, Dots.normal p.data.toList = b := ⟨_, rfl⟩
  rw [he1] at hv hfi ⊢
  rw [hb1] at hno hfi
  obtain ⟨o, ho⟩ : ∃ o, Route.fitR e1 l p.data.toList = o := ⟨_, rfl⟩
  obtain ⟨er, her⟩ : ∃ e, Route.fitsErr e1 p.data.toList = e := ⟨_, rfl⟩
  rw [ho, her]
  unfold rtv at hv hfi ⊢
  obtain ⟨W0, hW0⟩ : ∃ W0, W0 = (w.alloc (Obj.cells #[.slice a l.length c, .int .i64 kd, .string ⟨t.toArray⟩] 35)).alloc (Obj.cells #[.bool false, .slice none 0 0, .int .i64 0, .string ⟨#[]⟩, .slice none 0 0, .slice none 0 0, .string ⟨#[]⟩] 43) := ⟨_, rfl⟩
  have hb0 : Below w.heap.size w W0 := by rw [hW0]; exact ((Below.refl _ w).alloc (Nat.le_refl _) _).alloc (by simp) _
  have hsz0 : W0.heap.size = w.heap.size + 2 := by rw [hW0]; simp
  have hx0 : Rd W0 3 (some ⟨w.heap.size, 0, none⟩) 1 [.slice a l.length c, .int .i64 kd, .string ⟨t.toArray⟩] := by rw [hW0]; exact (box3_new w _ _ _ _).alloc _
  have hr0 : W0.heap[w.heap.size + 1]? = some (.cells [.bool false, .slice none 0 0, .int .i64 0, .string ⟨#[]⟩, .slice none 0 0, .slice none 0 0, .string ⟨#[]⟩].toArray 43 (0, 0)) := by
    rw [hW0]
    have := heap_alloc_new (w.alloc (Obj.cells #[.slice a l.length c, .int .i64 kd, .string ⟨t.toArray⟩] 35)) (Obj.cells #[.bool false, .slice none 0 0, .int .i64 0, .string ⟨#[]⟩, .slice none 0 0, .slice none 0 0, .string ⟨#[]⟩] 43)
    rw [World.size_alloc] at this
    exact this
  have HW := Lib.hid hW0
  have hv0 := hv W0 hb0
  obtain ⟨p0, p1, p2⟩ := box3 hx0
  rw [hW0] at p0 p1 p2
  clear hW0 hv
  by_cases h0 : e1 = 0
  · have H0 := Lib.hid h0
    have h0b : (e1 == 0) = true := by rw [h0]; rfl
    have h0c : (e1 != 0) = false := by rw [h0]; rfl
    rcases b1 with _ | _
    · have Her := Lib.hid (show er = 18 by rw [← her]; unfold Route.fitsErr; rw [if_pos h0, if_neg (by rw [hb1]; simp)])
      have Ho := Lib.hid (show o = none by rw [← ho]; unfold Route.fitR; rw [her, Her.out]; rfl)
      clear h0 ho her hb1 hfi he1
      go_enter Try.func21, Try.ntmps21
      go_wp2_with fail
      rw [← HW.out]
      refine hv0.mono ?_
      rintro e w1 ⟨rfl, g1⟩
      have hbl := hb0.trans (g1.mono hb0.size)
      go_wp2_with fail
      refine (hno _).mono ?_
      rintro e w2 ⟨rfl, g2⟩
      have hbl2 := hbl.trans (g2.mono hbl.size)
      have hr2 := (g2.block (w.heap.size + 1) (by have := g1.size; omega)).trans ((g1.block _ (by omega)).trans hr0)
      obtain ⟨⟨r0, r1, r2, r3, r4, r5, r6⟩, m0, m1, m2, m3, m4, m5, m6⟩ := row7 hr2
      go_wp2_with fail
      obtain ⟨Wf, hWf⟩ : ∃ Wf, Wf = set7 (w2) (w.heap.size + 1) (.bool false) (.slice none 0 0) (.int .i64 0) (.string ⟨#[]⟩) (.slice none 0 0) (.slice none 0 0) (.string ⟨#[]⟩) := ⟨_, rfl⟩
      have hrf : Wf.heap[w.heap.size + 1]? = some (.cells [.bool false, .slice none 0 0, .int .i64 0, .string ⟨#[]⟩, .slice none 0 0, .slice none 0 0, .string ⟨#[]⟩].toArray 43 (0, 0)) := by rw [hWf]; exact set7_row hr2
      have hbf : Below w.heap.size w Wf := by rw [hWf]; exact set7_below hbl2 (by omega)
      have hFF : FoundIs Wf w.heap.size l kd t o (.agg #[.bool false, .slice none 0 0, .int .i64 0, .string ⟨#[]⟩, .slice none 0 0, .slice none 0 0, .string ⟨#[]⟩]) := by rw [Ho.out]; rfl
      unfold set7 at hWf
      rw [← hWf]
      clear hWf
      obtain ⟨⟨z0, z1, z2, z3, z4, z5, z6⟩, _⟩ := row7 hrf
      refine bodyPost_ret (v := .tuple #[.agg #[.bool false, .slice none 0 0, .int .i64 0, .string ⟨#[]⟩, .slice none 0 0, .slice none 0 0, .string ⟨#[]⟩], .int .i64 18]) (by simp [results, Try.results21, go_sem, z0, z1, z2, z3, z4, z5, z6]) rfl ⟨.agg #[.bool false, .slice none 0 0, .int .i64 0, .string ⟨#[]⟩, .slice none 0 0, .slice none 0 0, .string ⟨#[]⟩], ?_, hFF, hbf⟩
      rw [Her.out]
    · have Her := Lib.hid (show er = 0 by rw [← her]; unfold Route.fitsErr; rw [if_pos h0, if_pos hb1])
      have Ho := Lib.hid (show o = Route.fit (Dots.isOpen p.data.toList) l (Dots.segments p.data.toList) by rw [← ho]; unfold Route.fitR; rw [her, Her.out]; rfl)
      have hfj : ∀ w', Below w.heap.size w w' → _ := fun w' hb => hfi w' hb h0 rfl
      clear hfi
      clear h0 ho her hb1 he1
      go_enter Try.func21, Try.ntmps21
      go_wp2_with fail
      rw [← HW.out]
      refine hv0.mono ?_
      rintro e w1 ⟨rfl, g1⟩
      have hbl := hb0.trans (g1.mono hb0.size)
      go_wp2_with fail
      refine (hno _).mono ?_
      rintro e w2 ⟨rfl, g2⟩
      have hbl2 := hbl.trans (g2.mono hbl.size)
      have hr2 := (g2.block (w.heap.size + 1) (by have := g1.size; omega)).trans ((g1.block _ (by omega)).trans hr0)
      obtain ⟨q0, q1, q2⟩ := box3 ((hx0.below g1).below g2)
      have hfi2 := hfj _ hbl2
      rw [← Ho.out] at hfi2
      go_wp2_with fail
      refine hfi2.mono ?_
      rintro e w3 ⟨v, rfl, hF, g3⟩
      have hbl3 := hbl2.trans (g3.mono hbl2.size)
      have hr3 := (g3.block (w.heap.size + 1) (by have := g1.size; have := g2.size; omega)).trans hr2
      obtain ⟨⟨r0, r1, r2, r3, r4, r5, r6⟩, m0, m1, m2, m3, m4, m5, m6⟩ := row7 hr3
      obtain ⟨xb, al, nl, cl, kd', t', aN, nN, cN, aV, nV, cV, xr, rfl⟩ := hF.cells
      have hs2 := g2.size
      have hs1 := g1.size
      go_wp2_with fail
      obtain ⟨Wf, hWf⟩ : ∃ Wf, Wf = set7 (w3) (w.heap.size + 1) (.bool xb) (.slice al nl cl) (.int .i64 kd') (.string t') (.slice aN nN cN) (.slice aV nV cV) (.string xr) := ⟨_, rfl⟩
      have hrf : Wf.heap[w.heap.size + 1]? = some (.cells [.bool xb, .slice al nl cl, .int .i64 kd', .string t', .slice aN nN cN, .slice aV nV cV, .string xr].toArray 43 (0, 0)) := by rw [hWf]; exact set7_row hr3
      have hbf : Below w.heap.size w Wf := by rw [hWf]; exact set7_below hbl3 (by omega)
      have hFF : FoundIs Wf w.heap.size l kd t o (.agg #[.bool xb, .slice al nl cl, .int .i64 kd', .string t', .slice aN nN cN, .slice aV nV cV, .string xr]) := by rw [hWf]; exact (hF.set7 (by omega)).mono (by omega)
      unfold set7 at hWf
      rw [← hWf]
      clear hWf
      obtain ⟨⟨z0, z1, z2, z3, z4, z5, z6⟩, _⟩ := row7 hrf
      refine bodyPost_ret (v := .tuple #[.agg #[.bool xb, .slice al nl cl, .int .i64 kd', .string t', .slice aN nN cN, .slice aV nV cV, .string xr], .int .i64 0]) (by simp [results, Try.results21, go_sem, z0, z1, z2, z3, z4, z5, z6]) rfl ⟨.agg #[.bool xb, .slice al nl cl, .int .i64 kd', .string t', .slice aN nN cN, .slice aV nV cV, .string xr], ?_, hFF, hbf⟩
      rw [Her.out]
  · have h0b : (e1 == 0) = false := by simpa using h0
    have h0c : (e1 != 0) = true := by simpa using h0
    have Her := Lib.hid (show er = e1 by rw [← her]; unfold Route.fitsErr; rw [if_neg h0])
    have Ho := Lib.hid (show o = none by rw [← ho]; unfold Route.fitR; rw [her, Her.out, if_neg h0])
    clear h0 ho her hb1 hfi he1
    go_enter Try.func21, Try.ntmps21
    go_wp2_with fail
    rw [← HW.out]
    refine hv0.mono ?_
    rintro e w2 ⟨rfl, g1⟩
    have hbl2 := hb0.trans (g1.mono hb0.size)
    have hr2 := (g1.block (w.heap.size + 1) (by omega)).trans hr0
    obtain ⟨⟨r0, r1, r2, r3, r4, r5, r6⟩, m0, m1, m2, m3, m4, m5, m6⟩ := row7 hr2
    go_wp2_with fail
    obtain ⟨Wf, hWf⟩ : ∃ Wf, Wf = set7 (w2) (w.heap.size + 1) (.bool false) (.slice none 0 0) (.int .i64 0) (.string ⟨#[]⟩) (.slice none 0 0) (.slice none 0 0) (.string ⟨#[]⟩) := ⟨_, rfl⟩
    have hrf : Wf.heap[w.heap.size + 1]? = some (.cells [.bool false, .slice none 0 0, .int .i64 0, .string ⟨#[]⟩, .slice none 0 0, .slice none 0 0, .string ⟨#[]⟩].toArray 43 (0, 0)) := by rw [hWf]; exact set7_row hr2
    have hbf : Below w.heap.size w Wf := by rw [hWf]; exact set7_below hbl2 (by omega)
    have hFF : FoundIs Wf w.heap.size l kd t o (.agg #[.bool false, .slice none 0 0, .int .i64 0, .string ⟨#[]⟩, .slice none 0 0, .slice none 0 0, .string ⟨#[]⟩]) := by rw [Ho.out]; rfl
    unfold set7 at hWf
    rw [← hWf]
    clear hWf
    obtain ⟨⟨z0, z1, z2, z3, z4, z5, z6⟩, _⟩ := row7 hrf
    refine bodyPost_ret (v := .tuple #[.agg #[.bool false, .slice none 0 0, .int .i64 0, .string ⟨#[]⟩, .slice none 0 0, .slice none 0 0, .string ⟨#[]⟩], .int .i64 e1]) (by simp [results, Try.results21, go_sem, z0, z1, z2, z3, z4, z5, z6]) rfl ⟨.agg #[.bool false, .slice none 0 0, .int .i64 0, .string ⟨#[]⟩, .slice none 0 0, .slice none 0 0, .string ⟨#[]⟩], ?_, hFF, hbf⟩
    rw [Her.out]

end Go.Proofs.Ytefilalapkdegaa
