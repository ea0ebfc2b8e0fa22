/- RouteMore: one route more. -/
import Derived.Test.YtefilalapkdegaaRouteFindG
namespace Go.Proofs.Ytefilalapkdegaa
open Go.RowKit Str Mem
set_option linter.unusedVariables false
set_option linter.unusedSimpArgs false

theorem cell_below {W W' : World} (hb : Below W.heap.size W W') {a : Addr} {v : Value} (h : W.cell? a = some v) : W'.cell? a = some v := by
  have hlt : a.block < W.heap.size := by
    rcases Nat.lt_or_ge a.block W.heap.size with h1 | h1
    · exact h1
    · exfalso
      have hn : W.heap[a.block]? = none := Array.getElem?_eq_none h1
      unfold World.cell? at h
      rw [hn] at h
      cases h
  exact (World.cell?_of_block (hb.block _ hlt)).trans h
theorem ownInts_own (a : Option Addr) (c : Nat) (l : List Int) (w : World) (hS : Ints w a l.length l) (hn : l.length ≤ 2000000) :
    Calls Try.prog 18 #[.slice a l.length c] w fun e w' => ∃ v, e = .returned v ∧ Owns w' w.heap.size 3 1 v l.length (l.map iv) ∧ Below w.heap.size w w' := by
  obtain ⟨i0, hi, hz0, hz1, hz2⟩ := info_of infoInt
  go_enter Try.func18, Try.ntmps18
  go_wp2_with (at_builtin; go_must (refine wpList_append_owns _ rfl _ _ 22 rfl w.heap.size 3 i0 (.int .i64 0) 1 8 Try.underlying22 hi hz0 hz1 hz2 rfl (by decide) _ 0 [] rfl (Owns.fresh w _ 1) a l.length c (l.map iv) rfl (Rd.alloc hS _) (one_iv l) (by simp only [maxLen]; omega) (by omega) (by simp) ?_); intro v' w3 hown hgrow)
  go_ret
  exact ⟨_, rfl, by simpa using hown, ((Below.refl _ w).alloc (Nat.le_refl _) _).grown hgrow (by simp) (by rintro k hk; change some w.heap.size = some k at hk; cases hk; exact Nat.le_refl _)⟩
theorem flat_take : ∀ (L : List RtV) (k : Nat), (L.flatMap RtV.cells).take (k * 3) = (L.take k).flatMap RtV.cells
  | [], k => by simp
  | r :: L, 0 => by simp
  | r :: L, k + 1 => by
    rw [List.take_succ_cons, List.flatMap_cons, List.flatMap_cons, ← flat_take L k, Nat.succ_mul]
    rfl
theorem Rts.take {w : World} {a : Option Addr} {L : List RtV} (h : Rts w a L) {k : Nat} (hk : k ≤ L.length) : Rts w a (L.take k) := by
  refine ⟨?_, fun r hr => h.each r (List.mem_of_mem_take hr)⟩
  have := Rd.take h.row hk
  rw [flat_take] at this
  rw [List.length_take, Nat.min_eq_left hk]
  exact this
theorem Valid.take {L : List RtV} (h : Valid L) (k : Nat) : Valid (L.take k) := ⟨by have := h.len; rw [List.length_take]; omega, fun r hr => h.ok r (List.mem_of_mem_take hr), fun r hr => h.plain r (List.mem_of_mem_take hr)⟩
/-- The last one does not fit: the same is found without it. -/
theorem found_less {L : List RtV} {p : List UInt8} {r : RtV} (hg : Good L) (hp : Dots.normal p = true) {k : Nat} (hk : k + 1 = L.length) (hr : L[k]? = some r) (hf : (Route.fit (Dots.isOpen p) r.l (Dots.segments p)).isSome = false) : fdAt (L.take k) p = fdAt L p := by
  refine (fdAt_same hg.valid (hg.valid.take k) hp hg (fun q hq hfq => ?_) (fun q hq _ => ⟨q, List.mem_of_mem_take hq, rfl⟩)).symm
  obtain ⟨j, hj, e⟩ := List.mem_iff_getElem.1 hq
  rcases Nat.lt_or_ge j k with h | h
  · exact ⟨q, List.mem_of_getElem? (i := j) (by rw [List.getElem?_take, if_pos h, List.getElem?_eq_getElem hj, e]), rfl⟩
  · exfalso
    have hjk : j = k := by omega
    subst hjk
    rw [List.getElem?_eq_getElem hj, e] at hr
    cases hr
    rw [hfq] at hf
    cases hf
theorem make_path {l : List (List UInt8)} (h : (Dots.make l false).2 = 0) : Dots.normal (Dots.make l false).1 = true ∧ Dots.segments (Dots.make l false).1 = l := by
  by_cases hn : l.all Dots.name = true
  · rw [make_good hn] at h ⊢
    have hN : Dots.Names l := fun s hs => List.all_eq_true.1 hn s hs
    unfold Dots.limited at h ⊢
    by_cases h8 : (Dots.built l false).length ≤ 128
    · rw [if_pos h8]
      refine ⟨?_, Dots.segments_built hN false⟩
      show Dots.normal (Dots.built l false) = true
      rw [Dots.normal_built hN, decide_eq_true_eq]
      exact h8
    · rw [if_neg h8] at h; cases h
  · unfold Dots.make at h
    rw [if_neg hn] at h
    cases h
theorem body_small {l : List (List UInt8)} (h : ∀ s ∈ l, s.length ≤ 4) : (Dots.body l).length ≤ l.length * 5 := by
  induction l with
  | nil => simp [Dots.body]
  | cons s l ih =>
    have h1 := ih (fun x hx => h x (by simp [hx]))
    have h2 := h s (by simp)
    rw [Dots.body_cons, List.length_cons, List.length_append, List.length_cons]
    omega
theorem FForm.row {w : World} {D : FD} {v : Value} (h : FForm w D v) : ∃ al cl aN cN aV cV, v = .agg #[.bool D.b, .slice al D.l.length cl, .int .i64 D.kd, .string ⟨D.t.toArray⟩, .slice aN D.N.length cN, .slice aV D.V.length cV, .string ⟨D.R.toArray⟩] := by
  obtain ⟨al, cl, aN, cN, aV, cV, e, _⟩ := h
  exact ⟨al, cl, aN, cN, aV, cV, e⟩
def fcs (D : FD) (al aN aV : Option Addr) (cl cN cV : Nat) : List Value := [.bool D.b, .slice al D.l.length cl, .int .i64 D.kd, .string ⟨D.t.toArray⟩, .slice aN D.N.length cN, .slice aV D.V.length cV, .string ⟨D.R.toArray⟩]
theorem fcs_cells {W : World} {g T : Nat} {D : FD} {al aN aV : Option Addr} {cl cN cV : Nat} (h : W.heap[g]? = some (.cells (fcs D al aN aV cl cN cV).toArray T (0, 0))) :
    W.cell? ⟨g, 0, none⟩ = some (.bool D.b) ∧ W.cell? ⟨g, 1, none⟩ = some (.slice al D.l.length cl) ∧ W.cell? ⟨g, 2, none⟩ = some (.int .i64 D.kd) ∧ W.cell? ⟨g, 3, none⟩ = some (.string ⟨D.t.toArray⟩) ∧ W.cell? ⟨g, 4, none⟩ = some (.slice aN D.N.length cN) ∧ W.cell? ⟨g, 5, none⟩ = some (.slice aV D.V.length cV) ∧ W.cell? ⟨g, 6, none⟩ = some (.string ⟨D.R.toArray⟩) :=
  ⟨row_cell h 0, row_cell h 1, row_cell h 2, row_cell h 3, row_cell h 4, row_cell h 5, row_cell h 6⟩
theorem fit_b {l : List (List UInt8)} {kd : Int} {t : List UInt8} {o : Option (List (List UInt8) × List (List UInt8) × List UInt8)} : (fdOf l kd t o).b = o.isSome := by
  rcases o with _ | ⟨N, V, R⟩ <;> rfl
set_option maxRecDepth 100000 in
set_option maxHeartbeats 16000000 in
theorem lawRouteMore_any (a : Option Addr) (c : Nat) (l : List Int) (more pn : Int) (w : World) (hI : Ints w a l.length l) (hl : l.length ≤ 1048576) :
    Calls Try.prog 4 #[.slice a l.length c, .int .i64 more, .int .i64 pn] w fun e w' => e = .returned (.bool true) ∧ Below w.heap.size w w' := by
  obtain ⟨i0, hi0, hz0, hz1, hz2⟩ := info_of infoInt
  go_enter Try.func4, Try.ntmps4
  go_wp2_with fail
  refine (ownInts_own a c l w hI (by omega)).mono ?_
  rintro e0 w0 ⟨v0, rfl, hO0, h0⟩
  have hs0 := h0.size
  go_wp2_with (at_builtin; go_must (refine wpList_append_owns _ rfl _ _ 22 rfl w.heap.size 3 i0 (.int .i64 0) 1 8 Try.underlying22 hi0 hz0 hz1 hz2 rfl (by decide) _ l.length (l.map iv) rfl (hO0.alloc _) _ 1 1 [.int .i64 more] rfl (Rd.one _ _ _) (by simp [Value.oneCell']) (by simp only [maxLen]; omega) (by omega) (by simp; omega) ?_); intro v1 w1 hown1 hgrow1; obtain ⟨a1, c1, rfl, _, _, hrd1⟩ := hown1.form)
  have hI1 : Ints w1 a1 (l ++ [more]).length (l ++ [more]) := by
    rw [List.length_append]
    show Rd w1 1 a1 (l.length + 1) ((l ++ [more]).map iv)
    rw [List.map_append]
    exact hrd1
  have hb1 : Below w.heap.size w w1 := (h0.alloc hs0 _).grown hgrow1 (by simp; omega) (fun k e => (hO0.lt k e).1)
  have hma := made_any a1 c1 (l ++ [more]) w1 hI1 (by simp [maxLen]; omega)
  rw [show (l ++ [more]).length = l.length + 1 by simp] at hma
  have HB1 := Lib.hid hb1
  clear hrd1 hown1 hgrow1 hO0 h0 hI1 hb1
  refine hma.mono ?_
  rintro e2 w2 ⟨v2, L, rfl, hO2, hmk, h2⟩
  obtain ⟨ra, rc, rfl, hLc, hcm, hR2⟩ := hO2.rts
  have HB2 := Lib.hid (HB1.out.trans (h2.mono HB1.out.size))
  have HR2 := Lib.hid hR2
  have hg := hmk.good
  have hl8 := hg.len
  have HG := Lib.hid hg
  have HSEG := Lib.hid hmk.segs
  clear hma hO2 hR2 h2 HB1 hmk hg
  by_cases hz : L.length = 0
  · have e0 : ((L.length : Int) == 0) = true := by rw [hz]; rfl
    go_wp2_with fail
    refine (awake41_any _).mono ?_
    rintro e11 w11 ⟨rfl, h11⟩
    go_wp2_with fail
    go_ret
    exact ⟨rfl, HB2.out.trans (h11.mono HB2.out.size)⟩
  · have e0 : ((L.length : Int) == 0) = false := by rw [beq_eq_false_iff_ne]; omega
    obtain ⟨k, hk⟩ : ∃ k, k + 1 = L.length := ⟨L.length - 1, by omega⟩
    have hkl : k < L.length := by omega
    obtain ⟨ad, r, rfl, hadb, hr, hmem, c0, c1', c2⟩ := HR2.out.fields hkl
    obtain ⟨WA, rfl⟩ : ∃ W, W = w2 := ⟨_, rfl⟩
    have q1 : wrap64 ((L.length : Int) - 1) = (k : Int) := by unfold wrap64; omega
    have q2 : IntKind.wrap .i64 ((L.length : Int) - 1) = (k : Int) := by rw [IntKind.wrap_i64]; omega
    have q3 : (k : Int) < (L.length : Int) := by omega
    have q4 : (0 : Int) ≤ (k : Int) := by omega
    have HK := Lib.hid hk
    have HRR := Lib.hid hr
    clear hz hk hr
    have c1 := c1'
    clear c1'
    go_upto_region 4 with fail
    go_cut [8, 9] from 27 (fun v8 v9 wc => ∃ (g : Nat) (p : List UInt8), v8 = .pointer (some ⟨g, 0, none⟩) ∧ v9 = .string (bs p) ∧ Dots.normal p = true ∧ WA.heap.size ≤ g ∧ wc.heap[g]? = some (.cells [.slice r.a r.l.length r.c, .int .i64 r.kd, .string ⟨r.t.toArray⟩].toArray 35 (0, 0)) ∧ Below WA.heap.size WA wc)
    case first =>
      refine wp_region_noPanic ?_
      refine wp_region_held_drew (S := (fun W => W.cell? (ad.add (k * 3)) = some (.slice r.a r.l.length r.c) ∧ W.cell? ⟨(ad.add (k * 3)).block, (ad.add (k * 3)).off + 1, none⟩ = some (.int .i64 r.kd) ∧ W.cell? ⟨(ad.add (k * 3)).block, (ad.add (k * 3)).off + 2, none⟩ = some (.string ⟨r.t.toArray⟩))) (by kernel_rfl) ?_ (fun hH => ?_)
      · exact ⟨c0, c1, c2⟩
      refine Reg.take (i := 0) (u := ?z1v) rfl rfl rfl (by kernel_rfl) (by kernel_rfl) (by kernel_rfl) hH ?z1y ?z1r
      case z1y => (intro w hSw; (try dsimp only at hSw); go_simp; try (with_reducible rfl))
      case' z1r => simp only [List.setIfInBounds_toArray, List.set_cons_zero, List.set_cons_succ]
      refine Reg.take (i := 1) (u := ?z2v) rfl rfl rfl (by kernel_rfl) (by kernel_rfl) (by kernel_rfl) hH ?z2y ?z2r
      case z2y => (intro w hSw; (try dsimp only at hSw); go_simp; try (with_reducible rfl))
      case' z2r => simp only [List.setIfInBounds_toArray, List.set_cons_zero, List.set_cons_succ]
      refine Reg.take (i := 2) (u := ?z3v) rfl rfl rfl (by kernel_rfl) (by kernel_rfl) (by kernel_rfl) hH ?z3y ?z3r
      case z3y => (intro w hSw; (try dsimp only at hSw); go_simp; try (with_reducible rfl))
      case' z3r => simp only [List.setIfInBounds_toArray, List.set_cons_zero, List.set_cons_succ]
      refine Reg.take (i := 3) (u := ?z4v) rfl rfl rfl (by kernel_rfl) (by kernel_rfl) (by kernel_rfl) hH ?z4y ?z4r
      case z4y => (intro w hSw; (try dsimp only at hSw); go_simp; try (with_reducible rfl))
      case' z4r => simp only [List.setIfInBounds_toArray, List.set_cons_zero, List.set_cons_succ]
      refine Reg.take (i := 4) (u := ?z5v) rfl rfl rfl (by kernel_rfl) (by kernel_rfl) (by kernel_rfl) hH ?z5y ?z5r
      case z5y => (intro w hSw; (try dsimp only at hSw); go_simp; try (with_reducible rfl))
      case' z5r => simp only [List.setIfInBounds_toArray, List.set_cons_zero, List.set_cons_succ]
      refine Reg.take (i := 5) (u := ?z6v) rfl rfl rfl (by kernel_rfl) (by kernel_rfl) (by kernel_rfl) hH ?z6y ?z6r
      case z6y => (intro w hSw; (try dsimp only at hSw); go_simp; try (with_reducible rfl))
      case' z6r => simp only [List.setIfInBounds_toArray, List.set_cons_zero, List.set_cons_succ]
      refine Reg.take (i := 6) (u := ?z7v) rfl rfl rfl (by kernel_rfl) (by kernel_rfl) (by kernel_rfl) hH ?z7y ?z7r
      case z7y => (intro w hSw; (try dsimp only at hSw); go_simp; try (with_reducible rfl))
      case' z7r => simp only [List.setIfInBounds_toArray, List.set_cons_zero, List.set_cons_succ]
      refine Reg.either (i := 7) (j := 8) rfl rfl (Reg.wanted_free rfl) (Reg.wanted_free rfl) (by kernel_rfl) (fun K hK => ?A) (fun K hK => ?B)
      case A =>
        go_simp
        go_at_call 19
        refine (pathN_any pn _).mono ?_
        rintro e2 w2 ⟨p, rfl, hp, h2⟩
        go_simp
        have hb2 := (Below.refl _ WA).drew.trans h2
        refine hK.out _ _ ?_ (fun hH2 => ?_)
        · exact ⟨cell_below hb2 c0, cell_below hb2 c1, cell_below hb2 c2⟩
        clear hK hH
        have hH := hH2; clear hH2
        try simp only [Act.put, List.setIfInBounds_toArray, List.set_cons_zero, List.set_cons_succ]
        refine Reg.only (i := 8) rfl (Reg.wanted_free rfl) (by kernel_rfl) (fun K hK => ?_)
        go_simp
        refine hK.out _ _ ?_ (fun hH2 => ?_)
        · exact ⟨cell_below (hb2.alloc hb2.size (.cells #[.slice none 0 0, .int .i64 0, .string ⟨#[]⟩] 35)) c0, cell_below (hb2.alloc hb2.size (.cells #[.slice none 0 0, .int .i64 0, .string ⟨#[]⟩] 35)) c1, cell_below (hb2.alloc hb2.size (.cells #[.slice none 0 0, .int .i64 0, .string ⟨#[]⟩] 35)) c2⟩
        clear hK hH
        have hH := hH2; clear hH2
        try simp only [Act.put, List.setIfInBounds_toArray, List.set_cons_zero, List.set_cons_succ]
        obtain ⟨g, hg⟩ : ∃ g, w2.heap.size = g := ⟨_, rfl⟩
        have hrow8 := heap_alloc_new w2 (.cells #[.slice none 0 0, .int .i64 0, .string ⟨#[]⟩] 35)
        have hb8 := hb2.alloc hb2.size (.cells #[.slice none 0 0, .int .i64 0, .string ⟨#[]⟩] 35)
        have hg8 : WA.heap.size ≤ g := by rw [← hg]; exact hb2.size
        obtain ⟨W8, hW8⟩ : ∃ W, W = w2.alloc (.cells #[.slice none 0 0, .int .i64 0, .string ⟨#[]⟩] 35) := ⟨_, rfl⟩
        rw [← hW8] at hrow8 hb8 hH ⊢
        rw [hg] at hrow8 ⊢
        clear hW8
        have hrs := set_row (set_row (set_row (cs := [.slice none 0 0, .int .i64 0, .string ⟨#[]⟩]) hrow8 0 (.slice r.a r.l.length r.c)) 1 (.int .i64 r.kd)) 2 (.string ⟨r.t.toArray⟩)
        have hbs := ((hb8.setCell (p := ⟨g, 0, none⟩) hg8 (.slice r.a r.l.length r.c)).setCell (p := ⟨g, 1, none⟩) hg8 (.int .i64 r.kd)).setCell (p := ⟨g, 2, none⟩) hg8 (.string ⟨r.t.toArray⟩)
        have s0 := row_cell (cs := [.slice none 0 0, .int .i64 0, .string ⟨#[]⟩]) hrow8 0
        have s1 := row_cell (cs := [.slice none 0 0, .int .i64 0, .string ⟨#[]⟩]) hrow8 1
        have s2 := row_cell (cs := [.slice none 0 0, .int .i64 0, .string ⟨#[]⟩]) hrow8 2
        have f0 := row_frozen (cs := [.slice none 0 0, .int .i64 0, .string ⟨#[]⟩]) hrow8 0
        have f1 := row_frozen (cs := [.slice none 0 0, .int .i64 0, .string ⟨#[]⟩]) hrow8 1
        have f2 := row_frozen (cs := [.slice none 0 0, .int .i64 0, .string ⟨#[]⟩]) hrow8 2
        simp only [List.getElem?_cons_zero, List.getElem?_cons_succ] at s0 s1 s2
        refine Reg.only (i := 9) rfl (Reg.wanted_free rfl) (by kernel_rfl) (fun K hK => ?_)
        go_simp
        refine hK.out _ _ ?_ (fun hH2 => ?_)
        · exact ⟨cell_below hbs c0, cell_below hbs c1, cell_below hbs c2⟩
        clear hK hH
        have hH := hH2; clear hH2
        try simp only [Act.put, List.setIfInBounds_toArray, List.set_cons_zero, List.set_cons_succ]
        refine Reg.take (i := 10) (u := ?z8v) rfl rfl rfl (by kernel_rfl) (by kernel_rfl) (by kernel_rfl) hH ?z8y ?z8r
        case z8y => (intro w hSw; (try dsimp only at hSw); go_simp; try (with_reducible rfl))
        case' z8r => simp only [List.setIfInBounds_toArray, List.set_cons_zero, List.set_cons_succ]
        refine wpAnyH_done (by kernel_rfl) ?_ _
        refine NoPanic.normal ?_
        go_wp2_with fail
        go_meet
        case rel => exact ⟨g, p, rfl, rfl, hp, hg8, hrs, hbs⟩
      case B =>
        go_simp
        refine hK.out _ _ ?_ (fun hH2 => ?_)
        · exact ⟨cell_below (((Below.refl _ WA).alloc (Nat.le_refl _) (.cells #[.slice none 0 0, .int .i64 0, .string ⟨#[]⟩] 35)).drew) c0, cell_below (((Below.refl _ WA).alloc (Nat.le_refl _) (.cells #[.slice none 0 0, .int .i64 0, .string ⟨#[]⟩] 35)).drew) c1, cell_below (((Below.refl _ WA).alloc (Nat.le_refl _) (.cells #[.slice none 0 0, .int .i64 0, .string ⟨#[]⟩] 35)).drew) c2⟩
        clear hK hH
        have hH := hH2; clear hH2
        try simp only [Act.put, List.setIfInBounds_toArray, List.set_cons_zero, List.set_cons_succ]
        obtain ⟨g, hg⟩ : ∃ g, WA.heap.size = g := ⟨_, rfl⟩
        have hrow7 := heap_alloc_new WA (.cells #[.slice none 0 0, .int .i64 0, .string ⟨#[]⟩] 35)
        have hb7 : Below WA.heap.size WA (WA.alloc (.cells #[.slice none 0 0, .int .i64 0, .string ⟨#[]⟩] 35)).drew := ((Below.refl _ WA).alloc (Nat.le_refl _) (.cells #[.slice none 0 0, .int .i64 0, .string ⟨#[]⟩] 35)).drew
        have hz7 : (WA.alloc (.cells #[.slice none 0 0, .int .i64 0, .string ⟨#[]⟩] 35)).drew.heap.size = WA.heap.size + 1 := by show (WA.alloc _).heap.size = _; simp
        have hrow7 : (WA.alloc (.cells #[.slice none 0 0, .int .i64 0, .string ⟨#[]⟩] 35)).drew.heap[WA.heap.size]? = _ := hrow7
        obtain ⟨W7, hW7⟩ : ∃ W, W = (WA.alloc (.cells #[.slice none 0 0, .int .i64 0, .string ⟨#[]⟩] 35)).drew := ⟨_, rfl⟩
        rw [← hW7] at hrow7 hb7 hz7 hH ⊢
        clear hW7
        rw [hg] at hrow7 ⊢
        refine Reg.only (i := 7) rfl (Reg.wanted_free rfl) (by kernel_rfl) (fun K hK => ?_)
        go_simp
        go_at_call 19
        refine (pathN_any pn _).mono ?_
        rintro e2 w2 ⟨p, rfl, hp, h2⟩
        go_simp
        have hb2 := hb7.trans (h2.mono hb7.size)
        refine hK.out _ _ ?_ (fun hH2 => ?_)
        · exact ⟨cell_below hb2 c0, cell_below hb2 c1, cell_below hb2 c2⟩
        clear hK hH
        have hH := hH2; clear hH2
        try simp only [Act.put, List.setIfInBounds_toArray, List.set_cons_zero, List.set_cons_succ]
        have hrow8 := (h2.block _ (by omega)).trans hrow7
        have hb8 := hb2
        have hg8 : WA.heap.size ≤ g := by omega
        obtain ⟨W8, hW8⟩ : ∃ W, W = w2 := ⟨_, rfl⟩
        rw [← hW8] at hrow8 hb8 hH ⊢
        clear hW8
        have hrs := set_row (set_row (set_row (cs := [.slice none 0 0, .int .i64 0, .string ⟨#[]⟩]) hrow8 0 (.slice r.a r.l.length r.c)) 1 (.int .i64 r.kd)) 2 (.string ⟨r.t.toArray⟩)
        have hbs := ((hb8.setCell (p := ⟨g, 0, none⟩) hg8 (.slice r.a r.l.length r.c)).setCell (p := ⟨g, 1, none⟩) hg8 (.int .i64 r.kd)).setCell (p := ⟨g, 2, none⟩) hg8 (.string ⟨r.t.toArray⟩)
        have s0 := row_cell (cs := [.slice none 0 0, .int .i64 0, .string ⟨#[]⟩]) hrow8 0
        have s1 := row_cell (cs := [.slice none 0 0, .int .i64 0, .string ⟨#[]⟩]) hrow8 1
        have s2 := row_cell (cs := [.slice none 0 0, .int .i64 0, .string ⟨#[]⟩]) hrow8 2
        have f0 := row_frozen (cs := [.slice none 0 0, .int .i64 0, .string ⟨#[]⟩]) hrow8 0
        have f1 := row_frozen (cs := [.slice none 0 0, .int .i64 0, .string ⟨#[]⟩]) hrow8 1
        have f2 := row_frozen (cs := [.slice none 0 0, .int .i64 0, .string ⟨#[]⟩]) hrow8 2
        simp only [List.getElem?_cons_zero, List.getElem?_cons_succ] at s0 s1 s2
        refine Reg.only (i := 9) rfl (Reg.wanted_free rfl) (by kernel_rfl) (fun K hK => ?_)
        go_simp
        refine hK.out _ _ ?_ (fun hH2 => ?_)
        · exact ⟨cell_below hbs c0, cell_below hbs c1, cell_below hbs c2⟩
        clear hK hH
        have hH := hH2; clear hH2
        try simp only [Act.put, List.setIfInBounds_toArray, List.set_cons_zero, List.set_cons_succ]
        refine Reg.take (i := 10) (u := ?z9v) rfl rfl rfl (by kernel_rfl) (by kernel_rfl) (by kernel_rfl) hH ?z9y ?z9r
        case z9y => (intro w hSw; (try dsimp only at hSw); go_simp; try (with_reducible rfl))
        case' z9r => simp only [List.setIfInBounds_toArray, List.set_cons_zero, List.set_cons_succ]
        refine wpAnyH_done (by kernel_rfl) ?_ _
        refine NoPanic.normal ?_
        go_wp2_with fail
        go_meet
        case rel => exact ⟨g, p, rfl, rfl, hp, hg8, hrs, hbs⟩
    case rest =>
    obtain ⟨g, p, rfl, rfl, hp, hg8, hrow, hbw⟩ := hcut
    obtain ⟨WB, rfl⟩ : ∃ W, W = wc := ⟨_, rfl⟩
    have hRB := HR2.out.below hbw
    have hbB := HB2.out.trans (hbw.mono HB2.out.size)
    have hv := HG.out.valid
    have hfa := find_good (some ad) rc (L.take k) p WB (hRB.take (by omega)) (hv.take k) hp
    rw [show (L.take k).length = k from by rw [List.length_take]; omega] at hfa
    have hfl := fun h => found_less (p := p) HG.out hp HK.out HRR.out h
    have hs1 := fdAt_small (p := p) hv
    obtain ⟨D1, hD1⟩ : ∃ D, fdAt (L.take k) p = D := ⟨_, rfl⟩
    obtain ⟨D2, hD2⟩ : ∃ D, fdAt L p = D := ⟨_, rfl⟩
    rw [hD1] at hfa hfl
    rw [hD2] at hfl hs1
    have HFL := Lib.hid hfl
    have HS1 := Lib.hid hs1
    have HD2 := Lib.hid hD2
    have HP := Lib.hid hp
    have HROW := Lib.hid hrow
    have HRB := Lib.hid hRB
    have HBB := Lib.hid hbB
    have HV := Lib.hid hv
    clear hfl hs1 hD1 hD2 hrow hRB hbB hv hbw c0 c1 c2
    go_wp2_with fail
    refine hfa.mono ?_
    rintro e3 w3 ⟨v3, rfl, hF3, h3⟩
    obtain ⟨al, cl, aN, cN, aV, cV, rfl⟩ := hF3.row
    have hrow3 := heap_alloc_new w3 (.cells #[.bool D1.b, .slice al D1.l.length cl, .int .i64 D1.kd, .string ⟨D1.t.toArray⟩, .slice aN D1.N.length cN, .slice aV D1.V.length cV, .string ⟨D1.R.toArray⟩] 43)
    have hba3 := (Below.refl _ w3).alloc (Nat.le_refl _) (.cells #[.bool D1.b, .slice al D1.l.length cl, .int .i64 D1.kd, .string ⟨D1.t.toArray⟩, .slice aN D1.N.length cN, .slice aV D1.V.length cV, .string ⟨D1.R.toArray⟩] 43)
    obtain ⟨W3, hW3⟩ : ∃ W, W = w3.alloc (.cells #[.bool D1.b, .slice al D1.l.length cl, .int .i64 D1.kd, .string ⟨D1.t.toArray⟩, .slice aN D1.N.length cN, .slice aV D1.V.length cV, .string ⟨D1.R.toArray⟩] 43) := ⟨_, rfl⟩
    rw [← hW3] at hrow3 hba3
    have hb3 := h3.trans (hba3.mono h3.size)
    have HF3 := Lib.hid (hF3.below hba3)
    have HROW3 := Lib.hid hrow3
    have HRG3 := Lib.hid ((hb3.block _ (Array.getElem?_eq_some_iff.1 HROW.out).1).trans HROW.out)
    have HR3 := Lib.hid (HRB.out.below hb3)
    have HB3 := Lib.hid (HBB.out.trans (hb3.mono HBB.out.size))
    have hfb := find_good (some ad) rc L p W3 HR3.out HV.out HP.out
    rw [HD2.out] at hfb
    clear hF3 hrow3 hba3 hb3 h3 HROW HRB HBB hfa
    go_upto_region 6 with fail
    rw [← hW3]
    clear hW3
    go_wp2_with fail
    refine hfb.mono ?_
    rintro e4 w4 ⟨v4, rfl, hF4, h4⟩
    obtain ⟨bl, dl, bN, dN, bV, dV, rfl⟩ := hF4.row
    have hrow4 := heap_alloc_new w4 (.cells #[.bool D2.b, .slice bl D2.l.length dl, .int .i64 D2.kd, .string ⟨D2.t.toArray⟩, .slice bN D2.N.length dN, .slice bV D2.V.length dV, .string ⟨D2.R.toArray⟩] 43)
    have hba4 := (Below.refl _ w4).alloc (Nat.le_refl _) (.cells #[.bool D2.b, .slice bl D2.l.length dl, .int .i64 D2.kd, .string ⟨D2.t.toArray⟩, .slice bN D2.N.length dN, .slice bV D2.V.length dV, .string ⟨D2.R.toArray⟩] 43)
    obtain ⟨W4, hW4⟩ : ∃ W, W = w4.alloc (.cells #[.bool D2.b, .slice bl D2.l.length dl, .int .i64 D2.kd, .string ⟨D2.t.toArray⟩, .slice bN D2.N.length dN, .slice bV D2.V.length dV, .string ⟨D2.R.toArray⟩] 43) := ⟨_, rfl⟩
    rw [← hW4] at hrow4 hba4
    have hb4 := h4.trans (hba4.mono h4.size)
    have HF4 := Lib.hid (hF4.below hba4)
    have HROW4 := Lib.hid hrow4
    have HF34 := Lib.hid (HF3.out.below hb4)
    have HROW34 := Lib.hid ((hb4.block _ (Array.getElem?_eq_some_iff.1 HROW3.out).1).trans HROW3.out)
    have HRG4 := Lib.hid ((hb4.block _ (Array.getElem?_eq_some_iff.1 HRG3.out).1).trans HRG3.out)
    have HR4 := Lib.hid (HR3.out.below hb4)
    have HB4 := Lib.hid (HB3.out.trans (hb4.mono HB3.out.size))
    have her : Route.err r.l r.kd r.t = 0 := HV.out.ok r hmem
    have hfc := vFits_any r.a r.c r.l r.kd r.t (bs p) W4 (HR4.out.each r hmem)
    rw [data_bs, her, show Route.fitsErr 0 p = 0 from by unfold Route.fitsErr; rw [if_pos rfl, HP.out]; rfl, show Route.fitR 0 r.l p = Route.fit (Dots.isOpen p) r.l (Dots.segments p) from by unfold Route.fitR; rw [show Route.fitsErr 0 p = 0 from by unfold Route.fitsErr; rw [if_pos rfl, HP.out]; rfl, if_pos rfl]] at hfc
    unfold rtv at hfc
    obtain ⟨x0, x1, x2⟩ := box_cells HRG4.out
    clear hF4 hrow4 hba4 hb4 h4 HF3 HROW3 HRG3 HR3 HB3 hfb
    go_upto_region 7 with fail
    rw [← hW4]
    clear hW4
    go_wp2_with fail
    refine hfc.mono ?_
    rintro e5 w5 ⟨v5, rfl, hF5, h5⟩
    have hF5 := hF5.form
    have hdb : (fdOf r.l r.kd r.t (Route.fit (Dots.isOpen p) r.l (Dots.segments p))).b = (Route.fit (Dots.isOpen p) r.l (Dots.segments p)).isSome := fit_b
    obtain ⟨D5, hD5⟩ : ∃ D, fdOf r.l r.kd r.t (Route.fit (Dots.isOpen p) r.l (Dots.segments p)) = D := ⟨_, rfl⟩
    rw [hD5] at hF5 hdb
    obtain ⟨el, fl, eN, fN, eV, fV, rfl⟩ := hF5.row
    have hrow5 := heap_alloc_new w5 (.cells #[.bool D5.b, .slice el D5.l.length fl, .int .i64 D5.kd, .string ⟨D5.t.toArray⟩, .slice eN D5.N.length fN, .slice eV D5.V.length fV, .string ⟨D5.R.toArray⟩] 43)
    have hba5 := (Below.refl _ w5).alloc (Nat.le_refl _) (.cells #[.bool D5.b, .slice el D5.l.length fl, .int .i64 D5.kd, .string ⟨D5.t.toArray⟩, .slice eN D5.N.length fN, .slice eV D5.V.length fV, .string ⟨D5.R.toArray⟩] 43)
    obtain ⟨W5, hW5⟩ : ∃ W, W = w5.alloc (.cells #[.bool D5.b, .slice el D5.l.length fl, .int .i64 D5.kd, .string ⟨D5.t.toArray⟩, .slice eN D5.N.length fN, .slice eV D5.V.length fV, .string ⟨D5.R.toArray⟩] 43) := ⟨_, rfl⟩
    rw [← hW5] at hrow5 hba5
    have hb5 := h5.trans (hba5.mono h5.size)
    have HR5 := Lib.hid (HR4.out.below hb5)
    have HB5 := Lib.hid (HB4.out.trans (hb5.mono HB4.out.size))
    have hr3 := (hb5.block _ (Array.getElem?_eq_some_iff.1 HROW34.out).1).trans HROW34.out
    have hr4 := (hb5.block _ (Array.getElem?_eq_some_iff.1 HROW4.out).1).trans HROW4.out
    obtain ⟨y0, -⟩ := fcs_cells (D := D5) (al := el) (aN := eN) (aV := eV) (cl := fl) (cN := fN) (cV := fV) hrow5
    have HF35 := Lib.hid (HF34.out.below hb5)
    have HF45 := Lib.hid (HF4.out.below hb5)
    have HROW35 := Lib.hid hr3
    have HROW45 := Lib.hid hr4
    have HDB := Lib.hid hdb
    clear hF5 hrow5 hba5 hb5 h5 HF34 HROW34 HF4 HROW4 HRG4 HR4 HB4 hr3 hr4 hfc hD5 hdb x0 x1 x2
    go_upto_region 8 with fail
    rw [← hW5]
    clear hW5
    go_cut [89] from 27 (fun v wc => v = .bool false ∧ Below W5.heap.size W5 wc)
    case first =>
      rcases hc : (Route.fit (Dots.isOpen p) r.l (Dots.segments p)).isSome with _ | _
      · have hd : D5.b = false := by rw [HDB.out, hc]
        have h12 := HFL.out hc
        subst h12
        obtain ⟨m0, m1, m2, m3, m4, m5, m6⟩ := fcs_cells (D := D1) (al := al) (aN := aN) (aV := aV) (cl := cl) (cN := cN) (cV := cV) HROW35.out
        obtain ⟨n0, n1, n2, n3, n4, n5, n6⟩ := fcs_cells (D := D1) (al := bl) (aN := bN) (aV := bV) (cl := dl) (cN := dN) (cV := dV) HROW45.out
        have hsf := sameFound_any D1 _ _ W5 HF35.out HF45.out HS1.out.1 HS1.out.2.1 HS1.out.2.2
        clear hc
        go_wp2_with fail
        refine hsf.mono ?_
        rintro e6 w6 ⟨rfl, h6⟩
        go_wp2_with fail
        go_meet
        case rel => exact ⟨rfl, h6⟩
      · have hd : D5.b = true := by rw [HDB.out, hc]
        clear hc
        go_wp2_with fail
        go_meet
        case rel => exact ⟨rfl, Below.refl _ _⟩
    case rest =>
    obtain ⟨rfl, hbC⟩ := hcut
    obtain ⟨WC, rfl⟩ : ∃ W, W = wc := ⟨_, rfl⟩
    have HRC := Lib.hid (HR5.out.below hbC)
    have HBC := Lib.hid (HB5.out.trans (hbC.mono HB5.out.size))
    clear hbC HR5 HB5 HF35 HF45 HROW35 HROW45 HDB HFL HS1 HD2 y0 HK HRR q1 q2 q3 q4 hkl her hmem
    go_wp2_with fail
    go_loopg [18] L.length (fun g i W => ∃ k : Nat, i = .int .i64 k ∧ k + g = L.length ∧ Below WC.heap.size WC W)
    case atStart => exact ⟨0, rfl, by omega, Below.refl _ _⟩
    case round =>
      obtain ⟨i, rfl, hk, hbl⟩ := hrel
      obtain ⟨WD, rfl⟩ : ∃ W, W = wr := ⟨_, rfl⟩
      have HRD := Lib.hid (HRC.out.below hbl)
      have HBL := Lib.hid hbl
      clear hbl
      by_cases hlt : i < L.length
      · obtain ⟨g', rfl⟩ : ∃ g', gk = g' + 1 := ⟨gk - 1, by omega⟩
        obtain ⟨ad2, q, e2, -, hq, hmq, c0, c1, c2⟩ := HRD.out.fields hlt
        cases e2
        have heq : Route.err q.l q.kd q.t = 0 := HV.out.ok q hmq
        have hkn := kinds_any q.a q.c q.l q.kd q.t WD (HRD.out.each q hmq)
        rw [heq] at hkn
        unfold KindsPost rtv at hkn
        rw [show Route.kindsR 0 q.l = Route.kindsOf q.l from rfl] at hkn
        have i0 : (0 : Int) ≤ (i : Int) := by omega
        have i1 : (i : Int) < (L.length : Int) := by omega
        have HQ := Lib.hid hq
        obtain ⟨X, hX⟩ : ∃ X, Route.kindsOf q.l = X := ⟨_, rfl⟩
        rw [hX] at hkn
        have HX := Lib.hid hX
        clear hX hq
        go_wp2_with fail
        refine hkn.mono ?_
        rintro e7 w7 ⟨ka, kc, rfl, hIk, -, -, h7⟩
        have HIK := Lib.hid hIk
        clear hIk hkn
        have hbE := HBL.out.trans (h7.mono HBL.out.size)
        have HBE := Lib.hid hbE
        have HRE := Lib.hid (HRD.out.below h7)
        have hXm : X.length ≤ 16 := by rw [← HX.out, Route.kindsOf_length]; exact (Route.err_ok heq).1
        have c0e := cell_below h7 c0
        clear hbE h7 c0 c1 c2
        go_wp2_with fail
        go_loopg [21, 22] X.length (fun g b j W => ∃ m : Nat, j = .int .i64 m ∧ m + g = X.length ∧ b = .bool ((X.take m).all (· == 1)) ∧ W = w7)
        case atStart => exact ⟨0, rfl, by omega, rfl, rfl⟩
        case round =>
          obtain ⟨m, rfl, hm, rfl, hww⟩ := hrel
          obtain rfl : w7 = wr := hww.symm
          clear hww
          by_cases hml : m < X.length
          · obtain ⟨g2, rfl⟩ : ∃ g2, gk = g2 + 1 := ⟨gk - 1, by omega⟩
            obtain ⟨kad, x, rfl, -, hx, hcx⟩ := (show Ints w7 ka X.length X from HIK.out).get hml
            have n0 : (0 : Int) ≤ (m : Int) := by omega
            have n1 : (m : Int) < (X.length : Int) := by omega
            have hsu : (X.take (m + 1)).all (· == 1) = ((X.take m).all (· == 1) && (x == 1)) := by rw [List.take_add_one, hx]; simp
            obtain ⟨b, hb⟩ : ∃ b, (X.take m).all (· == 1) = b := ⟨_, rfl⟩
            rw [hb] at hsu ⊢
            have HSU := Lib.hid hsu
            clear hsu hb hx
            rcases b with _ | _
            · go_wp2_with fail
              go_roundg g2
              case measure => omega
              case rel => exact ⟨m + 1, by go_num, by omega, by rw [HSU.out]; rfl, rfl⟩
            · go_wp2_with fail
              go_roundg g2
              case measure => omega
              case rel => exact ⟨m + 1, by go_num, by omega, by rw [HSU.out]; simp, rfl⟩
          · obtain rfl : m = X.length := by omega
            rw [List.take_length]
            have hsg := HSEG.out q hmq
            have hs4 : ∀ s ∈ q.l, s.length ≤ 4 := fun s hs => by
              have hall : ∀ x ∈ segSet, x.length ≤ 4 := by decide
              exact hall s (hsg.2 s hs)
            have hbdy := body_small hs4
            have hmk := refMake_any q.a q.c q.l false w7 ((HRE.out.each q hmq).strs) (by have := hsg.1; omega) (by have := hsg.1; simp only [maxLen]; omega)
            have hmp := make_path (l := q.l)
            obtain ⟨M, hM⟩ : ∃ M, Dots.make q.l false = M := ⟨_, rfl⟩
            rw [hM] at hmk hmp
            obtain ⟨s, er⟩ := M
            dsimp only at hmk hmp
            have hfix : X.all (· == 1) = true → ∀ s ∈ q.l, Route.kind s = 1 := fun h s hs => by
              rw [← HX.out] at h
              have := List.all_eq_true.1 h _ (List.mem_map_of_mem (f := fun s => (Route.kind s : Int)) hs)
              simp only [beq_iff_eq] at this
              omega
            obtain ⟨b, hb⟩ : ∃ b, X.all (· == 1) = b := ⟨_, rfl⟩
            rw [hb] at hfix ⊢
            have HMP := Lib.hid hmp
            have HFIX := Lib.hid hfix
            clear hM hmp hfix hb hbdy hs4 hsg heq
            go_wp2_with fail
            refine hmk.mono ?_
            rintro e8 w8 ⟨rfl, h8⟩
            clear hmk c0e
            have HB8 := Lib.hid (HBE.out.trans (h8.mono HBE.out.size))
            have HR8 := Lib.hid (HRE.out.below h8)
            clear h8
            rcases b with _ | _
            · go_wp2_with fail
              go_roundg g'
              case measure => omega
              case rel => exact ⟨i + 1, by go_num, by omega, HB8.out⟩
            · by_cases her : er = 0
              · subst her
                obtain ⟨hns, hsgs⟩ := HMP.out rfl
                have hfk := names_found HG.out hns HQ.out (HFIX.out rfl) hsgs
                have hhf := head_facts (HV.out.allE hns) hfk
                have hfb := fdAt_b HV.out hns
                rw [hfk] at hfb
                have hfd := find_good (some ad) rc L s w8 HR8.out HV.out hns
                rw [hhf.2.2.2.1] at hfd
                obtain ⟨D, hD⟩ : ∃ D, fdAt L s = D := ⟨_, rfl⟩
                rw [hD] at hfb hfd
                replace hfb : D.b = true := hfb
                have HFB := Lib.hid hfb
                clear hD hfk hhf hns hsgs HMP HFIX hfb
                go_wp2_with fail
                refine hfd.mono ?_
                rintro e9 w9 ⟨v9, rfl, hF9, h9⟩
                obtain ⟨al, cl, aN, cN, aV, cV, rfl⟩ := hF9.row
                have hrow9 := heap_alloc_new w9 (.cells #[.bool D.b, .slice al D.l.length cl, .int .i64 D.kd, .string ⟨D.t.toArray⟩, .slice aN D.N.length cN, .slice aV D.V.length cV, .string ⟨D.R.toArray⟩] 43)
                have hba9 := (Below.refl _ w9).alloc (Nat.le_refl _) (.cells #[.bool D.b, .slice al D.l.length cl, .int .i64 D.kd, .string ⟨D.t.toArray⟩, .slice aN D.N.length cN, .slice aV D.V.length cV, .string ⟨D.R.toArray⟩] 43)
                obtain ⟨W9, hW9⟩ : ∃ W, W = w9.alloc (.cells #[.bool D.b, .slice al D.l.length cl, .int .i64 D.kd, .string ⟨D.t.toArray⟩, .slice aN D.N.length cN, .slice aV D.V.length cV, .string ⟨D.R.toArray⟩] 43) := ⟨_, rfl⟩
                rw [← hW9] at hrow9 hba9
                obtain ⟨y0, -⟩ := fcs_cells (D := D) (al := al) (aN := aN) (aV := aV) (cl := cl) (cN := cN) (cV := cV) hrow9
                have HB9 := Lib.hid (HB8.out.trans ((h9.trans (hba9.mono h9.size)).mono HB8.out.size))
                clear hF9 hrow9 hba9 h9 hfd
                go_upto_region 24 with fail
                rw [← hW9]
                clear hW9
                have hfb := HFB.out
                go_wp2_with fail
                go_roundg g'
                case measure => omega
                case rel => exact ⟨i + 1, by go_num, by omega, HB9.out⟩
              · have e1 : (er != 0) = true := by simpa using her
                clear her
                go_wp2_with fail
                go_roundg g'
                case measure => omega
                case rel => exact ⟨i + 1, by go_num, by omega, HB8.out⟩
      · obtain rfl : i = L.length := by omega
        go_wp2_with fail
        refine (awake41_any _).mono ?_
        rintro e11 w11 ⟨rfl, h11⟩
        go_wp2_with fail
        go_ret
        exact ⟨rfl, (HBC.out.trans (HBL.out.mono HBC.out.size)).trans (h11.mono (HBC.out.trans (HBL.out.mono HBC.out.size)).size)⟩
end Go.Proofs.Ytefilalapkdegaa
