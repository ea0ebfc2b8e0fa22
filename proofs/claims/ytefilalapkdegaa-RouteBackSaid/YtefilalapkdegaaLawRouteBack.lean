/- RouteBack: paths and what they fit. -/
import Derived.Test.YtefilalapkdegaaRouteBackP
import Derived.Test.YtefilalapkdegaaRouteLaw0
namespace Go.Proofs.Ytefilalapkdegaa
open Go.RowKit Str Mem
set_option linter.unusedVariables false
set_option linter.unusedSimpArgs false

theorem cell_below {W W' : World} (hb : Below W.heap.size W W') {a : Addr} {v : Value} (h : W.cell? a = some v) : W'.cell? a = some v := by
  have hlt : a.block < W.heap.size := by
    rcases Nat.lt_or_ge a.block W.heap.size with h1 | h1
    · exact h1
    · exfalso
      have hn : W.heap[a.block]? = none := Array.getElem?_eq_none h1
      unfold World.cell? at h
      rw [hn] at h
      cases h
  exact (World.cell?_of_block (hb.block _ hlt)).trans h
theorem fit_len {op : Bool} : ∀ (r p : List (List UInt8)) (x : List (List UInt8) × List (List UInt8) × List UInt8), Route.fit op r p = some x → x.1.length ≤ r.length ∧ x.2.1.length ≤ r.length
  | [], [], x, h => by simp [Route.fit] at h; subst h; simp
  | [], _ :: _, x, h => by simp [Route.fit] at h
  | s :: r, [], x, h => by
    unfold Route.fit at h
    split at h
    · simp at h; subst h; simp
    · cases h
  | s :: r, y :: t, x, h => by
    unfold Route.fit at h
    split at h
    · simp at h; subst h; simp
    · split at h
      · obtain ⟨z, hz, rfl⟩ := Option.map_eq_some_iff.1 h
        have := fit_len r t z hz
        simp; omega
      · split at h
        · have := fit_len r t x h
          simp; omega
        · cases h

theorem FForm.row {w : World} {D : FD} {v : Value} (h : FForm w D v) : ∃ al cl aN cN aV cV, v = .agg #[.bool D.b, .slice al D.l.length cl, .int .i64 D.kd, .string ⟨D.t.toArray⟩, .slice aN D.N.length cN, .slice aV D.V.length cV, .string ⟨D.R.toArray⟩] := by
  obtain ⟨al, cl, aN, cN, aV, cV, e, _⟩ := h
  exact ⟨al, cl, aN, cN, aV, cV, e⟩
def fcs (D : FD) (al aN aV : Option Addr) (cl cN cV : Nat) : List Value := [.bool D.b, .slice al D.l.length cl, .int .i64 D.kd, .string ⟨D.t.toArray⟩, .slice aN D.N.length cN, .slice aV D.V.length cV, .string ⟨D.R.toArray⟩]
theorem fcs_cells {W : World} {g T : Nat} {D : FD} {al aN aV : Option Addr} {cl cN cV : Nat} (h : W.heap[g]? = some (.cells (fcs D al aN aV cl cN cV).toArray T (0, 0))) :
    W.cell? ⟨g, 0, none⟩ = some (.bool D.b) ∧ W.cell? ⟨g, 1, none⟩ = some (.slice al D.l.length cl) ∧ W.cell? ⟨g, 2, none⟩ = some (.int .i64 D.kd) ∧ W.cell? ⟨g, 3, none⟩ = some (.string ⟨D.t.toArray⟩) ∧ W.cell? ⟨g, 4, none⟩ = some (.slice aN D.N.length cN) ∧ W.cell? ⟨g, 5, none⟩ = some (.slice aV D.V.length cV) ∧ W.cell? ⟨g, 6, none⟩ = some (.string ⟨D.R.toArray⟩) :=
  ⟨row_cell h 0, row_cell h 1, row_cell h 2, row_cell h 3, row_cell h 4, row_cell h 5, row_cell h 6⟩
theorem fit_b {l : List (List UInt8)} {kd : Int} {t : List UInt8} {o : Option (List (List UInt8) × List (List UInt8) × List UInt8)} : (fdOf l kd t o).b = o.isSome := by
  rcases o with _ | ⟨N, V, R⟩ <;> rfl
theorem val_cell (w : World) (j : Nat) (hj : j < 4) : ∃ A, A ∈ Route.valSet ∧ (w.alloc (.cells #[.string ⟨#[118]⟩, .string ⟨#[97]⟩, .string ⟨#[46, 46, 97]⟩, .string ⟨#[123, 120, 125]⟩] 9)).cell? ⟨w.heap.size, j, none⟩ = some (.string (bs A)) := by
  have hal := heap_alloc_new w (.cells #[.string ⟨#[118]⟩, .string ⟨#[97]⟩, .string ⟨#[46, 46, 97]⟩, .string ⟨#[123, 120, 125]⟩] 9)
  have hc := row_cell (cs := [.string ⟨#[118]⟩, .string ⟨#[97]⟩, .string ⟨#[46, 46, 97]⟩, .string ⟨#[123, 120, 125]⟩]) hal j
  rcases (by omega : j = 0 ∨ j = 1 ∨ j = 2 ∨ j = 3) with rfl | rfl | rfl | rfl
  · exact ⟨[118], by decide, hc⟩
  · exact ⟨[97], by decide, hc⟩
  · exact ⟨[46, 46, 97], by decide, hc⟩
  · exact ⟨[123, 120, 125], by decide, hc⟩
theorem rest_cell (w : World) (j : Nat) (hj : j < 4) : ∃ A, A ∈ Route.restSet ∧ (w.alloc (.cells #[.string ⟨#[]⟩, .string ⟨#[114]⟩, .string ⟨#[114, 47, 115]⟩, .string ⟨#[114, 47, 115, 47]⟩] 9)).cell? ⟨w.heap.size, j, none⟩ = some (.string (bs A)) := by
  have hal := heap_alloc_new w (.cells #[.string ⟨#[]⟩, .string ⟨#[114]⟩, .string ⟨#[114, 47, 115]⟩, .string ⟨#[114, 47, 115, 47]⟩] 9)
  have hc := row_cell (cs := [.string ⟨#[]⟩, .string ⟨#[114]⟩, .string ⟨#[114, 47, 115]⟩, .string ⟨#[114, 47, 115, 47]⟩]) hal j
  rcases (by omega : j = 0 ∨ j = 1 ∨ j = 2 ∨ j = 3) with rfl | rfl | rfl | rfl
  · exact ⟨[], by decide, hc⟩
  · exact ⟨[114], by decide, hc⟩
  · exact ⟨[114, 47, 115], by decide, hc⟩
  · exact ⟨[114, 47, 115, 47], by decide, hc⟩
theorem mod4_any (n : Int) (w : World) : Calls Try.prog 25 #[.int .i64 n, .int .i64 4] w fun e w' => ∃ m : Nat, m < 4 ∧ e = .returned (.int .i64 (m : Nat)) ∧ w = w' := by
  refine (kitMod_any n 4 w (by decide) (by decide)).mono ?_
  rintro e w' ⟨rfl, h⟩
  have h1 := Int.emod_nonneg n (show (4 : Int) ≠ 0 by decide)
  have h2 := Int.emod_lt_of_pos n (show (0 : Int) < 4 by decide)
  exact ⟨(n % 4).toNat, by omega, by rw [show (((n % 4).toNat : Nat) : Int) = n % 4 by omega], h⟩
set_option maxRecDepth 100000 in
set_option maxHeartbeats 16000000 in
theorem lawRouteBack_any (n pn x : Int) (w : World) :
    Calls Try.prog 7 #[.int .i64 n, .int .i64 pn, .int .i64 x] w fun e w' => e = .returned (.bool true) ∧ Below w.heap.size w w' := by
  obtain ⟨i0, hi0, hz0, hz1, hz2⟩ := info_of infoTxt
  have hI : Ints (w.alloc (.cells #[.int .i64 n] 3)) (some ⟨w.heap.size, 0, none⟩) ([n] : List Int).length [n] := Rd.one w 3 (.int .i64 n)
  have hb0 := (Below.refl _ w).alloc (Nat.le_refl _) (.cells #[.int .i64 n] 3)
  have hma := made_any (some ⟨w.heap.size, 0, none⟩) 1 [n] _ hI (by simp [maxLen])
  rw [show ([n] : List Int).length = 1 from rfl] at hma
  go_enter Try.func7, Try.ntmps7
  go_wp2_with fail
  refine hma.mono ?_
  rintro e2 w2 ⟨v2, L, rfl, hO2, hmk, h2⟩
  obtain ⟨ra, rc, rfl, hLc, hcm, hR2⟩ := hO2.rts
  have HB2 := Lib.hid (hb0.trans (h2.mono hb0.size))
  have HR2 := Lib.hid hR2
  have hl8 := hmk.good.len
  have HMK := Lib.hid hmk
  clear hma hO2 hR2 h2 hb0 hI hmk
  by_cases hz : L.length = 0
  · have e0 : ((L.length : Int) == 0) = true := by rw [hz]; rfl
    go_wp2_with fail
    refine (awake41_any _).mono ?_
    rintro e11 w11 ⟨rfl, h11⟩
    go_wp2_with fail
    go_ret
    exact ⟨rfl, HB2.out.trans (h11.mono HB2.out.size)⟩
  · have e0 : ((L.length : Int) == 0) = false := by rw [beq_eq_false_iff_ne]; omega
    obtain ⟨ad, r, rfl, hadb, hr, hmem, c0, c1', c2⟩ := HR2.out.fields (k := 0) (by omega)
    have ea : ad.add (0 * 3) = ad := by unfold Addr.add; simp
    rw [ea] at c0 c1' c2
    obtain ⟨WA, rfl⟩ : ∃ W, W = w2 := ⟨_, rfl⟩
    have q3 : (0 : Int) < (L.length : Int) := by omega
    have q5 : 0 < L.length := by omega
    have hok := HR2.out.each r hmem
    have her : Route.err r.l r.kd r.t = 0 := HMK.out.good.ok r hmem
    have hrl := Route.restLast_of her
    have hsg := HMK.out.segs r hmem
    have HOK := Lib.hid hok
    have HRL := Lib.hid hrl
    have HSG := Lib.hid hsg
    have HER := Lib.hid her
    clear hz hr ea hok hrl hsg her
    have c1 := c1'
    clear c1'
    go_upto_region 4 with fail
    go_cut [8, 9] from 21 (fun v8 v9 wc => ∃ (g : Nat) (p : List UInt8), v8 = .pointer (some ⟨g, 0, none⟩) ∧ v9 = .string (bs p) ∧ Dots.normal p = true ∧ WA.heap.size ≤ g ∧ wc.heap[g]? = some (.cells [.slice r.a r.l.length r.c, .int .i64 r.kd, .string ⟨r.t.toArray⟩].toArray 35 (0, 0)) ∧ Below WA.heap.size WA wc)
    case first =>
      refine wp_region_noPanic ?_
      refine wp_region_held_drew (S := (fun W => W.cell? ad = some (.slice r.a r.l.length r.c) ∧ W.cell? ⟨ad.block, ad.off + 1, none⟩ = some (.int .i64 r.kd) ∧ W.cell? ⟨ad.block, ad.off + 2, none⟩ = some (.string ⟨r.t.toArray⟩))) (by kernel_rfl) ?_ (fun hH => ?_)
      · exact ⟨c0, c1, c2⟩
      refine Reg.take (i := 0) (u := ?z1v) rfl rfl rfl (by kernel_rfl) (by kernel_rfl) (by kernel_rfl) hH ?z1y ?z1r
      case z1y => (intro w hSw; (try dsimp only at hSw); go_simp; try (with_reducible rfl))
      case' z1r => simp only [List.setIfInBounds_toArray, List.set_cons_zero, List.set_cons_succ]
      refine Reg.take (i := 1) (u := ?z2v) rfl rfl rfl (by kernel_rfl) (by kernel_rfl) (by kernel_rfl) hH ?z2y ?z2r
      case z2y => (intro w hSw; (try dsimp only at hSw); go_simp; try (with_reducible rfl))
      case' z2r => simp only [List.setIfInBounds_toArray, List.set_cons_zero, List.set_cons_succ]
      refine Reg.take (i := 2) (u := ?z3v) rfl rfl rfl (by kernel_rfl) (by kernel_rfl) (by kernel_rfl) hH ?z3y ?z3r
      case z3y => (intro w hSw; (try dsimp only at hSw); go_simp; try (with_reducible rfl))
      case' z3r => simp only [List.setIfInBounds_toArray, List.set_cons_zero, List.set_cons_succ]
      refine Reg.take (i := 3) (u := ?z4v) rfl rfl rfl (by kernel_rfl) (by kernel_rfl) (by kernel_rfl) hH ?z4y ?z4r
      case z4y => (intro w hSw; (try dsimp only at hSw); go_simp; try (with_reducible rfl))
      case' z4r => simp only [List.setIfInBounds_toArray, List.set_cons_zero, List.set_cons_succ]
      refine Reg.either (i := 4) (j := 5) rfl rfl (Reg.wanted_free rfl) (Reg.wanted_free rfl) (by kernel_rfl) (fun K hK => ?A) (fun K hK => ?B)
      case A =>
        go_simp
        go_at_call 19
        refine (pathN_any pn _).mono ?_
        rintro e2 w2 ⟨p, rfl, hp, h2⟩
        go_simp
        have hb2 := (Below.refl _ WA).drew.trans h2
        refine hK.out _ _ ?_ (fun hH2 => ?_)
        · exact ⟨cell_below hb2 c0, cell_below hb2 c1, cell_below hb2 c2⟩
        clear hK hH
        have hH := hH2; clear hH2
        try simp only [Act.put, List.setIfInBounds_toArray, List.set_cons_zero, List.set_cons_succ]
        refine Reg.only (i := 5) rfl (Reg.wanted_free rfl) (by kernel_rfl) (fun K hK => ?_)
        go_simp
        refine hK.out _ _ ?_ (fun hH2 => ?_)
        · exact ⟨cell_below (hb2.alloc hb2.size (.cells #[.slice none 0 0, .int .i64 0, .string ⟨#[]⟩] 35)) c0, cell_below (hb2.alloc hb2.size (.cells #[.slice none 0 0, .int .i64 0, .string ⟨#[]⟩] 35)) c1, cell_below (hb2.alloc hb2.size (.cells #[.slice none 0 0, .int .i64 0, .string ⟨#[]⟩] 35)) c2⟩
        clear hK hH
        have hH := hH2; clear hH2
        try simp only [Act.put, List.setIfInBounds_toArray, List.set_cons_zero, List.set_cons_succ]
        obtain ⟨g, hg⟩ : ∃ g, w2.heap.size = g := ⟨_, rfl⟩
        have hrow8 := heap_alloc_new w2 (.cells #[.slice none 0 0, .int .i64 0, .string ⟨#[]⟩] 35)
        have hb8 := hb2.alloc hb2.size (.cells #[.slice none 0 0, .int .i64 0, .string ⟨#[]⟩] 35)
        have hg8 : WA.heap.size ≤ g := by rw [← hg]; exact hb2.size
        obtain ⟨W8, hW8⟩ : ∃ W, W = w2.alloc (.cells #[.slice none 0 0, .int .i64 0, .string ⟨#[]⟩] 35) := ⟨_, rfl⟩
        rw [← hW8] at hrow8 hb8 hH ⊢
        rw [hg] at hrow8 ⊢
        clear hW8
        have hrs := set_row (set_row (set_row (cs := [.slice none 0 0, .int .i64 0, .string ⟨#[]⟩]) hrow8 0 (.slice r.a r.l.length r.c)) 1 (.int .i64 r.kd)) 2 (.string ⟨r.t.toArray⟩)
        have hbs := ((hb8.setCell (p := ⟨g, 0, none⟩) hg8 (.slice r.a r.l.length r.c)).setCell (p := ⟨g, 1, none⟩) hg8 (.int .i64 r.kd)).setCell (p := ⟨g, 2, none⟩) hg8 (.string ⟨r.t.toArray⟩)
        have s0 := row_cell (cs := [.slice none 0 0, .int .i64 0, .string ⟨#[]⟩]) hrow8 0
        have s1 := row_cell (cs := [.slice none 0 0, .int .i64 0, .string ⟨#[]⟩]) hrow8 1
        have s2 := row_cell (cs := [.slice none 0 0, .int .i64 0, .string ⟨#[]⟩]) hrow8 2
        have f0 := row_frozen (cs := [.slice none 0 0, .int .i64 0, .string ⟨#[]⟩]) hrow8 0
        have f1 := row_frozen (cs := [.slice none 0 0, .int .i64 0, .string ⟨#[]⟩]) hrow8 1
        have f2 := row_frozen (cs := [.slice none 0 0, .int .i64 0, .string ⟨#[]⟩]) hrow8 2
        simp only [List.getElem?_cons_zero, List.getElem?_cons_succ] at s0 s1 s2
        refine Reg.only (i := 6) rfl (Reg.wanted_free rfl) (by kernel_rfl) (fun K hK => ?_)
        go_simp
        refine hK.out _ _ ?_ (fun hH2 => ?_)
        · exact ⟨cell_below hbs c0, cell_below hbs c1, cell_below hbs c2⟩
        clear hK hH
        have hH := hH2; clear hH2
        try simp only [Act.put, List.setIfInBounds_toArray, List.set_cons_zero, List.set_cons_succ]
        refine Reg.take (i := 7) (u := ?z5v) rfl rfl rfl (by kernel_rfl) (by kernel_rfl) (by kernel_rfl) hH ?z5y ?z5r
        case z5y => (intro w hSw; (try dsimp only at hSw); go_simp; try (with_reducible rfl))
        case' z5r => simp only [List.setIfInBounds_toArray, List.set_cons_zero, List.set_cons_succ]
        refine wpAnyH_done (by kernel_rfl) ?_ _
        refine NoPanic.normal ?_
        go_wp2_with fail
        go_meet
        case rel => exact ⟨g, p, rfl, rfl, hp, hg8, hrs, hbs⟩
      case B =>
        go_simp
        refine hK.out _ _ ?_ (fun hH2 => ?_)
        · exact ⟨cell_below (((Below.refl _ WA).alloc (Nat.le_refl _) (.cells #[.slice none 0 0, .int .i64 0, .string ⟨#[]⟩] 35)).drew) c0, cell_below (((Below.refl _ WA).alloc (Nat.le_refl _) (.cells #[.slice none 0 0, .int .i64 0, .string ⟨#[]⟩] 35)).drew) c1, cell_below (((Below.refl _ WA).alloc (Nat.le_refl _) (.cells #[.slice none 0 0, .int .i64 0, .string ⟨#[]⟩] 35)).drew) c2⟩
        clear hK hH
        have hH := hH2; clear hH2
        try simp only [Act.put, List.setIfInBounds_toArray, List.set_cons_zero, List.set_cons_succ]
        obtain ⟨g, hg⟩ : ∃ g, WA.heap.size = g := ⟨_, rfl⟩
        have hrow7 := heap_alloc_new WA (.cells #[.slice none 0 0, .int .i64 0, .string ⟨#[]⟩] 35)
        have hb7 : Below WA.heap.size WA (WA.alloc (.cells #[.slice none 0 0, .int .i64 0, .string ⟨#[]⟩] 35)).drew := ((Below.refl _ WA).alloc (Nat.le_refl _) (.cells #[.slice none 0 0, .int .i64 0, .string ⟨#[]⟩] 35)).drew
        have hz7 : (WA.alloc (.cells #[.slice none 0 0, .int .i64 0, .string ⟨#[]⟩] 35)).drew.heap.size = WA.heap.size + 1 := by show (WA.alloc _).heap.size = _; simp
        have hrow7 : (WA.alloc (.cells #[.slice none 0 0, .int .i64 0, .string ⟨#[]⟩] 35)).drew.heap[WA.heap.size]? = _ := hrow7
        obtain ⟨W7, hW7⟩ : ∃ W, W = (WA.alloc (.cells #[.slice none 0 0, .int .i64 0, .string ⟨#[]⟩] 35)).drew := ⟨_, rfl⟩
        rw [← hW7] at hrow7 hb7 hz7 hH ⊢
        clear hW7
        rw [hg] at hrow7 ⊢
        refine Reg.only (i := 4) rfl (Reg.wanted_free rfl) (by kernel_rfl) (fun K hK => ?_)
        go_simp
        go_at_call 19
        refine (pathN_any pn _).mono ?_
        rintro e2 w2 ⟨p, rfl, hp, h2⟩
        go_simp
        have hb2 := hb7.trans (h2.mono hb7.size)
        refine hK.out _ _ ?_ (fun hH2 => ?_)
        · exact ⟨cell_below hb2 c0, cell_below hb2 c1, cell_below hb2 c2⟩
        clear hK hH
        have hH := hH2; clear hH2
        try simp only [Act.put, List.setIfInBounds_toArray, List.set_cons_zero, List.set_cons_succ]
        have hrow8 := (h2.block _ (by omega)).trans hrow7
        have hb8 := hb2
        have hg8 : WA.heap.size ≤ g := by omega
        obtain ⟨W8, hW8⟩ : ∃ W, W = w2 := ⟨_, rfl⟩
        rw [← hW8] at hrow8 hb8 hH ⊢
        clear hW8
        have hrs := set_row (set_row (set_row (cs := [.slice none 0 0, .int .i64 0, .string ⟨#[]⟩]) hrow8 0 (.slice r.a r.l.length r.c)) 1 (.int .i64 r.kd)) 2 (.string ⟨r.t.toArray⟩)
        have hbs := ((hb8.setCell (p := ⟨g, 0, none⟩) hg8 (.slice r.a r.l.length r.c)).setCell (p := ⟨g, 1, none⟩) hg8 (.int .i64 r.kd)).setCell (p := ⟨g, 2, none⟩) hg8 (.string ⟨r.t.toArray⟩)
        have s0 := row_cell (cs := [.slice none 0 0, .int .i64 0, .string ⟨#[]⟩]) hrow8 0
        have s1 := row_cell (cs := [.slice none 0 0, .int .i64 0, .string ⟨#[]⟩]) hrow8 1
        have s2 := row_cell (cs := [.slice none 0 0, .int .i64 0, .string ⟨#[]⟩]) hrow8 2
        have f0 := row_frozen (cs := [.slice none 0 0, .int .i64 0, .string ⟨#[]⟩]) hrow8 0
        have f1 := row_frozen (cs := [.slice none 0 0, .int .i64 0, .string ⟨#[]⟩]) hrow8 1
        have f2 := row_frozen (cs := [.slice none 0 0, .int .i64 0, .string ⟨#[]⟩]) hrow8 2
        simp only [List.getElem?_cons_zero, List.getElem?_cons_succ] at s0 s1 s2
        refine Reg.only (i := 6) rfl (Reg.wanted_free rfl) (by kernel_rfl) (fun K hK => ?_)
        go_simp
        refine hK.out _ _ ?_ (fun hH2 => ?_)
        · exact ⟨cell_below hbs c0, cell_below hbs c1, cell_below hbs c2⟩
        clear hK hH
        have hH := hH2; clear hH2
        try simp only [Act.put, List.setIfInBounds_toArray, List.set_cons_zero, List.set_cons_succ]
        refine Reg.take (i := 7) (u := ?z6v) rfl rfl rfl (by kernel_rfl) (by kernel_rfl) (by kernel_rfl) hH ?z6y ?z6r
        case z6y => (intro w hSw; (try dsimp only at hSw); go_simp; try (with_reducible rfl))
        case' z6r => simp only [List.setIfInBounds_toArray, List.set_cons_zero, List.set_cons_succ]
        refine wpAnyH_done (by kernel_rfl) ?_ _
        refine NoPanic.normal ?_
        go_wp2_with fail
        go_meet
        case rel => exact ⟨g, p, rfl, rfl, hp, hg8, hrs, hbs⟩
    case rest =>
    obtain ⟨g, p, rfl, rfl, hp, hg8, hrow, hbw⟩ := hcut
    obtain ⟨WB, rfl⟩ : ∃ W, W = wc := ⟨_, rfl⟩
    have HOKB := Lib.hid (HOK.out.below hbw)
    have HBB := Lib.hid (HB2.out.trans (hbw.mono HB2.out.size))
    have HP := Lib.hid hp
    have HROW := Lib.hid hrow
    have hfc := vFits_any r.a r.c r.l r.kd r.t (bs p) WB HOKB.out
    rw [data_bs, HER.out, show Route.fitsErr 0 p = 0 from by unfold Route.fitsErr; rw [if_pos rfl, HP.out]; rfl, show Route.fitR 0 r.l p = Route.fit (Dots.isOpen p) r.l (Dots.segments p) from by unfold Route.fitR; rw [show Route.fitsErr 0 p = 0 from by unfold Route.fitsErr; rw [if_pos rfl, HP.out]; rfl, if_pos rfl]] at hfc
    unfold rtv at hfc
    obtain ⟨x0, x1, x2⟩ := box_cells hrow
    clear hrow hp hbw c0 c1 c2 HR2 HB2 HOK hmem
    go_wp2_with fail
    refine hfc.mono ?_
    rintro e5 w5 ⟨v5, rfl, hF5, h5⟩
    have hF5 := hF5.form
    obtain ⟨o, ho⟩ : ∃ o, Route.fit (Dots.isOpen p) r.l (Dots.segments p) = o := ⟨_, rfl⟩
    rw [ho] at hF5
    obtain ⟨D5, hD5⟩ : ∃ D, fdOf r.l r.kd r.t o = D := ⟨_, rfl⟩
    rw [hD5] at hF5
    have HD5 := Lib.hid hD5
    have HO := Lib.hid ho
    obtain ⟨el, fl, eN, fN, eV, fV, rfl, -, -, hSV⟩ := hF5
    have hrow5 := heap_alloc_new w5 (.cells #[.bool D5.b, .slice el D5.l.length fl, .int .i64 D5.kd, .string ⟨D5.t.toArray⟩, .slice eN D5.N.length fN, .slice eV D5.V.length fV, .string ⟨D5.R.toArray⟩] 43)
    have hba5 := (Below.refl _ w5).alloc (Nat.le_refl _) (.cells #[.bool D5.b, .slice el D5.l.length fl, .int .i64 D5.kd, .string ⟨D5.t.toArray⟩, .slice eN D5.N.length fN, .slice eV D5.V.length fV, .string ⟨D5.R.toArray⟩] 43)
    obtain ⟨W5, hW5⟩ : ∃ W, W = w5.alloc (.cells #[.bool D5.b, .slice el D5.l.length fl, .int .i64 D5.kd, .string ⟨D5.t.toArray⟩, .slice eN D5.N.length fN, .slice eV D5.V.length fV, .string ⟨D5.R.toArray⟩] 43) := ⟨_, rfl⟩
    rw [← hW5] at hrow5 hba5
    have hb5 := h5.trans (hba5.mono h5.size)
    have HOK5 := Lib.hid (HOKB.out.below hb5)
    have HB5 := Lib.hid (HBB.out.trans (hb5.mono HBB.out.size))
    have HRG5 := Lib.hid ((hb5.block _ (Array.getElem?_eq_some_iff.1 HROW.out).1).trans HROW.out)
    have HSV := Lib.hid (show Strs W5 eV D5.V.length D5.V from Rd.below hSV hba5)
    obtain ⟨y0, -, -, -, -, y5, y6⟩ := fcs_cells (D := D5) (al := el) (aN := eN) (aV := eV) (cl := fl) (cN := fN) (cV := fV) hrow5
    obtain ⟨x0, x1, x2⟩ := box_cells HRG5.out
    clear hrow5 hba5 hb5 h5 HOKB HBB HROW hfc hD5 ho hSV
    go_upto_region 6 with fail
    rw [← hW5]
    clear hW5
    go_upto_if 42 with fail
    go_cut [12, 13] from 21 (fun a b wc => Below W5.heap.size W5 wc)
    case first =>
      rcases o with _ | ⟨N, V, Rr⟩
      · obtain ⟨D5b, D5l, D5kd, D5t, D5N, D5V, D5R⟩ := D5
        have hde := HD5.out
        unfold fdOf at hde
        injection hde with g1 g2 g3 g4 g5 g6 g7
        subst g1
        clear g2 g3 g4 g5 g6 g7
        go_wp2_with fail
        go_meet
        case rel => exact Below.refl _ _
      · obtain ⟨D5b, D5l, D5kd, D5t, D5N, D5V, D5R⟩ := D5
        have hde := HD5.out
        unfold fdOf at hde
        injection hde with g1 g2 g3 g4 g5 g6 g7
        subst g1 g6 g7
        clear g2 g3 g4 g5
        obtain ⟨s, hps, hsp⟩ := Route.path_again HRL.out HP.out HO.out
        obtain ⟨hvb, hrb⟩ := Route.fit_bounds HRL.out HP.out HO.out
        have hvl := (fit_len _ _ _ HO.out).2
        have hs3 := HSG.out.1
        have hvp := vPath_any r.a eV r.c fV r.l V r.kd r.t (bs Rr) W5 HOK5.out HSV.out ⟨by simp only at hvl; omega, hvb, by rw [data_bs]; exact hrb⟩
        rw [data_bs, HER.out, hps] at hvp
        unfold rtv at hvp
        have hsp2 : s = p ∨ ((s == p) = false ∧ ((bs s ++ ⟨#[47]⟩).toList == p) = true) := by
          by_cases hq : s = p
          · exact Or.inl hq
          · right
            have hq2 := hsp.resolve_left hq
            refine ⟨by simpa using hq, ?_⟩
            rw [bs_snoc, show (bs (s ++ [47])).toList = (bs (s ++ [47])).data.toList from by simp, data_bs, hq2]
            simp
        have HSP := Lib.hid hsp2
        have hs128 : s.length ≤ 200 := by
          have := Route.normal_len HP.out
          rcases hsp with rfl | h9
          · omega
          · have := congrArg List.length h9; rw [List.length_append] at this; simp at this; omega
        clear hps hsp hsp2 hvb hrb hvl hs3
        go_wp2_with fail
        refine hvp.mono ?_
        rintro e6 w6 ⟨rfl, h6⟩
        have hsp2 := HSP.out
        rcases hsp2 with hq | ⟨hq, hq2⟩
        · subst hq
          go_wp2_with fail
          go_meet
          case rel => exact h6
        · go_wp2_with fail
          go_meet
          case rel => exact h6
    case rest =>
    obtain ⟨WC, rfl⟩ : ∃ W, W = wc := ⟨_, rfl⟩
    have HOKC := Lib.hid (HOK5.out.below hcut)
    have HBC := Lib.hid (HB5.out.trans (hcut.mono HB5.out.size))
    have HRGC := Lib.hid ((hcut.block _ (Array.getElem?_eq_some_iff.1 HRG5.out).1).trans HRG5.out)
    obtain ⟨x0, x1, x2⟩ := box_cells HRGC.out
    clear hcut HOK5 HB5 HRG5 HSV HD5 HO y0 y5 y6
    have hkn := kinds_any r.a r.c r.l r.kd r.t WC HOKC.out
    rw [HER.out] at hkn
    unfold KindsPost rtv at hkn
    rw [show Route.kindsR 0 r.l = Route.kindsOf r.l from rfl] at hkn
    rw [show (Route.kindsOf r.l).length = r.l.length from Route.kindsOf_length _] at hkn
    go_wp2_with fail
    refine hkn.mono ?_
    rintro e7 w7 ⟨ka, kc, rfl, hIk, -, -, h7⟩
    have HIK := Lib.hid (show Ints w7 ka (Route.kindsOf r.l).length (Route.kindsOf r.l) from by rw [Route.kindsOf_length]; exact hIk)
    have HOK7 := Lib.hid (HOKC.out.below h7)
    have HB7 := Lib.hid (HBC.out.trans (h7.mono HBC.out.size))
    have HRG7 := Lib.hid ((h7.block _ (Array.getElem?_eq_some_iff.1 HRGC.out).1).trans HRGC.out)
    have hl16 := HSG.out.1
    clear hIk hkn h7 HOKC HBC HRGC x0 x1 x2
    go_wp2_with fail
    go_loopg [15, 16, 17] r.l.length (fun g vv rv iv W => ∃ (k : Nat) (Vv : List (List UInt8)) (tl : List UInt8), iv = .int .i64 k ∧ k + g = r.l.length ∧ Owns W w7.heap.size 9 1 vv Vv.length (Vv.map sv) ∧ rv = .string (bs tl) ∧ Vv.length = Route.params (r.l.take k) ∧ (∀ v ∈ Vv, v ∈ Route.valSet) ∧ tl ∈ Route.restSet ∧ (Route.hasR (r.l.take k) = false → tl = []) ∧ Below w7.heap.size w7 W)
    case atStart => exact ⟨0, [], [], rfl, by omega, Owns.nil _ _ _ _, rfl, rfl, by simp, by decide, fun _ => rfl, Below.refl _ _⟩
    case round =>
      obtain ⟨k, Vv, tl, rfl, hk, hown, rfl, hvl, hvs, htl, ht0, hbl⟩ := hrel
      obtain ⟨WD, rfl⟩ : ∃ W, W = wr := ⟨_, rfl⟩
      obtain ⟨vo, rfl⟩ : ∃ v, v = u15 := ⟨_, rfl⟩
      have HOWN := Lib.hid hown
      have HBL := Lib.hid hbl
      have HVL := Lib.hid hvl
      have HVS := Lib.hid hvs
      have HTL := Lib.hid htl
      have HT0 := Lib.hid ht0
      have hsz := hbl.size
      clear hown hvs htl ht0 hbl
      by_cases hlt : k < r.l.length
      · obtain ⟨g', rfl⟩ : ∃ g', gk = g' + 1 := ⟨gk - 1, by omega⟩
        obtain ⟨kad, kx, rfl, -, hkx, hcx⟩ := (show Ints WD ka (Route.kindsOf r.l).length (Route.kindsOf r.l) from Rd.below HIK.out HBL.out).get (k := k) (by rw [Route.kindsOf_length]; exact hlt)
        have n0 : (0 : Int) ≤ (k : Int) := by omega
        have n1 : (k : Int) < (r.l.length : Int) := by omega
        have n2 : k < r.l.length := hlt
        have hkq : kx = (Route.kind (Route.nth r.l k) : Int) := by
          unfold Route.kindsOf at hkx
          rw [List.getElem?_map, Route.nth_some hlt] at hkx
          simpa using hkx.symm
        have htk : r.l.take (k + 1) = r.l.take k ++ [Route.nth r.l k] := by rw [List.take_add_one, Route.nth_some hlt]; rfl
        have hpa : Route.params (r.l.take (k + 1)) = Route.params (r.l.take k) + if Route.kind (Route.nth r.l k) = 2 then 1 else 0 := by
          rw [htk]
          unfold Route.params
          rw [List.filter_append, List.length_append]
          by_cases h2 : Route.kind (Route.nth r.l k) = 2
          · simp [h2, List.filter]
          · rw [if_neg h2]
            simp only [List.filter, beq_eq_false_iff_ne.2 h2, List.length_nil]
        have hha : Route.hasR (r.l.take (k + 1)) = (Route.hasR (r.l.take k) || Route.kind (Route.nth r.l k) == 3) := by rw [htk]; simp [Route.hasR]
        have HPA := Lib.hid hpa
        have HHA := Lib.hid hha
        have hkc := Route.kind_cases (Route.nth r.l k)
        obtain ⟨q, hq⟩ : ∃ q, Route.kind (Route.nth r.l k) = q := ⟨_, rfl⟩
        rw [hq] at HPA HHA hkc hkq
        subst hkq
        have hVn : Vv.length ≤ 3 := by
          rw [hvl]
          have h9 : (r.l.take k).length ≤ 3 := by rw [List.length_take]; omega
          have h8 : Route.params (r.l.take k) ≤ (r.l.take k).length := List.length_filter_le _ _
          omega
        clear hpa hha htk hkx hq hvl
        rcases hkc with rfl | rfl | rfl
        · go_wp2_with fail
          go_roundg g'
          case measure => omega
          case rel => exact ⟨k + 1, Vv, tl, by go_num, by omega, HOWN.out, rfl, by rw [HPA.out, HVL.out]; rfl, HVS.out, HTL.out, fun h => HT0.out (by rw [HHA.out] at h; simpa using h), HBL.out⟩
        · go_wp2_with fail
          refine (mod4_any _ _).mono ?_
          rintro e8 w8 ⟨m, hm4, rfl, rfl⟩
          obtain ⟨A, hA, hcA⟩ := val_cell WD m hm4
          have s0 : (0 : Int) ≤ (m : Int) := by omega
          have s1 : (m : Int) < 4 := by omega
          have HA := Lib.hid hA
          have hO8 := HOWN.out.alloc (.cells #[.string ⟨#[118]⟩, .string ⟨#[97]⟩, .string ⟨#[46, 46, 97]⟩, .string ⟨#[123, 120, 125]⟩] 9)
          have hb8 := HBL.out.alloc hsz (.cells #[.string ⟨#[118]⟩, .string ⟨#[97]⟩, .string ⟨#[46, 46, 97]⟩, .string ⟨#[123, 120, 125]⟩] 9)
          have hs8 := hb8.size
          obtain ⟨W8, hW8⟩ : ∃ W, W = WD.alloc (.cells #[.string ⟨#[118]⟩, .string ⟨#[97]⟩, .string ⟨#[46, 46, 97]⟩, .string ⟨#[123, 120, 125]⟩] 9) := ⟨_, rfl⟩
          rw [← hW8] at hcA hO8 hb8 hs8 ⊢
          clear hW8
          go_wp2_with (at_builtin; go_must (refine wpList_append_owns _ rfl _ _ 33 rfl w7.heap.size 9 i0 (.string ⟨#[]⟩) 1 16 Try.underlying33 hi0 hz0 hz1 hz2 rfl (by decide) _ Vv.length (Vv.map sv) rfl (hO8.alloc _) _ 1 1 [sv A] rfl (Rd.one _ 9 _) (by simp [sv, Value.oneCell']) (by simp only [maxLen]; omega) (by omega) (by simp; omega) ?_); intro v9 w9 hown9 hgrow9)
          go_roundg g'
          case measure => omega
          case rel =>
            refine ⟨k + 1, Vv ++ [A], tl, by go_num, by omega, ?_, rfl, by rw [HPA.out, ← HVL.out]; simp, fun v hv => ?_, HTL.out, fun h => HT0.out (by rw [HHA.out] at h; simpa using h), (hb8.alloc hs8 _).grown hgrow9 (by simp; omega) (fun j e => (hO8.lt j e).1)⟩
            · rw [List.length_append, List.map_append]; exact hown9
            · rcases List.mem_append.1 hv with hv | hv
              · exact HVS.out v hv
              · rw [List.mem_singleton.1 hv]; exact HA.out
        · go_wp2_with fail
          refine (mod4_any _ _).mono ?_
          rintro e8 w8 ⟨m, hm4, rfl, rfl⟩
          obtain ⟨A, hA, hcA⟩ := rest_cell WD m hm4
          have s0 : (0 : Int) ≤ (m : Int) := by omega
          have s1 : (m : Int) < 4 := by omega
          have HA := Lib.hid hA
          go_wp2_with fail
          go_roundg g'
          case measure => omega
          case rel => exact ⟨k + 1, Vv, A, by go_num, by omega, HOWN.out.alloc _, rfl, by rw [HPA.out, HVL.out]; rfl, HVS.out, HA.out, fun h => by rw [HHA.out] at h; simp at h, HBL.out.alloc hsz _⟩
      · obtain rfl : k = r.l.length := by omega
        have hvl2 := HVL.out
        rw [List.take_length] at hvl2
        have ht2 := HT0.out
        rw [List.take_length] at ht2
        obtain ⟨s, N, hps, hns, hfs⟩ := Route.values_again HRL.out HSG.out hvl2 HVS.out HTL.out ht2
        obtain ⟨va, vc, rfl, hv1, hv2, hvr⟩ := HOWN.out.form
        have HOKD := Lib.hid (HOK7.out.below HBL.out)
        have HRGD := Lib.hid ((HBL.out.block _ (Array.getElem?_eq_some_iff.1 HRG7.out).1).trans HRG7.out)
        have HBD := Lib.hid (HB7.out.trans (HBL.out.mono HB7.out.size))
        have hVn : Vv.length ≤ 3 := by
          rw [hvl2]
          have h8 : Route.params r.l ≤ r.l.length := List.length_filter_le _ _
          omega
        have hvp := vPath_any r.a va r.c vc r.l Vv r.kd r.t (bs tl) WD HOKD.out hvr ⟨by omega, fun v hv => by
          have hall : ∀ x ∈ Route.valSet, x.length ≤ 1000 := by decide
          exact hall v (HVS.out v hv), by
          rw [data_bs]
          have hall : ∀ x ∈ Route.restSet, x.length ≤ 1000 := by decide
          exact hall tl HTL.out⟩
        rw [data_bs, HER.out, hps] at hvp
        unfold rtv at hvp
        have HSTR := Lib.hid (show Strs WD va Vv.length Vv from hvr)
        have HNS := Lib.hid hns
        have HFS := Lib.hid hfs
        obtain ⟨x0, x1, x2⟩ := box_cells HRGD.out
        clear hps hns hfs hvl hvl2 ht2 HOWN HVL HVS HTL HT0 HOK7 HRG7 HB7 HBL hvr HIK
        go_wp2_with fail
        refine hvp.mono ?_
        rintro e9 w9 ⟨rfl, h9⟩
        have HOK9 := Lib.hid (HOKD.out.below h9)
        have HRG9 := Lib.hid ((h9.block _ (Array.getElem?_eq_some_iff.1 HRGD.out).1).trans HRGD.out)
        have HB9 := Lib.hid (HBD.out.trans (h9.mono HBD.out.size))
        have HST9 := Lib.hid (show Strs w9 va Vv.length Vv from Rd.below HSTR.out h9)
        have hfc := vFits_any r.a r.c r.l r.kd r.t (bs s) w9 HOK9.out
        rw [data_bs, HER.out, show Route.fitsErr 0 s = 0 from by unfold Route.fitsErr; rw [if_pos rfl, HNS.out]; rfl, show Route.fitR 0 r.l s = Route.fit (Dots.isOpen s) r.l (Dots.segments s) from by unfold Route.fitR; rw [show Route.fitsErr 0 s = 0 from by unfold Route.fitsErr; rw [if_pos rfl, HNS.out]; rfl, if_pos rfl], HFS.out] at hfc
        unfold rtv at hfc
        obtain ⟨x0, x1, x2⟩ := box_cells HRG9.out
        clear hvp h9 HOKD HRGD HBD HSTR
        go_wp2_with fail
        refine hfc.mono ?_
        rintro e10 w10 ⟨v10, rfl, hF10, h10⟩
        have hF10 := hF10.form
        obtain ⟨el, fl, eN, fN, eV, fV, rfl, -, -, hSV⟩ := hF10
        have hrow10 := heap_alloc_new w10 (.cells #[.bool (fdOf r.l r.kd r.t (some (N, Vv, tl))).b, .slice el (fdOf r.l r.kd r.t (some (N, Vv, tl))).l.length fl, .int .i64 (fdOf r.l r.kd r.t (some (N, Vv, tl))).kd, .string ⟨(fdOf r.l r.kd r.t (some (N, Vv, tl))).t.toArray⟩, .slice eN (fdOf r.l r.kd r.t (some (N, Vv, tl))).N.length fN, .slice eV (fdOf r.l r.kd r.t (some (N, Vv, tl))).V.length fV, .string ⟨(fdOf r.l r.kd r.t (some (N, Vv, tl))).R.toArray⟩] 43)
        have hba10 := (Below.refl _ w10).alloc (Nat.le_refl _) (.cells #[.bool (fdOf r.l r.kd r.t (some (N, Vv, tl))).b, .slice el (fdOf r.l r.kd r.t (some (N, Vv, tl))).l.length fl, .int .i64 (fdOf r.l r.kd r.t (some (N, Vv, tl))).kd, .string ⟨(fdOf r.l r.kd r.t (some (N, Vv, tl))).t.toArray⟩, .slice eN (fdOf r.l r.kd r.t (some (N, Vv, tl))).N.length fN, .slice eV (fdOf r.l r.kd r.t (some (N, Vv, tl))).V.length fV, .string ⟨(fdOf r.l r.kd r.t (some (N, Vv, tl))).R.toArray⟩] 43)
        obtain ⟨W10, hW10⟩ : ∃ W, W = w10.alloc (.cells #[.bool (fdOf r.l r.kd r.t (some (N, Vv, tl))).b, .slice el (fdOf r.l r.kd r.t (some (N, Vv, tl))).l.length fl, .int .i64 (fdOf r.l r.kd r.t (some (N, Vv, tl))).kd, .string ⟨(fdOf r.l r.kd r.t (some (N, Vv, tl))).t.toArray⟩, .slice eN (fdOf r.l r.kd r.t (some (N, Vv, tl))).N.length fN, .slice eV (fdOf r.l r.kd r.t (some (N, Vv, tl))).V.length fV, .string ⟨(fdOf r.l r.kd r.t (some (N, Vv, tl))).R.toArray⟩] 43) := ⟨_, rfl⟩
        rw [← hW10] at hrow10 hba10
        have hb10 := h10.trans (hba10.mono h10.size)
        have HB10 := Lib.hid (HB9.out.trans (hb10.mono HB9.out.size))
        have hsv : Strs W10 eV Vv.length Vv := Rd.below hSV hba10
        have hst := sameTexts_any eV va fV vc Vv Vv W10 hsv (Rd.below HST9.out hb10) (by simp only [maxLen]; omega)
        rw [show (Vv == Vv) = true from by simp] at hst
        obtain ⟨y0, -, -, -, -, y5, y6⟩ := fcs_cells (D := fdOf r.l r.kd r.t (some (N, Vv, tl))) (al := el) (aN := eN) (aV := eV) (cl := fl) (cN := fN) (cV := fV) hrow10
        change W10.cell? ⟨w10.heap.size, 0, none⟩ = some (.bool true) at y0
        change W10.cell? ⟨w10.heap.size, 5, none⟩ = some (.slice eV Vv.length fV) at y5
        change W10.cell? ⟨w10.heap.size, 6, none⟩ = some (.string (bs tl)) at y6
        have HROW10 := Lib.hid hrow10
        clear hfc h10 hba10 hb10 hrow10 hSV hsv HOK9 HRG9 HB9 HST9
        go_upto_region 27 with fail
        rw [← hW10]
        clear hW10 hF10
        go_wp2_with fail
        refine hst.mono ?_
        rintro e11 w11 ⟨rfl, h11⟩
        have HB11 := Lib.hid (HB10.out.trans (h11.mono HB10.out.size))
        have hr11 := (h11.block _ (Array.getElem?_eq_some_iff.1 HROW10.out).1).trans HROW10.out
        obtain ⟨z0, -, -, -, -, z5, z6⟩ := fcs_cells (D := fdOf r.l r.kd r.t (some (N, Vv, tl))) (al := el) (aN := eN) (aV := eV) (cl := fl) (cN := fN) (cV := fV) hr11
        change w11.cell? ⟨w10.heap.size, 6, none⟩ = some (.string (bs tl)) at z6
        clear hr11 z0 z5 h11 hst y0 y5 y6
        go_wp2_with fail
        refine (awake41_any _).mono ?_
        rintro e12 w12 ⟨rfl, h12⟩
        go_wp2_with fail
        go_ret
        exact ⟨rfl, HB11.out.trans (h12.mono HB11.out.size)⟩
end Go.Proofs.Ytefilalapkdegaa
