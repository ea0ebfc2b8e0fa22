/- Find: what is found for a path. -/
import Derived.Test.YtefilalapkdegaaRouteAll
namespace Go.Proofs.Ytefilalapkdegaa
open Go.RowKit Str Mem
set_option linter.unusedVariables false
set_option linter.unusedSimpArgs false

def headN : List Int → Int
  | [] => -1
  | i :: _ => i
def headK : List Int → Option Nat
  | [] => none
  | i :: _ => some i.toNat
def findN (L : List RtV) (p : List UInt8) : Int := if allE L p ≠ 0 then 0 else headN (allK L p)
def firstK (L : List RtV) (p : List UInt8) : Option Nat := if allE L p ≠ 0 then none else headK (allK L p)
def FindIs (w' : World) (B : Nat) (L : List RtV) (p : List UInt8) (v : Value) : Prop :=
  match firstK L p with
  | none => v = .agg #[.bool false, .slice none 0 0, .int .i64 0, .string ⟨#[]⟩, .slice none 0 0, .slice none 0 0, .string ⟨#[]⟩]
  | some i => ∃ r, L[i]? = some r ∧ FoundIs w' B r.l r.kd r.t (Route.fit (Dots.isOpen p) r.l (Dots.segments p)) v
theorem allK_mem {L : List RtV} {p : List UInt8} {x : Int} (h : x ∈ allK L p) : ∃ i : Nat, x = (i : Int) ∧ i < L.length ∧ fitsAt L p i = true ∧ allE L p = 0 := by
  unfold allK at h
  split at h
  · rename_i he
    obtain ⟨i, e, hi, hf⟩ := fitTo_mem ((Route.sorted_mem _ _ _).1 h)
    exact ⟨i, e, hi, hf, he⟩
  · simp at h
theorem allE_good {L : List RtV} {p : List UInt8} (h : allE L p = 0) : (∀ r ∈ L, r.err = 0) ∧ Dots.normal p = true := by
  unfold allE at h
  split at h
  · rename_i h1; exact absurd h h1
  · rename_i h1
    have h1 : (checkR L).1 = 0 := by simpa using h1
    split at h
    · rename_i h2
      refine ⟨fun r hr => ?_, h2⟩
      obtain ⟨j, hj, e⟩ := List.mem_iff_getElem.1 hr
      unfold checkR at h1
      split at h1
      · cases h1
      · have hz : firstBad L L.length = (0, 0) := by
          rcases Decidable.em (firstBad L L.length = (0, 0)) with h3 | h3
          · exact h3
          · exact absurd h1 (firstBad_nz L.length h3)
        exact firstBad_all L.length (Nat.le_refl _) hz j r hj (by rw [List.getElem?_eq_getElem hj, e])
    · cases h

def FindPost (w : World) (L : List RtV) (p : List UInt8) (e : Ending) (w' : World) : Prop :=
  ∃ v, e = .returned (.tuple #[v, .int .i64 (findN L p), .int .i64 (allE L p)]) ∧ FindIs w' w.heap.size L p v ∧ Below w.heap.size w w'

set_option maxRecDepth 20000 in
set_option maxHeartbeats 4000000 in
theorem vFind_all (a : Option Addr) (c : Nat) (L : List RtV) (p : ByteArray) (w : World) (h : Rts w a L) (hl : L.length ≤ 100000) :
    Calls Try.prog 20 #[.slice a L.length c, .string p] w fun e w' => FindPost w L p.data.toList e w' := by
  have hal := fun w' (hb : Below w.heap.size w w') => vAll_all a c L p w' (h.below hb) hl
  unfold FindPost
  obtain ⟨W0, hW0⟩ : ∃ W0, W0 = w.alloc (Obj.cells #[.bool false, .slice none 0 0, .int .i64 0, .string ⟨#[]⟩, .slice none 0 0, .slice none 0 0, .string ⟨#[]⟩] 43) := ⟨_, rfl⟩
  have hb0 : Below w.heap.size w W0 := by rw [hW0]; exact (Below.refl _ w).alloc (Nat.le_refl _) _
  have hsz0 : W0.heap.size = w.heap.size + 1 := by rw [hW0]; simp
  have hr0 : W0.heap[w.heap.size]? = some (.cells [.bool false, .slice none 0 0, .int .i64 0, .string ⟨#[]⟩, .slice none 0 0, .slice none 0 0, .string ⟨#[]⟩].toArray 43 (0, 0)) := by rw [hW0]; exact heap_alloc_new _ _
  have HW := Lib.hid hW0
  have hal0 := hal W0 hb0
  unfold AllPost at hal0
  obtain ⟨E, hE⟩ : ∃ E, allE L p.data.toList = E := ⟨_, rfl⟩
  obtain ⟨K, hK⟩ : ∃ K, allK L p.data.toList = K := ⟨_, rfl⟩
  have hmem := fun x => allK_mem (L := L) (p := p.data.toList) (x := x)
  rw [hE, hK] at hal0
  rw [hE]
  rw [hK] at hmem
  have HN := Lib.hid (show findN L p.data.toList = if E ≠ 0 then 0 else headN K by unfold findN; rw [hE, hK])
  have HF := Lib.hid (show firstK L p.data.toList = if E ≠ 0 then none else headK K by unfold firstK; rw [hE, hK])
  have HE := Lib.hid hE
  clear hW0 hal hE hK
  go_enter Try.func20, Try.ntmps20
  go_wp2_with fail
  rw [← HW.out]
  refine hal0.mono ?_
  rintro e w2 ⟨ka0, kc, rfl, hKI, hkc, hkcm, hkge, g1⟩
  have hbl2 := hb0.trans (g1.mono hb0.size)
  have hr2 := (g1.block w.heap.size (by omega)).trans hr0
  have hsz2 := g1.size
  by_cases h0 : E = 0
  · have h0b : (E != 0) = false := by rw [h0]; rfl
    have hgd := allE_good (L := L) (p := p.data.toList) (HE.out.trans h0)
    rcases K with _ | ⟨x, K'⟩
    · have Hn := Lib.hid (show findN L p.data.toList = -1 by rw [HN.out, if_neg (by simp [h0])]; rfl)
      have Hf := Lib.hid (show firstK L p.data.toList = none by rw [HF.out, if_neg (by simp [h0])]; rfl)
      have H0 := Lib.hid h0
      clear h0 hmem hgd
      obtain ⟨⟨r0, r1, r2, r3, r4, r5, r6⟩, m0, m1, m2, m3, m4, m5, m6⟩ := row7 hr2
      go_wp2_with fail
      obtain ⟨Wf, hWf⟩ : ∃ Wf, Wf = set7 (w2) (w.heap.size) (.bool false) (.slice none 0 0) (.int .i64 0) (.string ⟨#[]⟩) (.slice none 0 0) (.slice none 0 0) (.string ⟨#[]⟩) := ⟨_, rfl⟩
      have hrf : Wf.heap[w.heap.size]? = some (.cells [.bool false, .slice none 0 0, .int .i64 0, .string ⟨#[]⟩, .slice none 0 0, .slice none 0 0, .string ⟨#[]⟩].toArray 43 (0, 0)) := by rw [hWf]; exact set7_row hr2
      have hbf : Below w.heap.size w Wf := by rw [hWf]; exact set7_below hbl2 (by omega)
      have hFF : FindIs Wf w.heap.size L p.data.toList (.agg #[.bool false, .slice none 0 0, .int .i64 0, .string ⟨#[]⟩, .slice none 0 0, .slice none 0 0, .string ⟨#[]⟩]) := by unfold FindIs; rw [Hf.out]
      unfold set7 at hWf
      rw [← hWf]
      clear hWf
      obtain ⟨⟨z0, z1, z2, z3, z4, z5, z6⟩, _⟩ := row7 hrf
      refine bodyPost_ret (v := .tuple #[.agg #[.bool false, .slice none 0 0, .int .i64 0, .string ⟨#[]⟩, .slice none 0 0, .slice none 0 0, .string ⟨#[]⟩], .int .i64 (-1), .int .i64 (0)]) (by simp [results, Try.results20, go_sem, z0, z1, z2, z3, z4, z5, z6]) rfl ⟨.agg #[.bool false, .slice none 0 0, .int .i64 0, .string ⟨#[]⟩, .slice none 0 0, .slice none 0 0, .string ⟨#[]⟩], ?_, hFF, hbf⟩
      rw [Hn.out, H0.out]
    · obtain ⟨i, rfl, hil, hif, _⟩ := hmem x (by simp)
      have Hn := Lib.hid (show findN L p.data.toList = (i : Int) by rw [HN.out, if_neg (by simp [h0])]; rfl)
      have Hf := Lib.hid (show firstK L p.data.toList = some i by rw [HF.out, if_neg (by simp [h0])]; rfl)
      have H0 := Lib.hid h0
      obtain ⟨ka, kv, rfl, hkb, hkls, hkcell⟩ := hKI.get (k := 0) (by simp)
      simp only [List.getElem?_cons_zero, Option.some.injEq] at hkls
      subst hkls
      have hka0 : ka.add 0 = ka := by unfold Addr.add; simp
      rw [hka0] at hkcell
      have hkne := hkge ka rfl
      obtain ⟨ad, r, rfl, hbb, hr, hrm, c0, c1, c2⟩ := (h.below hbl2).fields hil
      have hadl : ad.block < w.heap.size := by
        obtain ⟨ad', r', e', hlt, _⟩ := h.fields hil
        cases e'; exact hlt
      have hS : ∀ W, Kp w.heap.size w2 W → W.cell? ka = some (.int .i64 i) ∧ W.cell? (ad.add (i * 3)) = some (.slice r.a r.l.length r.c) ∧ W.cell? ⟨(ad.add (i * 3)).block, (ad.add (i * 3)).off + 1, none⟩ = some (.int .i64 r.kd) ∧ W.cell? ⟨(ad.add (i * 3)).block, (ad.add (i * 3)).off + 2, none⟩ = some (.string ⟨r.t.toArray⟩) := fun W hW => by
        have hab : (ad.add (i * 3)).block = ad.block := add_block _ _
        have e1 : W.heap[ka.block]? = w2.heap[ka.block]? := hW.block _ hkb (by omega)
        have e2 : W.heap[ad.block]? = w2.heap[ad.block]? := hW.block _ hbb (by omega)
        refine ⟨(World.cell?_of_block (w := w2) e1).trans hkcell, (World.cell?_of_block (w := w2) (by rw [hab]; exact e2)).trans c0, (World.cell?_of_block (w := w2) (a := ⟨(ad.add (i * 3)).block, (ad.add (i * 3)).off + 1, none⟩) (by show W.heap[(ad.add (i * 3)).block]? = _; rw [hab]; exact e2)).trans c1, (World.cell?_of_block (w := w2) (a := ⟨(ad.add (i * 3)).block, (ad.add (i * 3)).off + 2, none⟩) (by show W.heap[(ad.add (i * 3)).block]? = _; rw [hab]; exact e2)).trans c2⟩
      have hft := vfits_any r.a r.c r.l r.kd r.t p w2.drew ((h.each r hrm).below hbl2.drew) (hgd.1 r hrm) hgd.2
      unfold rtv at hft
      have HR := Lib.hid hr
      have i0 : (0 : Int) ≤ (i : Int) := by omega
      have i1 : (i : Int) < (L.length : Int) := by omega
      clear h0 hmem hgd hr hka0
      go_wp2
      refine wp_region_noPanic ?_
      refine wp_region_held_drew (S := fun w' => w'.cell? ka = some (.int .i64 i) ∧ w'.cell? (ad.add (i * 3)) = some (.slice r.a r.l.length r.c) ∧ w'.cell? ⟨(ad.add (i * 3)).block, (ad.add (i * 3)).off + 1, none⟩ = some (.int .i64 r.kd) ∧ w'.cell? ⟨(ad.add (i * 3)).block, (ad.add (i * 3)).off + 2, none⟩ = some (.string ⟨r.t.toArray⟩)) (by kernel_rfl) ?_ (fun hH => ?_)
      · exact hS _ (Kp.refl _ _).drew
      refine Reg.take (i := 0) (u := ?fav0) rfl rfl rfl (by kernel_rfl) (by kernel_rfl) (by kernel_rfl) hH ?fay0 ?far0
      case fay0 => (intro w hSw; (try dsimp only at hSw); go_simp; try (with_reducible rfl))
      case' far0 => simp only [List.setIfInBounds_toArray, List.set_cons_zero, List.set_cons_succ]
      refine Reg.take (i := 1) (u := ?fav1) rfl rfl rfl (by kernel_rfl) (by kernel_rfl) (by kernel_rfl) hH ?fay1 ?far1
      case fay1 => (intro w hSw; (try dsimp only at hSw); go_simp; try (with_reducible rfl))
      case' far1 => simp only [List.setIfInBounds_toArray, List.set_cons_zero, List.set_cons_succ]
      refine Reg.take (i := 2) (u := ?fav2) rfl rfl rfl (by kernel_rfl) (by kernel_rfl) (by kernel_rfl) hH ?fay2 ?far2
      case fay2 => (intro w hSw; (try dsimp only at hSw); go_simp; try (with_reducible rfl))
      case' far2 => simp only [List.setIfInBounds_toArray, List.set_cons_zero, List.set_cons_succ]
      refine Reg.take (i := 3) (u := ?fav3) rfl rfl rfl (by kernel_rfl) (by kernel_rfl) (by kernel_rfl) hH ?fay3 ?far3
      case fay3 => (intro w hSw; (try dsimp only at hSw); go_simp; try (with_reducible rfl))
      case' far3 => simp only [List.setIfInBounds_toArray, List.set_cons_zero, List.set_cons_succ]
      refine Reg.take (i := 4) (u := ?fav4) rfl rfl rfl (by kernel_rfl) (by kernel_rfl) (by kernel_rfl) hH ?fay4 ?far4
      case fay4 => (intro w hSw; (try dsimp only at hSw); go_simp; try (with_reducible rfl))
      case' far4 => simp only [List.setIfInBounds_toArray, List.set_cons_zero, List.set_cons_succ]
      refine Reg.take (i := 5) (u := ?fav5) rfl rfl rfl (by kernel_rfl) (by kernel_rfl) (by kernel_rfl) hH ?fay5 ?far5
      case fay5 => (intro w hSw; (try dsimp only at hSw); go_simp; try (with_reducible rfl))
      case' far5 => simp only [List.setIfInBounds_toArray, List.set_cons_zero, List.set_cons_succ]
      refine Reg.take (i := 6) (u := ?fav6) rfl rfl rfl (by kernel_rfl) (by kernel_rfl) (by kernel_rfl) hH ?fay6 ?far6
      case fay6 => (intro w hSw; (try dsimp only at hSw); go_simp; try (with_reducible rfl))
      case' far6 => simp only [List.setIfInBounds_toArray, List.set_cons_zero, List.set_cons_succ]
      refine Reg.take (i := 8) (u := ?fav8) rfl rfl rfl (by kernel_rfl) (by kernel_rfl) (by kernel_rfl) hH ?fay8 ?far8
      case fay8 => (intro w hSw; (try dsimp only at hSw); go_simp; try (with_reducible rfl))
      case' far8 => simp only [List.setIfInBounds_toArray, List.set_cons_zero, List.set_cons_succ]
      refine Reg.take (i := 9) (u := ?fav9) rfl rfl rfl (by kernel_rfl) (by kernel_rfl) (by kernel_rfl) hH ?fay9 ?far9
      case fay9 => (intro w hSw; (try dsimp only at hSw); go_simp; try (with_reducible rfl))
      case' far9 => simp only [List.setIfInBounds_toArray, List.set_cons_zero, List.set_cons_succ]
      refine Reg.take (i := 10) (u := ?fav10) rfl rfl rfl (by kernel_rfl) (by kernel_rfl) (by kernel_rfl) hH ?fay10 ?far10
      case fay10 => (intro w hSw; (try dsimp only at hSw); go_simp; try (with_reducible rfl))
      case' far10 => simp only [List.setIfInBounds_toArray, List.set_cons_zero, List.set_cons_succ]
      refine Reg.only (i := 7) rfl (Reg.wanted_free rfl) (by kernel_rfl) (fun K hK => ?_)
      go_simp
      refine hft.mono ?_
      rintro e w3 ⟨v, rfl, hF, g3⟩
      go_simp
      obtain ⟨xb, al, nl, cl, kd', t', aN, nN, cN, aV, nV, cV, xr, rfl⟩ := hF.cells
      have hk3 : Kp w.heap.size w2 w3 := (Kp.refl _ w2).drew.below g3 (Nat.le_refl _)
      refine hK.out _ _ (hS _ hk3) (fun hH2 => ?_)
      clear hK hH
      have hH := hH2; clear hH2
      try simp only [Act.put, List.setIfInBounds_toArray, List.set_cons_zero, List.set_cons_succ]
      have hr3 := (g3.block w.heap.size (by show w.heap.size < w2.heap.size; omega)).trans hr2
      obtain ⟨⟨r0, r1, r2, r3, r4, r5, r6⟩, m0, m1, m2, m3, m4, m5, m6⟩ := row7 hr3
      have hbl3 : Below w.heap.size w w3 := hbl2.drew.trans (g3.mono (by show w.heap.size ≤ w2.heap.size; omega))
      have hkU : Kp w.heap.size w2 (set7 w3 w.heap.size (.bool xb) (.slice al nl cl) (.int .i64 kd') (.string t') (.slice aN nN cN) (.slice aV nV cV) (.string xr)) := ((((((hk3.setD 0 _).setD 1 _).setD 2 _).setD 3 _).setD 4 _).setD 5 _).setD 6 _
      refine Reg.only (i := 11) rfl (Reg.wanted_free rfl) (by kernel_rfl) (fun K hK => ?_)
      go_simp
      refine hK.out _ _ (hS _ hkU) (fun hH2 => ?_)
      clear hK hH
      have hH := hH2; clear hH2
      try simp only [Act.put, List.setIfInBounds_toArray, List.set_cons_zero, List.set_cons_succ]
      refine Reg.take (i := 12) (u := ?fbv12) rfl rfl rfl (by kernel_rfl) (by kernel_rfl) (by kernel_rfl) hH ?fby12 ?fbr12
      case fby12 => (intro w hSw; (try dsimp only at hSw); go_simp; try (with_reducible rfl))
      case' fbr12 => simp only [List.setIfInBounds_toArray, List.set_cons_zero, List.set_cons_succ]
      refine Reg.take (i := 13) (u := ?fbv13) rfl rfl rfl (by kernel_rfl) (by kernel_rfl) (by kernel_rfl) hH ?fby13 ?fbr13
      case fby13 => (intro w hSw; (try dsimp only at hSw); go_simp; try (with_reducible rfl))
      case' fbr13 => simp only [List.setIfInBounds_toArray, List.set_cons_zero, List.set_cons_succ]
      refine wpAnyH_done (by kernel_rfl) ?_ _
      refine NoPanic.normal ?_
      go_wp2_with fail
      obtain ⟨Wf, hWf⟩ : ∃ Wf, Wf = set7 (w3) (w.heap.size) (.bool xb) (.slice al nl cl) (.int .i64 kd') (.string t') (.slice aN nN cN) (.slice aV nV cV) (.string xr) := ⟨_, rfl⟩
      have hrf : Wf.heap[w.heap.size]? = some (.cells [.bool xb, .slice al nl cl, .int .i64 kd', .string t', .slice aN nN cN, .slice aV nV cV, .string xr].toArray 43 (0, 0)) := by rw [hWf]; exact set7_row hr3
      have hbf : Below w.heap.size w Wf := by rw [hWf]; exact set7_below hbl3 (by omega)
      have hFF : FindIs Wf w.heap.size L p.data.toList (.agg #[.bool xb, .slice al nl cl, .int .i64 kd', .string t', .slice aN nN cN, .slice aV nV cV, .string xr]) := by unfold FindIs; rw [Hf.out]; exact ⟨r, HR.out, by rw [hWf]; exact (hF.set7 (by show w.heap.size < w2.heap.size; omega)).mono (by show w.heap.size ≤ w2.heap.size; omega)⟩
      unfold set7 at hWf
      rw [← hWf]
      clear hWf
      obtain ⟨⟨z0, z1, z2, z3, z4, z5, z6⟩, _⟩ := row7 hrf
      refine bodyPost_ret (v := .tuple #[.agg #[.bool xb, .slice al nl cl, .int .i64 kd', .string t', .slice aN nN cN, .slice aV nV cV, .string xr], .int .i64 (i), .int .i64 (0)]) (by simp [results, Try.results20, go_sem, z0, z1, z2, z3, z4, z5, z6]) rfl ⟨.agg #[.bool xb, .slice al nl cl, .int .i64 kd', .string t', .slice aN nN cN, .slice aV nV cV, .string xr], ?_, hFF, hbf⟩
      rw [Hn.out, H0.out]
  · have h0b : (E != 0) = true := by simpa using h0
    have Hn := Lib.hid (show findN L p.data.toList = 0 by rw [HN.out, if_pos h0])
    have Hf := Lib.hid (show firstK L p.data.toList = none by rw [HF.out, if_pos h0])
    clear h0 hmem
    obtain ⟨⟨r0, r1, r2, r3, r4, r5, r6⟩, m0, m1, m2, m3, m4, m5, m6⟩ := row7 hr2
    go_wp2_with fail
    obtain ⟨Wf, hWf⟩ : ∃ Wf, Wf = set7 (w2) (w.heap.size) (.bool false) (.slice none 0 0) (.int .i64 0) (.string ⟨#[]⟩) (.slice none 0 0) (.slice none 0 0) (.string ⟨#[]⟩) := ⟨_, rfl⟩
    have hrf : Wf.heap[w.heap.size]? = some (.cells [.bool false, .slice none 0 0, .int .i64 0, .string ⟨#[]⟩, .slice none 0 0, .slice none 0 0, .string ⟨#[]⟩].toArray 43 (0, 0)) := by rw [hWf]; exact set7_row hr2
    have hbf : Below w.heap.size w Wf := by rw [hWf]; exact set7_below hbl2 (by omega)
    have hFF : FindIs Wf w.heap.size L p.data.toList (.agg #[.bool false, .slice none 0 0, .int .i64 0, .string ⟨#[]⟩, .slice none 0 0, .slice none 0 0, .string ⟨#[]⟩]) := by unfold FindIs; rw [Hf.out]
    unfold set7 at hWf
    rw [← hWf]
    clear hWf
    obtain ⟨⟨z0, z1, z2, z3, z4, z5, z6⟩, _⟩ := row7 hrf
    refine bodyPost_ret (v := .tuple #[.agg #[.bool false, .slice none 0 0, .int .i64 0, .string ⟨#[]⟩, .slice none 0 0, .slice none 0 0, .string ⟨#[]⟩], .int .i64 (0), .int .i64 (E)]) (by simp [results, Try.results20, go_sem, z0, z1, z2, z3, z4, z5, z6]) rfl ⟨.agg #[.bool false, .slice none 0 0, .int .i64 0, .string ⟨#[]⟩, .slice none 0 0, .slice none 0 0, .string ⟨#[]⟩], ?_, hFF, hbf⟩
    rw [Hn.out]

theorem vFind_any (a : Option Addr) (c : Nat) (L : List RtV) (p : ByteArray) (w : World) (h : Rts w a L) (hl : L.length ≤ 100000) (h20 : (fitTo L p.data.toList L.length).length < 20) :
    Calls Try.prog 20 #[.slice a L.length c, .string p] w fun e w' => FindPost w L p.data.toList e w' := vFind_all a c L p w h hl
end Go.Proofs.Ytefilalapkdegaa
