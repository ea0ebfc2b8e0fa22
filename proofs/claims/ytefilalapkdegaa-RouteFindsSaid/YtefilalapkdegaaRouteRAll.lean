/- The reference's All and Find. -/
import Derived.Test.YtefilalapkdegaaRouteMade
import Derived.Test.YtefilalapkdegaaRouteRFit
namespace Go.Proofs.Ytefilalapkdegaa
open Go.RowKit Str Mem
set_option linter.unusedVariables false
set_option linter.unusedSimpArgs false

theorem Owns.one (w : World) (e : TypeId) (v : Value) : Owns (w.alloc (.cells #[v] e)) w.heap.size e 1 (.slice (some ⟨w.heap.size, 0, none⟩) 1 1) 1 [v] :=
  ⟨by simp, .inr ⟨w.heap.size, 1, #[v], rfl, Nat.le_refl _, heap_alloc_new w _, Nat.le_refl _, by simp [maxLen], by simp, by simp⟩⟩
def RAllI (w w2 : World) (L : List RtV) (p : List UInt8) (out i : Value) (wr : World) : Prop :=
  ∃ k : Nat, i = .int .i64 k ∧ k ≤ L.length ∧ Owns wr w2.heap.size 3 1 out (fitTo L p k).length ((Route.sorted (ltR L) (fitTo L p k)).map iv) ∧ Below w2.heap.size w2 wr

set_option maxRecDepth 20000 in
set_option maxHeartbeats 8000000 in
theorem rAll_any (a : Option Addr) (c : Nat) (L : List RtV) (p : ByteArray) (w : World) (h : Rts w a L) (hl : L.length ≤ 100000) :
    Calls Try.prog 31 #[.slice a L.length c, .string p] w fun e w' => AllPost w L p.data.toList e w' := by
  obtain ⟨i0, hi, hz0, hz1, hz2⟩ := info_of infoInt
  have hck := rCheck_any a c L w h hl
  have hno := fun w => refNormal_any p w
  unfold AllPost
  obtain ⟨ck, hckv⟩ : ∃ x, checkR L = x := ⟨_, rfl⟩
  obtain ⟨nb, hnb⟩ : ∃ b, Dots.normal p.data.toList = b := ⟨_, rfl⟩
  rw [hckv] at hck
  rw [hnb] at hno
  have HE := Lib.hid (show allE L p.data.toList = if ck.1 ≠ 0 then ck.1 else if nb = true then 0 else 18 by unfold allE; rw [hckv, hnb])
  by_cases hc0 : ck.1 = 0
  · have hc0b : (ck.1 == 0) = true := by rw [hc0]; rfl
    have hc0c : (ck.1 != 0) = false := by rw [hc0]; rfl
    obtain ⟨hl32, hgood⟩ := checkR_good (L := L) (by rw [hckv]; exact hc0)
    rcases nb with _ | _
    · have Hx := Lib.hid (show allE L p.data.toList = 18 by rw [HE.out, if_neg (by simp [hc0])]; rfl)
      have Hk := Lib.hid (show allK L p.data.toList = [] by unfold allK; rw [Hx.out]; rfl)
      clear hc0 hckv hnb hgood
      go_enter Try.func31, Try.ntmps31
      go_wp2_with fail
      refine hck.mono ?_
      rintro e w1 ⟨rfl, g1⟩
      clear hck
      go_wp2_with fail
      refine (hno _).mono ?_
      rintro e w2 ⟨rfl, g2⟩
      go_wp2
      go_ret2
      rw [Hk.out, Hx.out]
      exact ⟨none, 0, rfl, Rd.nil _ _ _, Nat.le_refl _, by simp [maxLen], by simp, g1.trans (g2.mono g1.size)⟩
    · have Hx := Lib.hid (show allE L p.data.toList = 0 by rw [HE.out, if_neg (by simp [hc0])]; rfl)
      have Hk := Lib.hid (show allK L p.data.toList = Route.sorted (ltR L) (fitTo L p.data.toList L.length) by unfold allK; rw [Hx.out]; rfl)
      have HG := Lib.hid hgood
      have hnn := Lib.hid hnb
      clear hc0 hckv hnb hgood
      go_enter Try.func31, Try.ntmps31
      go_wp2_with fail
      refine hck.mono ?_
      rintro e w1 ⟨rfl, g1⟩
      clear hck
      go_wp2_with fail
      refine (hno _).mono ?_
      rintro e w2 ⟨rfl, g2⟩
      have hb2 := g1.trans (g2.mono g1.size)
      have hB2 : w.heap.size ≤ w2.heap.size := by have h1 := g1.size; have h2 := g2.size; omega
      clear hno
      go_wp2
      go_loopw [8, 9, 10] (fun out i _ wr => RAllI w w2 L p.data.toList out i wr) (fun _ i _ _ => L.length - (intOf i).toNat)
      case atStart => exact ⟨0, rfl, Nat.zero_le _, Owns.nil _ _ _ _, Below.refl _ _⟩
      case round =>
        obtain ⟨k, rfl, hk, hown, hbl⟩ := hrel
        have hsz := hbl.size
        have hb := hb2.trans (hbl.mono hb2.size)
        by_cases hlt : k < L.length
        · obtain ⟨ad, r, rfl, hbb, hr, hmem, c0, c1, c2⟩ := (h.below hb).fields hlt
          have hft := rfits_any r.a r.c r.l r.kd r.t p _ ((h.each r hmem).below hb) (HG.out r hmem) hnn.out
          unfold rtv at hft
          have HF := Lib.hid (show fitsAt L p.data.toList k = (Route.fit (Dots.isOpen p.data.toList) r.l (Dots.segments p.data.toList)).isSome by unfold fitsAt lAt; rw [hr]; rfl)
          have HT := Lib.hid (fitTo_succ L p.data.toList k)
          have hkl := fitTo_length L p.data.toList k
          have j0 : (0 : Int) ≤ (k : Int) := by omega
          have j1 : (k : Int) < (L.length : Int) := by omega
          obtain ⟨o, ho⟩ : ∃ o, Route.fit (Dots.isOpen p.data.toList) r.l (Dots.segments p.data.toList) = o := ⟨_, rfl⟩
          rw [ho] at hft HF
          obtain ⟨X, hX⟩ : ∃ X, X = fitTo L p.data.toList k := ⟨_, rfl⟩
          have HXm := Lib.hid (show ∀ x ∈ X, ∃ i : Nat, x = (i : Int) ∧ i < L.length from fun x hx => by
            rw [hX] at hx
            obtain ⟨i, e, hi, _⟩ := fitTo_mem hx
            exact ⟨i, e, by omega⟩)
          rw [← hX] at hown hkl HT
          have HO := Lib.hid hown
          have HMEM := Lib.hid hmem
          have HRr := Lib.hid hr
          clear hr ho hX hown hmem
          go_wp2_with fail
          refine hft.mono ?_
          rintro e w3 ⟨v, rfl, hF, g3⟩
          clear hft
          have hbl3 := hbl.trans (g3.mono hsz)
          have hown3 := HO.out.below g3 (Nat.le_refl _)
          have hb3 := hb2.trans (hbl3.mono hb2.size)
          rcases o with _ | ⟨NN, VV, RR⟩
          · obtain rfl := hF
            have hfld := fun w => okField false (.slice none 0 0) (.int .i64 0) (.string ⟨#[]⟩) (.slice none 0 0) (.slice none 0 0) (.string ⟨#[]⟩) w
            go_wp2
            refine ⟨⟨k + 1, by go_num, by omega, ?_, hbl3⟩, by simp [intOf]; omega⟩
            rw [HT.out, HF.out]
            simpa using hown3
          · obtain ⟨vl, vN, vV, rfl, ⟨a1, d1, rfl, _⟩, ⟨a2, d2, rfl, _⟩, ⟨a3, d3, rfl, _⟩⟩ := hF
            have hfld := fun w => okField true (.slice a1 r.l.length d1) (.int .i64 r.kd) (.string ⟨r.t.toArray⟩) (.slice a2 NN.length d2) (.slice a3 VV.length d3) (.string ⟨RR.toArray⟩) w
            obtain ⟨S, hS0⟩ : ∃ S, S = Route.sorted (ltR L) X := ⟨_, rfl⟩
            obtain ⟨n, hn0⟩ : ∃ n, n = X.length := ⟨_, rfl⟩
            have hSl : S.length = n := by rw [hS0, Route.sorted_length, hn0]
            have HSm := Lib.hid (show ∀ x ∈ S, ∃ i : Nat, x = (i : Int) ∧ i < L.length from fun x hx => HXm.out x ((Route.sorted_mem _ _ _).1 (by rw [← hS0]; exact hx)))
            have HSX := Lib.hid (show Route.sorted (ltR L) (X ++ [(k : Int)]) = Route.insR (ltR L) S (k : Int) by rw [Route.sorted_snoc, hS0])
            have HN0 := Lib.hid hn0
            have HSl := Lib.hid hSl
            rw [← hS0, ← hn0] at hown3
            rw [← hn0] at hkl
            obtain ⟨oa, oc, rfl, hnc, hcm, hrd⟩ := hown3.form
            have HO3 := Lib.hid hown3
            have HRD := Lib.hid hrd
            clear hS0 hn0 hSl hown3 hrd HO g3
            go_wp2_with fail
            go_loopw [10] (fun at_ wi => ∃ jj : Nat, at_ = .int .i64 jj ∧ jj ≤ n ∧ (∀ x ∈ S.drop jj, ltR L (k : Int) x = true) ∧ Below w3.heap.size w3 wi) (fun at_ _ => (intOf at_).toNat)
            case atStart => exact ⟨n, rfl, Nat.le_refl _, by rw [List.drop_eq_nil_of_le (by rw [HSl.out]; omega)]; simp, Below.refl _ _⟩
            case round =>
              obtain ⟨jj, rfl, hjn, hall, hbi⟩ := hrel
              have HALL := Lib.hid hall
              clear hall
              have hbwi := hb3.trans (hbi.mono hb3.size)
              by_cases hj0 : 0 < jj
              · obtain ⟨J1, hJ1⟩ : ∃ J1, jj = J1 + 1 := ⟨jj - 1, by omega⟩
                obtain ⟨x, hx⟩ : ∃ x, S[J1]? = some x := ⟨_, List.getElem?_eq_getElem (by rw [HSl.out]; omega)⟩
                obtain ⟨m, hxm, hml⟩ := HSm.out x (List.mem_of_getElem? hx)
                obtain ⟨ad', rx, e', hbb', hrx, hmemx, d0, d1', d2'⟩ := (h.below hbwi).fields hml
                cases e'
                obtain ⟨ga, xv, e2, hgb, hxv, hgc⟩ := (show Ints w3 oa n S from HRD.out).get (k := J1) (by omega)
                obtain rfl : xv = x := by rw [hx] at hxv; injection hxv with hxv; exact hxv.symm
                subst e2
                obtain ⟨bt, hbt0⟩ : ∃ bt, Route.better r.l rx.l = bt := ⟨_, rfl⟩
                have hbt := fun W (hW : Below wr.heap.size wr W) => rbetter_any r.a rx.a r.c rx.c r.l rx.l r.kd rx.kd r.t rx.t W (((h.below hbwi).each r HMEM.out).below hW) (((h.below hbwi).each rx hmemx).below hW) (Route.fine_of (HG.out r HMEM.out)) (Route.fine_of (HG.out rx hmemx)) (Route.err_ok (HG.out r HMEM.out)).1 (Route.err_ok (HG.out rx hmemx)).1
                unfold rtv at hbt
                rw [hbt0] at hbt
                have HLT := Lib.hid (show ltR L (k : Int) xv = decide (bt < 0) by unfold ltR lAt; rw [hxm]; simp [HRr.out, hrx, hbt0])
                have HXV := Lib.hid hx
                have hS : ∀ W, Below wr.heap.size wr W → (fun w' => w'.cell? (ad.add (k * 3)) = some (.slice r.a r.l.length r.c) ∧ w'.cell? ⟨(ad.add (k * 3)).block, (ad.add (k * 3)).off + 1, none⟩ = some (.int .i64 r.kd) ∧ w'.cell? ⟨(ad.add (k * 3)).block, (ad.add (k * 3)).off + 2, none⟩ = some (.string ⟨r.t.toArray⟩) ∧ w'.cell? (ad.add (m * 3)) = some (.slice rx.a rx.l.length rx.c) ∧ w'.cell? ⟨(ad.add (m * 3)).block, (ad.add (m * 3)).off + 1, none⟩ = some (.int .i64 rx.kd) ∧ w'.cell? ⟨(ad.add (m * 3)).block, (ad.add (m * 3)).off + 2, none⟩ = some (.string ⟨rx.t.toArray⟩) ∧ w'.cell? (ga.add J1) = some (.int .i64 xv)) W := fun W hW => by
                  obtain ⟨a3, r3, e3, _, hr3, _, f0, f1, f2⟩ := (h.below (hbwi.trans (hW.mono hbwi.size))).fields hlt
                  cases e3
                  rw [HRr.out] at hr3; cases hr3
                  obtain ⟨a4, r4, e4, _, hr4, _, f3, f4, f5⟩ := (h.below (hbwi.trans (hW.mono hbwi.size))).fields hml
                  cases e4
                  rw [hrx] at hr4; cases hr4
                  obtain ⟨a5, x5, e5, _, hx5, f6⟩ := (show Ints w3 (some ga) n S from HRD.out).get (k := J1) (by omega)
                  cases e5
                  rw [HXV.out] at hx5; cases hx5
                  exact ⟨f0, f1, f2, f3, f4, f5, by rw [← f6]; exact World.cell?_of_block (((hW.block _ (by have := hbi.size; show (ga.add J1).block < _; rw [add_block]; omega)).trans (hbi.block _ (by rw [add_block]; exact hgb))))⟩
                have k1 : IntKind.i64.wrap ((jj : Int) - 1) = (J1 : Int) := by rw [IntWalk.i64_in _ ⟨by omega, by omega⟩]; omega
                have k2 : (0 : Int) ≤ (J1 : Int) := Int.natCast_nonneg _
                have k3 : (J1 : Int) < (n : Int) := by omega
                have k4 : (0 : Int) < (jj : Int) := by omega
                have k5 : (0 : Int) ≤ (m : Int) := Int.natCast_nonneg _
                have k6 : (m : Int) < (L.length : Int) := by omega
                have HJ1 := Lib.hid hJ1
                have HBT0 := Lib.hid hbt0
                subst hxm
                clear hx hxv hgc hrx hbt0 hJ1 d0 d1' d2' c0 c1 c2 hgb
                go_upto_region 12 with fail
                refine wp_region_noPanic ?_
                refine wp_region_held_drew (S := (fun w' => w'.cell? (ad.add (k * 3)) = some (.slice r.a r.l.length r.c) ∧ w'.cell? ⟨(ad.add (k * 3)).block, (ad.add (k * 3)).off + 1, none⟩ = some (.int .i64 r.kd) ∧ w'.cell? ⟨(ad.add (k * 3)).block, (ad.add (k * 3)).off + 2, none⟩ = some (.string ⟨r.t.toArray⟩) ∧ w'.cell? (ad.add (m * 3)) = some (.slice rx.a rx.l.length rx.c) ∧ w'.cell? ⟨(ad.add (m * 3)).block, (ad.add (m * 3)).off + 1, none⟩ = some (.int .i64 rx.kd) ∧ w'.cell? ⟨(ad.add (m * 3)).block, (ad.add (m * 3)).off + 2, none⟩ = some (.string ⟨rx.t.toArray⟩) ∧ w'.cell? (ga.add J1) = some (.int .i64 m))) (by kernel_rfl) (hS _ (Below.refl _ wr).drew) (fun hH => ?_)
                refine Reg.take (i := 0) (u := ?rav0) rfl rfl rfl (by kernel_rfl) (by kernel_rfl) (by kernel_rfl) hH ?ray0 ?rar0
                case ray0 => (intro w hSw; (try dsimp only at hSw); go_simp; try (with_reducible rfl))
                case' rar0 => simp only [List.setIfInBounds_toArray, List.set_cons_zero, List.set_cons_succ]
                refine Reg.take (i := 1) (u := ?rav1) rfl rfl rfl (by kernel_rfl) (by kernel_rfl) (by kernel_rfl) hH ?ray1 ?rar1
                case ray1 => (intro w hSw; (try dsimp only at hSw); go_simp; try (with_reducible rfl))
                case' rar1 => simp only [List.setIfInBounds_toArray, List.set_cons_zero, List.set_cons_succ]
                refine Reg.take (i := 2) (u := ?rav2) rfl rfl rfl (by kernel_rfl) (by kernel_rfl) (by kernel_rfl) hH ?ray2 ?rar2
                case ray2 => (intro w hSw; (try dsimp only at hSw); go_simp; try (with_reducible rfl))
                case' rar2 => simp only [List.setIfInBounds_toArray, List.set_cons_zero, List.set_cons_succ]
                refine Reg.takeIf (i := 3) (u := ?rav3) rfl rfl rfl rfl rfl (by kernel_rfl) (by kernel_rfl) (by kernel_rfl) hH ?ray3 ?rar3
                case ray3 => (intro w hSw; (try dsimp only at hSw); go_simp; try (with_reducible rfl))
                case' rar3 => simp only [List.setIfInBounds_toArray, List.set_cons_zero, List.set_cons_succ]
                refine Reg.takeIf (i := 4) (u := ?rav4) rfl rfl rfl rfl rfl (by kernel_rfl) (by kernel_rfl) (by kernel_rfl) hH ?ray4 ?rar4
                case ray4 => (intro w hSw; (try dsimp only at hSw); go_simp; try (with_reducible rfl))
                case' rar4 => simp only [List.setIfInBounds_toArray, List.set_cons_zero, List.set_cons_succ]
                refine Reg.takeIf (i := 5) (u := ?rav5) rfl rfl rfl rfl rfl (by kernel_rfl) (by kernel_rfl) (by kernel_rfl) hH ?ray5 ?rar5
                case ray5 => (intro w hSw; (try dsimp only at hSw); go_simp; try (with_reducible rfl))
                case' rar5 => simp only [List.setIfInBounds_toArray, List.set_cons_zero, List.set_cons_succ]
                refine Reg.takeIf (i := 6) (u := ?rav6) rfl rfl rfl rfl rfl (by kernel_rfl) (by kernel_rfl) (by kernel_rfl) hH ?ray6 ?rar6
                case ray6 => (intro w hSw; (try dsimp only at hSw); go_simp; try (with_reducible rfl))
                case' rar6 => simp only [List.setIfInBounds_toArray, List.set_cons_zero, List.set_cons_succ]
                refine Reg.takeIf (i := 7) (u := ?rav7) rfl rfl rfl rfl rfl (by kernel_rfl) (by kernel_rfl) (by kernel_rfl) hH ?ray7 ?rar7
                case ray7 => (intro w hSw; (try dsimp only at hSw); go_simp; try (with_reducible rfl))
                case' rar7 => simp only [List.setIfInBounds_toArray, List.set_cons_zero, List.set_cons_succ]
                refine Reg.takeIf (i := 8) (u := ?rav8) rfl rfl rfl rfl rfl (by kernel_rfl) (by kernel_rfl) (by kernel_rfl) hH ?ray8 ?rar8
                case ray8 => (intro w hSw; (try dsimp only at hSw); go_simp; try (with_reducible rfl))
                case' rar8 => simp only [List.setIfInBounds_toArray, List.set_cons_zero, List.set_cons_succ]
                refine Reg.takeIf (i := 9) (u := ?rav9) rfl rfl rfl rfl rfl (by kernel_rfl) (by kernel_rfl) (by kernel_rfl) hH ?ray9 ?rar9
                case ray9 => (intro w hSw; (try dsimp only at hSw); go_simp; try (with_reducible rfl))
                case' rar9 => simp only [List.setIfInBounds_toArray, List.set_cons_zero, List.set_cons_succ]
                refine Reg.takeIf (i := 10) (u := ?rav10) rfl rfl rfl rfl rfl (by kernel_rfl) (by kernel_rfl) (by kernel_rfl) hH ?ray10 ?rar10
                case ray10 => (intro w hSw; (try dsimp only at hSw); go_simp; try (with_reducible rfl))
                case' rar10 => simp only [List.setIfInBounds_toArray, List.set_cons_zero, List.set_cons_succ]
                refine Reg.takeIf (i := 11) (u := ?rav11) rfl rfl rfl rfl rfl (by kernel_rfl) (by kernel_rfl) (by kernel_rfl) hH ?ray11 ?rar11
                case ray11 => (intro w hSw; (try dsimp only at hSw); go_simp; try (with_reducible rfl))
                case' rar11 => simp only [List.setIfInBounds_toArray, List.set_cons_zero, List.set_cons_succ]
                refine Reg.takeIf (i := 12) (u := ?rav12) rfl rfl rfl rfl rfl (by kernel_rfl) (by kernel_rfl) (by kernel_rfl) hH ?ray12 ?rar12
                case ray12 => (intro w hSw; (try dsimp only at hSw); go_simp; try (with_reducible rfl))
                case' rar12 => simp only [List.setIfInBounds_toArray, List.set_cons_zero, List.set_cons_succ]
                refine Reg.takeIf (i := 13) (u := ?rav13) rfl rfl rfl rfl rfl (by kernel_rfl) (by kernel_rfl) (by kernel_rfl) hH ?ray13 ?rar13
                case ray13 => (intro w hSw; (try dsimp only at hSw); go_simp; try (with_reducible rfl))
                case' rar13 => simp only [List.setIfInBounds_toArray, List.set_cons_zero, List.set_cons_succ]
                refine Reg.takeIf (i := 14) (u := ?rav14) rfl rfl rfl rfl rfl (by kernel_rfl) (by kernel_rfl) (by kernel_rfl) hH ?ray14 ?rar14
                case ray14 => (intro w hSw; (try dsimp only at hSw); go_simp; try (with_reducible rfl))
                case' rar14 => simp only [List.setIfInBounds_toArray, List.set_cons_zero, List.set_cons_succ]
                refine Reg.only (i := 15) rfl (Reg.wanted_hit rfl rfl rfl) (by kernel_rfl) (fun K hK => ?_)
                go_simp
                refine (hbt _ (Below.refl _ wr).drew).mono ?_
                rintro e6 w6 ⟨rfl, g6⟩
                go_simp
                have hb6 : Below wr.heap.size wr w6 := (Below.refl _ wr).drew.trans g6
                refine hK.out _ _ (hS _ hb6) (fun hH2 => ?_)
                clear hK hH
                have hH := hH2; clear hH2
                try simp only [Act.put, List.setIfInBounds_toArray, List.set_cons_zero, List.set_cons_succ]
                refine Reg.takeIf (i := 16) (u := ?rbv16) rfl rfl rfl rfl rfl (by kernel_rfl) (by kernel_rfl) (by kernel_rfl) hH ?rby16 ?rbr16
                case rby16 => (intro w hSw; (try dsimp only at hSw); go_simp; try (with_reducible rfl))
                case' rbr16 => simp only [List.setIfInBounds_toArray, List.set_cons_zero, List.set_cons_succ]
                refine Reg.take (i := 17) (u := ?rbv17) rfl rfl rfl (by kernel_rfl) (by kernel_rfl) (by kernel_rfl) hH ?rby17 ?rbr17
                case rby17 => (intro w hSw; (try dsimp only at hSw); go_simp; try (with_reducible rfl))
                case' rbr17 => simp only [List.setIfInBounds_toArray, List.set_cons_zero, List.set_cons_succ]
                refine wpAnyH_done (by kernel_rfl) ?_ _
                refine NoPanic.normal ?_
                by_cases hneg : bt < 0
                · go_wp2_with fail
                  refine ⟨⟨J1, by first | go_num | rfl, by omega, ?_, hbi.trans (hb6.mono hbi.size)⟩, by have := HJ1.out; simp [intOf]; omega⟩
                  obtain ⟨y1, y2⟩ := List.getElem?_eq_some_iff.1 HXV.out
                  rw [List.drop_eq_getElem_cons y1, y2, ← HJ1.out]
                  rintro y hy
                  rcases List.mem_cons.1 hy with rfl | hy
                  · rw [HLT.out]; exact decide_eq_true hneg
                  · exact HALL.out y hy
                · have h2 := Lib.hid (show jj = 0 ∨ ∃ x, S[jj - 1]? = some x ∧ ltR L (k : Int) x = false from .inr ⟨_, by rw [HJ1.out]; exact HXV.out, by rw [HLT.out]; exact decide_eq_false hneg⟩)
                  have hbW := Lib.hid (hbi.trans (hb6.mono hbi.size))
                  obtain ⟨W, hWW⟩ : ∃ W, W = w6 := ⟨_, rfl⟩
                  rw [← hWW] at hbW
                  clear hbi
                  have hbi := hbW.out
                  go_wp2_with fail
                  rw [← hWW]
                  clear hb6 hWW hbwi hbt hS hH
                  rcases HO3.out.2 with ⟨e, hz⟩ | ⟨g, cap, cur, e, hbg, hg, hnc', hcm', hcs, ht⟩
                  · cases e
                  · cases e
                    clear hg hcs ht hnc' hcm'
                    have q1 : (0 : Int) ≤ (jj : Int) := by omega
                    have q2 : ((jj : Nat) : Int) ≤ (n : Int) := by omega
                    have q3 : ((jj : Nat) : Int) ≤ (oc : Int) := by omega
                    go_upto_region 14 with fail
                    refine wp_region_noPanic ?_
                    refine wp_region_held_drew (S := fun _ => True) (by kernel_rfl) trivial (fun hH => ?_)
                    refine Reg.take (i := 0) (u := ?ttav0) rfl rfl rfl (by kernel_rfl) (by kernel_rfl) (by kernel_rfl) hH ?ttay0 ?ttar0
                    case ttay0 => (intro w hSw; (try dsimp only at hSw); go_simp; try (with_reducible rfl))
                    case' ttar0 => simp only [List.setIfInBounds_toArray, List.set_cons_zero, List.set_cons_succ]
                    refine Reg.take (i := 1) (u := ?ttav1) rfl rfl rfl (by kernel_rfl) (by kernel_rfl) (by kernel_rfl) hH ?ttay1 ?ttar1
                    case ttay1 => (intro w hSw; (try dsimp only at hSw); go_simp; try (with_reducible rfl))
                    case' ttar1 => simp only [List.setIfInBounds_toArray, List.set_cons_zero, List.set_cons_succ]
                    refine Reg.take (i := 2) (u := ?ttav2) rfl rfl rfl (by kernel_rfl) (by kernel_rfl) (by kernel_rfl) hH ?ttay2 ?ttar2
                    case ttay2 => (intro w hSw; (try dsimp only at hSw); go_simp; try (with_reducible rfl))
                    case' ttar2 => simp only [List.setIfInBounds_toArray, List.set_cons_zero, List.set_cons_succ]
                    refine Reg.take (i := 3) (u := ?ttav3) rfl rfl rfl (by kernel_rfl) (by kernel_rfl) (by kernel_rfl) hH ?ttay3 ?ttar3
                    case ttay3 => (intro w hSw; (try dsimp only at hSw); go_simp; try (with_reducible rfl))
                    case' ttar3 => simp only [List.setIfInBounds_toArray, List.set_cons_zero, List.set_cons_succ]
                    refine Reg.take (i := 5) (u := ?ttav5) rfl rfl rfl (by kernel_rfl) (by kernel_rfl) (by kernel_rfl) hH ?ttay5 ?ttar5
                    case ttay5 => (intro w hSw; (try dsimp only at hSw); go_simp; try (with_reducible rfl))
                    case' ttar5 => simp only [List.setIfInBounds_toArray, List.set_cons_zero, List.set_cons_succ]
                    refine Reg.take (i := 6) (u := ?ttav6) rfl rfl rfl (by kernel_rfl) (by kernel_rfl) (by kernel_rfl) hH ?ttay6 ?ttar6
                    case ttay6 => (intro w hSw; (try dsimp only at hSw); go_simp; try (with_reducible rfl))
                    case' ttar6 => simp only [List.setIfInBounds_toArray, List.set_cons_zero, List.set_cons_succ]
                    refine Reg.take (i := 7) (u := ?ttav7) rfl rfl rfl (by kernel_rfl) (by kernel_rfl) (by kernel_rfl) hH ?ttay7 ?ttar7
                    case ttay7 => (intro w hSw; (try dsimp only at hSw); go_simp; try (with_reducible rfl))
                    case' ttar7 => simp only [List.setIfInBounds_toArray, List.set_cons_zero, List.set_cons_succ]
                    refine Reg.only (i := 4) rfl (Reg.wanted_free rfl) (by kernel_rfl) (fun K hK => ?_)
                    go_simp
                    refine hK.out _ _ trivial (fun hH2 => ?_)
                    clear hK hH
                    have hH := hH2; clear hH2
                    try simp only [Act.put, List.setIfInBounds_toArray, List.set_cons_zero, List.set_cons_succ]
                    have hsW := hbi.size
                    have hs23 := hbl3.size
                    have hnk : n ≤ 100000 := by omega
                    refine Reg.only (i := 8) rfl (Reg.wanted_free rfl) (by kernel_rfl) (fun K hK => ?_)
                    refine wp_append_owns _ _ _ 22 rfl w2.heap.size 3 i0 (.int .i64 0) 1 8 Try.underlying22 hi hz0 hz1 hz2 rfl (by decide) _ 1 [.int .i64 k] rfl (((Owns.one W 3 (.int .i64 k)).drew).mono (by omega)) _ (n - jj) _ ((S.drop jj).map iv) rfl (by have := (((HRD.out.below hbi).alloc (.cells #[.int .i64 k] 3)).drew).drop hjn (if oc = jj then some ⟨g, 0, none⟩ else some ⟨g, jj, none⟩) (fun hq => by rw [if_neg (by omega)]; simp [add_flat]); simpa using this) (fun u hu => by obtain ⟨x, _, rfl⟩ := List.mem_map.1 hu; rfl) (by simp only [maxLen]; omega) (by omega) (by simp; omega) (fun v5 W5 ho5 hg5 => ?_)
                    refine hK.out _ _ trivial (fun hH2 => ?_)
                    clear hK hH
                    have hH := hH2; clear hH2
                    try simp only [Act.put, List.setIfInBounds_toArray, List.set_cons_zero, List.set_cons_succ]
                    have hs5 := hg5.size
                    have hs5b : w3.heap.size < W5.heap.size := by simp at hs5; omega
                    have hne5 : ∀ q : Nat, (Value.slice (some ⟨W.heap.size, 0, none⟩) 1 1).ownBlock = some q → q = W.heap.size := fun q e => by cases e; rfl
                    obtain ⟨a5, c5, rfl, hc5a, hc5b, hrd5⟩ := ho5.form
                    have hoc := ((((HO3.out.below hbi (Nat.le_refl _)).alloc (.cells #[.int .i64 k] 3)).drew).kept hg5 (fun q e1 e2 => by have e3 := hne5 q e2; have e4 : g = q := (by injection e1); have e5 := (HO3.out.lt g rfl).2; have e6 : w3.heap.size ≤ W.heap.size := hsW; omega)).cut hjn (show jj ≤ oc by omega) (Nat.le_refl _)
                    refine Reg.only (i := 9) rfl (Reg.wanted_free rfl) (by kernel_rfl) (fun K hK => ?_)
                    refine wp_append_owns _ _ _ 22 rfl w2.heap.size 3 i0 (.int .i64 0) 1 8 Try.underlying22 hi hz0 hz1 hz2 rfl (by decide) _ jj ((S.map iv).take (jj * 1)) rfl hoc _ (1 + (n - jj)) _ ([.int .i64 k] ++ (S.drop jj).map iv) rfl hrd5 (fun u hu => by rcases List.mem_append.1 hu with hu | hu; (rw [List.mem_singleton.1 hu]; rfl); (obtain ⟨x, _, rfl⟩ := List.mem_map.1 hu; rfl)) (by simp only [maxLen]; omega) (by omega) (by omega) (fun v6 W6 ho6 hg6 => ?_)
                    refine hK.out _ _ trivial (fun hH2 => ?_)
                    clear hK hH
                    have hH := hH2; clear hH2
                    try simp only [Act.put, List.setIfInBounds_toArray, List.set_cons_zero, List.set_cons_succ]
                    refine Reg.take (i := 10) (u := ?utav10) rfl rfl rfl (by kernel_rfl) (by kernel_rfl) (by kernel_rfl) hH ?utay10 ?utar10
                    case utay10 => (intro w hSw; (try dsimp only at hSw); go_simp; try (with_reducible rfl))
                    case' utar10 => try simp only [List.setIfInBounds_toArray, List.set_cons_zero, List.set_cons_succ]
                    refine wpAnyH_done (by kernel_rfl) ?_ _
                    refine NoPanic.normal ?_
                    have hbF : Below w2.heap.size w2 W6 := ((((hbl3.trans (hbi.mono hs23)).alloc (by omega) (.cells #[.int .i64 k] 3)).drew).grown hg5 (by simp; omega) (fun q e => by have := hne5 q e; omega)).grown hg6 (by omega) (fun q e => by cases e; exact (HO3.out.lt g rfl).1)
                    have hins := Route.insR_at (lt := ltR L) (out := S) (e := (k : Int)) (k := jj) (by rw [HSl.out]; omega) HALL.out h2.out
                    have HF6 := Lib.hid ho6
                    have HBF := Lib.hid hbF
                    have HINS := Lib.hid hins
                    clear ho6 hbF hins hg5 hg6 ho5 hoc hrd5
                    go_wp2_with fail
                    refine ⟨⟨k + 1, by go_num, by omega, ?_, HBF.out⟩, by simp [intOf]; omega⟩
                    rw [HT.out, HF.out]
                    simp only [Option.isSome_some, if_true]
                    rw [HSX.out, HINS.out, List.length_append, List.length_singleton]
                    have := HF6.out
                    rw [← HN0.out, show n + 1 = jj + (1 + (n - jj)) by omega]
                    rw [show Value.int .i64 (k : Int) = iv (k : Int) from rfl] at this
                    simpa using this
              · obtain rfl : jj = 0 := by omega
                go_upto_region 12 with fail
                refine wp_region_noPanic ?_
                refine wp_region_held_drew (S := fun _ => True) (by kernel_rfl) trivial (fun hH => ?_)
                refine Reg.take (i := 0) (u := ?rcv0) rfl rfl rfl (by kernel_rfl) (by kernel_rfl) (by kernel_rfl) hH ?rcy0 ?rcr0
                case rcy0 => (intro w hSw; (try dsimp only at hSw); go_simp; try (with_reducible rfl))
                case' rcr0 => simp only [List.setIfInBounds_toArray, List.set_cons_zero, List.set_cons_succ]
                refine Reg.take (i := 1) (u := ?rcv1) rfl rfl rfl (by kernel_rfl) (by kernel_rfl) (by kernel_rfl) hH ?rcy1 ?rcr1
                case rcy1 => (intro w hSw; (try dsimp only at hSw); go_simp; try (with_reducible rfl))
                case' rcr1 => simp only [List.setIfInBounds_toArray, List.set_cons_zero, List.set_cons_succ]
                refine Reg.take (i := 2) (u := ?rcv2) rfl rfl rfl (by kernel_rfl) (by kernel_rfl) (by kernel_rfl) hH ?rcy2 ?rcr2
                case rcy2 => (intro w hSw; (try dsimp only at hSw); go_simp; try (with_reducible rfl))
                case' rcr2 => simp only [List.setIfInBounds_toArray, List.set_cons_zero, List.set_cons_succ]
                refine Reg.skip (i := 3) rfl rfl rfl rfl rfl (by first | exact Value.noConfusion | (intro h; cases h)) (by kernel_rfl) (by kernel_rfl) (by kernel_rfl) hH ?_
                simp only [List.setIfInBounds_toArray, List.set_cons_zero, List.set_cons_succ]
                refine Reg.skip (i := 4) rfl rfl rfl rfl rfl (by first | exact Value.noConfusion | (intro h; cases h)) (by kernel_rfl) (by kernel_rfl) (by kernel_rfl) hH ?_
                simp only [List.setIfInBounds_toArray, List.set_cons_zero, List.set_cons_succ]
                refine Reg.skip (i := 5) rfl rfl rfl rfl rfl (by first | exact Value.noConfusion | (intro h; cases h)) (by kernel_rfl) (by kernel_rfl) (by kernel_rfl) hH ?_
                simp only [List.setIfInBounds_toArray, List.set_cons_zero, List.set_cons_succ]
                refine Reg.skip (i := 6) rfl rfl rfl rfl rfl (by first | exact Value.noConfusion | (intro h; cases h)) (by kernel_rfl) (by kernel_rfl) (by kernel_rfl) hH ?_
                simp only [List.setIfInBounds_toArray, List.set_cons_zero, List.set_cons_succ]
                refine Reg.skip (i := 7) rfl rfl rfl rfl rfl (by first | exact Value.noConfusion | (intro h; cases h)) (by kernel_rfl) (by kernel_rfl) (by kernel_rfl) hH ?_
                simp only [List.setIfInBounds_toArray, List.set_cons_zero, List.set_cons_succ]
                refine Reg.skip (i := 8) rfl rfl rfl rfl rfl (by first | exact Value.noConfusion | (intro h; cases h)) (by kernel_rfl) (by kernel_rfl) (by kernel_rfl) hH ?_
                simp only [List.setIfInBounds_toArray, List.set_cons_zero, List.set_cons_succ]
                refine Reg.skip (i := 9) rfl rfl rfl rfl rfl (by first | exact Value.noConfusion | (intro h; cases h)) (by kernel_rfl) (by kernel_rfl) (by kernel_rfl) hH ?_
                simp only [List.setIfInBounds_toArray, List.set_cons_zero, List.set_cons_succ]
                refine Reg.skip (i := 10) rfl rfl rfl rfl rfl (by first | exact Value.noConfusion | (intro h; cases h)) (by kernel_rfl) (by kernel_rfl) (by kernel_rfl) hH ?_
                simp only [List.setIfInBounds_toArray, List.set_cons_zero, List.set_cons_succ]
                refine Reg.skip (i := 11) rfl rfl rfl rfl rfl (by first | exact Value.noConfusion | (intro h; cases h)) (by kernel_rfl) (by kernel_rfl) (by kernel_rfl) hH ?_
                simp only [List.setIfInBounds_toArray, List.set_cons_zero, List.set_cons_succ]
                refine Reg.skip (i := 12) rfl rfl rfl rfl rfl (by first | exact Value.noConfusion | (intro h; cases h)) (by kernel_rfl) (by kernel_rfl) (by kernel_rfl) hH ?_
                simp only [List.setIfInBounds_toArray, List.set_cons_zero, List.set_cons_succ]
                refine Reg.skip (i := 13) rfl rfl rfl rfl rfl (by first | exact Value.noConfusion | (intro h; cases h)) (by kernel_rfl) (by kernel_rfl) (by kernel_rfl) hH ?_
                simp only [List.setIfInBounds_toArray, List.set_cons_zero, List.set_cons_succ]
                refine Reg.skip (i := 14) rfl rfl rfl rfl rfl (by first | exact Value.noConfusion | (intro h; cases h)) (by kernel_rfl) (by kernel_rfl) (by kernel_rfl) hH ?_
                simp only [List.setIfInBounds_toArray, List.set_cons_zero, List.set_cons_succ]
                refine Reg.onlySkip (i := 15) rfl rfl rfl rfl rfl (by first | exact Value.noConfusion | (intro h; cases h)) (by kernel_rfl) hH ?_
                simp only [List.setIfInBounds_toArray, List.set_cons_zero, List.set_cons_succ]
                refine Reg.skip (i := 16) rfl rfl rfl rfl rfl (by first | exact Value.noConfusion | (intro h; cases h)) (by kernel_rfl) (by kernel_rfl) (by kernel_rfl) hH ?_
                simp only [List.setIfInBounds_toArray, List.set_cons_zero, List.set_cons_succ]
                refine Reg.take (i := 17) (u := ?rcv17) rfl rfl rfl (by kernel_rfl) (by kernel_rfl) (by kernel_rfl) hH ?rcy17 ?rcr17
                case rcy17 => (intro w hSw; (try dsimp only at hSw); go_simp; try (with_reducible rfl))
                case' rcr17 => simp only [List.setIfInBounds_toArray, List.set_cons_zero, List.set_cons_succ]
                refine wpAnyH_done (by kernel_rfl) ?_ _
                refine NoPanic.normal ?_
                have h2 := Lib.hid (show 0 = 0 ∨ ∃ x, S[0 - 1]? = some x ∧ ltR L (k : Int) x = false from .inl rfl)
                have hbW := Lib.hid hbi.drew
                obtain ⟨W, hWW⟩ : ∃ W, W = wr.drew := ⟨_, rfl⟩
                rw [← hWW] at hbW
                clear hbi
                have hbi := hbW.out
                go_wp2_with fail
                rw [← hWW]
                clear hWW hbwi hH
                rcases HO3.out.2 with ⟨e, hz⟩ | ⟨g, cap, cur, e, hbg, hg, hnc', hcm', hcs, ht⟩
                · skip
                  cases e
                  have HS0 := Lib.hid (show S = [] from List.length_eq_zero_iff.1 HSl.out)
                  have q1 : (0 : Int) ≤ ((0 : Nat) : Int) := by omega
                  go_upto_region 14 with fail
                  refine wp_region_noPanic ?_
                  refine wp_region_held_drew (S := fun _ => True) (by kernel_rfl) trivial (fun hH => ?_)
                  refine Reg.take (i := 0) (u := ?ttbv0) rfl rfl rfl (by kernel_rfl) (by kernel_rfl) (by kernel_rfl) hH ?ttby0 ?ttbr0
                  case ttby0 => (intro w hSw; (try dsimp only at hSw); go_simp; try (with_reducible rfl))
                  case' ttbr0 => simp only [List.setIfInBounds_toArray, List.set_cons_zero, List.set_cons_succ]
                  refine Reg.take (i := 1) (u := ?ttbv1) rfl rfl rfl (by kernel_rfl) (by kernel_rfl) (by kernel_rfl) hH ?ttby1 ?ttbr1
                  case ttby1 => (intro w hSw; (try dsimp only at hSw); go_simp; try (with_reducible rfl))
                  case' ttbr1 => simp only [List.setIfInBounds_toArray, List.set_cons_zero, List.set_cons_succ]
                  refine Reg.take (i := 2) (u := ?ttbv2) rfl rfl rfl (by kernel_rfl) (by kernel_rfl) (by kernel_rfl) hH ?ttby2 ?ttbr2
                  case ttby2 => (intro w hSw; (try dsimp only at hSw); go_simp; try (with_reducible rfl))
                  case' ttbr2 => simp only [List.setIfInBounds_toArray, List.set_cons_zero, List.set_cons_succ]
                  refine Reg.take (i := 3) (u := ?ttbv3) rfl rfl rfl (by kernel_rfl) (by kernel_rfl) (by kernel_rfl) hH ?ttby3 ?ttbr3
                  case ttby3 => (intro w hSw; (try dsimp only at hSw); go_simp; try (with_reducible rfl))
                  case' ttbr3 => simp only [List.setIfInBounds_toArray, List.set_cons_zero, List.set_cons_succ]
                  refine Reg.take (i := 5) (u := ?ttbv5) rfl rfl rfl (by kernel_rfl) (by kernel_rfl) (by kernel_rfl) hH ?ttby5 ?ttbr5
                  case ttby5 => (intro w hSw; (try dsimp only at hSw); go_simp; try (with_reducible rfl))
                  case' ttbr5 => simp only [List.setIfInBounds_toArray, List.set_cons_zero, List.set_cons_succ]
                  refine Reg.take (i := 6) (u := ?ttbv6) rfl rfl rfl (by kernel_rfl) (by kernel_rfl) (by kernel_rfl) hH ?ttby6 ?ttbr6
                  case ttby6 => (intro w hSw; (try dsimp only at hSw); go_simp; try (with_reducible rfl))
                  case' ttbr6 => simp only [List.setIfInBounds_toArray, List.set_cons_zero, List.set_cons_succ]
                  refine Reg.take (i := 7) (u := ?ttbv7) rfl rfl rfl (by kernel_rfl) (by kernel_rfl) (by kernel_rfl) hH ?ttby7 ?ttbr7
                  case ttby7 => (intro w hSw; (try dsimp only at hSw); go_simp; try (with_reducible rfl))
                  case' ttbr7 => simp only [List.setIfInBounds_toArray, List.set_cons_zero, List.set_cons_succ]
                  refine Reg.only (i := 4) rfl (Reg.wanted_free rfl) (by kernel_rfl) (fun K hK => ?_)
                  go_simp
                  refine hK.out _ _ trivial (fun hH2 => ?_)
                  clear hK hH
                  have hH := hH2; clear hH2
                  try simp only [Act.put, List.setIfInBounds_toArray, List.set_cons_zero, List.set_cons_succ]
                  have hsW := hbi.size
                  have hs23 := hbl3.size
                  skip
                  refine Reg.only (i := 8) rfl (Reg.wanted_free rfl) (by kernel_rfl) (fun K hK => ?_)
                  refine wp_append_owns _ _ _ 22 rfl w2.heap.size 3 i0 (.int .i64 0) 1 8 Try.underlying22 hi hz0 hz1 hz2 rfl (by decide) _ 1 [.int .i64 k] rfl (((Owns.one W 3 (.int .i64 k)).drew).mono (by omega)) _ (0 - 0) _ ((S.drop 0).map iv) rfl (by rw [HS0.out]; exact Rd.nil _ _ _) (fun u hu => by obtain ⟨x, _, rfl⟩ := List.mem_map.1 hu; rfl) (by simp only [maxLen]; omega) (by omega) (by simp; omega) (fun v5 W5 ho5 hg5 => ?_)
                  refine hK.out _ _ trivial (fun hH2 => ?_)
                  clear hK hH
                  have hH := hH2; clear hH2
                  try simp only [Act.put, List.setIfInBounds_toArray, List.set_cons_zero, List.set_cons_succ]
                  have hs5 := hg5.size
                  have hs5b : w3.heap.size < W5.heap.size := by simp at hs5; omega
                  have hne5 : ∀ q : Nat, (Value.slice (some ⟨W.heap.size, 0, none⟩) 1 1).ownBlock = some q → q = W.heap.size := fun q e => by cases e; rfl
                  obtain ⟨a5, c5, rfl, hc5a, hc5b, hrd5⟩ := ho5.form
                  have hoc : Owns W5 w2.heap.size 3 1 (.slice none 0 0) 0 ((S.map iv).take (0 * 1)) := by simpa using Owns.nil W5 w2.heap.size 3 1
                  refine Reg.only (i := 9) rfl (Reg.wanted_free rfl) (by kernel_rfl) (fun K hK => ?_)
                  refine wp_append_owns _ _ _ 22 rfl w2.heap.size 3 i0 (.int .i64 0) 1 8 Try.underlying22 hi hz0 hz1 hz2 rfl (by decide) _ 0 ((S.map iv).take (0 * 1)) rfl hoc _ (1 + (0 - 0)) _ ([.int .i64 k] ++ (S.drop 0).map iv) rfl hrd5 (fun u hu => by rcases List.mem_append.1 hu with hu | hu; (rw [List.mem_singleton.1 hu]; rfl); (obtain ⟨x, _, rfl⟩ := List.mem_map.1 hu; rfl)) (by simp only [maxLen]; omega) (by omega) (by omega) (fun v6 W6 ho6 hg6 => ?_)
                  refine hK.out _ _ trivial (fun hH2 => ?_)
                  clear hK hH
                  have hH := hH2; clear hH2
                  try simp only [Act.put, List.setIfInBounds_toArray, List.set_cons_zero, List.set_cons_succ]
                  refine Reg.take (i := 10) (u := ?utbv10) rfl rfl rfl (by kernel_rfl) (by kernel_rfl) (by kernel_rfl) hH ?utby10 ?utbr10
                  case utby10 => (intro w hSw; (try dsimp only at hSw); go_simp; try (with_reducible rfl))
                  case' utbr10 => try simp only [List.setIfInBounds_toArray, List.set_cons_zero, List.set_cons_succ]
                  refine wpAnyH_done (by kernel_rfl) ?_ _
                  refine NoPanic.normal ?_
                  have hbF : Below w2.heap.size w2 W6 := ((((hbl3.trans (hbi.mono hs23)).alloc (by omega) (.cells #[.int .i64 k] 3)).drew).grown hg5 (by simp; omega) (fun q e => by have := hne5 q e; omega)).grown hg6 (by omega) (fun q e => by cases e)
                  have hins := Route.insR_at (lt := ltR L) (out := S) (e := (k : Int)) (k := 0) (by rw [HSl.out]; omega) HALL.out (.inl rfl)
                  have HF6 := Lib.hid ho6
                  have HBF := Lib.hid hbF
                  have HINS := Lib.hid hins
                  clear ho6 hbF hins hg5 hg6 ho5 hoc hrd5
                  go_wp2_with fail
                  refine ⟨⟨k + 1, by go_num, by omega, ?_, HBF.out⟩, by simp [intOf]; omega⟩
                  rw [HT.out, HF.out]
                  simp only [Option.isSome_some, if_true]
                  rw [HSX.out, HINS.out, List.length_append, List.length_singleton]
                  have := HF6.out
                  rw [← HN0.out, show 0 + 1 = 0 + (1 + (0 - 0)) by omega]
                  rw [show Value.int .i64 (k : Int) = iv (k : Int) from rfl] at this
                  simpa using this
                · skip
                  cases e
                  clear hg hcs ht hnc' hcm'
                  have q1 : (0 : Int) ≤ ((0 : Nat) : Int) := by omega
                  have q2 : ((0 : Nat) : Int) ≤ (n : Int) := by omega
                  have q3 : ((0 : Nat) : Int) ≤ (oc : Int) := by omega
                  go_upto_region 14 with fail
                  refine wp_region_noPanic ?_
                  refine wp_region_held_drew (S := fun _ => True) (by kernel_rfl) trivial (fun hH => ?_)
                  refine Reg.take (i := 0) (u := ?ttcv0) rfl rfl rfl (by kernel_rfl) (by kernel_rfl) (by kernel_rfl) hH ?ttcy0 ?ttcr0
                  case ttcy0 => (intro w hSw; (try dsimp only at hSw); go_simp; try (with_reducible rfl))
                  case' ttcr0 => simp only [List.setIfInBounds_toArray, List.set_cons_zero, List.set_cons_succ]
                  refine Reg.take (i := 1) (u := ?ttcv1) rfl rfl rfl (by kernel_rfl) (by kernel_rfl) (by kernel_rfl) hH ?ttcy1 ?ttcr1
                  case ttcy1 => (intro w hSw; (try dsimp only at hSw); go_simp; try (with_reducible rfl))
                  case' ttcr1 => simp only [List.setIfInBounds_toArray, List.set_cons_zero, List.set_cons_succ]
                  refine Reg.take (i := 2) (u := ?ttcv2) rfl rfl rfl (by kernel_rfl) (by kernel_rfl) (by kernel_rfl) hH ?ttcy2 ?ttcr2
                  case ttcy2 => (intro w hSw; (try dsimp only at hSw); go_simp; try (with_reducible rfl))
                  case' ttcr2 => simp only [List.setIfInBounds_toArray, List.set_cons_zero, List.set_cons_succ]
                  refine Reg.take (i := 3) (u := ?ttcv3) rfl rfl rfl (by kernel_rfl) (by kernel_rfl) (by kernel_rfl) hH ?ttcy3 ?ttcr3
                  case ttcy3 => (intro w hSw; (try dsimp only at hSw); go_simp; try (with_reducible rfl))
                  case' ttcr3 => simp only [List.setIfInBounds_toArray, List.set_cons_zero, List.set_cons_succ]
                  refine Reg.take (i := 5) (u := ?ttcv5) rfl rfl rfl (by kernel_rfl) (by kernel_rfl) (by kernel_rfl) hH ?ttcy5 ?ttcr5
                  case ttcy5 => (intro w hSw; (try dsimp only at hSw); go_simp; try (with_reducible rfl))
                  case' ttcr5 => simp only [List.setIfInBounds_toArray, List.set_cons_zero, List.set_cons_succ]
                  refine Reg.take (i := 6) (u := ?ttcv6) rfl rfl rfl (by kernel_rfl) (by kernel_rfl) (by kernel_rfl) hH ?ttcy6 ?ttcr6
                  case ttcy6 => (intro w hSw; (try dsimp only at hSw); go_simp; try (with_reducible rfl))
                  case' ttcr6 => simp only [List.setIfInBounds_toArray, List.set_cons_zero, List.set_cons_succ]
                  refine Reg.take (i := 7) (u := ?ttcv7) rfl rfl rfl (by kernel_rfl) (by kernel_rfl) (by kernel_rfl) hH ?ttcy7 ?ttcr7
                  case ttcy7 => (intro w hSw; (try dsimp only at hSw); go_simp; try (with_reducible rfl))
                  case' ttcr7 => simp only [List.setIfInBounds_toArray, List.set_cons_zero, List.set_cons_succ]
                  refine Reg.only (i := 4) rfl (Reg.wanted_free rfl) (by kernel_rfl) (fun K hK => ?_)
                  go_simp
                  refine hK.out _ _ trivial (fun hH2 => ?_)
                  clear hK hH
                  have hH := hH2; clear hH2
                  try simp only [Act.put, List.setIfInBounds_toArray, List.set_cons_zero, List.set_cons_succ]
                  have hsW := hbi.size
                  have hs23 := hbl3.size
                  have hnk : n ≤ 100000 := by omega
                  refine Reg.only (i := 8) rfl (Reg.wanted_free rfl) (by kernel_rfl) (fun K hK => ?_)
                  refine wp_append_owns _ _ _ 22 rfl w2.heap.size 3 i0 (.int .i64 0) 1 8 Try.underlying22 hi hz0 hz1 hz2 rfl (by decide) _ 1 [.int .i64 k] rfl (((Owns.one W 3 (.int .i64 k)).drew).mono (by omega)) _ (n - 0) _ ((S.drop 0).map iv) rfl (by have := (((HRD.out.below hbi).alloc (.cells #[.int .i64 k] 3)).drew).drop hjn (if oc = 0 then some ⟨g, 0, none⟩ else some ⟨g, 0, none⟩) (fun hq => by rw [if_neg (by omega)]; simp [add_flat]); simpa using this) (fun u hu => by obtain ⟨x, _, rfl⟩ := List.mem_map.1 hu; rfl) (by simp only [maxLen]; omega) (by omega) (by simp; omega) (fun v5 W5 ho5 hg5 => ?_)
                  refine hK.out _ _ trivial (fun hH2 => ?_)
                  clear hK hH
                  have hH := hH2; clear hH2
                  try simp only [Act.put, List.setIfInBounds_toArray, List.set_cons_zero, List.set_cons_succ]
                  have hs5 := hg5.size
                  have hs5b : w3.heap.size < W5.heap.size := by simp at hs5; omega
                  have hne5 : ∀ q : Nat, (Value.slice (some ⟨W.heap.size, 0, none⟩) 1 1).ownBlock = some q → q = W.heap.size := fun q e => by cases e; rfl
                  obtain ⟨a5, c5, rfl, hc5a, hc5b, hrd5⟩ := ho5.form
                  have hoc := ((((HO3.out.below hbi (Nat.le_refl _)).alloc (.cells #[.int .i64 k] 3)).drew).kept hg5 (fun q e1 e2 => by have e3 := hne5 q e2; have e4 : g = q := (by injection e1); have e5 := (HO3.out.lt g rfl).2; have e6 : w3.heap.size ≤ W.heap.size := hsW; omega)).cut hjn (show 0 ≤ oc by omega) (Nat.le_refl _)
                  refine Reg.only (i := 9) rfl (Reg.wanted_free rfl) (by kernel_rfl) (fun K hK => ?_)
                  refine wp_append_owns _ _ _ 22 rfl w2.heap.size 3 i0 (.int .i64 0) 1 8 Try.underlying22 hi hz0 hz1 hz2 rfl (by decide) _ 0 ((S.map iv).take (0 * 1)) rfl hoc _ (1 + (n - 0)) _ ([.int .i64 k] ++ (S.drop 0).map iv) rfl hrd5 (fun u hu => by rcases List.mem_append.1 hu with hu | hu; (rw [List.mem_singleton.1 hu]; rfl); (obtain ⟨x, _, rfl⟩ := List.mem_map.1 hu; rfl)) (by simp only [maxLen]; omega) (by omega) (by omega) (fun v6 W6 ho6 hg6 => ?_)
                  refine hK.out _ _ trivial (fun hH2 => ?_)
                  clear hK hH
                  have hH := hH2; clear hH2
                  try simp only [Act.put, List.setIfInBounds_toArray, List.set_cons_zero, List.set_cons_succ]
                  refine Reg.take (i := 10) (u := ?utcv10) rfl rfl rfl (by kernel_rfl) (by kernel_rfl) (by kernel_rfl) hH ?utcy10 ?utcr10
                  case utcy10 => (intro w hSw; (try dsimp only at hSw); go_simp; try (with_reducible rfl))
                  case' utcr10 => try simp only [List.setIfInBounds_toArray, List.set_cons_zero, List.set_cons_succ]
                  refine wpAnyH_done (by kernel_rfl) ?_ _
                  refine NoPanic.normal ?_
                  have hbF : Below w2.heap.size w2 W6 := ((((hbl3.trans (hbi.mono hs23)).alloc (by omega) (.cells #[.int .i64 k] 3)).drew).grown hg5 (by simp; omega) (fun q e => by have := hne5 q e; omega)).grown hg6 (by omega) (fun q e => by cases e; exact (HO3.out.lt g rfl).1)
                  have hins := Route.insR_at (lt := ltR L) (out := S) (e := (k : Int)) (k := 0) (by rw [HSl.out]; omega) HALL.out (.inl rfl)
                  have HF6 := Lib.hid ho6
                  have HBF := Lib.hid hbF
                  have HINS := Lib.hid hins
                  clear ho6 hbF hins hg5 hg6 ho5 hoc hrd5
                  go_wp2_with fail
                  refine ⟨⟨k + 1, by go_num, by omega, ?_, HBF.out⟩, by simp [intOf]; omega⟩
                  rw [HT.out, HF.out]
                  simp only [Option.isSome_some, if_true]
                  rw [HSX.out, HINS.out, List.length_append, List.length_singleton]
                  have := HF6.out
                  rw [← HN0.out, show n + 1 = 0 + (1 + (n - 0)) by omega]
                  rw [show Value.int .i64 (k : Int) = iv (k : Int) from rfl] at this
                  simpa using this
        · obtain rfl : k = L.length := by omega
          obtain ⟨oa, oc, e1, hnc, hcm, hrd⟩ := hown.form
          subst e1
          have HL := Lib.hid (show (allK L p.data.toList).length = (fitTo L p.data.toList L.length).length by rw [Hk.out, Route.sorted_length])
          have HRD := Lib.hid hrd
          have HO := Lib.hid hown
          clear hrd hown
          go_wp2
          go_ret2
          rw [HL.out, Hx.out]
          refine ⟨oa, oc, rfl, ?_, hnc, hcm, ?_, hb⟩
          · rw [Hk.out]; exact HRD.out
          · rintro ad q
            subst q
            rcases HO.out.2 with ⟨e, _⟩ | ⟨g, cap, cur, e, hbg, _⟩
            · cases e
            · cases e; show w.heap.size ≤ g; omega
  · have hc0b : (ck.1 == 0) = false := by simpa using hc0
    have hc0c : (ck.1 != 0) = true := by simpa using hc0
    have Hx := Lib.hid (show allE L p.data.toList = ck.1 by rw [HE.out, if_pos hc0])
    have Hk := Lib.hid (show allK L p.data.toList = [] by unfold allK; rw [Hx.out, if_neg hc0])
    clear hc0 hckv hnb
    go_enter Try.func31, Try.ntmps31
    go_wp2_with fail
    refine hck.mono ?_
    rintro e w1 ⟨rfl, g1⟩
    go_wp2
    go_ret2
    rw [Hk.out, Hx.out]
    exact ⟨none, 0, rfl, Rd.nil _ _ _, Nat.le_refl _, by simp [maxLen], by simp, g1⟩
set_option maxRecDepth 20000 in
set_option maxHeartbeats 4000000 in
theorem rFind_any (a : Option Addr) (c : Nat) (L : List RtV) (p : ByteArray) (w : World) (h : Rts w a L) (hl : L.length ≤ 100000) :
    Calls Try.prog 30 #[.slice a L.length c, .string p] w fun e w' => FindPost w L p.data.toList e w' := by
  have hal := fun w' (hb : Below w.heap.size w w') => rAll_any a c L p w' (h.below hb) hl
  unfold FindPost
  obtain ⟨W0, hW0⟩ : ∃ W0, W0 = w.alloc (Obj.cells #[.bool false, .slice none 0 0, .int .i64 0, .string ⟨#[]⟩, .slice none 0 0, .slice none 0 0, .string ⟨#[]⟩] 43) := ⟨_, rfl⟩
  have hb0 : Below w.heap.size w W0 := by rw [hW0]; exact (Below.refl _ w).alloc (Nat.le_refl _) _
  have hsz0 : W0.heap.size = w.heap.size + 1 := by rw [hW0]; simp
  have hr0 : W0.heap[w.heap.size]? = some (.cells [.bool false, .slice none 0 0, .int .i64 0, .string ⟨#[]⟩, .slice none 0 0, .slice none 0 0, .string ⟨#[]⟩].toArray 43 (0, 0)) := by rw [hW0]; exact heap_alloc_new _ _
  have HW := Lib.hid hW0
  have hal0 := hal W0 hb0
  unfold AllPost at hal0
  obtain ⟨E, hE⟩ : ∃ E, allE L p.data.toList = E := ⟨_, rfl⟩
  obtain ⟨K, hK⟩ : ∃ K, allK L p.data.toList = K := ⟨_, rfl⟩
  have hmem := fun x => allK_mem (L := L) (p := p.data.toList) (x := x)
  rw [hE, hK] at hal0
  rw [hE]
  rw [hK] at hmem
  have HN := Lib.hid (show findN L p.data.toList = if E ≠ 0 then 0 else headN K by unfold findN; rw [hE, hK])
  have HF := Lib.hid (show firstK L p.data.toList = if E ≠ 0 then none else headK K by unfold firstK; rw [hE, hK])
  have HE := Lib.hid hE
  clear hW0 hal hE hK
  go_enter Try.func30, Try.ntmps30
  go_wp2_with fail
  rw [← HW.out]
  refine hal0.mono ?_
  rintro e w2 ⟨ka0, kc, rfl, hKI, hkc, hkcm, hkge, g1⟩
  have hbl2 := hb0.trans (g1.mono hb0.size)
  have hr2 := (g1.block w.heap.size (by omega)).trans hr0
  have hsz2 := g1.size
  by_cases h0 : E = 0
  · have h0b : (E != 0) = false := by rw [h0]; rfl
    have hgd := allE_good (L := L) (p := p.data.toList) (HE.out.trans h0)
    rcases K with _ | ⟨x, K'⟩
    · have Hn := Lib.hid (show findN L p.data.toList = -1 by rw [HN.out, if_neg (by simp [h0])]; rfl)
      have Hf := Lib.hid (show firstK L p.data.toList = none by rw [HF.out, if_neg (by simp [h0])]; rfl)
      have H0 := Lib.hid h0
      clear h0 hmem hgd
      obtain ⟨⟨r0, r1, r2, r3, r4, r5, r6⟩, m0, m1, m2, m3, m4, m5, m6⟩ := row7 hr2
      go_wp2_with fail
      obtain ⟨Wf, hWf⟩ : ∃ Wf, Wf = set7 (w2) (w.heap.size) (.bool false) (.slice none 0 0) (.int .i64 0) (.string ⟨#[]⟩) (.slice none 0 0) (.slice none 0 0) (.string ⟨#[]⟩) := ⟨_, rfl⟩
      have hrf : Wf.heap[w.heap.size]? = some (.cells [.bool false, .slice none 0 0, .int .i64 0, .string ⟨#[]⟩, .slice none 0 0, .slice none 0 0, .string ⟨#[]⟩].toArray 43 (0, 0)) := by rw [hWf]; exact set7_row hr2
      have hbf : Below w.heap.size w Wf := by rw [hWf]; exact set7_below hbl2 (by omega)
      have hFF : FindIs Wf w.heap.size L p.data.toList (.agg #[.bool false, .slice none 0 0, .int .i64 0, .string ⟨#[]⟩, .slice none 0 0, .slice none 0 0, .string ⟨#[]⟩]) := by unfold FindIs; rw [Hf.out]
      unfold set7 at hWf
      rw [← hWf]
      clear hWf
      obtain ⟨⟨z0, z1, z2, z3, z4, z5, z6⟩, _⟩ := row7 hrf
      refine bodyPost_ret (v := .tuple #[.agg #[.bool false, .slice none 0 0, .int .i64 0, .string ⟨#[]⟩, .slice none 0 0, .slice none 0 0, .string ⟨#[]⟩], .int .i64 (-1), .int .i64 (0)]) (by simp [results, Try.results30, go_sem, z0, z1, z2, z3, z4, z5, z6]) rfl ⟨.agg #[.bool false, .slice none 0 0, .int .i64 0, .string ⟨#[]⟩, .slice none 0 0, .slice none 0 0, .string ⟨#[]⟩], ?_, hFF, hbf⟩
      rw [Hn.out, H0.out]
    · obtain ⟨i, rfl, hil, hif, _⟩ := hmem x (by simp)
      have Hn := Lib.hid (show findN L p.data.toList = (i : Int) by rw [HN.out, if_neg (by simp [h0])]; rfl)
      have Hf := Lib.hid (show firstK L p.data.toList = some i by rw [HF.out, if_neg (by simp [h0])]; rfl)
      have H0 := Lib.hid h0
      obtain ⟨ka, kv, rfl, hkb, hkls, hkcell⟩ := hKI.get (k := 0) (by simp)
      simp only [List.getElem?_cons_zero, Option.some.injEq] at hkls
      subst hkls
      have hka0 : ka.add 0 = ka := by unfold Addr.add; simp
      rw [hka0] at hkcell
      have hkne := hkge ka rfl
      obtain ⟨ad, r, rfl, hbb, hr, hrm, c0, c1, c2⟩ := (h.below hbl2).fields hil
      have hadl : ad.block < w.heap.size := by
        obtain ⟨ad', r', e', hlt, _⟩ := h.fields hil
        cases e'; exact hlt
      have hS : ∀ W, Kp w.heap.size w2 W → W.cell? ka = some (.int .i64 i) ∧ W.cell? (ad.add (i * 3)) = some (.slice r.a r.l.length r.c) ∧ W.cell? ⟨(ad.add (i * 3)).block, (ad.add (i * 3)).off + 1, none⟩ = some (.int .i64 r.kd) ∧ W.cell? ⟨(ad.add (i * 3)).block, (ad.add (i * 3)).off + 2, none⟩ = some (.string ⟨r.t.toArray⟩) := fun W hW => by
        have hab : (ad.add (i * 3)).block = ad.block := add_block _ _
        have e1 : W.heap[ka.block]? = w2.heap[ka.block]? := hW.block _ hkb (by omega)
        have e2 : W.heap[ad.block]? = w2.heap[ad.block]? := hW.block _ hbb (by omega)
        refine ⟨(World.cell?_of_block (w := w2) e1).trans hkcell, (World.cell?_of_block (w := w2) (by rw [hab]; exact e2)).trans c0, (World.cell?_of_block (w := w2) (a := ⟨(ad.add (i * 3)).block, (ad.add (i * 3)).off + 1, none⟩) (by show W.heap[(ad.add (i * 3)).block]? = _; rw [hab]; exact e2)).trans c1, (World.cell?_of_block (w := w2) (a := ⟨(ad.add (i * 3)).block, (ad.add (i * 3)).off + 2, none⟩) (by show W.heap[(ad.add (i * 3)).block]? = _; rw [hab]; exact e2)).trans c2⟩
      have hft := rfits_any r.a r.c r.l r.kd r.t p w2.drew ((h.each r hrm).below hbl2.drew) (hgd.1 r hrm) hgd.2
      unfold rtv at hft
      have HR := Lib.hid hr
      have i0 : (0 : Int) ≤ (i : Int) := by omega
      have i1 : (i : Int) < (L.length : Int) := by omega
      clear h0 hmem hgd hr hka0
      go_wp2
      refine wp_region_noPanic ?_
      refine wp_region_held_drew (S := fun w' => w'.cell? ka = some (.int .i64 i) ∧ w'.cell? (ad.add (i * 3)) = some (.slice r.a r.l.length r.c) ∧ w'.cell? ⟨(ad.add (i * 3)).block, (ad.add (i * 3)).off + 1, none⟩ = some (.int .i64 r.kd) ∧ w'.cell? ⟨(ad.add (i * 3)).block, (ad.add (i * 3)).off + 2, none⟩ = some (.string ⟨r.t.toArray⟩)) (by kernel_rfl) ?_ (fun hH => ?_)
      · exact hS _ (Kp.refl _ _).drew
      refine Reg.take (i := 0) (u := ?fav0) rfl rfl rfl (by kernel_rfl) (by kernel_rfl) (by kernel_rfl) hH ?fay0 ?far0
      case fay0 => (intro w hSw; (try dsimp only at hSw); go_simp; try (with_reducible rfl))
      case' far0 => simp only [List.setIfInBounds_toArray, List.set_cons_zero, List.set_cons_succ]
      refine Reg.take (i := 1) (u := ?fav1) rfl rfl rfl (by kernel_rfl) (by kernel_rfl) (by kernel_rfl) hH ?fay1 ?far1
      case fay1 => (intro w hSw; (try dsimp only at hSw); go_simp; try (with_reducible rfl))
      case' far1 => simp only [List.setIfInBounds_toArray, List.set_cons_zero, List.set_cons_succ]
      refine Reg.take (i := 2) (u := ?fav2) rfl rfl rfl (by kernel_rfl) (by kernel_rfl) (by kernel_rfl) hH ?fay2 ?far2
      case fay2 => (intro w hSw; (try dsimp only at hSw); go_simp; try (with_reducible rfl))
      case' far2 => simp only [List.setIfInBounds_toArray, List.set_cons_zero, List.set_cons_succ]
      refine Reg.take (i := 3) (u := ?fav3) rfl rfl rfl (by kernel_rfl) (by kernel_rfl) (by kernel_rfl) hH ?fay3 ?far3
      case fay3 => (intro w hSw; (try dsimp only at hSw); go_simp; try (with_reducible rfl))
      case' far3 => simp only [List.setIfInBounds_toArray, List.set_cons_zero, List.set_cons_succ]
      refine Reg.take (i := 4) (u := ?fav4) rfl rfl rfl (by kernel_rfl) (by kernel_rfl) (by kernel_rfl) hH ?fay4 ?far4
      case fay4 => (intro w hSw; (try dsimp only at hSw); go_simp; try (with_reducible rfl))
      case' far4 => simp only [List.setIfInBounds_toArray, List.set_cons_zero, List.set_cons_succ]
      refine Reg.take (i := 5) (u := ?fav5) rfl rfl rfl (by kernel_rfl) (by kernel_rfl) (by kernel_rfl) hH ?fay5 ?far5
      case fay5 => (intro w hSw; (try dsimp only at hSw); go_simp; try (with_reducible rfl))
      case' far5 => simp only [List.setIfInBounds_toArray, List.set_cons_zero, List.set_cons_succ]
      refine Reg.take (i := 6) (u := ?fav6) rfl rfl rfl (by kernel_rfl) (by kernel_rfl) (by kernel_rfl) hH ?fay6 ?far6
      case fay6 => (intro w hSw; (try dsimp only at hSw); go_simp; try (with_reducible rfl))
      case' far6 => simp only [List.setIfInBounds_toArray, List.set_cons_zero, List.set_cons_succ]
      refine Reg.take (i := 8) (u := ?fav8) rfl rfl rfl (by kernel_rfl) (by kernel_rfl) (by kernel_rfl) hH ?fay8 ?far8
      case fay8 => (intro w hSw; (try dsimp only at hSw); go_simp; try (with_reducible rfl))
      case' far8 => simp only [List.setIfInBounds_toArray, List.set_cons_zero, List.set_cons_succ]
      refine Reg.take (i := 9) (u := ?fav9) rfl rfl rfl (by kernel_rfl) (by kernel_rfl) (by kernel_rfl) hH ?fay9 ?far9
      case fay9 => (intro w hSw; (try dsimp only at hSw); go_simp; try (with_reducible rfl))
      case' far9 => simp only [List.setIfInBounds_toArray, List.set_cons_zero, List.set_cons_succ]
      refine Reg.take (i := 10) (u := ?fav10) rfl rfl rfl (by kernel_rfl) (by kernel_rfl) (by kernel_rfl) hH ?fay10 ?far10
      case fay10 => (intro w hSw; (try dsimp only at hSw); go_simp; try (with_reducible rfl))
      case' far10 => simp only [List.setIfInBounds_toArray, List.set_cons_zero, List.set_cons_succ]
      refine Reg.only (i := 7) rfl (Reg.wanted_free rfl) (by kernel_rfl) (fun K hK => ?_)
      go_simp
      refine hft.mono ?_
      rintro e w3 ⟨v, rfl, hF, g3⟩
      go_simp
      obtain ⟨xb, al, nl, cl, kd', t', aN, nN, cN, aV, nV, cV, xr, rfl⟩ := hF.cells
      have hk3 : Kp w.heap.size w2 w3 := (Kp.refl _ w2).drew.below g3 (Nat.le_refl _)
      refine hK.out _ _ (hS _ hk3) (fun hH2 => ?_)
      clear hK hH
      have hH := hH2; clear hH2
      try simp only [Act.put, List.setIfInBounds_toArray, List.set_cons_zero, List.set_cons_succ]
      have hr3 := (g3.block w.heap.size (by show w.heap.size < w2.heap.size; omega)).trans hr2
      obtain ⟨⟨r0, r1, r2, r3, r4, r5, r6⟩, m0, m1, m2, m3, m4, m5, m6⟩ := row7 hr3
      have hbl3 : Below w.heap.size w w3 := hbl2.drew.trans (g3.mono (by show w.heap.size ≤ w2.heap.size; omega))
      have hkU : Kp w.heap.size w2 (set7 w3 w.heap.size (.bool xb) (.slice al nl cl) (.int .i64 kd') (.string t') (.slice aN nN cN) (.slice aV nV cV) (.string xr)) := ((((((hk3.setD 0 _).setD 1 _).setD 2 _).setD 3 _).setD 4 _).setD 5 _).setD 6 _
      refine Reg.only (i := 11) rfl (Reg.wanted_free rfl) (by kernel_rfl) (fun K hK => ?_)
      go_simp
      refine hK.out _ _ (hS _ hkU) (fun hH2 => ?_)
      clear hK hH
      have hH := hH2; clear hH2
      try simp only [Act.put, List.setIfInBounds_toArray, List.set_cons_zero, List.set_cons_succ]
      refine Reg.take (i := 12) (u := ?fbv12) rfl rfl rfl (by kernel_rfl) (by kernel_rfl) (by kernel_rfl) hH ?fby12 ?fbr12
      case fby12 => (intro w hSw; (try dsimp only at hSw); go_simp; try (with_reducible rfl))
      case' fbr12 => simp only [List.setIfInBounds_toArray, List.set_cons_zero, List.set_cons_succ]
      refine Reg.take (i := 13) (u := ?fbv13) rfl rfl rfl (by kernel_rfl) (by kernel_rfl) (by kernel_rfl) hH ?fby13 ?fbr13
      case fby13 => (intro w hSw; (try dsimp only at hSw); go_simp; try (with_reducible rfl))
      case' fbr13 => simp only [List.setIfInBounds_toArray, List.set_cons_zero, List.set_cons_succ]
      refine wpAnyH_done (by kernel_rfl) ?_ _
      refine NoPanic.normal ?_
      go_wp2_with fail
      obtain ⟨Wf, hWf⟩ : ∃ Wf, Wf = set7 (w3) (w.heap.size) (.bool xb) (.slice al nl cl) (.int .i64 kd') (.string t') (.slice aN nN cN) (.slice aV nV cV) (.string xr) := ⟨_, rfl⟩
      have hrf : Wf.heap[w.heap.size]? = some (.cells [.bool xb, .slice al nl cl, .int .i64 kd', .string t', .slice aN nN cN, .slice aV nV cV, .string xr].toArray 43 (0, 0)) := by rw [hWf]; exact set7_row hr3
      have hbf : Below w.heap.size w Wf := by rw [hWf]; exact set7_below hbl3 (by omega)
      have hFF : FindIs Wf w.heap.size L p.data.toList (.agg #[.bool xb, .slice al nl cl, .int .i64 kd', .string t', .slice aN nN cN, .slice aV nV cV, .string xr]) := by unfold FindIs; rw [Hf.out]; exact ⟨r, HR.out, by rw [hWf]; exact (hF.set7 (by show w.heap.size < w2.heap.size; omega)).mono (by show w.heap.size ≤ w2.heap.size; omega)⟩
      unfold set7 at hWf
      rw [← hWf]
      clear hWf
      obtain ⟨⟨z0, z1, z2, z3, z4, z5, z6⟩, _⟩ := row7 hrf
      refine bodyPost_ret (v := .tuple #[.agg #[.bool xb, .slice al nl cl, .int .i64 kd', .string t', .slice aN nN cN, .slice aV nV cV, .string xr], .int .i64 (i), .int .i64 (0)]) (by simp [results, Try.results30, go_sem, z0, z1, z2, z3, z4, z5, z6]) rfl ⟨.agg #[.bool xb, .slice al nl cl, .int .i64 kd', .string t', .slice aN nN cN, .slice aV nV cV, .string xr], ?_, hFF, hbf⟩
      rw [Hn.out, H0.out]
  · have h0b : (E != 0) = true := by simpa using h0
    have Hn := Lib.hid (show findN L p.data.toList = 0 by rw [HN.out, if_pos h0])
    have Hf := Lib.hid (show firstK L p.data.toList = none by rw [HF.out, if_pos h0])
    clear h0 hmem
    obtain ⟨⟨r0, r1, r2, r3, r4, r5, r6⟩, m0, m1, m2, m3, m4, m5, m6⟩ := row7 hr2
    go_wp2_with fail
    obtain ⟨Wf, hWf⟩ : ∃ Wf, Wf = set7 (w2) (w.heap.size) (.bool false) (.slice none 0 0) (.int .i64 0) (.string ⟨#[]⟩) (.slice none 0 0) (.slice none 0 0) (.string ⟨#[]⟩) := ⟨_, rfl⟩
    have hrf : Wf.heap[w.heap.size]? = some (.cells [.bool false, .slice none 0 0, .int .i64 0, .string ⟨#[]⟩, .slice none 0 0, .slice none 0 0, .string ⟨#[]⟩].toArray 43 (0, 0)) := by rw [hWf]; exact set7_row hr2
    have hbf : Below w.heap.size w Wf := by rw [hWf]; exact set7_below hbl2 (by omega)
    have hFF : FindIs Wf w.heap.size L p.data.toList (.agg #[.bool false, .slice none 0 0, .int .i64 0, .string ⟨#[]⟩, .slice none 0 0, .slice none 0 0, .string ⟨#[]⟩]) := by unfold FindIs; rw [Hf.out]
    unfold set7 at hWf
    rw [← hWf]
    clear hWf
    obtain ⟨⟨z0, z1, z2, z3, z4, z5, z6⟩, _⟩ := row7 hrf
    refine bodyPost_ret (v := .tuple #[.agg #[.bool false, .slice none 0 0, .int .i64 0, .string ⟨#[]⟩, .slice none 0 0, .slice none 0 0, .string ⟨#[]⟩], .int .i64 (0), .int .i64 (E)]) (by simp [results, Try.results30, go_sem, z0, z1, z2, z3, z4, z5, z6]) rfl ⟨.agg #[.bool false, .slice none 0 0, .int .i64 0, .string ⟨#[]⟩, .slice none 0 0, .slice none 0 0, .string ⟨#[]⟩], ?_, hFF, hbf⟩
    rw [Hn.out]
end Go.Proofs.Ytefilalapkdegaa
