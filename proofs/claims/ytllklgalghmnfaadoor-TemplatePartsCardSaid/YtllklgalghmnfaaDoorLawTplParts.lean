/- The walk of TemplateParts. -/
import Derived.Test.YtllklgalghmnfaaDoorTplAwake
import Derived.Test.YtllklgalghmnfaaDoorTplLight
import Derived.Test.YtllklgalghmnfaaDoorTplLit
import Derived.Test.YtllklgalghmnfaaDoorTplRefUses
import Derived.Test.YtllklgalghmnfaaDoorInts
import Derived.Deep.QuietTactic
import Derived.BigQuiet
namespace Go.Proofs.YtllklgalghmnfaaDoor
open Go.RowKit Str Mem Tp
set_option linter.unusedVariables false
set_option linter.unusedSimpArgs false

theorem sameInts25_any (a b : Option Addr) (c d : Nat) (l : List Int) (w : World) (hl : Ints w a l.length l) (hm : Ints w b l.length l) (hn : l.length ≤ 100000) :
    Calls Tryd.prog 28 #[.slice a l.length c, .slice b l.length d] w fun e w' => e = .returned (.bool true) ∧ Below w.heap.size w w' := by
  go_enter Tryd.func28, Tryd.ntmps28
  go_wp2
  go_loopw [5] (fun i wr => ∃ k : Nat, i = .int .i64 k ∧ k ≤ l.length ∧ ∃ n, wr = w.drewN n) (fun i _ => l.length - (intOf i).toNat)
  case atStart => exact ⟨0, rfl, Nat.zero_le _, 0, rfl⟩
  case round =>
    obtain ⟨k, rfl, hk, n, rfl⟩ := hrel
    by_cases hlt : k < l.length
    · obtain ⟨ad, x, rfl, _, hx, s0⟩ := hl.get hlt
      obtain ⟨bd, y, rfl, _, hy, t0⟩ := hm.get hlt
      rw [hx] at hy
      cases hy
      clear hx
      go_wp2
      go_quiet (fail)
      go_wp2
      go_roundw
      case rel => exact ⟨k + 1, by go_num, by omega, n + nq, by simp [World.drewN, Nat.add_assoc]⟩
      case measure => simp [intOf]; omega
    · obtain rfl : k = l.length := by omega
      go_wp2
      go_ret
      exact ⟨rfl, below_drewN (Below.refl _ _) _⟩
def usesI (K : Int) (L : List Part) : List Int := if checkR L ≠ 0 then [] else (List.range 10).map fun (j : Nat) => ((cntP K L (0 + (j : Int)) : Nat) : Int)
theorem usesG_map (K : Int) (L : List Part) : usesG K L = (usesI K L).map iv := by
  unfold usesG usesI
  split
  · rfl
  · rw [List.map_map]; rfl
theorem usesI_len (K : Int) (L : List Part) : (usesI K L).length ≤ 10 := by
  unfold usesI
  split
  · simp
  · simp
theorem usesV_four (L : List Part) : ∃ n0 n1 n2 n3 : Int, usesV L = [.int .i64 n0, .int .i64 n1, .int .i64 n2, .int .i64 n3] := by
  unfold usesV
  split
  · exact ⟨_, _, _, _, rfl⟩
  · exact ⟨_, _, _, _, rfl⟩

theorem eqArr4 (n0 n1 n2 n3 : Int) (W : World) : (Op.equalIn 10000 44 (.agg #[.int .i64 n0, .int .i64 n1, .int .i64 n2, .int .i64 n3]) (.agg #[.int .i64 n0, .int .i64 n1, .int .i64 n2, .int .i64 n3])).run Tryd.prog W = .ok true W := by
  have u3 := Tryd.underlying3
  have a3 := Tryd.isAgg3
  have z3 := Tryd.sizeOf3
  rw [show (10000 : Nat) = 9999 + 1 from rfl, Op.equalIn]
  simp only [Sem.run_bind, run_underlying Tryd.underlying44, Result.andThen_ok]
  simp only [Std.Legacy.Range.forIn_eq_forIn_range', Std.Legacy.Range.size, Nat.sub_zero, Nat.add_sub_cancel, Nat.div_one, List.range'_succ, List.range'_zero, List.forIn_cons, List.forIn_nil]
  go_simp

set_option maxRecDepth 100000 in
set_option maxHeartbeats 8000000 in
theorem lawParts_any (a : Option Addr) (c : Nat) (L : List Part) (w : World) (hN : Nm w) (hP : Parts w a L.length L) (hc : L.length ≤ c) (hcm : c ≤ maxLen) :
    Calls Tryd.prog 5 #[.slice a L.length c] w fun e w' => e = .returned (.bool true) ∧ Below w.heap.size w w' := by
  have ha := fun W h => awake25_any W h
  have hl1 := fun W hp => light_any a c L W hp
  obtain ⟨A1, hA1⟩ : ∃ A, lightR L = A := ⟨_, rfl⟩
  rw [hA1] at hl1
  have HA1 := Lib.hid hA1
  have HP := Lib.hid hP
  clear hA1 hP
  go_enter Tryd.func5, Tryd.ntmps5
  go_wp2_with fail
  refine (hl1 _ HP.out).mono ?_
  rintro e w1 ⟨rfl, rfl⟩
  rcases A1 with _ | _
  · go_wp2_with fail
    refine (ha _ hN).mono ?_
    rintro e w2 ⟨rfl, h2⟩
    go_wp2_with fail
    go_ret
    exact ⟨rfl, h2⟩
  obtain ⟨hLn, hLt⟩ := lightR_of HA1.out
  have HLT : Hid (∀ p ∈ L, p.t.length ≤ 100000) := Lib.hid (fun p hp => by have := hLt p hp; omega)
  clear hLt hl1
  have how := fun W hp => own25_any a c L W hp (by omega) hc hcm
  go_wp2_with fail
  refine (how _ HP.out).mono ?_
  rintro e w2 ⟨v2, rfl, hO2, b2⟩
  obtain ⟨a4, c4, hv4, hc4, hm4, hR2⟩ := OwnParts.form hO2
  subst hv4
  have HR2 := Lib.hid hR2
  have p1 := fun W h1 h2 => Text_any a4 c4 L W h1 (by omega) hc4 hm4 HLT.out h2
  have p2 := fun W h1 => refTextE_any a c L W h1 (by omega) HLT.out
  have p3 := fun W h1 h2 => check_any a4 c4 L W h1 (by omega) hc4 hm4 HLT.out h2
  have p4 := fun W h1 => refCheck_any a c L W h1 (by omega) HLT.out
  have p5 := fun W h1 h2 => uses_any a4 c4 L W h1 (by omega) hc4 hm4 HLT.out h2
  have p6 := fun W h1 => refUses_any a c L W h1 (by omega) HLT.out
  have p7 := fun W h1 h2 => Lit_any a4 c4 L W h1 (by omega) hc4 hm4 HLT.out h2
  have p8 := fun W h1 => refLit_any a c L W h1 (by omega) HLT.out
  have p9 := fun W h1 h2 => sameParts_any a4 a c4 c L W h1 h2 (by omega)
  obtain ⟨⟨o1, o2⟩, hO⟩ : ∃ O, textR L = O := ⟨_, rfl⟩
  obtain ⟨E, hE⟩ : ∃ E, checkR L = E := ⟨_, rfl⟩
  obtain ⟨⟨q1, q2, q3, q4⟩, hQ⟩ : ∃ O, litR L = O := ⟨_, rfl⟩
  obtain ⟨n0, n1, n2, n3, hu⟩ := usesV_four L
  have hg2 := usesG_map 2 L
  have hg3 := usesG_map 3 L
  have hi2 := usesI_len 2 L
  have hi3 := usesI_len 3 L
  unfold UsesPost at p5 p6
  rw [hg2, hg3, hu, hE] at p5 p6
  generalize usesI 2 L = G at p5 p6 hi2
  generalize usesI 3 L = C at p5 p6 hi3
  simp only [List.length_map] at p5 p6
  have s1 := fun a1 b1 c1 d1 W h1 h2 => sameInts25_any a1 b1 c1 d1 G W h1 h2 (by omega)
  have s2 := fun a1 b1 c1 d1 W h1 h2 => sameInts25_any a1 b1 c1 d1 C W h1 h2 (by omega)
  rw [hO] at p1 p2
  rw [hE] at p3 p4
  rw [hQ] at p7 p8
  simp only [] at p1 p2 p7 p8
  have B2 := Lib.hid b2
  clear hO2 hR2 b2 how hO hE hQ hu hg2 hg3
  go_wp2_with fail
  refine (p1 _ HR2.out (hN.below B2.out hN.lt)).mono ?_
  rintro e w3 ⟨rfl, h3⟩
  have B3 := Lib.hid (B2.out.trans (h3.mono B2.out.size))
  have HR3 := Lib.hid (Rd.below HR2.out h3)
  clear h3
  go_wp2_with fail
  refine (p2 _ (Rd.below HP.out B3.out)).mono ?_
  rintro e w4 ⟨rfl, h4⟩
  have B4 := Lib.hid (B3.out.trans (h4.mono B3.out.size))
  have HR4 := Lib.hid (Rd.below HR3.out h4)
  clear h4
  go_wp2_with fail
  refine (p3 _ HR4.out (hN.below B4.out hN.lt)).mono ?_
  rintro e w5 ⟨rfl, h5⟩
  have B5 := Lib.hid (B4.out.trans (h5.mono B4.out.size))
  have HR5 := Lib.hid (Rd.below HR4.out h5)
  clear h5
  go_wp2_with fail
  refine (p4 _ (Rd.below HP.out B5.out)).mono ?_
  rintro e w6 ⟨rfl, h6⟩
  have B6 := Lib.hid (B5.out.trans (h6.mono B5.out.size))
  have HR6 := Lib.hid (Rd.below HR5.out h6)
  clear h6
  go_wp2_with fail
  refine (p5 _ HR6.out (hN.below B6.out hN.lt)).mono ?_
  rintro e w7 ⟨x1, y1, x2, y2, rfl, hx1, hx2, h7⟩
  have B7 := Lib.hid (B6.out.trans (h7.mono B6.out.size))
  have HR7 := Lib.hid (Rd.below HR6.out h7)
  have rv := World.alloc_heap_new w7 (.cells #[.int .i64 n0, .int .i64 n1, .int .i64 n2, .int .i64 n3] 44)
  have hbv := (Below.refl _ w7).alloc (Nat.le_refl _) (.cells #[.int .i64 n0, .int .i64 n1, .int .i64 n2, .int .i64 n3] 44)
  have X1 := Lib.hid (Rd.alloc hx1 (.cells #[.int .i64 n0, .int .i64 n1, .int .i64 n2, .int .i64 n3] 44))
  have X2 := Lib.hid (Rd.alloc hx2 (.cells #[.int .i64 n0, .int .i64 n1, .int .i64 n2, .int .i64 n3] 44))
  obtain ⟨V5, hV5⟩ : ∃ V, V = w7.alloc (.cells #[.int .i64 n0, .int .i64 n1, .int .i64 n2, .int .i64 n3] 44) := ⟨_, rfl⟩
  rw [← hV5] at rv hbv X1 X2
  have B7' := Lib.hid (B7.out.trans (hbv.mono B7.out.size))
  have HR7' := Lib.hid (Rd.below HR7.out hbv)
  clear h7 hx1 hx2 hbv
  go_wp2_with fail
  rw [← hV5]
  clear hV5 B7 HR7
  refine (p6 _ (Rd.below HP.out B7'.out)).mono ?_
  rintro e w20 ⟨u1, t1, u2, t2, rfl, hu1, hu2, h20⟩
  have rw1 := World.alloc_heap_new w20 (.cells #[.int .i64 n0, .int .i64 n1, .int .i64 n2, .int .i64 n3] 44)
  have hbw := h20.alloc h20.size (.cells #[.int .i64 n0, .int .i64 n1, .int .i64 n2, .int .i64 n3] 44)
  have U1 := Lib.hid (Rd.alloc hu1 (.cells #[.int .i64 n0, .int .i64 n1, .int .i64 n2, .int .i64 n3] 44))
  have U2 := Lib.hid (Rd.alloc hu2 (.cells #[.int .i64 n0, .int .i64 n1, .int .i64 n2, .int .i64 n3] 44))
  obtain ⟨V6, hV6⟩ : ∃ V, V = w20.alloc (.cells #[.int .i64 n0, .int .i64 n1, .int .i64 n2, .int .i64 n3] 44) := ⟨_, rfl⟩
  rw [← hV6] at rw1 hbw U1 U2
  have B20 := Lib.hid (B7'.out.trans (hbw.mono B7'.out.size))
  have HR20 := Lib.hid (Rd.below HR7'.out hbw)
  have X3 := Lib.hid (Rd.below X1.out hbw)
  have X4 := Lib.hid (Rd.below X2.out hbw)
  have rv6 := (hbw.block _ (lt_of_cells rv)).trans rv
  clear h20 hu1 hu2 hbw rv X1 X2 B7' HR7'
  go_wp2_with fail
  rw [← hV6]
  clear hV6
  refine (s1 x1 u1 _ _ _ X3.out U1.out).mono ?_
  rintro e w21 ⟨rfl, h21⟩
  have B21 := Lib.hid (B20.out.trans (h21.mono B20.out.size))
  have HR21 := Lib.hid (Rd.below HR20.out h21)
  have X5 := Lib.hid (Rd.below X4.out h21)
  have U5 := Lib.hid (Rd.below U2.out h21)
  have rv7 := (h21.block _ (lt_of_cells rv6)).trans rv6
  have rw7 := (h21.block _ (lt_of_cells rw1)).trans rw1
  clear h21 X3 X4 U1 U2 rv6 rw1 B20 HR20
  go_wp2_with fail
  refine (s2 x2 u2 _ _ _ X5.out U5.out).mono ?_
  rintro e w22 ⟨rfl, h22⟩
  have B22 := Lib.hid (B21.out.trans (h22.mono B21.out.size))
  have HR22 := Lib.hid (Rd.below HR21.out h22)
  have rv8 := (h22.block _ (lt_of_cells rv7)).trans rv7
  have rw8 := (h22.block _ (lt_of_cells rw7)).trans rw7
  have d0 := cell_list (cs := [.int .i64 n0, .int .i64 n1, .int .i64 n2, .int .i64 n3]) rv8 0
  have d1 := cell_list (cs := [.int .i64 n0, .int .i64 n1, .int .i64 n2, .int .i64 n3]) rv8 1
  have d2 := cell_list (cs := [.int .i64 n0, .int .i64 n1, .int .i64 n2, .int .i64 n3]) rv8 2
  have d3 := cell_list (cs := [.int .i64 n0, .int .i64 n1, .int .i64 n2, .int .i64 n3]) rv8 3
  have e0 := cell_list (cs := [.int .i64 n0, .int .i64 n1, .int .i64 n2, .int .i64 n3]) rw8 0
  have e1 := cell_list (cs := [.int .i64 n0, .int .i64 n1, .int .i64 n2, .int .i64 n3]) rw8 1
  have e2 := cell_list (cs := [.int .i64 n0, .int .i64 n1, .int .i64 n2, .int .i64 n3]) rw8 2
  have e3 := cell_list (cs := [.int .i64 n0, .int .i64 n1, .int .i64 n2, .int .i64 n3]) rw8 3
  simp only [List.getElem?_cons_zero, List.getElem?_cons_succ] at d0 d1 d2 d3 e0 e1 e2 e3
  clear h22 X5 U5 rv7 rw7 rv8 rw8 B21 HR21
  have eqa := fun W => eqArr4 n0 n1 n2 n3 W
  go_wp2_with fail
  clear d0 d1 d2 d3 e0 e1 e2 e3
  refine (p7 _ HR22.out (hN.below B22.out hN.lt)).mono ?_
  rintro e w23 ⟨rfl, h23⟩
  have B23 := Lib.hid (B22.out.trans (h23.mono B22.out.size))
  have HR23 := Lib.hid (Rd.below HR22.out h23)
  clear h23
  go_wp2_with fail
  refine (p8 _ (Rd.below HP.out B23.out)).mono ?_
  rintro e w24 ⟨rfl, h24⟩
  have B24 := Lib.hid (B23.out.trans (h24.mono B23.out.size))
  have HR24 := Lib.hid (Rd.below HR23.out h24)
  clear h24
  go_wp2_with fail
  refine (p9 _ HR24.out (Rd.below HP.out B24.out)).mono ?_
  rintro e w30 ⟨rfl, n30, rfl⟩
  have B30 := below_drewN B24.out n30
  go_wp2_with fail
  refine (ha _ (hN.below B30 hN.lt)).mono ?_
  rintro e w31 ⟨rfl, h31⟩
  go_wp2_with fail
  go_ret
  exact ⟨rfl, B30.trans (h31.mono B30.size)⟩
end Go.Proofs.YtllklgalghmnfaaDoor
