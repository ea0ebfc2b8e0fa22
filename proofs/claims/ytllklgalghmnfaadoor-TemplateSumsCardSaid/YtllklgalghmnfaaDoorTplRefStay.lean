/- The reference's stays: which bytes of queries stay. -/
import Derived.Test.YtllklgalghmnfaaDoorTplMem
import Derived.Deep.LoopGhost
import Derived.Test.YtllklgalghmnfaaDoorTplSets
import Derived.Deep.Cut
import Derived.Deep.RegionWith
import Derived.Test.YtllklgalghmnfaaDoorTplEncoded
import Derived.Test.YtllklgalghmnfaaDoorBuilderByte
namespace Go.Proofs.YtllklgalghmnfaaDoor
open Go.RowKit Str Mem Tp
set_option linter.unusedVariables false
set_option linter.unusedSimpArgs false
def othersS : List Nat := [45, 46, 95, 126, 47, 58, 64, 33, 42, 40, 41, 44, 36]
def alnum (c : Nat) : Bool := (decide (97 ≤ c) && decide (c ≤ 122)) || (decide (65 ≤ c) && decide (c ≤ 90)) || (decide (48 ≤ c) && decide (c ≤ 57))
def staysN (c : Nat) : Bool := alnum c || othersS.contains c
set_option maxRecDepth 100000 in
set_option maxHeartbeats 4000000 in
theorem stays_yes (c : Nat) (hc : c < 256) (h : alnum c = true) (w : World) : Calls Tryd.prog 71 #[.int .u8 c] w fun e w' => e = .returned (.bool true) ∧ w' = w := by
  simp only [alnum, Bool.or_eq_true, Bool.and_eq_true, decide_eq_true_eq] at h
  go_enter Tryd.func71, Tryd.ntmps71
  go_wp2_with fail
  all_goals first | (go_ret; exact ⟨rfl, rfl⟩) | (exfalso; omega) | skip

set_option maxRecDepth 100000 in
set_option maxHeartbeats 4000000 in
theorem stays_no (c : Nat) (hc : c < 256) (h : alnum c = false) (w : World) : Calls Tryd.prog 71 #[.int .u8 c] w fun e w' => e = .returned (.bool (othersS.contains c)) ∧ w' = w := by
  have h1 : ¬ (97 ≤ c ∧ c ≤ 122) ∧ ¬ (65 ≤ c ∧ c ≤ 90) ∧ ¬ (48 ≤ c ∧ c ≤ 57) := by
    simp only [alnum, Bool.or_eq_false_iff, Bool.and_eq_false_iff, decide_eq_false_iff_not] at h
    omega
  obtain ⟨V, hV⟩ : ∃ V, othersS.contains c = V := ⟨_, rfl⟩
  rw [hV]
  have HV := Lib.hid hV
  clear hV h
  go_enter Tryd.func71, Tryd.ntmps71
  go_wp2_with fail
  all_goals try (exfalso; omega)
  all_goals
    go_loopg [3] 13 (fun g i W => W = w ∧ ∃ k : Nat, i = .int .i64 k ∧ k + g = 13 ∧ ∀ j x, j < k → othersS[j]? = some x → x ≠ c)
    case atStart => exact ⟨rfl, 0, rfl, by omega, fun j x hj _ => by omega⟩
    case round =>
      obtain ⟨rfl, k, rfl, hk, hall⟩ := hrel
      have HALL := Lib.hid hall
      clear hall
      by_cases hlt : k < 13
      · obtain ⟨g', rfl⟩ : ∃ g', gk = g' + 1 := ⟨gk - 1, by omega⟩
        obtain ⟨x, hx⟩ : ∃ x, othersS[k]? = some x := ⟨_, List.getElem?_eq_getElem hlt⟩
        have hxx : ∀ hin, (((⟨#[45, 46, 95, 126, 47, 58, 64, 33, 42, 40, 41, 44, 36]⟩ : ByteArray)[k]'hin).toNat : Int) = (x : Int) := fun hin => by
          have : ∀ (k : Fin 13) (hin : k.val < (⟨#[45, 46, 95, 126, 47, 58, 64, 33, 42, 40, 41, 44, 36]⟩ : ByteArray).size), some (((⟨#[45, 46, 95, 126, 47, 58, 64, 33, 42, 40, 41, 44, 36]⟩ : ByteArray)[k.val]'hin).toNat) = othersS[k.val]? := by decide
          have := this ⟨k, hlt⟩ hin
          rw [hx] at this
          injection this with this
          rw [this]
        have HX := Lib.hid hx
        clear hx
        by_cases hxc : x = c
        · have e0 : ((x : Int) == (c : Int)) = true := by rw [hxc]; simp
          go_wp2_with fail
          go_ret
          refine ⟨?_, rfl⟩
          have : V = true := by rw [← HV.out, ← hxc]; exact List.contains_iff_mem.2 (List.mem_of_getElem? HX.out)
          rw [this]; rfl
        · have e0 : ((x : Int) == (c : Int)) = false := by simp; omega
          go_wp2_with fail
          go_roundg g'
          case measure => omega
          case rel => exact ⟨rfl, k + 1, by go_num, by omega, fun j y hj hy => by
            by_cases hjk : j = k
            · rw [hjk, HX.out] at hy; injection hy with hy; omega
            · exact HALL.out j y (by omega) hy⟩
      · obtain rfl : k = 13 := by omega
        go_wp2_with fail
        go_ret
        refine ⟨?_, rfl⟩
        have : V = false := by
          rw [← HV.out]
          cases hcn : othersS.contains c with
          | false => rfl
          | true =>
            obtain ⟨j, hj, e⟩ := List.getElem_of_mem (List.contains_iff_mem.1 hcn)
            exact absurd e (HALL.out j _ hj (List.getElem?_eq_getElem hj))
        rw [this]; rfl
theorem stays_any (c : Nat) (hc : c < 256) (w : World) : Calls Tryd.prog 71 #[.int .u8 c] w fun e w' => e = .returned (.bool (staysN c)) ∧ w' = w := by
  unfold staysN
  cases h : alnum c with
  | true => exact stays_yes c hc h w
  | false => exact stays_no c hc h w
end Go.Proofs.YtllklgalghmnfaaDoor
namespace Go.Proofs.YtllklgalghmnfaaDoor
open Go.RowKit Str Mem Tp
set_option linter.unusedVariables false
set_option linter.unusedSimpArgs false
set_option maxRecDepth 100000 in
theorem refHas_any (s : S4) (b : Nat) (hb : b < 256) (w : World) : Calls Tryd.prog 46 #[.agg #[.int .u64 s.a0, .int .u64 s.a1, .int .u64 s.a2, .int .u64 s.a3], .int .u8 b] w fun e w' => e = .returned (.bool (hasS s b)) ∧ Below w.heap.size w w' := by
  have hq := s.get (b / 64) (by omega)
  unfold S4.v at hq
  obtain ⟨d, hd⟩ : ∃ d, s.at (b / 64) = d := ⟨_, rfl⟩
  have hv : hasS s b = (bits .and .u64 (d / 2 ^ (b % 64)) 1 == 1) := by unfold hasS; rw [hd]
  rw [hd] at hq
  rw [hv]
  clear hv hd
  go_enter Tryd.func46, Tryd.ntmps46
  go_wp2_with fail
  go_ret
  exact ⟨rfl, (Below.refl _ w).alloc (Nat.le_refl _) _⟩
def aggS (s : S4) : Value := .agg #[.int .u64 s.a0, .int .u64 s.a1, .int .u64 s.a2, .int .u64 s.a3]
set_option maxRecDepth 100000 in
set_option maxHeartbeats 4000000 in
theorem with_any (s : S4) (b : Nat) (hb : b < 256) (w : World) : Calls Tryd.prog 92 #[.agg #[.int .u64 s.a0, .int .u64 s.a1, .int .u64 s.a2, .int .u64 s.a3], .int .u8 b] w fun e w' => e = .returned (.agg #[.int .u64 (addB s b).a0, .int .u64 (addB s b).a1, .int .u64 (addB s b).a2, .int .u64 (addB s b).a3]) ∧ Below w.heap.size w w' := by
  have hg := s.get (b / 64) (by omega)
  obtain ⟨d, hd⟩ : ∃ d, s.at (b / 64) = d := ⟨_, rfl⟩
  rw [hd] at hg
  have hpv : (addB s b).v = s.v.set (b / 64) (.int .u64 (bits .or .u64 d (IntKind.u64.wrap (2 ^ (b % 64))))) := by unfold addB; rw [S4.put_v s _ _ (by omega), hd]
  obtain ⟨V, hV⟩ : ∃ V, addB s b = V := ⟨_, rfl⟩
  rw [hV] at hpv ⊢
  clear hd hV
  have HG := Lib.hid hg
  have HPV := Lib.hid hpv
  clear hg hpv
  go_enter Tryd.func92, Tryd.ntmps92
  go_upto_region 1 with fail
  have hbox : ((w.alloc (.cells #[.int .u64 s.a0, .int .u64 s.a1, .int .u64 s.a2, .int .u64 s.a3] 69)).alloc (.cells #[.int .u64 0, .int .u64 0, .int .u64 0, .int .u64 0] 69)).heap[w.heap.size]? = some (.cells [.int .u64 s.a0, .int .u64 s.a1, .int .u64 s.a2, .int .u64 s.a3].toArray 69 (0, 0)) := (Below.heap_alloc _ _ _ (by simp)).trans (World.alloc_heap_new w _)
  have hres : ((w.alloc (.cells #[.int .u64 s.a0, .int .u64 s.a1, .int .u64 s.a2, .int .u64 s.a3] 69)).alloc (.cells #[.int .u64 0, .int .u64 0, .int .u64 0, .int .u64 0] 69)).heap[w.heap.size + 1]? = some (.cells [.int .u64 0, .int .u64 0, .int .u64 0, .int .u64 0].toArray 69 (0, 0)) := by
    have h := World.alloc_heap_new (w.alloc (.cells #[.int .u64 s.a0, .int .u64 s.a1, .int .u64 s.a2, .int .u64 s.a3] 69)) (.cells #[.int .u64 0, .int .u64 0, .int .u64 0, .int .u64 0] 69)
    rw [World.size_alloc] at h
    exact h
  have hbl := ((Below.refl _ w).alloc (Nat.le_refl _) (.cells #[.int .u64 s.a0, .int .u64 s.a1, .int .u64 s.a2, .int .u64 s.a3] 69)).alloc (by simp) (.cells #[.int .u64 0, .int .u64 0, .int .u64 0, .int .u64 0] 69)
  obtain ⟨W0, hW0⟩ : ∃ W, W = ((w.alloc (.cells #[.int .u64 s.a0, .int .u64 s.a1, .int .u64 s.a2, .int .u64 s.a3] 69)).alloc (.cells #[.int .u64 0, .int .u64 0, .int .u64 0, .int .u64 0] 69)) := ⟨_, rfl⟩
  rw [← hW0] at hbox hres hbl ⊢
  clear hW0
  have d0 := cell_list (cs := s.v) hbox (b / 64)
  rw [HG.out] at d0
  have df := frozen_list hbox
  have hset := set_list (cs := s.v) hbox (b / 64) (.int .u64 (bits .or .u64 d (IntKind.u64.wrap (2 ^ (b % 64)))))
  rw [← HPV.out] at hset
  have HSET := Lib.hid hset
  clear hset hbox
  go_upto_region 2 with fail
  obtain ⟨W1, hW1⟩ : ∃ W, W = W0.setCell ⟨w.heap.size, b / 64, none⟩ (.int .u64 (bits .or .u64 d (IntKind.u64.wrap (2 ^ (b % 64))))) := ⟨_, rfl⟩
  have hb1 := hbl.setCell (p := ⟨w.heap.size, b / 64, none⟩) (Nat.le_refl _) (.int .u64 (bits .or .u64 d (IntKind.u64.wrap (2 ^ (b % 64)))))
  have hr1 := (Below.heap_setCell W0 ⟨w.heap.size, b / 64, none⟩ (.int .u64 (bits .or .u64 d (IntKind.u64.wrap (2 ^ (b % 64))))) (w.heap.size + 1) (by show w.heap.size + 1 ≠ w.heap.size; omega)).trans hres
  have hs1 := HSET.out
  rw [← hW1] at hb1 hr1 hs1 ⊢
  clear hW1 HSET d0 df hbl hres
  have y0 := cell_list (cs := [.int .u64 V.a0, .int .u64 V.a1, .int .u64 V.a2, .int .u64 V.a3]) hs1 0
  have y1 := cell_list (cs := [.int .u64 V.a0, .int .u64 V.a1, .int .u64 V.a2, .int .u64 V.a3]) hs1 1
  have y2 := cell_list (cs := [.int .u64 V.a0, .int .u64 V.a1, .int .u64 V.a2, .int .u64 V.a3]) hs1 2
  have y3 := cell_list (cs := [.int .u64 V.a0, .int .u64 V.a1, .int .u64 V.a2, .int .u64 V.a3]) hs1 3
  have e0 := cell_list hr1 0
  have e1 := cell_list hr1 1
  have e2 := cell_list hr1 2
  have e3 := cell_list hr1 3
  have ef := frozen_list hr1
  simp only [List.getElem?_cons_zero, List.getElem?_cons_succ] at y0 y1 y2 y3 e0 e1 e2 e3
  have hr2 := set_list (set_list (set_list (set_list hr1 0 (.int .u64 V.a0)) 1 (.int .u64 V.a1)) 2 (.int .u64 V.a2)) 3 (.int .u64 V.a3)
  have hb2 := (((hb1.setCell (p := ⟨w.heap.size + 1, 0, none⟩) (by show w.heap.size ≤ w.heap.size + 1; omega) (.int .u64 V.a0)).setCell (p := ⟨w.heap.size + 1, 1, none⟩) (by show w.heap.size ≤ w.heap.size + 1; omega) (.int .u64 V.a1)).setCell (p := ⟨w.heap.size + 1, 2, none⟩) (by show w.heap.size ≤ w.heap.size + 1; omega) (.int .u64 V.a2)).setCell (p := ⟨w.heap.size + 1, 3, none⟩) (by show w.heap.size ≤ w.heap.size + 1; omega) (.int .u64 V.a3)
  have HR2 := Lib.hid hr2
  have HB2 := Lib.hid hb2
  clear hr2 hb2 hr1 hs1 hb1
  go_wp2_with fail
  obtain ⟨W9, hW9⟩ : ∃ W, W = (((W1.setCell ⟨w.heap.size + 1, 0, none⟩ (.int .u64 V.a0)).setCell ⟨w.heap.size + 1, 1, none⟩ (.int .u64 V.a1)).setCell ⟨w.heap.size + 1, 2, none⟩ (.int .u64 V.a2)).setCell ⟨w.heap.size + 1, 3, none⟩ (.int .u64 V.a3) := ⟨_, rfl⟩
  have hr3 : W9.heap[w.heap.size + 1]? = some (.cells [.int .u64 V.a0, .int .u64 V.a1, .int .u64 V.a2, .int .u64 V.a3].toArray 69 (0, 0)) := by rw [hW9]; exact HR2.out
  have hb3 := HB2.out
  rw [← hW9] at hb3 ⊢
  clear hW9
  have z0 := cell_list hr3 0
  have z1 := cell_list hr3 1
  have z2 := cell_list hr3 2
  have z3 := cell_list hr3 3
  simp only [List.getElem?_cons_zero, List.getElem?_cons_succ] at z0 z1 z2 z3
  exact bodyPost_ret (v := .agg #[.int .u64 V.a0, .int .u64 V.a1, .int .u64 V.a2, .int .u64 V.a3]) (by simp [results, Tryd.results92, go_sem, z0, z1, z2, z3]) rfl ⟨rfl, hb3⟩
set_option maxRecDepth 100000 in
set_option maxHeartbeats 8000000 in
theorem refOf_any (a : Option Addr) (c : Nat) (L : List Nat) (w : World) (hP : BytesAt w a L.length L) (hn : L.length ≤ 1000) (hL : ∀ b ∈ L, b < 256) :
    Calls Tryd.prog 72 #[.slice a L.length c] w fun e w' => e = .returned (.agg #[.int .u64 (ofS L).a0, .int .u64 (ofS L).a1, .int .u64 (ofS L).a2, .int .u64 (ofS L).a3]) ∧ Below w.heap.size w w' := by
  obtain ⟨V, hV⟩ : ∃ V, ofS L = V := ⟨_, rfl⟩
  rw [hV]
  have HV := Lib.hid hV
  clear hV
  have HP := Lib.hid hP
  have hm0 : NM w ((w.alloc (.cells #[.int .u64 0, .int .u64 0, .int .u64 0, .int .u64 0] 69)).alloc (.cells #[.int .u64 0, .int .u64 0, .int .u64 0, .int .u64 0] 69)) S4.z :=
    ⟨(Below.heap_alloc _ _ _ (by simp)).trans (World.alloc_heap_new w _), by have h := World.alloc_heap_new (w.alloc (.cells #[.int .u64 0, .int .u64 0, .int .u64 0, .int .u64 0] 69)) (.cells #[.int .u64 0, .int .u64 0, .int .u64 0, .int .u64 0] 69); rw [show (w.alloc (.cells #[.int .u64 0, .int .u64 0, .int .u64 0, .int .u64 0] 69)).heap.size = w.heap.size + 1 from by simp] at h; exact h, ((Below.refl _ w).alloc (Nat.le_refl _) _).alloc (by simp) _⟩
  have HM0 := Lib.hid hm0
  clear hP hm0
  go_enter Tryd.func72, Tryd.ntmps72
  go_wp2_with fail
  go_loopg [4] L.length (fun g i W => ∃ k : Nat, i = .int .i64 k ∧ k + g = L.length ∧ NM w W (ofS (L.take k)))
  case atStart => exact ⟨0, rfl, by omega, HM0.out⟩
  case round =>
    clear HM0
    obtain ⟨k, rfl, hk, hm⟩ := hrel
    have HM := Lib.hid hm
    clear hm
    by_cases hlt : k < L.length
    · obtain ⟨g', rfl⟩ : ∃ g', gk = g' + 1 := ⟨gk - 1, by omega⟩
      obtain ⟨b, hx⟩ : ∃ x, L[k]? = some x := ⟨_, List.getElem?_eq_getElem hlt⟩
      have hb := hL b (List.mem_of_getElem? hx)
      have HX := Lib.hid hx
      obtain ⟨s, hs⟩ : ∃ s, ofS (L.take k) = s := ⟨_, rfl⟩
      rw [hs] at HM
      have HS := Lib.hid hs
      obtain ⟨ad, had, hbk, hc⟩ := Rd.get (show Rd wr 1 a L.length _ from Rd.below HP.out HM.out.bl) (by omega)
      have q0 := hc k (bv b) (by rw [List.getElem?_map, hx]; rfl)
      unfold bv at q0
      subst had
      have i0 : (0 : Int) ≤ (k : Int) := by omega
      have i1 : (k : Int) < (L.length : Int) := by omega
      have hwith := with_any s b hb
      obtain ⟨t, ht⟩ : ∃ t, addB s b = t := ⟨_, rfl⟩
      rw [ht] at hwith
      have HT := Lib.hid ht
      have HW := Lib.hid hwith
      have d0 := cell_list (cs := [.int .u64 s.a0, .int .u64 s.a1, .int .u64 s.a2, .int .u64 s.a3]) HM.out.s 0
      have d1 := cell_list (cs := [.int .u64 s.a0, .int .u64 s.a1, .int .u64 s.a2, .int .u64 s.a3]) HM.out.s 1
      have d2 := cell_list (cs := [.int .u64 s.a0, .int .u64 s.a1, .int .u64 s.a2, .int .u64 s.a3]) HM.out.s 2
      have d3 := cell_list (cs := [.int .u64 s.a0, .int .u64 s.a1, .int .u64 s.a2, .int .u64 s.a3]) HM.out.s 3
      simp only [List.getElem?_cons_zero, List.getElem?_cons_succ] at d0 d1 d2 d3
      clear hx hc hs ht hwith
      go_wp2_with fail
      go_region_with (go_at_call 92; refine (HW.out _).mono ?_; rintro e w4 ⟨rfl, h4⟩; have q4 := (h4.block (w.heap.size + 1) (lt_of_cells HM.out.s)).trans HM.out.s; have r4 := (h4.block w.heap.size (lt_of_cells HM.out.r)).trans HM.out.r; have b4 := HM.out.bl.drew.trans (h4.mono HM.out.bl.size); have e0 := cell_list (cs := [.int .u64 s.a0, .int .u64 s.a1, .int .u64 s.a2, .int .u64 s.a3]) q4 0; have e1 := cell_list (cs := [.int .u64 s.a0, .int .u64 s.a1, .int .u64 s.a2, .int .u64 s.a3]) q4 1; have e2 := cell_list (cs := [.int .u64 s.a0, .int .u64 s.a1, .int .u64 s.a2, .int .u64 s.a3]) q4 2; have e3 := cell_list (cs := [.int .u64 s.a0, .int .u64 s.a1, .int .u64 s.a2, .int .u64 s.a3]) q4 3; have ef := frozen_list q4; simp only [List.getElem?_cons_zero, List.getElem?_cons_succ] at e0 e1 e2 e3)
      all_goals
        have hm2 : NM w ((((w4.setCell ⟨w.heap.size + 1, 0, none⟩ (.int .u64 t.a0)).setCell ⟨w.heap.size + 1, 1, none⟩ (.int .u64 t.a1)).setCell ⟨w.heap.size + 1, 2, none⟩ (.int .u64 t.a2)).setCell ⟨w.heap.size + 1, 3, none⟩ (.int .u64 t.a3)) t := by
          have n1 : w.heap.size ≠ w.heap.size + 1 := by omega
          refine ⟨?_, set_list (set_list (set_list (set_list (cs := [.int .u64 s.a0, .int .u64 s.a1, .int .u64 s.a2, .int .u64 s.a3]) q4 0 (.int .u64 t.a0)) 1 (.int .u64 t.a1)) 2 (.int .u64 t.a2)) 3 (.int .u64 t.a3), ?_⟩
          · exact (Below.heap_setCell _ _ _ _ n1).trans ((Below.heap_setCell _ _ _ _ n1).trans ((Below.heap_setCell _ _ _ _ n1).trans ((Below.heap_setCell _ _ _ _ n1).trans r4)))
          · exact (((b4.setCell (p := ⟨w.heap.size + 1, 0, none⟩) (by show w.heap.size ≤ w.heap.size + 1; omega) _).setCell (p := ⟨w.heap.size + 1, 1, none⟩) (by show w.heap.size ≤ w.heap.size + 1; omega) _).setCell (p := ⟨w.heap.size + 1, 2, none⟩) (by show w.heap.size ≤ w.heap.size + 1; omega) _).setCell (p := ⟨w.heap.size + 1, 3, none⟩) (by show w.heap.size ≤ w.heap.size + 1; omega) _
        have HM2 := Lib.hid hm2
        clear hm2 q4 r4 b4 e0 e1 e2 e3 ef d0 d1 d2 d3 h4
        go_wp2_with fail
        go_roundg g'
        case measure => omega
        case rel =>
          refine ⟨k + 1, by go_num, by omega, ?_⟩
          have : ofS (L.take (k + 1)) = t := by
            unfold ofS
            rw [List.take_add_one, HX.out]
            simp only [Option.toList_some, List.foldl_append, List.foldl_cons, List.foldl_nil]
            rw [show List.foldl addB S4.z (L.take k) = s from HS.out]
            exact HT.out
          rw [this]
          exact HM2.out
    · obtain rfl : k = L.length := by omega
      rw [List.take_length, HV.out] at HM
      have hr := HM.out.r
      have d0 := cell_list (cs := [.int .u64 V.a0, .int .u64 V.a1, .int .u64 V.a2, .int .u64 V.a3]) HM.out.s 0
      have d1 := cell_list (cs := [.int .u64 V.a0, .int .u64 V.a1, .int .u64 V.a2, .int .u64 V.a3]) HM.out.s 1
      have d2 := cell_list (cs := [.int .u64 V.a0, .int .u64 V.a1, .int .u64 V.a2, .int .u64 V.a3]) HM.out.s 2
      have d3 := cell_list (cs := [.int .u64 V.a0, .int .u64 V.a1, .int .u64 V.a2, .int .u64 V.a3]) HM.out.s 3
      have e0 := cell_list hr 0
      have e1 := cell_list hr 1
      have e2 := cell_list hr 2
      have e3 := cell_list hr 3
      have ef := frozen_list hr
      simp only [List.getElem?_cons_zero, List.getElem?_cons_succ] at d0 d1 d2 d3 e0 e1 e2 e3
      have hr2 := set_list (set_list (set_list (set_list hr 0 (.int .u64 V.a0)) 1 (.int .u64 V.a1)) 2 (.int .u64 V.a2)) 3 (.int .u64 V.a3)
      have hb2 := (((HM.out.bl.setCell (p := ⟨w.heap.size, 0, none⟩) (Nat.le_refl _) (.int .u64 V.a0)).setCell (p := ⟨w.heap.size, 1, none⟩) (Nat.le_refl _) (.int .u64 V.a1)).setCell (p := ⟨w.heap.size, 2, none⟩) (Nat.le_refl _) (.int .u64 V.a2)).setCell (p := ⟨w.heap.size, 3, none⟩) (Nat.le_refl _) (.int .u64 V.a3)
      have HR2 := Lib.hid hr2
      have HB2 := Lib.hid hb2
      clear hr2 hb2 hr
      go_wp2_with fail
      obtain ⟨W9, hW9⟩ : ∃ W, W = (((wr.setCell ⟨w.heap.size, 0, none⟩ (.int .u64 V.a0)).setCell ⟨w.heap.size, 1, none⟩ (.int .u64 V.a1)).setCell ⟨w.heap.size, 2, none⟩ (.int .u64 V.a2)).setCell ⟨w.heap.size, 3, none⟩ (.int .u64 V.a3) := ⟨_, rfl⟩
      have hr3 : W9.heap[w.heap.size]? = some (.cells [.int .u64 V.a0, .int .u64 V.a1, .int .u64 V.a2, .int .u64 V.a3].toArray 69 (0, 0)) := by rw [hW9]; exact HR2.out
      have hb3 := HB2.out
      rw [← hW9] at hb3 ⊢
      clear hW9
      have z0 := cell_list hr3 0
      have z1 := cell_list hr3 1
      have z2 := cell_list hr3 2
      have z3 := cell_list hr3 3
      simp only [List.getElem?_cons_zero, List.getElem?_cons_succ] at z0 z1 z2 z3
      exact bodyPost_ret (v := .agg #[.int .u64 V.a0, .int .u64 V.a1, .int .u64 V.a2, .int .u64 V.a3]) (by simp [results, Tryd.results72, go_sem, z0, z1, z2, z3]) rfl ⟨rfl, hb3⟩
end Go.Proofs.YtllklgalghmnfaaDoor
namespace Go.Proofs.YtllklgalghmnfaaDoor
open Go.RowKit Str Mem Tp
set_option linter.unusedVariables false
set_option linter.unusedSimpArgs false
def stayL (k : Nat) : List Nat := (List.range k).filter staysN
theorem stayL_le (k : Nat) : (stayL k).length ≤ k := by
  have := List.length_filter_le staysN (List.range k)
  simpa [stayL] using this
theorem stayL_lt (k : Nat) (b : Nat) (h : b ∈ stayL k) : b < k := by
  have := (List.mem_filter.1 h).1
  simpa using this
theorem stayL_next (k : Nat) : stayL (k + 1) = stayL k ++ (if staysN k then [k] else []) := by
  unfold stayL
  rw [List.range_succ, List.filter_append]
  simp [List.filter_cons]
theorem bv_one (L : List Nat) : ∀ u ∈ L.map bv, u.oneCell' = true := by
  intro u hu
  obtain ⟨b, _, rfl⟩ := List.mem_map.1 hu
  rfl
theorem refStay_eq : ofS (stayL 256) = stayE := by kernel_rfl
set_option maxRecDepth 100000 in
set_option maxHeartbeats 8000000 in
theorem refStay_any (w : World) : Calls Tryd.prog 45 #[] w fun e w' => e = .returned (.agg #[.int .u64 stayE.a0, .int .u64 stayE.a1, .int .u64 stayE.a2, .int .u64 stayE.a3]) ∧ Below w.heap.size w w' := by
  obtain ⟨i0, hi, hz0, hz1, hz2⟩ := info_parts infoByte
  have hof := fun a c W h => refOf_any a c (stayL 256) W h (by have := stayL_le 256; omega) (fun b hb => stayL_lt 256 b hb)
  rw [refStay_eq] at hof
  obtain ⟨V, hV⟩ : ∃ V, stayE = V := ⟨_, rfl⟩
  rw [hV] at hof ⊢
  clear hV
  have HOF := Lib.hid hof
  clear hof
  have hr0 := World.alloc_heap_new w (.cells #[.int .u64 0, .int .u64 0, .int .u64 0, .int .u64 0] 69)
  have hb0 := (Below.refl _ w).alloc (Nat.le_refl _) (.cells #[.int .u64 0, .int .u64 0, .int .u64 0, .int .u64 0] 69)
  have HR0 := Lib.hid hr0
  have HB0 := Lib.hid hb0
  clear hr0 hb0
  go_enter Tryd.func45, Tryd.ntmps45
  go_wp2_with fail
  go_loopg [1, 2] 256 (fun g v i W => ∃ k : Nat, i = .int .i64 k ∧ k + g = 256 ∧ Owns W (w.heap.size + 1) 5 1 v (stayL k).length ((stayL k).map bv) ∧ Below w.heap.size w W ∧ W.heap[w.heap.size]? = some (.cells [.int .u64 0, .int .u64 0, .int .u64 0, .int .u64 0].toArray 69 (0, 0)))
  case atStart => exact ⟨0, rfl, rfl, Owns.nil _ _ _ _, HB0.out, HR0.out⟩
  case round =>
    clear HB0 HR0
    obtain ⟨k, rfl, hk, hO, hb, hr⟩ := hrel
    have HO := Lib.hid hO
    have HB := Lib.hid hb
    have HR := Lib.hid hr
    clear hO hb hr
    by_cases hlt : k < 256
    · obtain ⟨g', rfl⟩ : ∃ g', gk = g' + 1 := ⟨gk - 1, by omega⟩
      have hst := fun W => stays_any k hlt W
      have hwr : IntKind.u8.wrap (k : Int) = (k : Int) := IntWalk.u8_in _ (by omega)
      have hnx := stayL_next k
      have hle := stayL_le k
      obtain ⟨sk, hsk⟩ : ∃ s, staysN k = s := ⟨_, rfl⟩
      rw [hsk] at hst hnx
      clear hsk
      cases sk with
      | true =>
        have HN := Lib.hid hnx
        clear hnx
        have hO1 := HO.out.alloc (.cells #[.int .u8 (k : Int)] 5)
        have hsz := HB.out.size
        have hltr := lt_of_cells HR.out
        have HO1 := Lib.hid hO1
        clear hO1
        go_wp2_with (first
          | (go_at_call 71; refine (hst _).mono ?_; rintro e w1 ⟨rfl, rfl⟩)
          | (at_builtin; go_must (refine wpList_append_owns _ rfl _ _ 97 rfl (w.heap.size + 1) 5 i0 (.int .u8 0) 1 1 Tryd.underlying97 hi hz0 hz1 hz2 rfl (by decide) _ (stayL k).length ((stayL k).map bv) rfl HO1.out (some ⟨w1.heap.size, 0, none⟩) 1 1 [bv k] rfl (Rd.one _ _ _) (bv_one [k]) (by unfold maxLen; omega) (by omega) (by simp; omega) ?_); intro v' w4 hown' hgrow))
        go_roundg g'
        case measure => omega
        case rel =>
          refine ⟨k + 1, by go_num, by omega, ?_, ?_, ?_⟩
          · rw [HN.out]
            simpa [bv] using hown'
          · exact (HB.out.alloc hsz _).grown hgrow (by simp; omega) (fun j hj => by have := (HO1.out.lt j hj).1; omega)
          · exact (hgrow.block _ (by simp; omega) (fun e => by have := (HO1.out.lt _ e.symm).1; omega)).trans ((Below.heap_alloc _ _ _ hltr).trans HR.out)
      | false =>
        go_wp2_with (go_at_call 71; refine (hst _).mono ?_; rintro e w1 ⟨rfl, rfl⟩)
        go_roundg g'
        case measure => omega
        case rel =>
          refine ⟨k + 1, by go_num, by omega, ?_, HB.out, HR.out⟩
          rw [hnx]
          simpa using HO.out
    · obtain rfl : k = 256 := by omega
      obtain ⟨a, c, rfl, hLc, hcm, hrd⟩ := HO.out.form
      have hrd2 : BytesAt wr a (stayL 256).length (stayL 256) := hrd
      have HRD := Lib.hid hrd2
      clear hrd hrd2 HO
      go_wp2_with fail
      refine (HOF.out a c _ HRD.out).mono ?_
      rintro e w1 ⟨rfl, h1⟩
      have hr1 := (h1.block _ (lt_of_cells HR.out)).trans HR.out
      have hb1 := HB.out.trans (h1.mono HB.out.size)
      have e0 := cell_list hr1 0
      have e1 := cell_list hr1 1
      have e2 := cell_list hr1 2
      have e3 := cell_list hr1 3
      have ef := frozen_list hr1
      simp only [List.getElem?_cons_zero, List.getElem?_cons_succ] at e0 e1 e2 e3
      have hr2 := set_list (set_list (set_list (set_list hr1 0 (.int .u64 V.a0)) 1 (.int .u64 V.a1)) 2 (.int .u64 V.a2)) 3 (.int .u64 V.a3)
      have hb2 := (((hb1.setCell (p := ⟨w.heap.size, 0, none⟩) (Nat.le_refl _) (.int .u64 V.a0)).setCell (p := ⟨w.heap.size, 1, none⟩) (Nat.le_refl _) (.int .u64 V.a1)).setCell (p := ⟨w.heap.size, 2, none⟩) (Nat.le_refl _) (.int .u64 V.a2)).setCell (p := ⟨w.heap.size, 3, none⟩) (Nat.le_refl _) (.int .u64 V.a3)
      have HR2 := Lib.hid hr2
      have HB2 := Lib.hid hb2
      clear hr2 hb2 hr1 hb1 h1 HB HR HRD
      go_wp2_with fail
      obtain ⟨W9, hW9⟩ : ∃ W, W = (((w1.setCell ⟨w.heap.size, 0, none⟩ (.int .u64 V.a0)).setCell ⟨w.heap.size, 1, none⟩ (.int .u64 V.a1)).setCell ⟨w.heap.size, 2, none⟩ (.int .u64 V.a2)).setCell ⟨w.heap.size, 3, none⟩ (.int .u64 V.a3) := ⟨_, rfl⟩
      have hr3 : W9.heap[w.heap.size]? = some (.cells [.int .u64 V.a0, .int .u64 V.a1, .int .u64 V.a2, .int .u64 V.a3].toArray 69 (0, 0)) := by rw [hW9]; exact HR2.out
      have hb3 := HB2.out
      rw [← hW9] at hb3 ⊢
      clear hW9
      have z0 := cell_list hr3 0
      have z1 := cell_list hr3 1
      have z2 := cell_list hr3 2
      have z3 := cell_list hr3 3
      simp only [List.getElem?_cons_zero, List.getElem?_cons_succ] at z0 z1 z2 z3
      exact bodyPost_ret (v := .agg #[.int .u64 V.a0, .int .u64 V.a1, .int .u64 V.a2, .int .u64 V.a3]) (by simp [results, Tryd.results45, go_sem, z0, z1, z2, z3]) rfl ⟨rfl, hb3⟩
end Go.Proofs.YtllklgalghmnfaaDoor
