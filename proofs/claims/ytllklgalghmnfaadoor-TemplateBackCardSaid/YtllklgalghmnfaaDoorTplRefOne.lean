/- The reference's one: one piece read. -/
import Derived.Test.YtllklgalghmnfaaDoorTplParse
namespace Go.Proofs.YtllklgalghmnfaaDoor
open Go.RowKit Str Mem Tp
set_option linter.unusedVariables false
set_option linter.unusedSimpArgs false

def set5 (W : World) (g : Nat) (x0 x1 x2 x3 x4 : Value) : World := ((((W.setCell ⟨g, 0, none⟩ x0).setCell ⟨g, 1, none⟩ x1).setCell ⟨g, 2, none⟩ x2).setCell ⟨g, 3, none⟩ x3).setCell ⟨g, 4, none⟩ x4
theorem set5_row {W : World} {g Ty : Nat} {o0 o1 o2 o3 o4 : Value} (h : W.heap[g]? = some (.cells [o0, o1, o2, o3, o4].toArray Ty (0, 0))) (x0 x1 x2 x3 x4 : Value) : (set5 W g x0 x1 x2 x3 x4).heap[g]? = some (.cells [x0, x1, x2, x3, x4].toArray Ty (0, 0)) :=
  set_list (set_list (set_list (set_list (set_list h 0 x0) 1 x1) 2 x2) 3 x3) 4 x4
theorem set5_below {W a : World} {B g : Nat} (h : Below B a W) (hg : B ≤ g) (x0 x1 x2 x3 x4 : Value) : Below B a (set5 W g x0 x1 x2 x3 x4) :=
  ((((h.setCell (p := ⟨g, 0, none⟩) hg x0).setCell (p := ⟨g, 1, none⟩) hg x1).setCell (p := ⟨g, 2, none⟩) hg x2).setCell (p := ⟨g, 3, none⟩) hg x3).setCell (p := ⟨g, 4, none⟩) hg x4
/-- What the reference's one returns. -/
def oneV (r : Tp.Bs) (at' : Nat) : Value := match rd r with
  | .ok p n => .tuple #[.agg #[.int .i64 p.k, .string (bs p.t), .int .i64 p.n, .int .i64 at', .bool (n == 1)], .int .i64 n, .int .i64 0]
  | .bad e => .tuple #[.agg #[.int .i64 0, .string (bs []), .int .i64 0, .int .i64 0, .bool false], .int .i64 0, .int .i64 e]
theorem refDigit_any (x : UInt8) (w : World) : Calls Tryd.prog 95 #[.int .u8 (x.toNat : Int)] w fun e w' => e = .returned (.bool (dig x)) ∧ w' = w := by
  by_cases h1 : 48 ≤ x.toNat
  · have q1 : (48 : Int) ≤ (x.toNat : Int) := by omega
    by_cases h2 : x.toNat ≤ 57
    · have q2 : (x.toNat : Int) ≤ 57 := by omega
      have hr : dig x = true := by unfold dig; simp [h1, h2]
      rw [hr]
      clear hr
      go_enter Tryd.func95, Tryd.ntmps95
      go_wp2_with fail
      go_ret
      exact ⟨rfl, rfl⟩
    · have q2 : ¬ (x.toNat : Int) ≤ 57 := by omega
      have hr : dig x = false := by unfold dig; simp [h1, h2]
      rw [hr]
      clear hr
      go_enter Tryd.func95, Tryd.ntmps95
      go_wp2_with fail
      go_ret
      exact ⟨rfl, rfl⟩
  · have q1 : ¬ (48 : Int) ≤ (x.toNat : Int) := by omega
    have hr : dig x = false := by unfold dig; simp [h1]
    rw [hr]
    clear hr
    go_enter Tryd.func95, Tryd.ntmps95
    go_wp2_with fail
    go_ret
    exact ⟨rfl, rfl⟩
theorem refNames_any (w : World) : Calls Tryd.prog 84 #[] w fun e w' => e = .returned (.slice (some ⟨w.heap.size, 0, none⟩) 4 4) ∧ w' = w.alloc (.cells #[.string (bs [80, 65, 84, 72]), .string (bs [81, 85, 69, 82, 89]), .string (bs [72, 79, 83, 84]), .string (bs [77, 69, 84, 72, 79, 68])] 9) := by
  go_enter Tryd.func84, Tryd.ntmps84
  go_wp2_with fail
  go_ret
  exact ⟨rfl, rfl⟩
theorem nameTo_at : ∀ (l : Tp.Bs), (∀ nm, nameTo l = some nm → l[nm.length]? = some 125 ∧ (∀ i, i < nm.length → l[i]? ≠ some 125) ∧ l.take nm.length = nm) ∧ (nameTo l = none → ∀ i : Nat, l[i]? ≠ some 125)
  | [] => ⟨by simp [nameTo], by simp⟩
  | b :: l => by
    obtain ⟨h1, h2⟩ := nameTo_at l
    unfold nameTo
    by_cases hb : b = 125
    · rw [if_pos hb]
      refine ⟨fun nm h => ?_, by simp⟩
      cases h
      exact ⟨by simp [hb], by simp, by simp⟩
    · rw [if_neg hb]
      refine ⟨fun nm h => ?_, fun h => ?_⟩
      · obtain ⟨x, hx, rfl⟩ := Option.map_eq_some_iff.1 h
        obtain ⟨g1, g2, g3⟩ := h1 x hx
        refine ⟨by simpa using g1, fun i hi => ?_, by simp [g3]⟩
        rcases i with _ | i
        · simpa using hb
        · simpa using g2 i (by simpa using hi)
      · rw [Option.map_eq_none_iff] at h
        intro i
        rcases i with _ | i
        · simpa using hb
        · simpa using h2 h i

set_option maxRecDepth 100000 in
set_option maxHeartbeats 4000000 in
theorem refOne_any (s : Tp.Bs) (at' : Nat) (b : UInt8) (r : Tp.Bs) (hs : s.length ≤ 100000) (hdr : s.drop at' = b :: r) (w : World) :
    Calls Tryd.prog 77 #[.string (bs s), .int .i64 at'] w fun e w' => e = .returned (oneV (b :: r) at') ∧ Below w.heap.size w w' := by
  have hrl : (b :: r).length ≤ s.length := by rw [← hdr]; simp
  have hat : at' ≤ s.length := by
    have := congrArg List.length hdr
    simp only [List.length_drop, List.length_cons] at this
    omega
  obtain ⟨V, hV⟩ : ∃ V, oneV (b :: r) at' = V := ⟨_, rfl⟩
  rw [hV]
  obtain ⟨S, hS⟩ : ∃ S, S = bs s := ⟨_, rfl⟩
  obtain ⟨B, hB⟩ : ∃ B, B = bs (b :: r) := ⟨_, rfl⟩
  rw [← hS]
  have hex : S.extract at' S.size = B := eq_of_data (by rw [extract_from, hS, hB, data_bs, data_bs, hdr])
  have hSz : S.size = s.length := by rw [hS, size_bs]
  have q0 : (0 : Int) ≤ (at' : Int) := by omega
  have q1 : (at' : Int) ≤ (S.size : Int) := by omega
  have hBz : B.size = r.length + 1 := by rw [hB, size_bs]; simp
  have hB6 : B.size ≤ 100000 := by simp at hrl; omega
  have hB0 : ∀ h : 0 < B.size, B[0] = b := fun h => by subst hB; rw [get_data _ 0 h]; simp [data_bs]
  have hBi : ∀ i (h : i < B.size) x, (b :: r)[i]? = some x → B[i] = x := fun i h x hx => by
    subst hB
    rw [get_data _ i h]
    have := (List.getElem?_eq_some_iff.1 hx).2
    simpa [data_bs] using this
  have hxt : ∀ i j, B.extract i j = bs (((b :: r).drop i).take (j - i)) := fun i j => eq_of_data (by rw [extract_data, hB, data_bs, data_bs])
  have h0 : 0 < B.size := by omega
  have z92 : ((B[0].toNat : Int) == 92) = decide (b = 92) := by rw [hB0 h0]; exact byte_is (c := 92) (by omega)
  have z36 : ((B[0].toNat : Int) == 36) = decide (b = 36) := by rw [hB0 h0]; exact byte_is (c := 36) (by omega)
  have z37 : ((B[0].toNat : Int) == 37) = decide (b = 37) := by rw [hB0 h0]; exact byte_is (c := 37) (by omega)
  have HV := Lib.hid hV
  have HXT := Lib.hid hxt
  have HBI := Lib.hid hBi
  have HBZ := Lib.hid hBz
  clear hV hxt hBi hBz hB0 hB hS hSz hdr hrl hat hs
  by_cases h1 : b = 92
  · subst h1
    simp only [decide_true] at z92
    rcases r with _ | ⟨x, r⟩
    · have hsz : (B.size : Int) < 2 := by have := HBZ.out; simp at this; omega
      have HR := Lib.hid (show rd [92] = .bad 3 from rfl)
      go_enter Tryd.func77, Tryd.ntmps77
      go_wp2_with fail
      obtain ⟨W, hW⟩ : ∃ W, W = w.alloc (.cells #[.int .i64 0, .string ⟨#[]⟩, .int .i64 0, .int .i64 0, .bool false] 85) := ⟨_, rfl⟩
      have hr := World.alloc_heap_new w (.cells #[.int .i64 0, .string ⟨#[]⟩, .int .i64 0, .int .i64 0, .bool false] 85)
      have hbw := (Below.refl _ w).alloc (Nat.le_refl _) (.cells #[.int .i64 0, .string ⟨#[]⟩, .int .i64 0, .int .i64 0, .bool false] 85)
      rw [← hW] at hr hbw ⊢
      clear hW
      have y0 := cell_list (cs := [.int .i64 0, .string ⟨#[]⟩, .int .i64 0, .int .i64 0, .bool false]) hr 0
      have y1 := cell_list (cs := [.int .i64 0, .string ⟨#[]⟩, .int .i64 0, .int .i64 0, .bool false]) hr 1
      have y2 := cell_list (cs := [.int .i64 0, .string ⟨#[]⟩, .int .i64 0, .int .i64 0, .bool false]) hr 2
      have y3 := cell_list (cs := [.int .i64 0, .string ⟨#[]⟩, .int .i64 0, .int .i64 0, .bool false]) hr 3
      have y4 := cell_list (cs := [.int .i64 0, .string ⟨#[]⟩, .int .i64 0, .int .i64 0, .bool false]) hr 4
      simp only [List.getElem?_cons_zero, List.getElem?_cons_succ] at y0 y1 y2 y3 y4
      refine bodyPost_ret (v := .tuple #[.agg #[.int .i64 0, .string ⟨#[]⟩, .int .i64 0, .int .i64 0, .bool false], .int .i64 0, .int .i64 3]) (by simp [results, Tryd.results77, go_sem, y0, y1, y2, y3, y4]) rfl ⟨?_, hbw⟩
      rw [← HV.out]
      unfold oneV
      rw [HR.out]
      all_goals rfl
    · have hsz : ¬ (B.size : Int) < 2 := by have := HBZ.out; simp at this; omega
      have hsz2 : (2 : Int) ≤ (B.size : Int) := by omega
      have HR := Lib.hid (show rd (92 :: x :: r) = .ok ⟨1, [x], 0⟩ 2 from rfl)
      go_enter Tryd.func77, Tryd.ntmps77
      go_wp2_with fail
      rw [show B.extract 1 2 = bs [x] from HXT.out 1 2]
      obtain ⟨W, hW⟩ : ∃ W, W = w.alloc (.cells #[.int .i64 1, .string (bs [x]), .int .i64 0, .int .i64 (at' : Int), .bool false] 85) := ⟨_, rfl⟩
      have hr := World.alloc_heap_new w (.cells #[.int .i64 1, .string (bs [x]), .int .i64 0, .int .i64 (at' : Int), .bool false] 85)
      have hbw := (Below.refl _ w).alloc (Nat.le_refl _) (.cells #[.int .i64 1, .string (bs [x]), .int .i64 0, .int .i64 (at' : Int), .bool false] 85)
      rw [← hW] at hr hbw ⊢
      clear hW
      have y0 := cell_list (cs := [.int .i64 1, .string (bs [x]), .int .i64 0, .int .i64 (at' : Int), .bool false]) hr 0
      have y1 := cell_list (cs := [.int .i64 1, .string (bs [x]), .int .i64 0, .int .i64 (at' : Int), .bool false]) hr 1
      have y2 := cell_list (cs := [.int .i64 1, .string (bs [x]), .int .i64 0, .int .i64 (at' : Int), .bool false]) hr 2
      have y3 := cell_list (cs := [.int .i64 1, .string (bs [x]), .int .i64 0, .int .i64 (at' : Int), .bool false]) hr 3
      have y4 := cell_list (cs := [.int .i64 1, .string (bs [x]), .int .i64 0, .int .i64 (at' : Int), .bool false]) hr 4
      simp only [List.getElem?_cons_zero, List.getElem?_cons_succ] at y0 y1 y2 y3 y4
      refine bodyPost_ret (v := .tuple #[.agg #[.int .i64 1, .string (bs [x]), .int .i64 0, .int .i64 (at' : Int), .bool false], .int .i64 2, .int .i64 0]) (by simp [results, Tryd.results77, go_sem, y0, y1, y2, y3, y4]) rfl ⟨?_, hbw⟩
      rw [← HV.out]
      unfold oneV
      rw [HR.out]
      all_goals rfl
  by_cases h2 : b = 36 ∨ b = 37
  · rw [decide_eq_false h1] at z92
    clear h1
    rcases h2 with rfl | rfl
    · have e37 : decide ((36 : UInt8) = 37) = false := rfl
      rw [e37] at z37
      simp only [decide_true] at z36
      clear e37
      rcases r with _ | ⟨x, r⟩
      · have hsz : ¬ (1 : Int) < (B.size : Int) := by have := HBZ.out; simp at this; omega
        have HR := Lib.hid (show rd [36] = .bad 3 from rfl)
        go_enter Tryd.func77, Tryd.ntmps77
        go_wp2_with fail
        obtain ⟨W, hW⟩ : ∃ W, W = w.alloc (.cells #[.int .i64 0, .string ⟨#[]⟩, .int .i64 0, .int .i64 0, .bool false] 85) := ⟨_, rfl⟩
        have hr := World.alloc_heap_new w (.cells #[.int .i64 0, .string ⟨#[]⟩, .int .i64 0, .int .i64 0, .bool false] 85)
        have hbw := (Below.refl _ w).alloc (Nat.le_refl _) (.cells #[.int .i64 0, .string ⟨#[]⟩, .int .i64 0, .int .i64 0, .bool false] 85)
        rw [← hW] at hr hbw ⊢
        clear hW
        have y0 := cell_list (cs := [.int .i64 0, .string ⟨#[]⟩, .int .i64 0, .int .i64 0, .bool false]) hr 0
        have y1 := cell_list (cs := [.int .i64 0, .string ⟨#[]⟩, .int .i64 0, .int .i64 0, .bool false]) hr 1
        have y2 := cell_list (cs := [.int .i64 0, .string ⟨#[]⟩, .int .i64 0, .int .i64 0, .bool false]) hr 2
        have y3 := cell_list (cs := [.int .i64 0, .string ⟨#[]⟩, .int .i64 0, .int .i64 0, .bool false]) hr 3
        have y4 := cell_list (cs := [.int .i64 0, .string ⟨#[]⟩, .int .i64 0, .int .i64 0, .bool false]) hr 4
        simp only [List.getElem?_cons_zero, List.getElem?_cons_succ] at y0 y1 y2 y3 y4
        refine bodyPost_ret (v := .tuple #[.agg #[.int .i64 0, .string ⟨#[]⟩, .int .i64 0, .int .i64 0, .bool false], .int .i64 0, .int .i64 3]) (by simp [results, Tryd.results77, go_sem, y0, y1, y2, y3, y4]) rfl ⟨?_, hbw⟩
        rw [← HV.out]
        unfold oneV
        rw [HR.out]
        all_goals rfl
      · have hsz : (1 : Int) < (B.size : Int) := by have := HBZ.out; simp at this; omega
        have hsz1 : 1 < B.size := by omega
        have hx : (B[1].toNat : Int) = (x.toNat : Int) := by rw [HBI.out 1 hsz1 x rfl]
        have hdg := fun W => refDigit_any x W
        rw [← hx] at hdg
        rcases hd : dig x with _ | _
        · rw [hd] at hdg
          have hrd : rd (36 :: x :: r) = .bad 3 := by
            show (if dig x = true then _ else _) = _
            rw [if_neg (by rw [hd]; simp)]
          have HR := Lib.hid hrd
          clear hd hrd hx
          go_enter Tryd.func77, Tryd.ntmps77
          go_wp2_with (go_at_call 95; refine (hdg _).mono ?_; rintro e w1 ⟨rfl, rfl⟩)
          obtain ⟨W, hW⟩ : ∃ W, W = w.alloc (.cells #[.int .i64 0, .string ⟨#[]⟩, .int .i64 0, .int .i64 0, .bool false] 85) := ⟨_, rfl⟩
          have hr := World.alloc_heap_new w (.cells #[.int .i64 0, .string ⟨#[]⟩, .int .i64 0, .int .i64 0, .bool false] 85)
          have hbw := (Below.refl _ w).alloc (Nat.le_refl _) (.cells #[.int .i64 0, .string ⟨#[]⟩, .int .i64 0, .int .i64 0, .bool false] 85)
          rw [← hW] at hr hbw ⊢
          clear hW
          have y0 := cell_list (cs := [.int .i64 0, .string ⟨#[]⟩, .int .i64 0, .int .i64 0, .bool false]) hr 0
          have y1 := cell_list (cs := [.int .i64 0, .string ⟨#[]⟩, .int .i64 0, .int .i64 0, .bool false]) hr 1
          have y2 := cell_list (cs := [.int .i64 0, .string ⟨#[]⟩, .int .i64 0, .int .i64 0, .bool false]) hr 2
          have y3 := cell_list (cs := [.int .i64 0, .string ⟨#[]⟩, .int .i64 0, .int .i64 0, .bool false]) hr 3
          have y4 := cell_list (cs := [.int .i64 0, .string ⟨#[]⟩, .int .i64 0, .int .i64 0, .bool false]) hr 4
          simp only [List.getElem?_cons_zero, List.getElem?_cons_succ] at y0 y1 y2 y3 y4
          refine bodyPost_ret (v := .tuple #[.agg #[.int .i64 0, .string ⟨#[]⟩, .int .i64 0, .int .i64 0, .bool false], .int .i64 0, .int .i64 3]) (by simp [results, Tryd.results77, go_sem, y0, y1, y2, y3, y4]) rfl ⟨?_, hbw⟩
          rw [← HV.out]
          unfold oneV
          rw [HR.out]
          all_goals rfl
        · rw [hd] at hdg
          have hrd : rd (36 :: x :: r) = .ok ⟨2, [], (x.toNat : Int) - 48⟩ 2 := by
            show (if dig x = true then _ else _) = _
            rw [if_pos hd]
          have hd2 : 48 ≤ x.toNat ∧ x.toNat ≤ 57 := by unfold dig at hd; simpa using hd
          have u1 : (48 : Int) ≤ (B[1].toNat : Int) := by omega
          have u2 : (B[1].toNat : Int) ≤ 57 := by omega
          have HXX := Lib.hid hx
          have HR := Lib.hid hrd
          clear hd hrd hx hd2
          go_enter Tryd.func77, Tryd.ntmps77
          go_wp2_with (go_at_call 95; refine (hdg _).mono ?_; rintro e w1 ⟨rfl, rfl⟩)
          rw [HXX.out]
          obtain ⟨W, hW⟩ : ∃ W, W = w.alloc (.cells #[.int .i64 2, .string ⟨#[]⟩, .int .i64 ((x.toNat : Int) - 48), .int .i64 (at' : Int), .bool false] 85) := ⟨_, rfl⟩
          have hr := World.alloc_heap_new w (.cells #[.int .i64 2, .string ⟨#[]⟩, .int .i64 ((x.toNat : Int) - 48), .int .i64 (at' : Int), .bool false] 85)
          have hbw := (Below.refl _ w).alloc (Nat.le_refl _) (.cells #[.int .i64 2, .string ⟨#[]⟩, .int .i64 ((x.toNat : Int) - 48), .int .i64 (at' : Int), .bool false] 85)
          rw [← hW] at hr hbw ⊢
          clear hW
          have y0 := cell_list (cs := [.int .i64 2, .string ⟨#[]⟩, .int .i64 ((x.toNat : Int) - 48), .int .i64 (at' : Int), .bool false]) hr 0
          have y1 := cell_list (cs := [.int .i64 2, .string ⟨#[]⟩, .int .i64 ((x.toNat : Int) - 48), .int .i64 (at' : Int), .bool false]) hr 1
          have y2 := cell_list (cs := [.int .i64 2, .string ⟨#[]⟩, .int .i64 ((x.toNat : Int) - 48), .int .i64 (at' : Int), .bool false]) hr 2
          have y3 := cell_list (cs := [.int .i64 2, .string ⟨#[]⟩, .int .i64 ((x.toNat : Int) - 48), .int .i64 (at' : Int), .bool false]) hr 3
          have y4 := cell_list (cs := [.int .i64 2, .string ⟨#[]⟩, .int .i64 ((x.toNat : Int) - 48), .int .i64 (at' : Int), .bool false]) hr 4
          simp only [List.getElem?_cons_zero, List.getElem?_cons_succ] at y0 y1 y2 y3 y4
          refine bodyPost_ret (v := .tuple #[.agg #[.int .i64 2, .string ⟨#[]⟩, .int .i64 ((x.toNat : Int) - 48), .int .i64 (at' : Int), .bool false], .int .i64 2, .int .i64 0]) (by simp [results, Tryd.results77, go_sem, y0, y1, y2, y3, y4]) rfl ⟨?_, hbw⟩
          rw [← HV.out]
          unfold oneV
          rw [HR.out]
          all_goals rfl
    · have e36 : decide ((37 : UInt8) = 36) = false := rfl
      rw [e36] at z36
      simp only [decide_true] at z37
      clear e36
      rcases r with _ | ⟨x, r⟩
      · have hsz : ¬ (1 : Int) < (B.size : Int) := by have := HBZ.out; simp at this; omega
        have hsz2 : (B.size : Int) < 2 := by omega
        have HR := Lib.hid (show rd [37] = .bad 3 from rfl)
        go_enter Tryd.func77, Tryd.ntmps77
        go_wp2_with fail
        obtain ⟨W, hW⟩ : ∃ W, W = w.alloc (.cells #[.int .i64 0, .string ⟨#[]⟩, .int .i64 0, .int .i64 0, .bool false] 85) := ⟨_, rfl⟩
        have hr := World.alloc_heap_new w (.cells #[.int .i64 0, .string ⟨#[]⟩, .int .i64 0, .int .i64 0, .bool false] 85)
        have hbw := (Below.refl _ w).alloc (Nat.le_refl _) (.cells #[.int .i64 0, .string ⟨#[]⟩, .int .i64 0, .int .i64 0, .bool false] 85)
        rw [← hW] at hr hbw ⊢
        clear hW
        have y0 := cell_list (cs := [.int .i64 0, .string ⟨#[]⟩, .int .i64 0, .int .i64 0, .bool false]) hr 0
        have y1 := cell_list (cs := [.int .i64 0, .string ⟨#[]⟩, .int .i64 0, .int .i64 0, .bool false]) hr 1
        have y2 := cell_list (cs := [.int .i64 0, .string ⟨#[]⟩, .int .i64 0, .int .i64 0, .bool false]) hr 2
        have y3 := cell_list (cs := [.int .i64 0, .string ⟨#[]⟩, .int .i64 0, .int .i64 0, .bool false]) hr 3
        have y4 := cell_list (cs := [.int .i64 0, .string ⟨#[]⟩, .int .i64 0, .int .i64 0, .bool false]) hr 4
        simp only [List.getElem?_cons_zero, List.getElem?_cons_succ] at y0 y1 y2 y3 y4
        refine bodyPost_ret (v := .tuple #[.agg #[.int .i64 0, .string ⟨#[]⟩, .int .i64 0, .int .i64 0, .bool false], .int .i64 0, .int .i64 3]) (by simp [results, Tryd.results77, go_sem, y0, y1, y2, y3, y4]) rfl ⟨?_, hbw⟩
        rw [← HV.out]
        unfold oneV
        rw [HR.out]
        all_goals rfl
      · have hsz : (1 : Int) < (B.size : Int) := by have := HBZ.out; simp at this; omega
        have hsz1 : 1 < B.size := by omega
        have hsz2 : ¬ (B.size : Int) < 2 := by omega
        have hx : (B[1].toNat : Int) = (x.toNat : Int) := by rw [HBI.out 1 hsz1 x rfl]
        have hdg := fun W => refDigit_any x W
        rw [← hx] at hdg
        rcases hd : dig x with _ | _
        · rw [hd] at hdg
          by_cases h123 : x = 123
          · subst h123
            have u3 : ((B[1].toNat : Int) != 123) = false := by rw [hx]; rfl
            have hrd : rd (37 :: 123 :: r) = rdVar r := rfl
            have hBi : ∀ i (h : i + 2 < B.size) y, r[i]? = some y → B[i + 2] = y := fun i h y hy => HBI.out (i + 2) h y (by simpa using hy)
            have HB2 := Lib.hid hBi
            have hrz : B.size = r.length + 2 := by have := HBZ.out; simp at this; omega
            have hex2 : ∀ n, B.extract 2 (n + 2) = bs (r.take n) := fun n => by rw [HXT.out]; simp
            have HX2 := Lib.hid hex2
            obtain ⟨hA, hN⟩ := nameTo_at r
            unfold rdVar at hrd
            have HRZ := Lib.hid hrz
            clear hd hx hBi hex2 hrz
            rcases hn : nameTo r with _ | nm
            · rw [hn] at hrd
              dsimp only at hrd
              have HR := Lib.hid hrd
              have HNO := Lib.hid (hN hn)
              clear hA hN hn hrd
              go_enter Tryd.func77, Tryd.ntmps77
              go_wp2_with (go_at_call 95; refine (hdg _).mono ?_; rintro e w1 ⟨rfl, rfl⟩)
              have hr0 := World.alloc_heap_new w (.cells #[.int .i64 0, .string ⟨#[]⟩, .int .i64 0, .int .i64 0, .bool false] 85)
              have hb0 := (Below.refl _ w).alloc (Nat.le_refl _) (.cells #[.int .i64 0, .string ⟨#[]⟩, .int .i64 0, .int .i64 0, .bool false] 85)
              obtain ⟨W0, hW0⟩ : ∃ W0, W0 = w.alloc (.cells #[.int .i64 0, .string ⟨#[]⟩, .int .i64 0, .int .i64 0, .bool false] 85) := ⟨_, rfl⟩
              rw [← hW0] at hr0 hb0 ⊢
              clear hW0
              have c0 := cell_list (cs := [.int .i64 0, .string ⟨#[]⟩, .int .i64 0, .int .i64 0, .bool false]) hr0 0
              have c1 := cell_list (cs := [.int .i64 0, .string ⟨#[]⟩, .int .i64 0, .int .i64 0, .bool false]) hr0 1
              have c2 := cell_list (cs := [.int .i64 0, .string ⟨#[]⟩, .int .i64 0, .int .i64 0, .bool false]) hr0 2
              have c3 := cell_list (cs := [.int .i64 0, .string ⟨#[]⟩, .int .i64 0, .int .i64 0, .bool false]) hr0 3
              have c4 := cell_list (cs := [.int .i64 0, .string ⟨#[]⟩, .int .i64 0, .int .i64 0, .bool false]) hr0 4
              have cf := frozen_list (cs := [.int .i64 0, .string ⟨#[]⟩, .int .i64 0, .int .i64 0, .bool false]) hr0
              simp only [List.getElem?_cons_zero, List.getElem?_cons_succ] at c0 c1 c2 c3 c4
              go_loopg [9] r.length (fun g j W => ∃ i : Nat, j = .int .i64 i ∧ 2 ≤ i ∧ i + g = B.size ∧ W = W0)
              case atStart => exact ⟨2, rfl, by omega, by have := HRZ.out; omega, rfl⟩
              case round =>
                obtain ⟨i, rfl, hi2, hig, rfl⟩ := hrel
                by_cases hi : i < B.size
                · obtain ⟨g', rfl⟩ : ∃ g', gk = g' + 1 := ⟨gk - 1, by omega⟩
                  have hiB : (i : Int) < (B.size : Int) := by omega
                  have u4 : ((B[i].toNat : Int) != 125) = true := by
                    obtain ⟨y, hy⟩ : ∃ y, r[i - 2]? = some y := ⟨_, List.getElem?_eq_getElem (by have := HRZ.out; omega)⟩
                    have e := HB2.out (i - 2) (by omega) y hy
                    have e2 : B[i] = y := by
                      have : i - 2 + 2 = i := by omega
                      simp only [this] at e
                      exact e
                    have hne : y ≠ 125 := fun h => HNO.out (i - 2) (by rw [hy, h])
                    have h := byte_is (x := y) (c := 125) (by omega)
                    have h2 : ((y.toNat : Int) == 125) = false := h.trans (decide_eq_false hne)
                    rw [e2]
                    simp only [bne, h2, Bool.not_false]
                  go_wp2_with fail
                  go_roundg g'
                  case measure => omega
                  case rel => exact ⟨i + 1, by go_num, by omega, by omega, rfl⟩
                · obtain rfl : i = B.size := by omega
                  go_wp2_with fail
                  obtain ⟨W, hW⟩ : ∃ W, W = set5 (wr) w.heap.size (.int .i64 0) (.string ⟨#[]⟩) (.int .i64 0) (.int .i64 0) (.bool false) := ⟨_, rfl⟩
                  have hr := set5_row (hr0) (.int .i64 0) (.string ⟨#[]⟩) (.int .i64 0) (.int .i64 0) (.bool false)
                  have hbw := set5_below (hb0) (Nat.le_refl _) (.int .i64 0) (.string ⟨#[]⟩) (.int .i64 0) (.int .i64 0) (.bool false)
                  rw [← hW] at hr hbw
                  unfold set5 at hW
                  rw [← hW]
                  clear hW
                  have y0 := cell_list (cs := [.int .i64 0, .string ⟨#[]⟩, .int .i64 0, .int .i64 0, .bool false]) hr 0
                  have y1 := cell_list (cs := [.int .i64 0, .string ⟨#[]⟩, .int .i64 0, .int .i64 0, .bool false]) hr 1
                  have y2 := cell_list (cs := [.int .i64 0, .string ⟨#[]⟩, .int .i64 0, .int .i64 0, .bool false]) hr 2
                  have y3 := cell_list (cs := [.int .i64 0, .string ⟨#[]⟩, .int .i64 0, .int .i64 0, .bool false]) hr 3
                  have y4 := cell_list (cs := [.int .i64 0, .string ⟨#[]⟩, .int .i64 0, .int .i64 0, .bool false]) hr 4
                  simp only [List.getElem?_cons_zero, List.getElem?_cons_succ] at y0 y1 y2 y3 y4
                  refine bodyPost_ret (v := .tuple #[.agg #[.int .i64 0, .string ⟨#[]⟩, .int .i64 0, .int .i64 0, .bool false], .int .i64 0, .int .i64 3]) (by simp [results, Tryd.results77, go_sem, y0, y1, y2, y3, y4]) rfl ⟨?_, hbw⟩
                  rw [← HV.out]
                  unfold oneV
                  rw [HR.out]
                  all_goals rfl
            · rw [hn] at hrd
              dsimp only at hrd
              have HRD := Lib.hid hrd
              obtain ⟨a1, a2, a3⟩ := hA nm hn
              have HA1 := Lib.hid a1
              have HA2 := Lib.hid a2
              have HA3 := Lib.hid a3
              have hnl := nameTo_len r nm hn
              have hnz : nm.length + 2 < B.size := by rw [HRZ.out]; omega
              clear hA hN hn hrd a1 a2 a3
              go_enter Tryd.func77, Tryd.ntmps77
              go_wp2_with (go_at_call 95; refine (hdg _).mono ?_; rintro e w1 ⟨rfl, rfl⟩)
              have hr0 := World.alloc_heap_new w (.cells #[.int .i64 0, .string ⟨#[]⟩, .int .i64 0, .int .i64 0, .bool false] 85)
              have hb0 := (Below.refl _ w).alloc (Nat.le_refl _) (.cells #[.int .i64 0, .string ⟨#[]⟩, .int .i64 0, .int .i64 0, .bool false] 85)
              obtain ⟨W0, hW0⟩ : ∃ W0, W0 = w.alloc (.cells #[.int .i64 0, .string ⟨#[]⟩, .int .i64 0, .int .i64 0, .bool false] 85) := ⟨_, rfl⟩
              rw [← hW0] at hr0 hb0 ⊢
              clear hW0
              have c0 := cell_list (cs := [.int .i64 0, .string ⟨#[]⟩, .int .i64 0, .int .i64 0, .bool false]) hr0 0
              have c1 := cell_list (cs := [.int .i64 0, .string ⟨#[]⟩, .int .i64 0, .int .i64 0, .bool false]) hr0 1
              have c2 := cell_list (cs := [.int .i64 0, .string ⟨#[]⟩, .int .i64 0, .int .i64 0, .bool false]) hr0 2
              have c3 := cell_list (cs := [.int .i64 0, .string ⟨#[]⟩, .int .i64 0, .int .i64 0, .bool false]) hr0 3
              have c4 := cell_list (cs := [.int .i64 0, .string ⟨#[]⟩, .int .i64 0, .int .i64 0, .bool false]) hr0 4
              have cf := frozen_list (cs := [.int .i64 0, .string ⟨#[]⟩, .int .i64 0, .int .i64 0, .bool false]) hr0
              simp only [List.getElem?_cons_zero, List.getElem?_cons_succ] at c0 c1 c2 c3 c4
              have hnn : nm.length ≤ 100000 := by omega
              go_loopg [9] nm.length (fun g j W => ∃ i : Nat, j = .int .i64 i ∧ 2 ≤ i ∧ i + g = nm.length + 2 ∧ W = W0)
              case atStart => exact ⟨2, rfl, by omega, by omega, rfl⟩
              case round =>
                obtain ⟨i, rfl, hi2, hig, rfl⟩ := hrel
                have hi : i < B.size := by omega
                have hiB : (i : Int) < (B.size : Int) := by omega
                obtain ⟨y, hy⟩ : ∃ y, r[i - 2]? = some y := ⟨_, List.getElem?_eq_getElem (by have := HRZ.out; omega)⟩
                have e := HB2.out (i - 2) (by omega) y hy
                have e2 : B[i] = y := by
                  have : i - 2 + 2 = i := by omega
                  simp only [this] at e
                  exact e
                have h := byte_is (x := y) (c := 125) (by omega)
                by_cases hin : i < nm.length + 2
                · obtain ⟨g', rfl⟩ : ∃ g', gk = g' + 1 := ⟨gk - 1, by omega⟩
                  have u4 : ((B[i].toNat : Int) != 125) = true := by
                    have hne : y ≠ 125 := fun h => HA2.out (i - 2) (by omega) (by rw [hy, h])
                    have h2 : ((y.toNat : Int) == 125) = false := h.trans (decide_eq_false hne)
                    rw [e2]
                    simp only [bne, h2, Bool.not_false]
                  clear h e e2 hy
                  go_wp2_with fail
                  go_roundg g'
                  case measure => omega
                  case rel => exact ⟨i + 1, by go_num, by omega, by omega, rfl⟩
                · have hie : i = nm.length + 2 := by omega
                  have HIE := Lib.hid hie
                  have u4 : ((B[i].toNat : Int) != 125) = false := by
                    have hye : y = 125 := by
                      have := HA1.out
                      have e3 : i - 2 = nm.length := by omega
                      rw [e3] at hy
                      rw [hy] at this
                      exact Option.some.inj this
                    have h2 : ((y.toNat : Int) == 125) = true := h.trans (decide_eq_true hye)
                    rw [e2]
                    simp only [bne, h2, Bool.not_true]
                  have u5 : ((i : Int) == (B.size : Int)) = false := by rw [beq_eq_false_iff_ne]; omega
                  have hexn : B.extract 2 i = bs nm := by rw [hie, HX2.out, HA3.out]
                  have i6 : i ≤ 100000 := by omega
                  have hn0 := fun W => refNames_any W
                  have hR4 := fun (W : World) => World.alloc_heap_new W (.cells #[.string (bs [80, 65, 84, 72]), .string (bs [81, 85, 69, 82, 89]), .string (bs [72, 79, 83, 84]), .string (bs [77, 69, 84, 72, 79, 68])] 9)
                  have l0 := lt_of_cells hr0
                  have hr1 := (Below.heap_alloc wr (.cells #[.string (bs [80, 65, 84, 72]), .string (bs [81, 85, 69, 82, 89]), .string (bs [72, 79, 83, 84]), .string (bs [77, 69, 84, 72, 79, 68])] 9) _ l0).trans hr0
                  have hb1 := hb0.alloc hb0.size (.cells #[.string (bs [80, 65, 84, 72]), .string (bs [81, 85, 69, 82, 89]), .string (bs [72, 79, 83, 84]), .string (bs [77, 69, 84, 72, 79, 68])] 9)
                  have HR1 := Lib.hid hr1
                  clear h e e2 hy hie hin hig hr1
                  go_wp2_with (go_at_call 84; refine (hn0 _).mono ?_; rintro e w1 ⟨rfl, rfl⟩)
                  obtain ⟨W1, hW1⟩ : ∃ W1, W1 = wr.alloc (.cells #[.string (bs [80, 65, 84, 72]), .string (bs [81, 85, 69, 82, 89]), .string (bs [72, 79, 83, 84]), .string (bs [77, 69, 84, 72, 79, 68])] 9) := ⟨_, rfl⟩
                  have hrn := hR4 wr
                  have hr1 := HR1.out
                  obtain ⟨gn, hgn⟩ : ∃ gn, gn = wr.heap.size := ⟨_, rfl⟩
                  rw [← hW1] at hrn hr1 hb1 ⊢
                  rw [← hgn] at hrn ⊢
                  have m0 := cell_list (cs := [.string (bs [80, 65, 84, 72]), .string (bs [81, 85, 69, 82, 89]), .string (bs [72, 79, 83, 84]), .string (bs [77, 69, 84, 72, 79, 68])]) hrn 0
                  have m1 := cell_list (cs := [.string (bs [80, 65, 84, 72]), .string (bs [81, 85, 69, 82, 89]), .string (bs [72, 79, 83, 84]), .string (bs [77, 69, 84, 72, 79, 68])]) hrn 1
                  have m2 := cell_list (cs := [.string (bs [80, 65, 84, 72]), .string (bs [81, 85, 69, 82, 89]), .string (bs [72, 79, 83, 84]), .string (bs [77, 69, 84, 72, 79, 68])]) hrn 2
                  have m3 := cell_list (cs := [.string (bs [80, 65, 84, 72]), .string (bs [81, 85, 69, 82, 89]), .string (bs [72, 79, 83, 84]), .string (bs [77, 69, 84, 72, 79, 68])]) hrn 3
                  simp only [List.getElem?_cons_zero, List.getElem?_cons_succ] at m0 m1 m2 m3
                  clear hW1 hgn hrn hR4 HR1 hn0 hr0 hb0 c0 c1 c2 c3 c4 cf l0
                  have hr0 := hr1
                  have hb0 := hb1
                  clear hr1 hb1
                  have c0 := cell_list (cs := [.int .i64 0, .string ⟨#[]⟩, .int .i64 0, .int .i64 0, .bool false]) hr0 0
                  have c1 := cell_list (cs := [.int .i64 0, .string ⟨#[]⟩, .int .i64 0, .int .i64 0, .bool false]) hr0 1
                  have c2 := cell_list (cs := [.int .i64 0, .string ⟨#[]⟩, .int .i64 0, .int .i64 0, .bool false]) hr0 2
                  have c3 := cell_list (cs := [.int .i64 0, .string ⟨#[]⟩, .int .i64 0, .int .i64 0, .bool false]) hr0 3
                  have c4 := cell_list (cs := [.int .i64 0, .string ⟨#[]⟩, .int .i64 0, .int .i64 0, .bool false]) hr0 4
                  have cf := frozen_list (cs := [.int .i64 0, .string ⟨#[]⟩, .int .i64 0, .int .i64 0, .bool false]) hr0
                  simp only [List.getElem?_cons_zero, List.getElem?_cons_succ] at c0 c1 c2 c3 c4
                  go_loopg [11] 4 (fun g j W => ∃ k : Nat, j = .int .i64 k ∧ k + g = 4 ∧ (∀ q, q < k → nmOf (q + 1) ≠ nm) ∧ ∃ nq, W = W1.drewN nq)
                  case atStart => exact ⟨0, rfl, rfl, fun q h => by omega, 0, rfl⟩
                  case round =>
                    obtain ⟨k, rfl, hk, hne, n1, rfl⟩ := hrel
                    have HNE := Lib.hid hne
                    clear hne
                    obtain rfl | rfl | rfl | rfl | rfl : k = 0 ∨ k = 1 ∨ k = 2 ∨ k = 3 ∨ k = 4 := by omega
                    · by_cases hq : ([80, 65, 84, 72] : Tp.Bs) = nm
                      · have hqb : (([80, 65, 84, 72] : Tp.Bs) == nm) = true := beq_iff_eq.2 hq
                        have hrd := HRD.out
                        rw [show varNo nm = some 1 from by rw [← hq]; rfl] at hrd
                        have HR := Lib.hid hrd
                        clear hq hrd
                        go_wp2_with fail
                        go_quiet (fail)
                        go_wp2_with fail
                        have hr2 : (W1.drewN (n1 + nq)).heap[w.heap.size]? = _ := hr0
                        have hb2 := below_drewN hb0 (n1 + nq)
                        obtain ⟨W, hW⟩ : ∃ W, W = set5 (W1.drewN (n1 + nq)) w.heap.size (.int .i64 4) (.string ⟨#[]⟩) (.int .i64 1) (.int .i64 (at' : Int)) (.bool false) := ⟨_, rfl⟩
                        have hr := set5_row (hr2) (.int .i64 4) (.string ⟨#[]⟩) (.int .i64 1) (.int .i64 (at' : Int)) (.bool false)
                        have hbw := set5_below (hb2) (Nat.le_refl _) (.int .i64 4) (.string ⟨#[]⟩) (.int .i64 1) (.int .i64 (at' : Int)) (.bool false)
                        rw [← hW] at hr hbw
                        unfold set5 at hW
                        rw [← hW]
                        clear hW
                        have y0 := cell_list (cs := [.int .i64 4, .string ⟨#[]⟩, .int .i64 1, .int .i64 (at' : Int), .bool false]) hr 0
                        have y1 := cell_list (cs := [.int .i64 4, .string ⟨#[]⟩, .int .i64 1, .int .i64 (at' : Int), .bool false]) hr 1
                        have y2 := cell_list (cs := [.int .i64 4, .string ⟨#[]⟩, .int .i64 1, .int .i64 (at' : Int), .bool false]) hr 2
                        have y3 := cell_list (cs := [.int .i64 4, .string ⟨#[]⟩, .int .i64 1, .int .i64 (at' : Int), .bool false]) hr 3
                        have y4 := cell_list (cs := [.int .i64 4, .string ⟨#[]⟩, .int .i64 1, .int .i64 (at' : Int), .bool false]) hr 4
                        simp only [List.getElem?_cons_zero, List.getElem?_cons_succ] at y0 y1 y2 y3 y4
                        refine bodyPost_ret (v := .tuple #[.agg #[.int .i64 4, .string ⟨#[]⟩, .int .i64 1, .int .i64 (at' : Int), .bool false], .int .i64 ((i : Int) + 1), .int .i64 0]) (by simp [results, Tryd.results77, go_sem, y0, y1, y2, y3, y4]) rfl ⟨?_, hbw⟩
                        rw [← HV.out]
                        unfold oneV
                        rw [HR.out]
                        rw [HIE.out]
                        rfl
                      · have hqb : (([80, 65, 84, 72] : Tp.Bs) == nm) = false := beq_eq_false_iff_ne.2 hq
                        have HQ := Lib.hid hq
                        obtain rfl : gk = 3 + 1 := by omega
                        clear hq
                        go_wp2_with fail
                        go_quiet (fail)
                        go_wp2_with fail
                        go_roundg 3
                        case measure => omega
                        case rel => exact ⟨1, rfl, rfl, fun q h => by
                          rcases Nat.lt_or_ge q 0 with h2 | h2
                          · exact HNE.out q h2
                          · obtain rfl : q = 0 := by omega
                            exact HQ.out, n1 + nq, by simp [World.drewN, Nat.add_assoc]⟩
                    · by_cases hq : ([81, 85, 69, 82, 89] : Tp.Bs) = nm
                      · have hqb : (([81, 85, 69, 82, 89] : Tp.Bs) == nm) = true := beq_iff_eq.2 hq
                        have hrd := HRD.out
                        rw [show varNo nm = some 2 from by rw [← hq]; rfl] at hrd
                        have HR := Lib.hid hrd
                        clear hq hrd
                        go_wp2_with fail
                        go_quiet (fail)
                        go_wp2_with fail
                        have hr2 : (W1.drewN (n1 + nq)).heap[w.heap.size]? = _ := hr0
                        have hb2 := below_drewN hb0 (n1 + nq)
                        obtain ⟨W, hW⟩ : ∃ W, W = set5 (W1.drewN (n1 + nq)) w.heap.size (.int .i64 4) (.string ⟨#[]⟩) (.int .i64 2) (.int .i64 (at' : Int)) (.bool false) := ⟨_, rfl⟩
                        have hr := set5_row (hr2) (.int .i64 4) (.string ⟨#[]⟩) (.int .i64 2) (.int .i64 (at' : Int)) (.bool false)
                        have hbw := set5_below (hb2) (Nat.le_refl _) (.int .i64 4) (.string ⟨#[]⟩) (.int .i64 2) (.int .i64 (at' : Int)) (.bool false)
                        rw [← hW] at hr hbw
                        unfold set5 at hW
                        rw [← hW]
                        clear hW
                        have y0 := cell_list (cs := [.int .i64 4, .string ⟨#[]⟩, .int .i64 2, .int .i64 (at' : Int), .bool false]) hr 0
                        have y1 := cell_list (cs := [.int .i64 4, .string ⟨#[]⟩, .int .i64 2, .int .i64 (at' : Int), .bool false]) hr 1
                        have y2 := cell_list (cs := [.int .i64 4, .string ⟨#[]⟩, .int .i64 2, .int .i64 (at' : Int), .bool false]) hr 2
                        have y3 := cell_list (cs := [.int .i64 4, .string ⟨#[]⟩, .int .i64 2, .int .i64 (at' : Int), .bool false]) hr 3
                        have y4 := cell_list (cs := [.int .i64 4, .string ⟨#[]⟩, .int .i64 2, .int .i64 (at' : Int), .bool false]) hr 4
                        simp only [List.getElem?_cons_zero, List.getElem?_cons_succ] at y0 y1 y2 y3 y4
                        refine bodyPost_ret (v := .tuple #[.agg #[.int .i64 4, .string ⟨#[]⟩, .int .i64 2, .int .i64 (at' : Int), .bool false], .int .i64 ((i : Int) + 1), .int .i64 0]) (by simp [results, Tryd.results77, go_sem, y0, y1, y2, y3, y4]) rfl ⟨?_, hbw⟩
                        rw [← HV.out]
                        unfold oneV
                        rw [HR.out]
                        rw [HIE.out]
                        rfl
                      · have hqb : (([81, 85, 69, 82, 89] : Tp.Bs) == nm) = false := beq_eq_false_iff_ne.2 hq
                        have HQ := Lib.hid hq
                        obtain rfl : gk = 2 + 1 := by omega
                        clear hq
                        go_wp2_with fail
                        go_quiet (fail)
                        go_wp2_with fail
                        go_roundg 2
                        case measure => omega
                        case rel => exact ⟨2, rfl, rfl, fun q h => by
                          rcases Nat.lt_or_ge q 1 with h2 | h2
                          · exact HNE.out q h2
                          · obtain rfl : q = 1 := by omega
                            exact HQ.out, n1 + nq, by simp [World.drewN, Nat.add_assoc]⟩
                    · by_cases hq : ([72, 79, 83, 84] : Tp.Bs) = nm
                      · have hqb : (([72, 79, 83, 84] : Tp.Bs) == nm) = true := beq_iff_eq.2 hq
                        have hrd := HRD.out
                        rw [show varNo nm = some 3 from by rw [← hq]; rfl] at hrd
                        have HR := Lib.hid hrd
                        clear hq hrd
                        go_wp2_with fail
                        go_quiet (fail)
                        go_wp2_with fail
                        have hr2 : (W1.drewN (n1 + nq)).heap[w.heap.size]? = _ := hr0
                        have hb2 := below_drewN hb0 (n1 + nq)
                        obtain ⟨W, hW⟩ : ∃ W, W = set5 (W1.drewN (n1 + nq)) w.heap.size (.int .i64 4) (.string ⟨#[]⟩) (.int .i64 3) (.int .i64 (at' : Int)) (.bool false) := ⟨_, rfl⟩
                        have hr := set5_row (hr2) (.int .i64 4) (.string ⟨#[]⟩) (.int .i64 3) (.int .i64 (at' : Int)) (.bool false)
                        have hbw := set5_below (hb2) (Nat.le_refl _) (.int .i64 4) (.string ⟨#[]⟩) (.int .i64 3) (.int .i64 (at' : Int)) (.bool false)
                        rw [← hW] at hr hbw
                        unfold set5 at hW
                        rw [← hW]
                        clear hW
                        have y0 := cell_list (cs := [.int .i64 4, .string ⟨#[]⟩, .int .i64 3, .int .i64 (at' : Int), .bool false]) hr 0
                        have y1 := cell_list (cs := [.int .i64 4, .string ⟨#[]⟩, .int .i64 3, .int .i64 (at' : Int), .bool false]) hr 1
                        have y2 := cell_list (cs := [.int .i64 4, .string ⟨#[]⟩, .int .i64 3, .int .i64 (at' : Int), .bool false]) hr 2
                        have y3 := cell_list (cs := [.int .i64 4, .string ⟨#[]⟩, .int .i64 3, .int .i64 (at' : Int), .bool false]) hr 3
                        have y4 := cell_list (cs := [.int .i64 4, .string ⟨#[]⟩, .int .i64 3, .int .i64 (at' : Int), .bool false]) hr 4
                        simp only [List.getElem?_cons_zero, List.getElem?_cons_succ] at y0 y1 y2 y3 y4
                        refine bodyPost_ret (v := .tuple #[.agg #[.int .i64 4, .string ⟨#[]⟩, .int .i64 3, .int .i64 (at' : Int), .bool false], .int .i64 ((i : Int) + 1), .int .i64 0]) (by simp [results, Tryd.results77, go_sem, y0, y1, y2, y3, y4]) rfl ⟨?_, hbw⟩
                        rw [← HV.out]
                        unfold oneV
                        rw [HR.out]
                        rw [HIE.out]
                        rfl
                      · have hqb : (([72, 79, 83, 84] : Tp.Bs) == nm) = false := beq_eq_false_iff_ne.2 hq
                        have HQ := Lib.hid hq
                        obtain rfl : gk = 1 + 1 := by omega
                        clear hq
                        go_wp2_with fail
                        go_quiet (fail)
                        go_wp2_with fail
                        go_roundg 1
                        case measure => omega
                        case rel => exact ⟨3, rfl, rfl, fun q h => by
                          rcases Nat.lt_or_ge q 2 with h2 | h2
                          · exact HNE.out q h2
                          · obtain rfl : q = 2 := by omega
                            exact HQ.out, n1 + nq, by simp [World.drewN, Nat.add_assoc]⟩
                    · by_cases hq : ([77, 69, 84, 72, 79, 68] : Tp.Bs) = nm
                      · have hqb : (([77, 69, 84, 72, 79, 68] : Tp.Bs) == nm) = true := beq_iff_eq.2 hq
                        have hrd := HRD.out
                        rw [show varNo nm = some 4 from by rw [← hq]; rfl] at hrd
                        have HR := Lib.hid hrd
                        clear hq hrd
                        go_wp2_with fail
                        go_quiet (fail)
                        go_wp2_with fail
                        have hr2 : (W1.drewN (n1 + nq)).heap[w.heap.size]? = _ := hr0
                        have hb2 := below_drewN hb0 (n1 + nq)
                        obtain ⟨W, hW⟩ : ∃ W, W = set5 (W1.drewN (n1 + nq)) w.heap.size (.int .i64 4) (.string ⟨#[]⟩) (.int .i64 4) (.int .i64 (at' : Int)) (.bool false) := ⟨_, rfl⟩
                        have hr := set5_row (hr2) (.int .i64 4) (.string ⟨#[]⟩) (.int .i64 4) (.int .i64 (at' : Int)) (.bool false)
                        have hbw := set5_below (hb2) (Nat.le_refl _) (.int .i64 4) (.string ⟨#[]⟩) (.int .i64 4) (.int .i64 (at' : Int)) (.bool false)
                        rw [← hW] at hr hbw
                        unfold set5 at hW
                        rw [← hW]
                        clear hW
                        have y0 := cell_list (cs := [.int .i64 4, .string ⟨#[]⟩, .int .i64 4, .int .i64 (at' : Int), .bool false]) hr 0
                        have y1 := cell_list (cs := [.int .i64 4, .string ⟨#[]⟩, .int .i64 4, .int .i64 (at' : Int), .bool false]) hr 1
                        have y2 := cell_list (cs := [.int .i64 4, .string ⟨#[]⟩, .int .i64 4, .int .i64 (at' : Int), .bool false]) hr 2
                        have y3 := cell_list (cs := [.int .i64 4, .string ⟨#[]⟩, .int .i64 4, .int .i64 (at' : Int), .bool false]) hr 3
                        have y4 := cell_list (cs := [.int .i64 4, .string ⟨#[]⟩, .int .i64 4, .int .i64 (at' : Int), .bool false]) hr 4
                        simp only [List.getElem?_cons_zero, List.getElem?_cons_succ] at y0 y1 y2 y3 y4
                        refine bodyPost_ret (v := .tuple #[.agg #[.int .i64 4, .string ⟨#[]⟩, .int .i64 4, .int .i64 (at' : Int), .bool false], .int .i64 ((i : Int) + 1), .int .i64 0]) (by simp [results, Tryd.results77, go_sem, y0, y1, y2, y3, y4]) rfl ⟨?_, hbw⟩
                        rw [← HV.out]
                        unfold oneV
                        rw [HR.out]
                        rw [HIE.out]
                        rfl
                      · have hqb : (([77, 69, 84, 72, 79, 68] : Tp.Bs) == nm) = false := beq_eq_false_iff_ne.2 hq
                        have HQ := Lib.hid hq
                        obtain rfl : gk = 0 + 1 := by omega
                        clear hq
                        go_wp2_with fail
                        go_quiet (fail)
                        go_wp2_with fail
                        go_roundg 0
                        case measure => omega
                        case rel => exact ⟨4, rfl, rfl, fun q h => by
                          rcases Nat.lt_or_ge q 3 with h2 | h2
                          · exact HNE.out q h2
                          · obtain rfl : q = 3 := by omega
                            exact HQ.out, n1 + nq, by simp [World.drewN, Nat.add_assoc]⟩
                    · have hrd := HRD.out
                      rw [show varNo nm = none from by
                        unfold varNo
                        rw [if_neg (fun h => HNE.out 0 (by omega) h.symm), if_neg (fun h => HNE.out 1 (by omega) h.symm), if_neg (fun h => HNE.out 2 (by omega) h.symm), if_neg (fun h => HNE.out 3 (by omega) h.symm)]] at hrd
                      have HR := Lib.hid hrd
                      clear hrd
                      go_wp2_with fail
                      have hr2 : (W1.drewN n1).heap[w.heap.size]? = _ := hr0
                      have hb2 := below_drewN hb0 n1
                      obtain ⟨W, hW⟩ : ∃ W, W = set5 (W1.drewN n1) w.heap.size (.int .i64 0) (.string ⟨#[]⟩) (.int .i64 0) (.int .i64 0) (.bool false) := ⟨_, rfl⟩
                      have hr := set5_row (hr2) (.int .i64 0) (.string ⟨#[]⟩) (.int .i64 0) (.int .i64 0) (.bool false)
                      have hbw := set5_below (hb2) (Nat.le_refl _) (.int .i64 0) (.string ⟨#[]⟩) (.int .i64 0) (.int .i64 0) (.bool false)
                      rw [← hW] at hr hbw
                      unfold set5 at hW
                      rw [← hW]
                      clear hW
                      have y0 := cell_list (cs := [.int .i64 0, .string ⟨#[]⟩, .int .i64 0, .int .i64 0, .bool false]) hr 0
                      have y1 := cell_list (cs := [.int .i64 0, .string ⟨#[]⟩, .int .i64 0, .int .i64 0, .bool false]) hr 1
                      have y2 := cell_list (cs := [.int .i64 0, .string ⟨#[]⟩, .int .i64 0, .int .i64 0, .bool false]) hr 2
                      have y3 := cell_list (cs := [.int .i64 0, .string ⟨#[]⟩, .int .i64 0, .int .i64 0, .bool false]) hr 3
                      have y4 := cell_list (cs := [.int .i64 0, .string ⟨#[]⟩, .int .i64 0, .int .i64 0, .bool false]) hr 4
                      simp only [List.getElem?_cons_zero, List.getElem?_cons_succ] at y0 y1 y2 y3 y4
                      refine bodyPost_ret (v := .tuple #[.agg #[.int .i64 0, .string ⟨#[]⟩, .int .i64 0, .int .i64 0, .bool false], .int .i64 0, .int .i64 11]) (by simp [results, Tryd.results77, go_sem, y0, y1, y2, y3, y4]) rfl ⟨?_, hbw⟩
                      rw [← HV.out]
                      unfold oneV
                      rw [HR.out]
                      all_goals rfl
          · have u3 : ((B[1].toNat : Int) != 123) = true := by
              have h := byte_is (x := x) (c := 123) (by omega)
              have h2 : ((x.toNat : Int) == 123) = false := h.trans (decide_eq_false h123)
              rw [hx]
              simp only [bne, h2, Bool.not_false]
            have hrd : rd (37 :: x :: r) = .bad 3 := by
              show (if dig x = true then _ else if x = 123 then _ else _) = _
              rw [if_neg (by rw [hd]; simp), if_neg h123]
            have HR := Lib.hid hrd
            clear hd hrd hx h123
            go_enter Tryd.func77, Tryd.ntmps77
            go_wp2_with (go_at_call 95; refine (hdg _).mono ?_; rintro e w1 ⟨rfl, rfl⟩)
            obtain ⟨W, hW⟩ : ∃ W, W = w.alloc (.cells #[.int .i64 0, .string ⟨#[]⟩, .int .i64 0, .int .i64 0, .bool false] 85) := ⟨_, rfl⟩
            have hr := World.alloc_heap_new w (.cells #[.int .i64 0, .string ⟨#[]⟩, .int .i64 0, .int .i64 0, .bool false] 85)
            have hbw := (Below.refl _ w).alloc (Nat.le_refl _) (.cells #[.int .i64 0, .string ⟨#[]⟩, .int .i64 0, .int .i64 0, .bool false] 85)
            rw [← hW] at hr hbw ⊢
            clear hW
            have y0 := cell_list (cs := [.int .i64 0, .string ⟨#[]⟩, .int .i64 0, .int .i64 0, .bool false]) hr 0
            have y1 := cell_list (cs := [.int .i64 0, .string ⟨#[]⟩, .int .i64 0, .int .i64 0, .bool false]) hr 1
            have y2 := cell_list (cs := [.int .i64 0, .string ⟨#[]⟩, .int .i64 0, .int .i64 0, .bool false]) hr 2
            have y3 := cell_list (cs := [.int .i64 0, .string ⟨#[]⟩, .int .i64 0, .int .i64 0, .bool false]) hr 3
            have y4 := cell_list (cs := [.int .i64 0, .string ⟨#[]⟩, .int .i64 0, .int .i64 0, .bool false]) hr 4
            simp only [List.getElem?_cons_zero, List.getElem?_cons_succ] at y0 y1 y2 y3 y4
            refine bodyPost_ret (v := .tuple #[.agg #[.int .i64 0, .string ⟨#[]⟩, .int .i64 0, .int .i64 0, .bool false], .int .i64 0, .int .i64 3]) (by simp [results, Tryd.results77, go_sem, y0, y1, y2, y3, y4]) rfl ⟨?_, hbw⟩
            rw [← HV.out]
            unfold oneV
            rw [HR.out]
            all_goals rfl
        · rw [hd] at hdg
          have hrd : rd (37 :: x :: r) = .ok ⟨3, [], (x.toNat : Int) - 48⟩ 2 := by
            show (if dig x = true then _ else _) = _
            rw [if_pos hd]
          have hd2 : 48 ≤ x.toNat ∧ x.toNat ≤ 57 := by unfold dig at hd; simpa using hd
          have u1 : (48 : Int) ≤ (B[1].toNat : Int) := by omega
          have u2 : (B[1].toNat : Int) ≤ 57 := by omega
          have HXX := Lib.hid hx
          have HR := Lib.hid hrd
          clear hd hrd hx hd2
          go_enter Tryd.func77, Tryd.ntmps77
          go_wp2_with (go_at_call 95; refine (hdg _).mono ?_; rintro e w1 ⟨rfl, rfl⟩)
          rw [HXX.out]
          obtain ⟨W, hW⟩ : ∃ W, W = w.alloc (.cells #[.int .i64 3, .string ⟨#[]⟩, .int .i64 ((x.toNat : Int) - 48), .int .i64 (at' : Int), .bool false] 85) := ⟨_, rfl⟩
          have hr := World.alloc_heap_new w (.cells #[.int .i64 3, .string ⟨#[]⟩, .int .i64 ((x.toNat : Int) - 48), .int .i64 (at' : Int), .bool false] 85)
          have hbw := (Below.refl _ w).alloc (Nat.le_refl _) (.cells #[.int .i64 3, .string ⟨#[]⟩, .int .i64 ((x.toNat : Int) - 48), .int .i64 (at' : Int), .bool false] 85)
          rw [← hW] at hr hbw ⊢
          clear hW
          have y0 := cell_list (cs := [.int .i64 3, .string ⟨#[]⟩, .int .i64 ((x.toNat : Int) - 48), .int .i64 (at' : Int), .bool false]) hr 0
          have y1 := cell_list (cs := [.int .i64 3, .string ⟨#[]⟩, .int .i64 ((x.toNat : Int) - 48), .int .i64 (at' : Int), .bool false]) hr 1
          have y2 := cell_list (cs := [.int .i64 3, .string ⟨#[]⟩, .int .i64 ((x.toNat : Int) - 48), .int .i64 (at' : Int), .bool false]) hr 2
          have y3 := cell_list (cs := [.int .i64 3, .string ⟨#[]⟩, .int .i64 ((x.toNat : Int) - 48), .int .i64 (at' : Int), .bool false]) hr 3
          have y4 := cell_list (cs := [.int .i64 3, .string ⟨#[]⟩, .int .i64 ((x.toNat : Int) - 48), .int .i64 (at' : Int), .bool false]) hr 4
          simp only [List.getElem?_cons_zero, List.getElem?_cons_succ] at y0 y1 y2 y3 y4
          refine bodyPost_ret (v := .tuple #[.agg #[.int .i64 3, .string ⟨#[]⟩, .int .i64 ((x.toNat : Int) - 48), .int .i64 (at' : Int), .bool false], .int .i64 2, .int .i64 0]) (by simp [results, Tryd.results77, go_sem, y0, y1, y2, y3, y4]) rfl ⟨?_, hbw⟩
          rw [← HV.out]
          unfold oneV
          rw [HR.out]
          all_goals rfl
  · have h36 : ¬ b = 36 := fun h => h2 (.inl h)
    have h37 : ¬ b = 37 := fun h => h2 (.inr h)
    have hrd : rd (b :: r) = .ok ⟨1, [b], 0⟩ 1 := by
      unfold rd
      dsimp only
      rw [if_neg h1, if_neg h36, if_neg h37]
    rw [decide_eq_false h1] at z92
    rw [decide_eq_false h36] at z36
    rw [decide_eq_false h37] at z37
    have q3 : (1 : Int) ≤ (B.size : Int) := by omega
    have HR := Lib.hid hrd
    clear hrd h1 h2 h36 h37
    go_enter Tryd.func77, Tryd.ntmps77
    go_wp2_with fail
    rw [show B.extract 0 1 = bs [b] from HXT.out 0 1]
    obtain ⟨W, hW⟩ : ∃ W, W = w.alloc (.cells #[.int .i64 1, .string (bs [b]), .int .i64 0, .int .i64 (at' : Int), .bool true] 85) := ⟨_, rfl⟩
    have hr := World.alloc_heap_new w (.cells #[.int .i64 1, .string (bs [b]), .int .i64 0, .int .i64 (at' : Int), .bool true] 85)
    have hbw := (Below.refl _ w).alloc (Nat.le_refl _) (.cells #[.int .i64 1, .string (bs [b]), .int .i64 0, .int .i64 (at' : Int), .bool true] 85)
    rw [← hW] at hr hbw ⊢
    clear hW
    have y0 := cell_list (cs := [.int .i64 1, .string (bs [b]), .int .i64 0, .int .i64 (at' : Int), .bool true]) hr 0
    have y1 := cell_list (cs := [.int .i64 1, .string (bs [b]), .int .i64 0, .int .i64 (at' : Int), .bool true]) hr 1
    have y2 := cell_list (cs := [.int .i64 1, .string (bs [b]), .int .i64 0, .int .i64 (at' : Int), .bool true]) hr 2
    have y3 := cell_list (cs := [.int .i64 1, .string (bs [b]), .int .i64 0, .int .i64 (at' : Int), .bool true]) hr 3
    have y4 := cell_list (cs := [.int .i64 1, .string (bs [b]), .int .i64 0, .int .i64 (at' : Int), .bool true]) hr 4
    simp only [List.getElem?_cons_zero, List.getElem?_cons_succ] at y0 y1 y2 y3 y4
    refine bodyPost_ret (v := .tuple #[.agg #[.int .i64 1, .string (bs [b]), .int .i64 0, .int .i64 (at' : Int), .bool true], .int .i64 1, .int .i64 0]) (by simp [results, Tryd.results77, go_sem, y0, y1, y2, y3, y4]) rfl ⟨?_, hbw⟩
    rw [← HV.out]
    unfold oneV
    rw [HR.out]
    all_goals rfl
end Go.Proofs.YtllklgalghmnfaaDoor
