/- template.read: one part read. -/
import Derived.Test.YtllklgalghmnfaaDoorTplAdd
import Derived.Deep.LoopGhost
import Derived.Deep.QuietTactic
import Derived.BigQuiet
namespace Go.Proofs.YtllklgalghmnfaaDoor
open Go.RowKit Str Mem Tp
set_option linter.unusedVariables false
set_option linter.unusedSimpArgs false

theorem nameTo_index : ∀ (l : Tp.Bs), (∀ nm, nameTo l = some nm → Lib.indexByte l 125 = (nm.length : Int) ∧ l.take nm.length = nm ∧ nm.length < l.length) ∧ (nameTo l = none → Lib.indexByte l 125 = -1)
  | [] => ⟨by simp [nameTo], fun _ => rfl⟩
  | b :: l => by
    obtain ⟨h1, h2⟩ := nameTo_index l
    unfold nameTo
    by_cases hb : b = 125
    · rw [if_pos hb]
      refine ⟨fun nm h => ?_, by simp⟩
      cases h
      subst hb
      exact ⟨rfl, rfl, by simp⟩
    · rw [if_neg hb]
      refine ⟨fun nm h => ?_, fun h => ?_⟩
      · obtain ⟨x, hx, rfl⟩ := Option.map_eq_some_iff.1 h
        obtain ⟨g1, g2, g3⟩ := h1 x hx
        refine ⟨?_, by simp [g2], by simp; omega⟩
        rw [Lib.indexByte, if_neg (by simpa using hb), g1]
        rw [if_neg (by simp)]
        simp
      · rw [Option.map_eq_none_iff] at h
        rw [Lib.indexByte, if_neg (by simpa using hb), h2 h]
        rfl

theorem cutBrace_in (l : Tp.Bs) (hs : l.length ≤ 100000) (w : World) :
    Calls Tryd.prog 94 #[.string (bs l), .string ⟨#[125]⟩] w fun e w' => (∃ r, e = .returned (.tuple #[.string (bs ((nameTo l).getD l)), .string r, .bool (nameTo l).isSome])) ∧ ∃ n, w' = w.drewN n := by
  obtain ⟨h1, h2⟩ := nameTo_index l
  rcases hn : nameTo l with _ | nm
  · have hi := Lib.hid (h2 hn)
    clear h1 h2 hn
    go_enter Tryd.func94, Tryd.ntmps94
    go_wp2_with (go_at_call 105; refine (index1_any (bs l) 125 w).mono ?_; rintro e w' ⟨rfl, rfl⟩; rw [data_bs, hi.out])
    go_ret3
    exact ⟨⟨_, rfl⟩, 0, rfl⟩
  · obtain ⟨g1, g2, g3⟩ := h1 nm hn
    have hi := Lib.hid g1
    obtain ⟨k, hk⟩ : ∃ k, k = nm.length := ⟨_, rfl⟩
    rw [← hk] at hi g3
    have hex : (bs l).extract 0 k = bs nm := eq_of_data (by rw [extract_to, data_bs, data_bs, hk]; exact g2)
    have hsz : (bs l).size = l.length := size_bs l
    have hkl : k < (bs l).size := by omega
    have hs2 : (bs l).size ≤ 100000 := by omega
    have e1 : IntKind.i64.wrap ((k : Int) + 1) = (k : Int) + 1 := IntWalk.i64_in _ (by omega)
    have e2 : ((k : Int) + 1).toNat = k + 1 := by omega
    simp only [Option.getD_some, Option.isSome_some]
    rw [← hex]
    obtain ⟨B, hB⟩ : ∃ B, B = bs l := ⟨_, rfl⟩
    rw [← hB] at hkl hs2 ⊢
    have hi2 : Hid (Lib.indexByte B.data.toList 125 = (k : Int)) := by rw [hB, data_bs]; exact hi
    clear h1 h2 hn hsz hex g1 g2 hk hB hi
    go_enter Tryd.func94, Tryd.ntmps94
    go_wp2_with (go_at_call 105; refine (index1_any B 125 w).mono ?_; rintro e w' ⟨rfl, rfl⟩; rw [hi2.out])
    go_quiet (fail)
    go_wp2
    go_ret3
    exact ⟨⟨_, rfl⟩, _, rfl⟩
theorem cutBrace_any (l : Tp.Bs) (hs : l.length ≤ 100000) (w : World) :
    Calls Tryd.prog 75 #[.string (bs l), .string ⟨#[125]⟩] w fun e w' => (∃ r, e = .returned (.tuple #[.string (bs ((nameTo l).getD l)), .string r, .bool (nameTo l).isSome])) ∧ ∃ n, w' = w.drewN n := by
  go_enter Tryd.func75, Tryd.ntmps75
  go_wp2_with (go_at_call 94; refine (cutBrace_in l hs w).mono ?_; rintro e w' ⟨⟨r, rfl⟩, n, rfl⟩)
  go_ret3
  exact ⟨⟨_, rfl⟩, _, rfl⟩

/-- The package's names of variables, where the program lays them. -/
structure Nm (w : World) : Prop where
  lt : 0 < w.heap.size
  c0 : w.cell? ⟨0, 0, none⟩ = some (.string (bs []))
  c1 : w.cell? ⟨0, 1, none⟩ = some (.string (bs [80, 65, 84, 72]))
  c2 : w.cell? ⟨0, 2, none⟩ = some (.string (bs [81, 85, 69, 82, 89]))
  c3 : w.cell? ⟨0, 3, none⟩ = some (.string (bs [72, 79, 83, 84]))
  c4 : w.cell? ⟨0, 4, none⟩ = some (.string (bs [77, 69, 84, 72, 79, 68]))
theorem Nm.kept {w w' : World} (h : Nm w) (hs : w.heap.size ≤ w'.heap.size) (hb : w'.heap[0]? = w.heap[0]?) : Nm w' := by
  have e : ∀ j, w'.cell? ⟨0, j, none⟩ = w.cell? ⟨0, j, none⟩ := fun j => World.cell?_of_block (w := w) hb
  exact ⟨Nat.lt_of_lt_of_le h.lt hs, (e 0).trans h.c0, (e 1).trans h.c1, (e 2).trans h.c2, (e 3).trans h.c3, (e 4).trans h.c4⟩
theorem Nm.below {w w' : World} {B : Nat} (h : Nm w) (hb : Below B w w') (hB : 0 < B) : Nm w' := h.kept hb.size (hb.block 0 hB)
theorem Nm.grown {w w' : World} {row : Option Nat} (h : Nm w) (hg : w.grownBy w' row) (hr : ∀ k, row = some k → k ≠ 0) : Nm w' := h.kept hg.size (hg.block 0 h.lt (fun e => hr 0 e.symm rfl))
theorem Nm.alloc {w : World} (h : Nm w) (o : Obj) : Nm (w.alloc o) := h.below ((Below.refl _ w).alloc (Nat.le_refl _) o) h.lt
theorem Nm.drewN {w : World} (h : Nm w) (n : Nat) : Nm (w.drewN n) := ⟨h.lt, h.c0, h.c1, h.c2, h.c3, h.c4⟩

def nmOf : Nat → Tp.Bs
  | 1 => [80, 65, 84, 72]
  | 2 => [81, 85, 69, 82, 89]
  | 3 => [72, 79, 83, 84]
  | 4 => [77, 69, 84, 72, 79, 68]
  | _ => []
def set3 (W : World) (g : Nat) (x0 x1 x2 : Value) : World := ((W.setCell ⟨g, 0, none⟩ x0).setCell ⟨g, 1, none⟩ x1).setCell ⟨g, 2, none⟩ x2
theorem set3_row {W : World} {g Ty : Nat} {o0 o1 o2 : Value} (h : W.heap[g]? = some (.cells [o0, o1, o2].toArray Ty (0, 0))) (x0 x1 x2 : Value) : (set3 W g x0 x1 x2).heap[g]? = some (.cells [x0, x1, x2].toArray Ty (0, 0)) :=
  set_list (set_list (set_list h 0 x0) 1 x1) 2 x2
theorem set3_below {W a : World} {B g : Nat} (h : Below B a W) (hg : B ≤ g) (x0 x1 x2 : Value) : Below B a (set3 W g x0 x1 x2) := ((h.setCell (p := ⟨g, 0, none⟩) hg x0).setCell (p := ⟨g, 1, none⟩) hg x1).setCell (p := ⟨g, 2, none⟩) hg x2
theorem arr5 (v0 v1 v2 v3 v4 : Value) (w : World) : (Instr.index 103 (.agg #[v0, v1, v2, v3, v4]) (.int .i64 0)).run Tryd.prog w = .ok v0 w ∧ (Instr.index 103 (.agg #[v0, v1, v2, v3, v4]) (.int .i64 1)).run Tryd.prog w = .ok v1 w ∧ (Instr.index 103 (.agg #[v0, v1, v2, v3, v4]) (.int .i64 2)).run Tryd.prog w = .ok v2 w ∧
    (Instr.index 103 (.agg #[v0, v1, v2, v3, v4]) (.int .i64 3)).run Tryd.prog w = .ok v3 w ∧ (Instr.index 103 (.agg #[v0, v1, v2, v3, v4]) (.int .i64 4)).run Tryd.prog w = .ok v4 w := ⟨by kernel_rfl, by kernel_rfl, by kernel_rfl, by kernel_rfl, by kernel_rfl⟩
def readV (r : Tp.Bs) : Value := match rd r with
  | .ok p n => .tuple #[pv p, .int .i64 n, .int .i64 0]
  | .bad e => .tuple #[pv ⟨0, [], 0⟩, .int .i64 0, .int .i64 e]
theorem below_drewN {B : Nat} {a w : World} (h : Below B a w) (k : Nat) : Below B a (w.drewN k) := ⟨h.os, h.tape, h.output, h.size, h.block⟩
theorem byte_is {x : UInt8} {c : Nat} (hc : c < 256) : ((x.toNat : Int) == (c : Int)) = decide (x = c.toUInt8) := by
  by_cases h : x = c.toUInt8
  · subst h
    have e : (c.toUInt8).toNat = c := by simp; omega
    rw [e]; simp
  · have : x.toNat ≠ c := fun e => h (by rw [← e]; simp)
    have e1 : ((x.toNat : Int) == (c : Int)) = false := by rw [beq_eq_false_iff_ne]; omega
    rw [e1]; simp [h]
theorem pre2 (b : UInt8) (r : Tp.Bs) : ([37, 123] : Tp.Bs).isPrefixOf (b :: r) = (decide (b = 37) && decide (r.head? = some 123)) := by
  rcases r with _ | ⟨x, r⟩
  · simp [List.isPrefixOf]
  · simp only [List.isPrefixOf, List.head?_cons, Bool.and_true, Option.some.injEq]
    have e : ∀ u v : UInt8, (u == v) = decide (v = u) := fun u v => by
      rw [Bool.eq_iff_iff, beq_iff_eq, decide_eq_true_iff]
      exact ⟨Eq.symm, Eq.symm⟩
    rw [e 37 b, e 123 x]

set_option maxRecDepth 100000 in
set_option maxHeartbeats 4000000 in
theorem read_any (b : UInt8) (r : Tp.Bs) (hl : r.length ≤ 1000) (w : World) (hN : Nm w) :
    Calls Tryd.prog 48 #[.string (bs (b :: r))] w fun e w' => e = .returned (readV (b :: r)) ∧ Below w.heap.size w w' := by
  have hdg := fun W => digit_any r W
  have hpf := fun W => hasPrefix_any (bs (b :: r)) ⟨#[37, 123]⟩ (by rw [size_bs]; simp [maxLen]; omega) (by simp [maxLen, ByteArray.size]) W
  have hpp : (ByteArray.data ⟨#[37, 123]⟩).toList.isPrefixOf (bs (b :: r)).data.toList = (decide (b = 37) && decide (r.head? = some 123)) := pre2 b r
  rw [hpp] at hpf
  have hct := fun W => cutBrace_any (r.drop 1) (by simp; omega) W
  obtain ⟨V, hV⟩ : ∃ V, readV (b :: r) = V := ⟨_, rfl⟩
  rw [hV]
  obtain ⟨B, hB⟩ : ∃ B, B = bs (b :: r) := ⟨_, rfl⟩
  rw [← hB] at hpf ⊢
  have hBz : B.size = r.length + 1 := by rw [hB, size_bs]; simp
  have hB0 : ∀ h : 0 < B.size, B[0] = b := fun h => by subst hB; rw [get_data _ 0 h]; simp [data_bs]
  have hB1 : ∀ (h : 1 < B.size) x, r.head? = some x → B[1] = x := fun h x hx => by
    subst hB
    rw [get_data _ 1 h]
    rcases r with _ | ⟨y, r⟩
    · simp at hx
    · simp at hx; subst hx; simp [data_bs]
  have hx1 : B.extract 1 B.size = bs r := eq_of_data (by rw [extract_from, hB, data_bs, data_bs]; rfl)
  have hx2 : 1 ≤ r.length → B.extract 2 B.size = bs (r.drop 1) := fun _ => eq_of_data (by rw [extract_from, hB, data_bs, data_bs]; rfl)
  have hx3 : B.extract 0 1 = bs [b] := eq_of_data (by rw [extract_to, hB, data_bs, data_bs]; rfl)
  have hx4 : ∀ x, r.head? = some x → B.extract 1 2 = bs [x] := fun x hx => eq_of_data (by
    rw [extract_data, hB, data_bs, data_bs]
    rcases r with _ | ⟨y, r⟩
    · simp at hx
    · simp at hx; subst hx; rfl)
  rw [← hx1] at hdg
  have h0 : 0 < B.size := by omega
  have hs6 : B.size ≤ 1001 := by omega
  have z92 : ((B[0].toNat : Int) == 92) = decide (b = 92) := by rw [hB0 h0]; exact byte_is (c := 92) (by omega)
  have z36 : ((B[0].toNat : Int) == 36) = decide (b = 36) := by rw [hB0 h0]; exact byte_is (c := 36) (by omega)
  have z37 : ((B[0].toNat : Int) == 37) = decide (b = 37) := by rw [hB0 h0]; exact byte_is (c := 37) (by omega)
  have hbl : ∀ x y z : Value, Below w.heap.size w (w.alloc (.cells #[x, y, z] 59)) := fun x y z => (Below.refl _ w).alloc (Nat.le_refl _) _
  have HV := Lib.hid hV
  have HX3 := Lib.hid hx3
  have HX4 := Lib.hid hx4
  have HB1 := Lib.hid hB1
  have HX2 := Lib.hid hx2
  have HBL := Lib.hid hbl
  have HBz := Lib.hid hBz
  have HB := Lib.hid hB
  clear hV hx3 hx4 hB1 hx2 hx1 hbl hpp hB0 hBz hB
  by_cases h1 : b = 92
  · subst h1
    simp only [decide_true, decide_false, Bool.false_and] at z92 z36 z37 hpf
    rcases r with _ | ⟨x, r⟩
    · have hsz : ¬ (1 : Int) < (B.size : Int) := by have := HBz.out; simp at this; omega
      go_enter Tryd.func48, Tryd.ntmps48
      go_wp2_with (first | (go_at_call 73; refine (hdg _).mono ?_; rintro e w1 ⟨rfl, rfl⟩) | (go_at_call 74; refine (hpf _).mono ?_; rintro e w1 ⟨rfl, rfl⟩))
      obtain ⟨W, hW⟩ : ∃ W, W = w.alloc (.cells #[.int .i64 0, .string ⟨#[]⟩, .int .i64 0] 59) := ⟨_, rfl⟩
      have hr := World.alloc_heap_new w (.cells #[.int .i64 0, .string ⟨#[]⟩, .int .i64 0] 59)
      have hbw := HBL.out (.int .i64 0) (.string ⟨#[]⟩) (.int .i64 0)
      rw [← hW] at hr hbw ⊢
      clear hW
      have y0 := cell_list (cs := [.int .i64 0, .string ⟨#[]⟩, .int .i64 0]) hr 0
      have y1 := cell_list (cs := [.int .i64 0, .string ⟨#[]⟩, .int .i64 0]) hr 1
      have y2 := cell_list (cs := [.int .i64 0, .string ⟨#[]⟩, .int .i64 0]) hr 2
      simp only [List.getElem?_cons_zero, List.getElem?_cons_succ] at y0 y1 y2
      refine bodyPost_ret (v := .tuple #[.agg #[.int .i64 0, .string ⟨#[]⟩, .int .i64 0], .int .i64 0, .int .i64 3]) (by simp [results, Tryd.results48, go_sem, y0, y1, y2]) rfl ⟨?_, hbw⟩
      rw [← HV.out]
      rfl
    · have hsz : (1 : Int) < (B.size : Int) := by have := HBz.out; simp at this; omega
      go_enter Tryd.func48, Tryd.ntmps48
      go_wp2_with fail
      rw [HX4.out x rfl]
      obtain ⟨W, hW⟩ : ∃ W, W = w.alloc (.cells #[.int .i64 1, .string (bs [x]), .int .i64 0] 59) := ⟨_, rfl⟩
      have hr := World.alloc_heap_new w (.cells #[.int .i64 1, .string (bs [x]), .int .i64 0] 59)
      have hbw := HBL.out (.int .i64 1) (.string (bs [x])) (.int .i64 0)
      rw [← hW] at hr hbw ⊢
      clear hW
      have y0 := cell_list (cs := [.int .i64 1, .string (bs [x]), .int .i64 0]) hr 0
      have y1 := cell_list (cs := [.int .i64 1, .string (bs [x]), .int .i64 0]) hr 1
      have y2 := cell_list (cs := [.int .i64 1, .string (bs [x]), .int .i64 0]) hr 2
      simp only [List.getElem?_cons_zero, List.getElem?_cons_succ] at y0 y1 y2
      refine bodyPost_ret (v := .tuple #[.agg #[.int .i64 1, .string (bs [x]), .int .i64 0], .int .i64 2, .int .i64 0]) (by simp [results, Tryd.results48, go_sem, y0, y1, y2]) rfl ⟨?_, hbw⟩
      rw [← HV.out]
      rfl
  by_cases h2 : b = 36
  · subst h2
    have e92 : decide ((36 : UInt8) = 92) = false := rfl
    have e37 : decide ((36 : UInt8) = 37) = false := rfl
    rw [e92] at z92
    rw [e37] at z37 hpf
    rw [Bool.false_and] at hpf
    simp only [decide_true] at z36
    clear e92 e37 h1
    rcases hd : digS r with _ | _
    · rw [hd] at hdg
      have hrd : rd (36 :: r) = .bad 3 := by
        unfold rd
        rcases r with _ | ⟨x, r⟩
        · rfl
        · show (if dig x = true then _ else _) = _
          rw [if_neg (by rw [show dig x = false from hd]; simp)]
      have HR := Lib.hid hrd
      clear hd hrd
      go_enter Tryd.func48, Tryd.ntmps48
      go_wp2_with (first | (go_at_call 73; refine (hdg _).mono ?_; rintro e w1 ⟨rfl, rfl⟩) | (go_at_call 74; refine (hpf _).mono ?_; rintro e w1 ⟨rfl, rfl⟩))
      obtain ⟨W, hW⟩ : ∃ W, W = w.alloc (.cells #[.int .i64 0, .string ⟨#[]⟩, .int .i64 0] 59) := ⟨_, rfl⟩
      have hr := World.alloc_heap_new w (.cells #[.int .i64 0, .string ⟨#[]⟩, .int .i64 0] 59)
      have hbw := HBL.out (.int .i64 0) (.string ⟨#[]⟩) (.int .i64 0)
      rw [← hW] at hr hbw ⊢
      clear hW
      have y0 := cell_list (cs := [.int .i64 0, .string ⟨#[]⟩, .int .i64 0]) hr 0
      have y1 := cell_list (cs := [.int .i64 0, .string ⟨#[]⟩, .int .i64 0]) hr 1
      have y2 := cell_list (cs := [.int .i64 0, .string ⟨#[]⟩, .int .i64 0]) hr 2
      simp only [List.getElem?_cons_zero, List.getElem?_cons_succ] at y0 y1 y2
      refine bodyPost_ret (v := .tuple #[.agg #[.int .i64 0, .string ⟨#[]⟩, .int .i64 0], .int .i64 0, .int .i64 3]) (by simp [results, Tryd.results48, go_sem, y0, y1, y2]) rfl ⟨?_, hbw⟩
      rw [← HV.out]
      unfold readV
      rw [HR.out]
      rfl
    · rw [hd] at hdg
      rcases r with _ | ⟨x, r⟩
      · cases hd
      have hdx : dig x = true := hd
      have hrd : rd (36 :: x :: r) = .ok ⟨2, [], (x.toNat : Int) - 48⟩ 2 := by
        show (if dig x = true then _ else _) = _
        rw [if_pos hdx]
      have h1s : 1 < B.size := by have := HBz.out; simp at this; omega
      have hx : (B[1].toNat : Int) = (x.toNat : Int) := by rw [HB1.out h1s x rfl]
      have hd2 : 48 ≤ x.toNat ∧ x.toNat ≤ 57 := by unfold dig at hdx; simpa using hdx
      have q1 : (48 : Int) ≤ (B[1].toNat : Int) := by omega
      have q2 : (B[1].toNat : Int) ≤ 57 := by omega
      have q3 : (1 : Int) < (B.size : Int) := by omega
      have HXX := Lib.hid hx
      have HR := Lib.hid hrd
      clear hd hdx hrd hx hd2
      go_enter Tryd.func48, Tryd.ntmps48
      go_wp2_with (first | (go_at_call 73; refine (hdg _).mono ?_; rintro e w1 ⟨rfl, rfl⟩) | (go_at_call 74; refine (hpf _).mono ?_; rintro e w1 ⟨rfl, rfl⟩))
      rw [HXX.out]
      obtain ⟨W, hW⟩ : ∃ W, W = w.alloc (.cells #[.int .i64 2, .string ⟨#[]⟩, .int .i64 ((x.toNat : Int) - 48)] 59) := ⟨_, rfl⟩
      have hr := World.alloc_heap_new w (.cells #[.int .i64 2, .string ⟨#[]⟩, .int .i64 ((x.toNat : Int) - 48)] 59)
      have hbw := HBL.out (.int .i64 2) (.string ⟨#[]⟩) (.int .i64 ((x.toNat : Int) - 48))
      rw [← hW] at hr hbw ⊢
      clear hW
      have y0 := cell_list (cs := [.int .i64 2, .string ⟨#[]⟩, .int .i64 ((x.toNat : Int) - 48)]) hr 0
      have y1 := cell_list (cs := [.int .i64 2, .string ⟨#[]⟩, .int .i64 ((x.toNat : Int) - 48)]) hr 1
      have y2 := cell_list (cs := [.int .i64 2, .string ⟨#[]⟩, .int .i64 ((x.toNat : Int) - 48)]) hr 2
      simp only [List.getElem?_cons_zero, List.getElem?_cons_succ] at y0 y1 y2
      refine bodyPost_ret (v := .tuple #[.agg #[.int .i64 2, .string ⟨#[]⟩, .int .i64 ((x.toNat : Int) - 48)], .int .i64 2, .int .i64 0]) (by simp [results, Tryd.results48, go_sem, y0, y1, y2]) rfl ⟨?_, hbw⟩
      rw [← HV.out]
      unfold readV
      rw [HR.out]
      rfl
  by_cases h3 : b = 37
  · subst h3
    have e92 : decide ((37 : UInt8) = 92) = false := rfl
    have e36 : decide ((37 : UInt8) = 36) = false := rfl
    rw [e92] at z92
    rw [e36] at z36
    simp only [decide_true, Bool.true_and] at z37 hpf
    clear e92 e36 h1 h2
    rcases hd : digS r with _ | _
    · rw [hd] at hdg
      rcases hh : decide (r.head? = some 123) with _ | _
      · rw [hh] at hpf
        have hh2 : ¬ r.head? = some 123 := by simpa using hh
        have hrd : rd (37 :: r) = .bad 3 := by
          unfold rd
          rcases r with _ | ⟨x, r⟩
          · rfl
          · show (if dig x = true then _ else if x = 123 then _ else _) = _
            rw [if_neg (by rw [show dig x = false from hd]; simp), if_neg (fun h => hh2 (by rw [h]; rfl))]
        have HR := Lib.hid hrd
        clear hd hrd hh hh2
        go_enter Tryd.func48, Tryd.ntmps48
        go_wp2_with (first | (go_at_call 73; refine (hdg _).mono ?_; rintro e w1 ⟨rfl, rfl⟩) | (go_at_call 74; refine (hpf _).mono ?_; rintro e w1 ⟨rfl, rfl⟩))
        obtain ⟨W, hW⟩ : ∃ W, W = w.alloc (.cells #[.int .i64 0, .string ⟨#[]⟩, .int .i64 0] 59) := ⟨_, rfl⟩
        have hr := World.alloc_heap_new w (.cells #[.int .i64 0, .string ⟨#[]⟩, .int .i64 0] 59)
        have hbw := HBL.out (.int .i64 0) (.string ⟨#[]⟩) (.int .i64 0)
        rw [← hW] at hr hbw ⊢
        clear hW
        have y0 := cell_list (cs := [.int .i64 0, .string ⟨#[]⟩, .int .i64 0]) hr 0
        have y1 := cell_list (cs := [.int .i64 0, .string ⟨#[]⟩, .int .i64 0]) hr 1
        have y2 := cell_list (cs := [.int .i64 0, .string ⟨#[]⟩, .int .i64 0]) hr 2
        simp only [List.getElem?_cons_zero, List.getElem?_cons_succ] at y0 y1 y2
        refine bodyPost_ret (v := .tuple #[.agg #[.int .i64 0, .string ⟨#[]⟩, .int .i64 0], .int .i64 0, .int .i64 3]) (by simp [results, Tryd.results48, go_sem, y0, y1, y2]) rfl ⟨?_, hbw⟩
        rw [← HV.out]
        unfold readV
        rw [HR.out]
        rfl
      · rw [hh] at hpf
        have hh2 : r.head? = some 123 := by simpa using hh
        rcases r with _ | ⟨x, r⟩
        · cases hh2
        obtain rfl : x = 123 := by simpa using hh2
        have hrd : rd (37 :: 123 :: r) = rdVar r := by
          show (if dig (123 : UInt8) = true then RR.ok ⟨3, [], (((123 : UInt8).toNat : Nat) : Int) - 48⟩ 2 else if (123 : UInt8) = 123 then rdVar r else RR.bad 3) = _
          rw [if_neg (by decide), if_pos rfl]
        have hs2 : (2 : Int) ≤ (B.size : Int) := by have := HBz.out; simp at this; omega
        have hx := HX2.out (by simp)
        simp only [List.drop_succ_cons, List.drop_zero] at hct hx
        rw [← hx] at hct
        unfold rdVar at hrd
        rcases hn : nameTo r with _ | nm
        · rw [hn] at hrd hct
          dsimp only at hrd
          simp only [Option.isSome_none] at hct
          have HR := Lib.hid hrd
          clear hd hrd hh hh2 hn hx
          go_enter Tryd.func48, Tryd.ntmps48
          go_wp2_with (first | (go_at_call 75; refine (hct _).mono ?_; rintro e w1 ⟨⟨rr, rfl⟩, nq, rfl⟩) | (go_at_call 73; refine (hdg _).mono ?_; rintro e w1 ⟨rfl, rfl⟩) | (go_at_call 74; refine (hpf _).mono ?_; rintro e w1 ⟨rfl, rfl⟩))
          have hr0 : ((w.alloc (.cells #[.int .i64 0, .string ⟨#[]⟩, .int .i64 0] 59)).drewN nq).heap[w.heap.size]? = some (.cells [.int .i64 0, .string ⟨#[]⟩, .int .i64 0].toArray 59 (0, 0)) := World.alloc_heap_new w (.cells #[.int .i64 0, .string ⟨#[]⟩, .int .i64 0] 59)
          have hb0 := below_drewN (HBL.out (.int .i64 0) (.string ⟨#[]⟩) (.int .i64 0)) nq
          obtain ⟨W, hW⟩ : ∃ W, W = set3 ((w.alloc (.cells #[.int .i64 0, .string ⟨#[]⟩, .int .i64 0] 59)).drewN nq) w.heap.size (.int .i64 0) (.string ⟨#[]⟩) (.int .i64 0) := ⟨_, rfl⟩
          have hr := set3_row (hr0) (.int .i64 0) (.string ⟨#[]⟩) (.int .i64 0)
          have hbw := set3_below (hb0) (Nat.le_refl _) (.int .i64 0) (.string ⟨#[]⟩) (.int .i64 0)
          rw [← hW] at hr hbw
          unfold set3 at hW
          rw [← hW]
          clear hW
          have y0 := cell_list (cs := [.int .i64 0, .string ⟨#[]⟩, .int .i64 0]) hr 0
          have y1 := cell_list (cs := [.int .i64 0, .string ⟨#[]⟩, .int .i64 0]) hr 1
          have y2 := cell_list (cs := [.int .i64 0, .string ⟨#[]⟩, .int .i64 0]) hr 2
          simp only [List.getElem?_cons_zero, List.getElem?_cons_succ] at y0 y1 y2
          refine bodyPost_ret (v := .tuple #[.agg #[.int .i64 0, .string ⟨#[]⟩, .int .i64 0], .int .i64 0, .int .i64 3]) (by simp [results, Tryd.results48, go_sem, y0, y1, y2]) rfl ⟨?_, hbw⟩
          rw [← HV.out]
          unfold readV
          rw [HR.out]
          rfl
        · rw [hn] at hrd hct
          dsimp only at hrd
          simp only [Option.isSome_some, Option.getD_some] at hct
          have hnl : nm.length ≤ 1000 := by have := nameTo_len _ _ hn; simp at hl; omega
          have HRD := Lib.hid hrd
          have n0 := hN.c0
          have n1 := hN.c1
          have n2 := hN.c2
          have n3 := hN.c3
          have n4 := hN.c4
          have nl := hN.lt
          have hnz : (bs nm).size ≤ 1000 := by rw [size_bs]; exact hnl
          clear hd hrd hh hh2 hn hx
          go_enter Tryd.func48, Tryd.ntmps48
          go_wp2_with (first | (go_at_call 75; refine (hct _).mono ?_; rintro e w1 ⟨⟨rr, rfl⟩, nq, rfl⟩) | (go_at_call 73; refine (hdg _).mono ?_; rintro e w1 ⟨rfl, rfl⟩) | (go_at_call 74; refine (hpf _).mono ?_; rintro e w1 ⟨rfl, rfl⟩))
          have hr0 : ((w.alloc (.cells #[.int .i64 0, .string ⟨#[]⟩, .int .i64 0] 59)).drewN nq).heap[w.heap.size]? = some (.cells [.int .i64 0, .string ⟨#[]⟩, .int .i64 0].toArray 59 (0, 0)) := World.alloc_heap_new w (.cells #[.int .i64 0, .string ⟨#[]⟩, .int .i64 0] 59)
          have hb0 := below_drewN (HBL.out (.int .i64 0) (.string ⟨#[]⟩) (.int .i64 0)) nq
          obtain ⟨W0, hW0⟩ : ∃ W0, W0 = (w.alloc (.cells #[.int .i64 0, .string ⟨#[]⟩, .int .i64 0] 59)).drewN nq := ⟨_, rfl⟩
          rw [← hW0] at hr0 hb0 ⊢
          clear hW0
          have z0 := cell_list hr0 0
          have z1 := cell_list hr0 1
          have z2 := cell_list hr0 2
          have zf := frozen_list hr0
          simp only [List.getElem?_cons_zero, List.getElem?_cons_succ] at z0 z1 z2
          obtain ⟨x0, x1, x2, x3, x4⟩ := arr5 (.string (bs [])) (.string (bs [80, 65, 84, 72])) (.string (bs [81, 85, 69, 82, 89])) (.string (bs [72, 79, 83, 84])) (.string (bs [77, 69, 84, 72, 79, 68])) W0
          go_loopg [64] 5 (fun g i W => ∃ k : Nat, i = .int .i64 k ∧ k + g = 5 ∧ W = W0 ∧ ∀ j, 1 ≤ j → j < k → nmOf j ≠ nm)
          case atStart => exact ⟨0, rfl, rfl, rfl, fun j _ h => by omega⟩
          case round =>
            obtain ⟨k, rfl, hk, rfl, hne⟩ := hrel
            have HNE := Lib.hid hne
            clear hne
            obtain rfl | rfl | rfl | rfl | rfl | rfl : k = 0 ∨ k = 1 ∨ k = 2 ∨ k = 3 ∨ k = 4 ∨ k = 5 := by omega
            · obtain rfl : gk = 4 + 1 := by omega
              go_wp2_with fail
              go_roundg 4
              case measure => omega
              case rel => exact ⟨1, rfl, rfl, rfl, fun j h1 h2 => by omega⟩
            · by_cases hq : ([80, 65, 84, 72] : Tp.Bs) = nm
              · have hqb : (([80, 65, 84, 72] : Tp.Bs) == nm) = true := beq_iff_eq.2 hq
                have hrd := HRD.out
                rw [show varNo nm = some 1 from by rw [← hq]; rfl] at hrd
                have HR := Lib.hid hrd
                clear hq hrd
                go_wp2_with fail
                obtain ⟨W, hW⟩ : ∃ W, W = set3 (wr) w.heap.size (.int .i64 4) (.string ⟨#[]⟩) (.int .i64 1) := ⟨_, rfl⟩
                have hr := set3_row (hr0) (.int .i64 4) (.string ⟨#[]⟩) (.int .i64 1)
                have hbw := set3_below (hb0) (Nat.le_refl _) (.int .i64 4) (.string ⟨#[]⟩) (.int .i64 1)
                rw [← hW] at hr hbw
                unfold set3 at hW
                rw [← hW]
                clear hW
                have y0 := cell_list (cs := [.int .i64 4, .string ⟨#[]⟩, .int .i64 1]) hr 0
                have y1 := cell_list (cs := [.int .i64 4, .string ⟨#[]⟩, .int .i64 1]) hr 1
                have y2 := cell_list (cs := [.int .i64 4, .string ⟨#[]⟩, .int .i64 1]) hr 2
                simp only [List.getElem?_cons_zero, List.getElem?_cons_succ] at y0 y1 y2
                refine bodyPost_ret (v := .tuple #[.agg #[.int .i64 4, .string ⟨#[]⟩, .int .i64 1], .int .i64 ((nm.length : Int) + 3), .int .i64 0]) (by simp [results, Tryd.results48, go_sem, y0, y1, y2]) rfl ⟨?_, hbw⟩
                rw [← HV.out]
                unfold readV
                rw [HR.out]
                rfl
              · have hqb : (([80, 65, 84, 72] : Tp.Bs) == nm) = false := beq_eq_false_iff_ne.2 hq
                have HQ := Lib.hid hq
                obtain rfl : gk = 3 + 1 := by omega
                clear hq
                go_wp2_with fail
                go_roundg 3
                case measure => omega
                case rel => exact ⟨2, rfl, rfl, rfl, fun j h1 h2 => by
                  rcases Nat.lt_or_ge j 1 with h | h
                  · exact HNE.out j h1 h
                  · obtain rfl : j = 1 := by omega
                    exact HQ.out⟩
            · by_cases hq : ([81, 85, 69, 82, 89] : Tp.Bs) = nm
              · have hqb : (([81, 85, 69, 82, 89] : Tp.Bs) == nm) = true := beq_iff_eq.2 hq
                have hrd := HRD.out
                rw [show varNo nm = some 2 from by rw [← hq]; rfl] at hrd
                have HR := Lib.hid hrd
                clear hq hrd
                go_wp2_with fail
                obtain ⟨W, hW⟩ : ∃ W, W = set3 (wr) w.heap.size (.int .i64 4) (.string ⟨#[]⟩) (.int .i64 2) := ⟨_, rfl⟩
                have hr := set3_row (hr0) (.int .i64 4) (.string ⟨#[]⟩) (.int .i64 2)
                have hbw := set3_below (hb0) (Nat.le_refl _) (.int .i64 4) (.string ⟨#[]⟩) (.int .i64 2)
                rw [← hW] at hr hbw
                unfold set3 at hW
                rw [← hW]
                clear hW
                have y0 := cell_list (cs := [.int .i64 4, .string ⟨#[]⟩, .int .i64 2]) hr 0
                have y1 := cell_list (cs := [.int .i64 4, .string ⟨#[]⟩, .int .i64 2]) hr 1
                have y2 := cell_list (cs := [.int .i64 4, .string ⟨#[]⟩, .int .i64 2]) hr 2
                simp only [List.getElem?_cons_zero, List.getElem?_cons_succ] at y0 y1 y2
                refine bodyPost_ret (v := .tuple #[.agg #[.int .i64 4, .string ⟨#[]⟩, .int .i64 2], .int .i64 ((nm.length : Int) + 3), .int .i64 0]) (by simp [results, Tryd.results48, go_sem, y0, y1, y2]) rfl ⟨?_, hbw⟩
                rw [← HV.out]
                unfold readV
                rw [HR.out]
                rfl
              · have hqb : (([81, 85, 69, 82, 89] : Tp.Bs) == nm) = false := beq_eq_false_iff_ne.2 hq
                have HQ := Lib.hid hq
                obtain rfl : gk = 2 + 1 := by omega
                clear hq
                go_wp2_with fail
                go_roundg 2
                case measure => omega
                case rel => exact ⟨3, rfl, rfl, rfl, fun j h1 h2 => by
                  rcases Nat.lt_or_ge j 2 with h | h
                  · exact HNE.out j h1 h
                  · obtain rfl : j = 2 := by omega
                    exact HQ.out⟩
            · by_cases hq : ([72, 79, 83, 84] : Tp.Bs) = nm
              · have hqb : (([72, 79, 83, 84] : Tp.Bs) == nm) = true := beq_iff_eq.2 hq
                have hrd := HRD.out
                rw [show varNo nm = some 3 from by rw [← hq]; rfl] at hrd
                have HR := Lib.hid hrd
                clear hq hrd
                go_wp2_with fail
                obtain ⟨W, hW⟩ : ∃ W, W = set3 (wr) w.heap.size (.int .i64 4) (.string ⟨#[]⟩) (.int .i64 3) := ⟨_, rfl⟩
                have hr := set3_row (hr0) (.int .i64 4) (.string ⟨#[]⟩) (.int .i64 3)
                have hbw := set3_below (hb0) (Nat.le_refl _) (.int .i64 4) (.string ⟨#[]⟩) (.int .i64 3)
                rw [← hW] at hr hbw
                unfold set3 at hW
                rw [← hW]
                clear hW
                have y0 := cell_list (cs := [.int .i64 4, .string ⟨#[]⟩, .int .i64 3]) hr 0
                have y1 := cell_list (cs := [.int .i64 4, .string ⟨#[]⟩, .int .i64 3]) hr 1
                have y2 := cell_list (cs := [.int .i64 4, .string ⟨#[]⟩, .int .i64 3]) hr 2
                simp only [List.getElem?_cons_zero, List.getElem?_cons_succ] at y0 y1 y2
                refine bodyPost_ret (v := .tuple #[.agg #[.int .i64 4, .string ⟨#[]⟩, .int .i64 3], .int .i64 ((nm.length : Int) + 3), .int .i64 0]) (by simp [results, Tryd.results48, go_sem, y0, y1, y2]) rfl ⟨?_, hbw⟩
                rw [← HV.out]
                unfold readV
                rw [HR.out]
                rfl
              · have hqb : (([72, 79, 83, 84] : Tp.Bs) == nm) = false := beq_eq_false_iff_ne.2 hq
                have HQ := Lib.hid hq
                obtain rfl : gk = 1 + 1 := by omega
                clear hq
                go_wp2_with fail
                go_roundg 1
                case measure => omega
                case rel => exact ⟨4, rfl, rfl, rfl, fun j h1 h2 => by
                  rcases Nat.lt_or_ge j 3 with h | h
                  · exact HNE.out j h1 h
                  · obtain rfl : j = 3 := by omega
                    exact HQ.out⟩
            · by_cases hq : ([77, 69, 84, 72, 79, 68] : Tp.Bs) = nm
              · have hqb : (([77, 69, 84, 72, 79, 68] : Tp.Bs) == nm) = true := beq_iff_eq.2 hq
                have hrd := HRD.out
                rw [show varNo nm = some 4 from by rw [← hq]; rfl] at hrd
                have HR := Lib.hid hrd
                clear hq hrd
                go_wp2_with fail
                obtain ⟨W, hW⟩ : ∃ W, W = set3 (wr) w.heap.size (.int .i64 4) (.string ⟨#[]⟩) (.int .i64 4) := ⟨_, rfl⟩
                have hr := set3_row (hr0) (.int .i64 4) (.string ⟨#[]⟩) (.int .i64 4)
                have hbw := set3_below (hb0) (Nat.le_refl _) (.int .i64 4) (.string ⟨#[]⟩) (.int .i64 4)
                rw [← hW] at hr hbw
                unfold set3 at hW
                rw [← hW]
                clear hW
                have y0 := cell_list (cs := [.int .i64 4, .string ⟨#[]⟩, .int .i64 4]) hr 0
                have y1 := cell_list (cs := [.int .i64 4, .string ⟨#[]⟩, .int .i64 4]) hr 1
                have y2 := cell_list (cs := [.int .i64 4, .string ⟨#[]⟩, .int .i64 4]) hr 2
                simp only [List.getElem?_cons_zero, List.getElem?_cons_succ] at y0 y1 y2
                refine bodyPost_ret (v := .tuple #[.agg #[.int .i64 4, .string ⟨#[]⟩, .int .i64 4], .int .i64 ((nm.length : Int) + 3), .int .i64 0]) (by simp [results, Tryd.results48, go_sem, y0, y1, y2]) rfl ⟨?_, hbw⟩
                rw [← HV.out]
                unfold readV
                rw [HR.out]
                rfl
              · have hqb : (([77, 69, 84, 72, 79, 68] : Tp.Bs) == nm) = false := beq_eq_false_iff_ne.2 hq
                have HQ := Lib.hid hq
                obtain rfl : gk = 0 + 1 := by omega
                clear hq
                go_wp2_with fail
                go_roundg 0
                case measure => omega
                case rel => exact ⟨5, rfl, rfl, rfl, fun j h1 h2 => by
                  rcases Nat.lt_or_ge j 4 with h | h
                  · exact HNE.out j h1 h
                  · obtain rfl : j = 4 := by omega
                    exact HQ.out⟩
            · have hrd := HRD.out
              rw [show varNo nm = none from by
                unfold varNo
                rw [if_neg (fun h => HNE.out 1 (by omega) (by omega) h.symm), if_neg (fun h => HNE.out 2 (by omega) (by omega) h.symm), if_neg (fun h => HNE.out 3 (by omega) (by omega) h.symm), if_neg (fun h => HNE.out 4 (by omega) (by omega) h.symm)]] at hrd
              have HR := Lib.hid hrd
              clear hrd
              go_wp2_with fail
              obtain ⟨W, hW⟩ : ∃ W, W = set3 (wr) w.heap.size (.int .i64 0) (.string ⟨#[]⟩) (.int .i64 0) := ⟨_, rfl⟩
              have hr := set3_row (hr0) (.int .i64 0) (.string ⟨#[]⟩) (.int .i64 0)
              have hbw := set3_below (hb0) (Nat.le_refl _) (.int .i64 0) (.string ⟨#[]⟩) (.int .i64 0)
              rw [← hW] at hr hbw
              unfold set3 at hW
              rw [← hW]
              clear hW
              have y0 := cell_list (cs := [.int .i64 0, .string ⟨#[]⟩, .int .i64 0]) hr 0
              have y1 := cell_list (cs := [.int .i64 0, .string ⟨#[]⟩, .int .i64 0]) hr 1
              have y2 := cell_list (cs := [.int .i64 0, .string ⟨#[]⟩, .int .i64 0]) hr 2
              simp only [List.getElem?_cons_zero, List.getElem?_cons_succ] at y0 y1 y2
              refine bodyPost_ret (v := .tuple #[.agg #[.int .i64 0, .string ⟨#[]⟩, .int .i64 0], .int .i64 0, .int .i64 11]) (by simp [results, Tryd.results48, go_sem, y0, y1, y2]) rfl ⟨?_, hbw⟩
              rw [← HV.out]
              unfold readV
              rw [HR.out]
              rfl
    · rw [hd] at hdg
      rcases r with _ | ⟨x, r⟩
      · cases hd
      have hdx : dig x = true := hd
      have hrd : rd (37 :: x :: r) = .ok ⟨3, [], (x.toNat : Int) - 48⟩ 2 := by
        show (if dig x = true then _ else _) = _
        rw [if_pos hdx]
      have h1s : 1 < B.size := by have := HBz.out; simp at this; omega
      have hx : (B[1].toNat : Int) = (x.toNat : Int) := by rw [HB1.out h1s x rfl]
      have hd2 : 48 ≤ x.toNat ∧ x.toNat ≤ 57 := by unfold dig at hdx; simpa using hdx
      have q1 : (48 : Int) ≤ (B[1].toNat : Int) := by omega
      have q2 : (B[1].toNat : Int) ≤ 57 := by omega
      have q3 : (1 : Int) < (B.size : Int) := by omega
      have HXX := Lib.hid hx
      have HR := Lib.hid hrd
      clear hd hdx hrd hx hd2
      go_enter Tryd.func48, Tryd.ntmps48
      go_wp2_with (first | (go_at_call 73; refine (hdg _).mono ?_; rintro e w1 ⟨rfl, rfl⟩) | (go_at_call 74; refine (hpf _).mono ?_; rintro e w1 ⟨rfl, rfl⟩))
      rw [HXX.out]
      obtain ⟨W, hW⟩ : ∃ W, W = w.alloc (.cells #[.int .i64 3, .string ⟨#[]⟩, .int .i64 ((x.toNat : Int) - 48)] 59) := ⟨_, rfl⟩
      have hr := World.alloc_heap_new w (.cells #[.int .i64 3, .string ⟨#[]⟩, .int .i64 ((x.toNat : Int) - 48)] 59)
      have hbw := HBL.out (.int .i64 3) (.string ⟨#[]⟩) (.int .i64 ((x.toNat : Int) - 48))
      rw [← hW] at hr hbw ⊢
      clear hW
      have y0 := cell_list (cs := [.int .i64 3, .string ⟨#[]⟩, .int .i64 ((x.toNat : Int) - 48)]) hr 0
      have y1 := cell_list (cs := [.int .i64 3, .string ⟨#[]⟩, .int .i64 ((x.toNat : Int) - 48)]) hr 1
      have y2 := cell_list (cs := [.int .i64 3, .string ⟨#[]⟩, .int .i64 ((x.toNat : Int) - 48)]) hr 2
      simp only [List.getElem?_cons_zero, List.getElem?_cons_succ] at y0 y1 y2
      refine bodyPost_ret (v := .tuple #[.agg #[.int .i64 3, .string ⟨#[]⟩, .int .i64 ((x.toNat : Int) - 48)], .int .i64 2, .int .i64 0]) (by simp [results, Tryd.results48, go_sem, y0, y1, y2]) rfl ⟨?_, hbw⟩
      rw [← HV.out]
      unfold readV
      rw [HR.out]
      rfl
  · have hrd : rd (b :: r) = .ok ⟨1, [b], 0⟩ 1 := by
      unfold rd
      dsimp only
      rw [if_neg h1, if_neg h2, if_neg h3]
    rw [decide_eq_false h1] at z92
    rw [decide_eq_false h2] at z36
    rw [decide_eq_false h3] at z37 hpf
    rw [Bool.false_and] at hpf
    have q3 : (1 : Int) ≤ (B.size : Int) := by omega
    have HR := Lib.hid hrd
    clear hrd h1 h2 h3
    go_enter Tryd.func48, Tryd.ntmps48
    go_wp2_with (first | (go_at_call 73; refine (hdg _).mono ?_; rintro e w1 ⟨rfl, rfl⟩) | (go_at_call 74; refine (hpf _).mono ?_; rintro e w1 ⟨rfl, rfl⟩))
    rw [HX3.out]
    obtain ⟨W, hW⟩ : ∃ W, W = w.alloc (.cells #[.int .i64 1, .string (bs [b]), .int .i64 0] 59) := ⟨_, rfl⟩
    have hr := World.alloc_heap_new w (.cells #[.int .i64 1, .string (bs [b]), .int .i64 0] 59)
    have hbw := HBL.out (.int .i64 1) (.string (bs [b])) (.int .i64 0)
    rw [← hW] at hr hbw ⊢
    clear hW
    have y0 := cell_list (cs := [.int .i64 1, .string (bs [b]), .int .i64 0]) hr 0
    have y1 := cell_list (cs := [.int .i64 1, .string (bs [b]), .int .i64 0]) hr 1
    have y2 := cell_list (cs := [.int .i64 1, .string (bs [b]), .int .i64 0]) hr 2
    simp only [List.getElem?_cons_zero, List.getElem?_cons_succ] at y0 y1 y2
    refine bodyPost_ret (v := .tuple #[.agg #[.int .i64 1, .string (bs [b]), .int .i64 0], .int .i64 1, .int .i64 0]) (by simp [results, Tryd.results48, go_sem, y0, y1, y2]) rfl ⟨?_, hbw⟩
    rw [← HV.out]
    unfold readV
    rw [HR.out]
    rfl
end Go.Proofs.YtllklgalghmnfaaDoor
