/- A strings.Builder at the head of a block that the call itself made (a variable of its own, or the first field of a struct): WriteString, String. -/
import Derived.Test.YtllklgalghmnfaaDoorChecked
import Derived.WalkKit
import Derived.WalkLawsBesides
import Derived.WalkSpells
import Derived.Lib.Builder
import Derived.Lib.UnsafeStr
import Derived.Lib.AppendStr
import Derived.RegionTactic
import Derived.Maps.AppendAt
import Derived.Test.YtllklgalghmnfaaDoorStrPlain
namespace Go.Proofs.YtllklgalghmnfaaDoor
open Go.RowKit Str
set_option linter.unusedVariables false
set_option linter.unusedSimpArgs false

theorem infoByte : (Tryd.prog.info? 5).map (fun i => (i.zero, i.size, i.bytes)) = some (some (.int .u8 0), 1, 1) := by kernel_rfl
theorem infoBuilder : (Tryd.prog.info? 125).map (fun i => i.size) = some 2 := by kernel_rfl
theorem cellsByte : Tryd.prog.cellsOf 5 = 1 := by kernel_rfl

/-- Block g is a variable of type T (2 + tail.length cells) that begins with a builder: it holds the bytes l. -/
def BState (w : World) (base T g : Nat) (tail : List Value) (l : List UInt8) : Prop :=
  base ≤ g ∧ ∃ p v, (p = .pointer none ∨ p = .pointer (some ⟨g, 0, none⟩)) ∧ w.heap[g]? = some (.cells (p :: v :: tail).toArray T (0, 0)) ∧ w.ownsRow base 5 1 v l.length (Lib.byteCells l) ∧ v.ownBlock ≠ some g ∧ (l = [] → v = .slice none 0 0)

/-- .. and has been used. -/
def BUsed (w : World) (base T g : Nat) (tail : List Value) (v : Value) (l : List UInt8) : Prop :=
  base ≤ g ∧ w.heap[g]? = some (.cells (.pointer (some ⟨g, 0, none⟩) :: v :: tail).toArray T (0, 0)) ∧ w.ownsRow base 5 1 v l.length (Lib.byteCells l) ∧ v.ownBlock ≠ some g ∧ (l = [] → v = .slice none 0 0)

theorem BUsed.state {w : World} {base T g : Nat} {tail : List Value} {v : Value} {l : List UInt8} (h : BUsed w base T g tail v l) : BState w base T g tail l :=
  ⟨h.1, _, v, .inr rfl, h.2⟩

/-- The type of the block is one that begins with a builder. -/
def BType (T k : Nat) : Prop := liesAt Tryd.prog Tryd.prog.depth T ((2 + k) / Tryd.prog.cellsOf T) 0 125 1 = true

theorem cell_list {w : World} {g T : Nat} {cs : List Value} (h : w.heap[g]? = some (.cells cs.toArray T (0, 0))) (j : Nat) : w.cell? ⟨g, j, none⟩ = cs[j]? := by
  rw [Lib.cell_of_heap h]; simp
theorem frozen_list {w : World} {g T : Nat} {cs : List Value} (h : w.heap[g]? = some (.cells cs.toArray T (0, 0))) (j : Nat) : w.frozen? ⟨g, j, none⟩ = false := Lib.frozen_of_heap h j
theorem lt_of_cells {w : World} {g : Nat} {o : Obj} (h : w.heap[g]? = some o) : g < w.heap.size := (Array.getElem?_eq_some_iff.1 h).1
theorem set_list {w : World} {g T : Nat} {cs : List Value} (h : w.heap[g]? = some (.cells cs.toArray T (0, 0))) (j : Nat) (u : Value) : (w.setCell ⟨g, j, none⟩ u).heap[g]? = some (.cells (cs.set j u).toArray T (0, 0)) := by
  simp [World.setCell, Array.getElem?_modify, h]

theorem callNoEscape (x : Value) (w : World) : (callFunc 112 #[x]).run Tryd.prog w = .ok (.value x) w := by
  rw [run_callFunc_extern (e := Extern.AbiNoEscape.same) Tryd.func112 (by kernel_rfl) (by kernel_rfl) (by kernel_rfl) (by kernel_rfl), Lib.run_noEscape]; rfl

set_option maxRecDepth 100000 in
theorem copyCheck_used (g : Nat) (w : World) (h0 : w.cell? ⟨g, 0, none⟩ = some (.pointer (some ⟨g, 0, none⟩))) :
    Calls Tryd.prog 107 #[.pointer (some ⟨g, 0, none⟩)] w fun e w' => e = .returned (.tuple #[]) ∧ w = w' := by
  obtain ⟨j, hj, _⟩ := Option.map_eq_some_iff.1 infoBuilder
  have hn := fun w : World => Lib.run_neq_ptr_same (P := Tryd.prog) w (⟨g, 0, none⟩ : Addr) Tryd.underlying123 hj
  go_enter Tryd.func107, Tryd.ntmps107
  go_wp2
  go_end0
  exact ⟨rfl, rfl⟩

set_option maxRecDepth 100000 in
theorem copyCheck_fresh (g T k : Nat) (w : World) (hT : BType T k) (h0 : w.cell? ⟨g, 0, none⟩ = some (.pointer none)) (hsh : w.shape? g = some (T, 2 + k)) (hfz : w.frozen? ⟨g, 0, none⟩ = false) :
    Calls Tryd.prog 107 #[.pointer (some ⟨g, 0, none⟩)] w fun e w' => e = .returned (.tuple #[]) ∧ w.setCell ⟨g, 0, none⟩ (.pointer (some ⟨g, 0, none⟩)) = w' := by
  obtain ⟨j, hj, hjs⟩ := Option.map_eq_some_iff.1 infoBuilder
  have h1 := Lib.run_to_unsafe (P := Tryd.prog) w ⟨g, 0, none⟩ Tryd.underlying123 Tryd.underlying146 hj (by rw [hjs]; decide) hsh (by show 0 < 2 + k; omega)
  have h2 := Lib.run_from_unsafe (P := Tryd.prog) w ⟨g, 0, none⟩ Tryd.underlying146 Tryd.underlying123 hj hsh hT
  have h3 := callNoEscape
  go_enter Tryd.func107, Tryd.ntmps107
  go_wp2
  go_end0
  exact ⟨rfl, rfl⟩

/-- Behind copyCheck the builder is a used one. -/
theorem copyCheck_any (base T g : Nat) (tail : List Value) (l : List UInt8) (w : World) (hT : BType T tail.length) (h : BState w base T g tail l) :
    Calls Tryd.prog 107 #[.pointer (some ⟨g, 0, none⟩)] w fun e w' => e = .returned (.tuple #[]) ∧ (∃ v, BUsed w' base T g tail v l) ∧ Below base w w' := by
  obtain ⟨hg, p, v, hp, hh, hown, hne, hnil⟩ := h
  have c0 := cell_list hh 0
  rcases hp with rfl | rfl
  · refine (copyCheck_fresh g T tail.length w hT (by simpa using c0) (by simp [World.shape?, hh]; omega) (frozen_list hh 0)).mono ?_
    rintro e w' ⟨rfl, rfl⟩
    refine ⟨rfl, ⟨v, hg, set_list hh 0 _, ?_, hne, hnil⟩, (Below.refl _ _).setCell (p := ⟨g, 0, none⟩) hg _⟩
    refine hown.kept (row := some g) ⟨rfl, rfl, rfl, by simp [World.setCell], fun k _ hk => Below.heap_setCell _ _ _ _ (fun e => hk (by simp [e]))⟩ (.inr hne)
  · refine (copyCheck_used g w (by simpa using c0)).mono ?_
    rintro e w' ⟨rfl, rfl⟩
    exact ⟨rfl, ⟨v, hg, hh, hown, hne, hnil⟩, Below.refl _ _⟩

/-- A store into the builder's second cell, the row behind it being another one. -/
theorem BUsed.put {w w1 : World} {base T g : Nat} {tail : List Value} {v v' : Value} {l l' : List UInt8} (h : BUsed w base T g tail v l) (hneT : T ≠ 5) (hg : w.grownBy w1 v.ownBlock)
    (ho : w1.ownsRow base 5 1 v' l'.length (Lib.byteCells l')) (hnil : l' = [] → v' = .slice none 0 0) :
    w1.heap[g]? = some (.cells (.pointer (some ⟨g, 0, none⟩) :: v :: tail).toArray T (0, 0)) ∧ BUsed (w1.setCell ⟨g, 1, none⟩ v') base T g tail v' l' := by
  obtain ⟨hb, hh, hown, hne, _⟩ := h
  have hh1 : w1.heap[g]? = some (.cells (.pointer (some ⟨g, 0, none⟩) :: v :: tail).toArray T (0, 0)) := (hg.block g (lt_of_cells hh) (fun e => hne e.symm)).trans hh
  have hne' : v'.ownBlock ≠ some g := by
    intro e
    rcases ho.2 with ⟨rfl, _⟩ | ⟨g', cap, cur, rfl, _, hgb, _⟩
    · simp [Value.ownBlock] at e
    · obtain rfl : g' = g := by simpa [Value.ownBlock] using e
      rw [hh1] at hgb
      simp at hgb
      exact hneT hgb.2
  refine ⟨hh1, hb, set_list hh1 1 _, ?_, hne', hnil⟩
  exact ho.kept (row := some g) ⟨rfl, rfl, rfl, by simp [World.setCell], fun k _ hk => Below.heap_setCell _ _ _ _ (fun e => hk (by simp [e]))⟩ (.inr hne')

set_option maxHeartbeats 1000000 in
set_option maxRecDepth 100000 in
theorem writeString_any (base T g : Nat) (tail : List Value) (l : List UInt8) (s : ByteArray) (w : World) (hT : BType T tail.length) (hneT : T ≠ 5) (h : BState w base T g tail l) (hlen : l.length + s.size ≤ 140737488355328) (hb : base ≤ w.heap.size) :
    Calls Tryd.prog 109 #[.pointer (some ⟨g, 0, none⟩), .string s] w fun e w' => e = .returned (.tuple #[.int .i64 s.size, .nilIface]) ∧ BState w' base T g tail (l ++ s.data.toList) ∧ Below base w w' := by
  obtain ⟨i0, hi, hz0, hz1, hz2⟩ := info_parts infoByte
  go_enter Tryd.func109, Tryd.ntmps109
  go_wp2_with (go_at_call 107; refine (copyCheck_any base T g tail l _ hT h).mono ?_)
  rintro e w1 ⟨rfl, ⟨v, hu⟩, hb1⟩
  have c1 := cell_list hu.2.1 1
  simp only [List.getElem?_cons_succ, List.getElem?_cons_zero] at c1
  go_wp2_with (at_builtin; refine Lib.wpList_append_own_string _ rfl _ _ 97 9 rfl base 5 i0 Tryd.underlying97 Tryd.underlying9 hi hz0 hz1 hz2 _ _ _ rfl hu.2.2.1 s rfl (by unfold maxLen; omega) (by omega) (by have := hb1.size; omega) ?_)
  intro v' w2 hown' hgrow hiff
  have hnil : l ++ s.data.toList = [] → v' = .slice none 0 0 := fun e => by
    obtain ⟨e1, e2⟩ := List.append_eq_nil_iff.1 e
    exact hiff.2 ⟨hu.2.2.2.2 e1, eq_of_data (by rw [e2]; rfl)⟩
  have hown2 : w2.ownsRow base 5 1 v' (l ++ s.data.toList).length (Lib.byteCells (l ++ s.data.toList)) := by
    rw [List.length_append, ← size_data]
    have : Lib.byteCells (l ++ s.data.toList) = Lib.byteCells l ++ Lib.strCells s := by simp [Lib.byteCells, Lib.strCells]
    rw [this]; exact hown'
  obtain ⟨hh2, hu2⟩ := hu.put hneT hgrow hown2 hnil
  have d1 := cell_list hh2 1
  simp only [List.getElem?_cons_succ, List.getElem?_cons_zero] at d1
  have f1 := frozen_list hh2 1
  have hbl : Below base w (w2.setCell ⟨g, 1, none⟩ v') := (hb1.grown hgrow (by have := hb1.size; omega) (fun k hk => (hu.2.2.1.lt k hk).1)).setCell (p := ⟨g, 1, none⟩) hu.1 _
  have hst := hu2.state
  clear hu hu2 hown' hown2 hiff hnil
  obtain ⟨ao, n', cap, rfl⟩ : ∃ ao n' cap, v' = .slice ao n' cap := by
    rcases hst.2 with ⟨p, u, _, hh, ho, _⟩
    have : u = v' := by
      have hx : (w2.setCell ⟨g, 1, none⟩ v').heap[g]? = _ := set_list hh2 1 v'
      rw [hh] at hx
      simp at hx
      exact hx.2
    subst this
    rcases ho.2 with ⟨hv, _⟩ | ⟨g', cap, cur, hv, _⟩
    · exact ⟨_, _, _, hv⟩
    · exact ⟨_, _, _, hv⟩
  go_wp2
  go_ret2
  exact ⟨rfl, hst, hbl⟩

set_option maxHeartbeats 1000000 in
set_option maxRecDepth 100000 in
theorem string_some (base T g : Nat) (tail : List Value) (l : List UInt8) (w : World) (h : BState w base T g tail l) (h0 : l ≠ []) :
    Calls Tryd.prog 91 #[.pointer (some ⟨g, 0, none⟩)] w fun e w' => e = .returned (.string (bs l)) ∧ Below base w w' := by
  obtain ⟨hb, p, v, hp, hh, hown, hne, _⟩ := h
  have hl0 : l.length ≠ 0 := by simpa using h0
  obtain ⟨g2, cap, cur, rfl, hbg, hg, hnc, hcm, hcs, htake⟩ : ∃ g2 cap cur, v = .slice (some ⟨g2, 0, none⟩) l.length cap ∧ base ≤ g2 ∧ w.heap[g2]? = some (.cells cur 5 (0, 0)) ∧ l.length ≤ cap ∧ cap ≤ maxLen ∧ cur.size = cap * 1 ∧ cur.toList.take (l.length * 1) = Lib.byteCells l := by
    rcases hown.2 with ⟨_, hz⟩ | ⟨g2, cap, cur, hv, r⟩
    · exact absurd hz hl0
    · exact ⟨g2, cap, cur, hv, r⟩
  have c1 := cell_list hh 1
  simp only [List.getElem?_cons_succ, List.getElem?_cons_zero] at c1
  have hSD : (Builtin.unsafeSliceData_ #[97] 141 #[.slice (some ⟨g2, 0, none⟩) l.length cap]).run Tryd.prog w.drew = .ok (.pointer (some ⟨g2, 0, none⟩)) w.drew :=
    Lib.run_unsafeSliceData_row _ _ _ _ _ _ (by omega)
  have hUS : (Builtin.unsafeString_ #[141, 3] 9 #[.pointer (some ⟨g2, 0, none⟩), .int .i64 l.length]).run Tryd.prog w.drew = .ok (.string ⟨l.toArray⟩) (w.drew.freeze ⟨g2, 0, none⟩ l.length) := by
    refine Lib.run_unsafeString_row w.drew 141 3 9 5 Tryd.underlying141 cellsByte g2 cur.size (by have hg' : w.drew.heap[g2]? = some (.cells cur 5 (0, 0)) := hg; simp [World.shape?, hg']) l h0 (by omega) (by unfold maxLen at hcm; omega) ?_
    intro j x hx
    exact hown.cells (g := g2) rfl j (.int .u8 x.toNat) (by simp [Lib.byteCells, hx])
  go_enter Tryd.func91, Tryd.ntmps91
  go_wp2
  go_region
  all_goals (go_wp2; go_ret; exact ⟨rfl, Lib.below_freeze (Below.drew (Below.refl base w)) (p := ⟨g2, 0, none⟩) hbg _⟩)

end Go.Proofs.YtllklgalghmnfaaDoor
