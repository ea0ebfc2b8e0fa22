/- A strings.Builder at the head of a block that the call itself made: WriteByte. -/
import Derived.Test.YtllklgalghmnfaaDoorBuilder
namespace Go.Proofs.YtllklgalghmnfaaDoor
open Go.RowKit Str
set_option linter.unusedVariables false
set_option linter.unusedSimpArgs false

set_option maxHeartbeats 1000000 in
set_option maxRecDepth 100000 in
theorem writeByte_any (base T g : Nat) (tail : List Value) (l : List UInt8) (c : Int) (b : UInt8) (hc : c = (b.toNat : Int)) (w : World) (hT : BType T tail.length) (hneT : T ≠ 5) (h : BState w base T g tail l) (hlen : l.length + 1 ≤ 140737488355328) (hb : base ≤ w.heap.size) :
    Calls Tryd.prog 100 #[.pointer (some ⟨g, 0, none⟩), .int .u8 c] w fun e w' => e = .returned .nilIface ∧ BState w' base T g tail (l ++ [b]) ∧ Below base w w' := by
  have Hc := hc
  have HC : Hid (c = (b.toNat : Int)) := hc
  clear hc Hc
  obtain ⟨i0, hi, hz0, hz1, hz2⟩ := info_parts infoByte
  go_enter Tryd.func100, Tryd.ntmps100
  go_wp2_with (go_at_call 107; refine (copyCheck_any base T g tail l _ hT h).mono ?_)
  rintro e w1 ⟨rfl, ⟨v, hu⟩, hb1⟩
  have c1 := cell_list hu.2.1 1
  simp only [List.getElem?_cons_succ, List.getElem?_cons_zero] at c1
  go_wp2_with (at_builtin; refine wpList_append_own _ rfl _ _ 97 rfl base 5 i0 (.int .u8 0) 1 1 Tryd.underlying97 hi hz0 hz1 hz2 rfl (by decide) _ _ _ rfl (hu.2.2.1.alloc _) ⟨w1.heap.size, 0, none⟩ 1 1 [.int .u8 c] rfl rfl (cell_one_new _ _ _) (by simp [Value.oneCell']) (by unfold maxLen; omega) (by omega) (by have := hb1.size; simp; omega) ?_)
  intro v' w2 hown' hgrow hiff
  have hg2 : w1.grownBy w2 v.ownBlock := by
    have ga := World.grownBy_alloc w1 (.cells #[.int .u8 c] 5) v.ownBlock
    exact ⟨hgrow.os.trans ga.os, hgrow.tape.trans ga.tape, hgrow.output.trans ga.output, Nat.le_trans ga.size hgrow.size, fun j hj hne => (hgrow.block j (Nat.lt_of_lt_of_le hj ga.size) hne).trans (ga.block j hj hne)⟩
  have hnil : l ++ [b] = [] → v' = .slice none 0 0 := fun e => by simp at e
  have hown2 : w2.ownsRow base 5 1 v' (l ++ [b]).length (Lib.byteCells (l ++ [b])) := by
    rw [List.length_append]
    have : Lib.byteCells (l ++ [b]) = Lib.byteCells l ++ [.int .u8 c] := by rw [HC.out]; simp [Lib.byteCells]
    rw [this]; exact hown'
  obtain ⟨hh2, hu2⟩ := hu.put hneT hg2 hown2 hnil
  have d1 := cell_list hh2 1
  simp only [List.getElem?_cons_succ, List.getElem?_cons_zero] at d1
  have f1 := frozen_list hh2 1
  have hbl : Below base w (w2.setCell ⟨g, 1, none⟩ v') := (hb1.grown hg2 (by have := hb1.size; omega) (fun k hk => (hu.2.2.1.lt k hk).1)).setCell (p := ⟨g, 1, none⟩) hu.1 _
  have hst := hu2.state
  obtain ⟨ao, n', cap, rfl⟩ : ∃ ao n' cap, v' = .slice ao n' cap := by
    rcases hown'.2 with ⟨hv, _⟩ | ⟨g', cap, cur, hv, _⟩
    · exact ⟨_, _, _, hv⟩
    · exact ⟨_, _, _, hv⟩
  clear hu hu2 hown' hown2 hiff hnil
  go_wp2
  go_ret
  exact ⟨rfl, hst, hbl⟩

end Go.Proofs.YtllklgalghmnfaaDoor
