/- Join, both. -/
import Derived.Test.YteppipkokeaijaaLineSplit
import Derived.Test.YteppipkokeaijaaBuilder
namespace Go.Proofs.Yteppipkokeaijaa
open Go.RowKit Str Mem
set_option linter.unusedVariables false
set_option linter.unusedSimpArgs false

set_option maxHeartbeats 1000000 in
set_option maxRecDepth 100000 in
theorem string_none (base T g : Nat) (tail : List Value) (w : World) (h : BState w base T g tail []) :
    Calls Try.prog 40 #[.pointer (some ⟨g, 0, none⟩)] w fun e w' => e = .returned (.string (bs [])) ∧ Below base w w' := by
  obtain ⟨hb, p, v, hp, hh, hown, hne, hnil⟩ := h
  have hv := hnil rfl
  subst hv
  have c1 := cell_list hh 1
  simp only [List.getElem?_cons_succ, List.getElem?_cons_zero] at c1
  have hSD : ∀ W, (Builtin.unsafeSliceData_ #[60] 79 #[.slice none 0 0]).run Try.prog W = .ok (.pointer none) W := fun W =>
    Lib.run_unsafeSliceData_nil _ _ _ _ _
  have hUS : ∀ W, (Builtin.unsafeString_ #[79, 3] 9 #[.pointer none, .int .i64 0]).run Try.prog W = .ok (.string .empty) W := fun W =>
    Lib.run_unsafeString_none _ _ _ _ _
  go_enter Try.func40, Try.ntmps40
  go_wp2
  go_region
  all_goals (go_wp2; go_ret; exact ⟨rfl, (Below.refl base w).drew⟩)
theorem string_any (base T g : Nat) (tail : List Value) (l : List UInt8) (w : World) (h : BState w base T g tail l) :
    Calls Try.prog 40 #[.pointer (some ⟨g, 0, none⟩)] w fun e w' => e = .returned (.string (bs l)) ∧ Below base w w' := by
  by_cases h0 : l = []
  · subst h0; exact string_none base T g tail w h
  · exact string_some base T g tail l w h h0
theorem builderType : BType 69 0 := by unfold BType; kernel_rfl

/-- Lines that are joined. -/
def okL (x : List UInt8 × Bool) : Bool := x.2 && refGood x.1
def joinT (L : List (List UInt8 × Bool)) : List UInt8 := (L.map (fun x => x.1 ++ [13, 10])).flatten
def joinV (L : List (List UInt8 × Bool)) : Value := if L.all okL = true then .tuple #[.string (bs (joinT L)), .int .i64 0] else .tuple #[.string ⟨#[]⟩, .int .i64 3]
theorem joinT_snoc (L : List (List UInt8 × Bool)) (x : List UInt8 × Bool) : joinT (L ++ [x]) = joinT L ++ (x.1 ++ [13, 10]) := by simp [joinT]
theorem joinT_len (L : List (List UInt8 × Bool)) (m : Nat) (h : ∀ x ∈ L, x.1.length ≤ m) : (joinT L).length ≤ L.length * (m + 2) := by
  induction L with
  | nil => simp [joinT]
  | cons x L ih =>
    have h1 := h x (by simp)
    have h2 := ih (fun y hy => h y (by simp [hy]))
    have e : joinT (x :: L) = x.1 ++ [13, 10] ++ joinT L := by simp [joinT]
    rw [e]
    simp only [List.length_append, List.length_cons, List.length_nil, Nat.succ_mul]
    omega
theorem hasAny3 (s : List UInt8) : hasAny s [13, 10, 0] = !(refGood s) := by
  unfold refGood hasAny
  simp only [List.contains_eq_any_beq]
  induction s with
  | nil => rfl
  | cons x s ih =>
    have e0 : ([13, 10, 0] : List UInt8).contains x = ((13 == x) || (10 == x) || (0 == x)) := by
      simp only [List.contains_eq_any_beq, List.any_cons, List.any_nil, Bool.or_false]
      rw [show (x == 13) = (13 == x) from BEq.comm, show (x == 10) = (10 == x) from BEq.comm, show (x == 0) = (0 == x) from BEq.comm, Bool.or_assoc]
    rw [List.any_cons, List.any_cons, List.any_cons, List.any_cons, ih, e0]
    generalize (13 == x) = a1
    generalize (10 == x) = a2
    generalize (0 == x) = a3
    generalize (s.any fun x => 13 == x) = b1
    generalize (s.any fun x => 0 == x) = b2
    generalize (s.any fun x => 10 == x) = b3
    cases a1 <;> cases a2 <;> cases a3 <;> cases b1 <;> cases b2 <;> cases b3 <;> rfl
theorem BState.keep {w w' : World} {base T g : Nat} {tail : List Value} {l : List UInt8} (h : BState w base T g tail l) (hb : Below w.heap.size w w') : BState w' base T g tail l := by
  obtain ⟨h1, p, v, hp, hh, how, hne, hnil⟩ := h
  refine ⟨h1, p, v, hp, (hb.block g (lt_of_cells hh)).trans hh, how.kept (w' := w') (row := none) ⟨hb.os, hb.tape, hb.output, hb.size, fun k hk _ => hb.block k hk⟩ ?_, hne, hnil⟩
  rcases v.ownBlock with _ | k
  · exact .inl rfl
  · exact .inr (by simp)

/-- The lines so far are right. -/
def OkTo (L : List (List UInt8 × Bool)) (k : Nat) : Prop := ∀ j x, j < k → L[j]? = some x → okL x = true
theorem OkTo.succ {L : List (List UInt8 × Bool)} {k : Nat} {x : List UInt8 × Bool} (h : OkTo L k) (hx : L[k]? = some x) (hk : okL x = true) : OkTo L (k + 1) := fun j y hj hy => by
  rcases Nat.lt_or_ge j k with h1 | h1
  · exact h j y h1 hy
  · obtain rfl : j = k := by omega
    rw [hx] at hy; cases hy; exact hk
theorem OkTo.all {L : List (List UInt8 × Bool)} (h : OkTo L L.length) : L.all okL = true := by
  rw [List.all_eq_true]
  intro x hx
  obtain ⟨j, hj⟩ := List.mem_iff_getElem?.1 hx
  exact h j x (List.getElem?_eq_some_iff.1 hj).1 hj
theorem not_all {L : List (List UInt8 × Bool)} {k : Nat} {x : List UInt8 × Bool} (hx : L[k]? = some x) (hk : okL x = false) : L.all okL = false := by
  rw [List.all_eq_false]
  exact ⟨x, List.mem_of_getElem? hx, by rw [hk]; simp⟩
theorem take_next {L : List (List UInt8 × Bool)} {k : Nat} {x : List UInt8 × Bool} (hx : L[k]? = some x) : L.take (k + 1) = L.take k ++ [x] := by
  rw [List.take_add_one, hx]; rfl

set_option maxRecDepth 20000 in
set_option maxHeartbeats 1000000 in
theorem join_any (a : Option Addr) (c : Nat) (L : List (List UInt8 × Bool)) (w : World) (hL : Lines w a L.length L) (hn : L.length ≤ 10000) (hm : ∀ x ∈ L, x.1.length ≤ 10000) :
    Calls Try.prog 25 #[.slice a L.length c] w fun e w' => e = .returned (joinV L) ∧ Below w.heap.size w w' := by
  have hB0 : BState (w.alloc (.cells #[.pointer none, .slice none 0 0] 69)) w.heap.size 69 w.heap.size [] [] :=
    ⟨Nat.le_refl _, _, _, .inl rfl, heap_alloc_new w _, World.ownsRow_nil _ _ _ _, by simp [Value.ownBlock], fun _ => rfl⟩
  have hb0 : Below w.heap.size w (w.alloc (.cells #[.pointer none, .slice none 0 0] 69)) := (Below.refl _ _).alloc (Nat.le_refl _) _
  have H0 := Lib.hid hB0
  clear hB0
  obtain ⟨V, hV⟩ : ∃ V, V = joinV L := ⟨_, rfl⟩
  rw [← hV]
  have HV := Lib.hid hV
  clear hV
  go_enter Try.func25, Try.ntmps25
  go_wp2_with fail
  go_loopg [9] L.length (fun g i wr => ∃ k : Nat, i = .int .i64 k ∧ k + g = L.length ∧ OkTo L k ∧ BState wr w.heap.size 69 w.heap.size [] (joinT (L.take k)) ∧ Below w.heap.size w wr)
  case atStart => exact ⟨0, rfl, by omega, fun j x hj => by omega, H0.out, hb0⟩
  case round =>
    obtain ⟨k, rfl, hk, hok, hB, hbl⟩ := hrel
    have HB := Lib.hid hB
    have HO := Lib.hid hok
    clear hB hok
    by_cases hlt : k < L.length
    · obtain ⟨g', rfl⟩ : ∃ g', gk = g' + 1 := ⟨gk - 1, by omega⟩
      obtain ⟨x, hx⟩ : ∃ x, L[k]? = some x := ⟨_, List.getElem?_eq_getElem hlt⟩
      obtain ⟨ad, rfl, hadb, g0, g1⟩ := hL.get k x hx
      have q0 : wr.cell? (ad.add (k * 2)) = some (.string (bs x.1)) := by rw [← g0]; exact World.cell?_of_block (w := w) (hbl.block _ (by rw [add_block]; exact hadb))
      have q1 : wr.cell? ⟨(ad.add (k * 2)).block, (ad.add (k * 2)).off + 1, none⟩ = some (.bool x.2) := by rw [← g1]; exact World.cell?_of_block (w := w) (hbl.block _ (by show (ad.add (k * 2)).block < _; rw [add_block]; exact hadb))
      have hxl := hm x (List.mem_of_getElem? hx)
      have hany := fun W => containsAny_any (bs x.1) ⟨#[13, 10, 0]⟩ (by rw [size_bs]; omega) (by decide) (by decide) (by decide) W
      rw [data_bs] at hany
      have h3 : hasAny x.1 (ByteArray.data ⟨#[13, 10, 0]⟩).toList = !(refGood x.1) := hasAny3 x.1
      rw [h3] at hany
      have HX := Lib.hid hx
      have hjl := joinT_len (L.take k) 10000 (fun y hy => hm y (List.mem_of_mem_take hy))
      have htl : (L.take k).length ≤ k := List.length_take_le _ _
      have hrow := World.alloc_heap_new wr (.cells #[.string (bs x.1), .bool x.2] 36)
      have hbw := hbl.alloc hbl.size (.cells #[.string (bs x.1), .bool x.2] 36)
      have hBS : BState (wr.alloc (.cells #[.string (bs x.1), .bool x.2] 36)) w.heap.size 69 w.heap.size [] (joinT (L.take k)) := HB.out.keep ((Below.refl _ _).alloc (Nat.le_refl _) _)
      clear g0 g1 h3 hx
      have hi0 : (0 : Int) ≤ (k : Int) := by omega
      have hi1 : (k : Int) < (L.length : Int) := by omega
      obtain ⟨t, gd⟩ := x
      rcases gd with _ | _
      · go_wp2_with fail
        refine bodyPost_ret (v := .tuple #[.string ⟨#[]⟩, .int .i64 3]) (by simp [results, Try.results25, go_sem]) rfl ⟨?_, hbw⟩
        rw [HV.out]
        unfold joinV
        rw [if_neg (by rw [not_all HX.out rfl]; simp)]
      · go_wp2_with fail
        refine (hany _).mono ?_
        rintro e w2 ⟨rfl, h2⟩
        have hbw2 := hbw.trans (h2.mono hbw.size)
        have hB2 := hBS.keep h2
        have hrow2 := (h2.block _ (by simp)).trans hrow
        have c0 := cell_list (cs := [.string (bs t), .bool true]) hrow2 0
        have c1 := cell_list (cs := [.string (bs t), .bool true]) hrow2 1
        simp only [List.getElem?_cons_zero, List.getElem?_cons_succ] at c0 c1
        have HB2 := Lib.hid hB2
        clear hany hB2 hBS
        rcases hg : refGood t with _ | _
        · have HG := Lib.hid hg
          clear hg
          go_wp2_with fail
          refine bodyPost_ret (v := .tuple #[.string ⟨#[]⟩, .int .i64 3]) (by simp [results, Try.results25, go_sem]) rfl ⟨?_, hbw2⟩
          rw [HV.out]
          unfold joinV
          rw [if_neg (by rw [not_all HX.out (by unfold okL; rw [HG.out]; rfl)]; simp)]
        · have HG := Lib.hid hg
          clear hg
          go_wp2_with fail
          have hlen : (joinT (L.take k)).length + (bs t ++ (⟨#[13, 10]⟩ : ByteArray)).size ≤ 140737488355328 := by
            have e : (bs t ++ (⟨#[13, 10]⟩ : ByteArray)).size = t.length + 2 := by rw [ByteArray.size_append, size_bs]; rfl
            rw [e]
            have h4 : t.length ≤ 10000 := hxl
            omega
          have hws := fun W h hb => writeString_any w.heap.size 69 w.heap.size [] (joinT (L.take k)) (bs t ++ ⟨#[13, 10]⟩) W builderType (by decide) h hlen hb
          refine (hws _ HB2.out hbw2.size).mono ?_
          rintro e w3 ⟨rfl, hB3, h3⟩
          have hB3' : BState w3 w.heap.size 69 w.heap.size [] (joinT (L.take (k + 1))) := by
            rw [take_next HX.out, joinT_snoc]
            have e : (bs t ++ (⟨#[13, 10]⟩ : ByteArray)).data.toList = t ++ [13, 10] := by rw [append_data, data_bs]
            rw [e] at hB3
            exact hB3
          have HB3 := Lib.hid hB3'
          clear hws hB3 hB3'
          go_wp2_with fail
          go_roundg g'
          case measure => omega
          case rel => exact ⟨k + 1, by go_num, by omega, HO.out.succ HX.out (by unfold okL; rw [HG.out]; rfl), HB3.out, hbw2.trans h3⟩
    · obtain rfl : k = L.length := by omega
      go_wp2_with fail
      have hB := HB.out
      rw [List.take_length] at hB
      have HB2 := Lib.hid hB
      refine (string_any _ _ _ _ _ _ hB).mono ?_
      clear hB
      rintro e w2 ⟨rfl, h2⟩
      go_wp2_with fail
      refine bodyPost_ret (v := .tuple #[.string (bs (joinT L)), .int .i64 0]) (by simp [results, Try.results25, go_sem]) rfl ⟨?_, ?_⟩
      · rw [HV.out]; unfold joinV; rw [if_pos HO.out.all]
      · exact hbl.trans h2

set_option maxRecDepth 20000 in
set_option maxHeartbeats 1000000 in
theorem refJoin_any (a : Option Addr) (c : Nat) (L : List (List UInt8 × Bool)) (w : World) (hL : Lines w a L.length L) (hn : L.length ≤ 10000) (hm : ∀ x ∈ L, x.1.length ≤ 10000) :
    Calls Try.prog 26 #[.slice a L.length c] w fun e w' => e = .returned (joinV L) ∧ w' = w := by
  obtain ⟨V, hV⟩ : ∃ V, V = joinV L := ⟨_, rfl⟩
  rw [← hV]
  have HV := Lib.hid hV
  clear hV
  go_enter Try.func26, Try.ntmps26
  go_wp2_with fail
  go_loopg [4, 5] L.length (fun g t i wr => ∃ k : Nat, i = .int .i64 k ∧ k + g = L.length ∧ OkTo L k ∧ t = .string (bs (joinT (L.take k))) ∧ wr = w)
  case atStart => exact ⟨0, rfl, by omega, fun j x hj => by omega, rfl, rfl⟩
  case round =>
    obtain ⟨k, rfl, hk, hok, rfl, rfl⟩ := hrel
    have HO := Lib.hid hok
    clear hok
    obtain ⟨X, hX⟩ : ∃ X, X = bs (joinT (L.take k)) := ⟨_, rfl⟩
    rw [← hX]
    have hXz : X.size ≤ 100020000 := by
      rw [hX, size_bs]
      have hjl := joinT_len (L.take k) 10000 (fun y hy => hm y (List.mem_of_mem_take hy))
      have htl : (L.take k).length ≤ k := List.length_take_le _ _
      omega
    have HX := Lib.hid hX
    clear hX
    by_cases hlt : k < L.length
    · obtain ⟨g', rfl⟩ : ∃ g', gk = g' + 1 := ⟨gk - 1, by omega⟩
      obtain ⟨x, hx⟩ : ∃ x, L[k]? = some x := ⟨_, List.getElem?_eq_getElem hlt⟩
      obtain ⟨ad, rfl, hadb, g0, g1⟩ := hL.get k x hx
      have hxl := hm x (List.mem_of_getElem? hx)
      have hany := fun W => refGood_any (bs x.1) (by rw [size_bs]; unfold maxLen; omega) W
      rw [data_bs] at hany
      have HL := Lib.hid hx
      clear hx
      have hi0 : (0 : Int) ≤ (k : Int) := by omega
      have hi1 : (k : Int) < (L.length : Int) := by omega
      obtain ⟨t, gd⟩ := x
      have htz : (bs t).size ≤ 10000 := by rw [size_bs]; exact hxl
      rcases gd with _ | _
      · go_wp2_with fail
        refine bodyPost_ret (v := .tuple #[.string ⟨#[]⟩, .int .i64 3]) (by simp [results, Try.results26, go_sem]) rfl ⟨?_, rfl⟩
        rw [HV.out]
        unfold joinV
        rw [if_neg (by rw [not_all HL.out rfl]; simp)]
      · go_wp2_with fail
        refine (hany _).mono ?_
        rintro e w2 ⟨rfl, rfl⟩
        rcases hg : refGood t with _ | _
        · have HG := Lib.hid hg
          clear hg
          go_wp2_with fail
          refine bodyPost_ret (v := .tuple #[.string ⟨#[]⟩, .int .i64 3]) (by simp [results, Try.results26, go_sem]) rfl ⟨?_, rfl⟩
          rw [HV.out]
          unfold joinV
          rw [if_neg (by rw [not_all HL.out (by unfold okL; rw [HG.out]; rfl)]; simp)]
        · have HG := Lib.hid hg
          clear hg hany
          go_wp2_with fail
          go_roundg g'
          case measure => omega
          case rel =>
            refine ⟨k + 1, by go_num, by omega, HO.out.succ HL.out (by unfold okL; rw [HG.out]; rfl), ?_, rfl⟩
            rw [take_next HL.out, joinT_snoc, HX.out]
            refine congrArg Value.string (eq_of_data ?_)
            simp only [append_data, data_bs, List.append_assoc]
    · obtain rfl : k = L.length := by omega
      go_wp2_with fail
      refine bodyPost_ret (v := .tuple #[.string X, .int .i64 0]) (by simp [results, Try.results26, go_sem]) rfl ⟨?_, rfl⟩
      rw [HV.out]; unfold joinV; rw [if_pos HO.out.all, HX.out, List.take_length]
end Go.Proofs.Yteppipkokeaijaa
