/- TemplateKnown: the chapter's examples. -/
import Derived.Test.YtllklgalghmnfaaDoorTplAwake
import Derived.Test.YtllklgalghmnfaaDoorTplEncoded
import Derived.Test.YtllklgalghmnfaaDoorTplLit
import Derived.Test.YtllklgalghmnfaaDoorTplUses
import Derived.Test.YtllklgalghmnfaaDoorTplLight
import Derived.Test.YtllklgalghmnfaaDoorReg
namespace Go.Proofs.YtllklgalghmnfaaDoor
open Go.RowKit Str Mem Tp
set_option linter.unusedVariables false
set_option linter.unusedSimpArgs false

/-- A block that holds these cells. -/
def Rw (W : World) (g T : Nat) (cs : List Value) : Prop := W.heap[g]? = some (.cells cs.toArray T (0, 0))
section
variable {W W' : World} {g T : Nat} {cs : List Value}
theorem Rw.c (h : Rw W g T cs) (j : Nat) (v : Value) (e : cs[j]? = some v) : W.cell? ⟨g, j, none⟩ = some v := by rw [cell_list h]; exact e
theorem Rw.lt (h : Rw W g T cs) : g < W.heap.size := lt_of_cells h
theorem Rw.below (h : Rw W g T cs) (hb : Below W.heap.size W W') : Rw W' g T cs := (hb.block _ h.lt).trans h
theorem Rw.alloc (h : Rw W g T cs) (o : Obj) : Rw (W.alloc o) g T cs := (Below.heap_alloc _ _ _ h.lt).trans h
theorem Rw.drew (h : Rw W g T cs) : Rw W.drew g T cs := h
theorem Rw.drewN (h : Rw W g T cs) (n : Nat) : Rw (W.drewN n) g T cs := h
theorem Rw.new (W : World) (T : Nat) (cs : List Value) : Rw (W.alloc (.cells cs.toArray T)) W.heap.size T cs := World.alloc_heap_new W _
theorem Rw.new2 (W : World) (o : Obj) (T : Nat) (cs : List Value) : Rw ((W.alloc o).alloc (.cells cs.toArray T)) (W.heap.size + 1) T cs := by
  have h := Rw.new (W.alloc o) T cs
  rw [World.size_alloc] at h
  exact h
theorem Rw.rd (h : Rw W g T cs) (sz n : Nat) (hl : cs.length = n * sz) : Rd W sz (some ⟨g, 0, none⟩) n cs :=
  ⟨hl, fun _ => ⟨_, rfl, h.lt, fun j u hu => by rw [add_flat, Nat.zero_add, cell_list h j]; exact hu⟩⟩
theorem Rw.owns (h : Rw W g T cs) (sz n base : Nat) (hl : cs.length = n * sz) (hb : base ≤ g) (hn : n ≤ maxLen) : Owns W base T sz (.slice (some ⟨g, 0, none⟩) n n) n cs :=
  ⟨hl, .inr ⟨g, n, cs.toArray, rfl, hb, h, Nat.le_refl _, hn, by rw [← hl]; simp, by rw [← hl]; simp⟩⟩
end
theorem wpList_append_full {P : Program} {w : World} {ops : Array Oper} {rest : List Oper} {o : Oper} {a : Act} {Q : Exit → Act → World → Prop} (hgd : o.guard = none) (s x : Operand) (t : TypeId)
    (ho : o.op = .call { callee := .builtin .append, args := #[s, x], argTypes := #[t, t] })
    (e : TypeId) (i : TypeInfo) (z : Value) (sz bytes : Nat) (ht : P.underlying t = some (.slice e)) (hi : P.info? e = some i) (hz : i.zero = some z)
    (hsize : i.size = sz) (hby : i.bytes = bytes) (hzs : z.cells.size = sz) (hsz : 0 < sz)
    (p : Addr) (n cap : Nat) (xs : List Value) (hs : a.eval s = .slice (some p) n cap) (h : Rd w sz (some p) n xs) (hn : 0 < n)
    (ad : Addr) (m c : Nat) (news : List Value) (hx : a.eval x = .slice (some ad) m c) (hr : Rd w sz (some ad) m news) (hm : 0 < m) (h1 : ∀ u ∈ news, u.oneCell' = true)
    (hf : cap < n + m) (h63 : n + m ≤ maxLen) (hbytes : (n + m) * bytes ≤ 140737488355328)
    (hK : ∀ v' w', Owns w' w.heap.size e sz v' (n + m) (xs ++ news) → Below w.heap.size w w' → wpList P ops Q rest (a.put o.dst v') w') : wpList P ops Q (o :: rest) a w := by
  refine wpList_plain hgd fun K hk => ?_
  obtain ⟨_, he, _, hc⟩ := h.get hn
  cases he
  obtain ⟨_, he, _, hcx⟩ := hr.get hm
  cases he
  obtain ⟨v', w', hrun, r2, r3⟩ := run_append_arg_grows (P := P) w t o.type e i z sz bytes ht hi hz hsize hby hzs hsz p n cap xs h.len (fun j u hu => hc j u hu) ad m c news hr.len (fun j u hu => hcx j u hu) hf h63 hbytes
  unfold Oper.wp execOp
  simp only [ho, resolve, invoke, builtin, Sem.run_bind, Sem.run_pure, Result.andThen_ok, List.map_toArray, List.map_cons, List.map_nil, hs, hx, hrun]
  exact hk _ _ (hK v' w' (Owns.of_own r2) ((Below.refl _ w).grown r3 (by simp) (fun k hk => by cases hk)))
theorem eqArr4k (n0 n1 n2 n3 : Int) (W : World) : (Op.equalIn 10000 44 (.agg #[.int .i64 n0, .int .i64 n1, .int .i64 n2, .int .i64 n3]) (.agg #[.int .i64 n0, .int .i64 n1, .int .i64 n2, .int .i64 n3])).run Tryd.prog W = .ok true W := by
  have u3 := Tryd.underlying3
  have a3 := Tryd.isAgg3
  have z3 := Tryd.sizeOf3
  rw [show (10000 : Nat) = 9999 + 1 from rfl, Op.equalIn]
  simp only [Sem.run_bind, run_underlying Tryd.underlying44, Result.andThen_ok]
  simp only [Std.Legacy.Range.forIn_eq_forIn_range', Std.Legacy.Range.size, Nat.sub_zero, Nat.add_sub_cancel, Nat.div_one, List.range'_succ, List.range'_zero, List.forIn_cons, List.forIn_nil]
  go_simp

set_option maxRecDepth 100000 in
theorem refuses_yes (s : Tp.Bs) (r : TR) (w : World) (hs : s.length ≤ 100000) (hN : Nm w) (hr : targetR s = r) :
    Calls Tryd.prog 42 #[.string (bs s), .int .i64 r.e, .int .i64 r.at'] w fun e w' => e = .returned (.bool true) ∧ Below w.heap.size w w' := by
  have hq := fun W h => target_any s W hs h
  rw [hr] at hq
  unfold TargetPost tgtV at hq
  clear hr
  go_enter Tryd.func42, Tryd.ntmps42
  go_wp2_with fail
  refine (hq _ hN).mono ?_
  rintro e w1 ⟨pa, pc, qa, qc, rfl, -, -, h1⟩
  have hb := (h1.alloc h1.size (.cells #[.bool r.sm, .bool r.ex, .string (bs r.h), .slice pa r.L.length pc, .bool r.hq, .slice qa r.M.length qc] 30)).alloc (by simp; have := h1.size; omega) (.cells #[.int .i64 r.e, .int .i64 r.at'] 26)
  clear hq h1
  go_wp2_with fail
  go_ret
  exact ⟨rfl, hb⟩
def knL : List Part := [⟨4, [], 3⟩, ⟨1, [36, 97], 0⟩]
def qaL : List Part := [⟨1, [97, 61], 0⟩, ⟨2, [], 1⟩]
def xyL : List Part := [⟨1, [47, 120, 63, 121], 0⟩]
def hpL : List Part := [⟨1, [47], 0⟩, ⟨2, [], 1⟩]
def ppL : List Part := [⟨1, [47, 97, 47], 0⟩, ⟨2, [], 1⟩]
def xeL : List Part := [⟨1, [120, 61], 0⟩, ⟨2, [], 1⟩]
def usL : List Part := [⟨1, [47], 0⟩, ⟨2, [], 1⟩, ⟨2, [], 1⟩, ⟨4, [], 1⟩]
def pxL : List Part := [⟨1, [47, 97, 47], 0⟩, ⟨2, [], 1⟩, ⟨1, [46, 120], 0⟩]
theorem kt0 (W : World) (h : Nm W) : Calls Tryd.prog 14 #[.string (bs [63, 97, 61, 36, 49])] W fun e w' => ∃ pa pc qa qc, e = .returned (.tuple #[.agg #[.bool false, .bool false, .string (bs []), .slice pa 0 pc, .bool true, .slice qa 2 qc], .agg #[.int .i64 0, .int .i64 0]]) ∧ Parts w' pa 0 [] ∧ Parts w' qa 2 [⟨1, [97, 61], 0⟩, ⟨2, [], 1⟩] ∧ Below W.heap.size W w' := by
  have := target_any [63, 97, 61, 36, 49] W (by simp) h
  rw [show targetR [63, 97, 61, 36, 49] = ⟨false, false, [], [], true, [⟨1, [97, 61], 0⟩, ⟨2, [], 1⟩], 0, 0⟩ from by kernel_rfl] at this
  exact this
theorem ks0 (pa qa pb qb : Option Addr) (pc qc pd qd : Nat) (W : World) (h1 : Parts W pa 0 []) (h2 : Parts W pb 0 []) (h3 : Parts W qa 2 [⟨1, [97, 61], 0⟩, ⟨2, [], 1⟩]) (h4 : Parts W qb 2 [⟨1, [97, 61], 0⟩, ⟨2, [], 1⟩]) : Calls Tryd.prog 17 #[.agg #[.bool false, .bool false, .string (bs []), .slice pa 0 pc, .bool true, .slice qa 2 qc], .agg #[.bool false, .bool false, .string (bs []), .slice pb 0 pd, .bool true, .slice qb 2 qd]] W fun e w' => e = .returned (.bool true) ∧ Below W.heap.size W w' :=
  sameTarget_any false false true [] pa pb qa qb pc pd qc qd [] [⟨1, [97, 61], 0⟩, ⟨2, [], 1⟩] W h1 h2 h3 h4 (by simp) (by simp)
theorem kt1 (W : World) (h : Nm W) : Calls Tryd.prog 14 #[.string (bs [47, 120, 92, 63, 121, 63])] W fun e w' => ∃ pa pc qa qc, e = .returned (.tuple #[.agg #[.bool false, .bool false, .string (bs []), .slice pa 1 pc, .bool true, .slice qa 0 qc], .agg #[.int .i64 0, .int .i64 0]]) ∧ Parts w' pa 1 [⟨1, [47, 120, 63, 121], 0⟩] ∧ Parts w' qa 0 [] ∧ Below W.heap.size W w' := by
  have := target_any [47, 120, 92, 63, 121, 63] W (by simp) h
  rw [show targetR [47, 120, 92, 63, 121, 63] = ⟨false, false, [], [⟨1, [47, 120, 63, 121], 0⟩], true, [], 0, 0⟩ from by kernel_rfl] at this
  exact this
theorem ks1 (pa qa pb qb : Option Addr) (pc qc pd qd : Nat) (W : World) (h1 : Parts W pa 1 [⟨1, [47, 120, 63, 121], 0⟩]) (h2 : Parts W pb 1 [⟨1, [47, 120, 63, 121], 0⟩]) (h3 : Parts W qa 0 []) (h4 : Parts W qb 0 []) : Calls Tryd.prog 17 #[.agg #[.bool false, .bool false, .string (bs []), .slice pa 1 pc, .bool true, .slice qa 0 qc], .agg #[.bool false, .bool false, .string (bs []), .slice pb 1 pd, .bool true, .slice qb 0 qd]] W fun e w' => e = .returned (.bool true) ∧ Below W.heap.size W w' :=
  sameTarget_any false false true [] pa pb qa qb pc pd qc qd [⟨1, [47, 120, 63, 121], 0⟩] [] W h1 h2 h3 h4 (by simp) (by simp)
theorem kt2 (W : World) (h : Nm W) : Calls Tryd.prog 14 #[.string (bs [104, 116, 116, 112, 58, 47, 47, 104, 46, 111, 114, 103, 47, 36, 49])] W fun e w' => ∃ pa pc qa qc, e = .returned (.tuple #[.agg #[.bool false, .bool true, .string (bs [104, 46, 111, 114, 103]), .slice pa 2 pc, .bool false, .slice qa 0 qc], .agg #[.int .i64 0, .int .i64 0]]) ∧ Parts w' pa 2 [⟨1, [47], 0⟩, ⟨2, [], 1⟩] ∧ Parts w' qa 0 [] ∧ Below W.heap.size W w' := by
  have := target_any [104, 116, 116, 112, 58, 47, 47, 104, 46, 111, 114, 103, 47, 36, 49] W (by simp) h
  rw [show targetR [104, 116, 116, 112, 58, 47, 47, 104, 46, 111, 114, 103, 47, 36, 49] = ⟨false, true, [104, 46, 111, 114, 103], [⟨1, [47], 0⟩, ⟨2, [], 1⟩], false, [], 0, 0⟩ from by kernel_rfl] at this
  exact this
theorem ks2 (pa qa pb qb : Option Addr) (pc qc pd qd : Nat) (W : World) (h1 : Parts W pa 2 [⟨1, [47], 0⟩, ⟨2, [], 1⟩]) (h2 : Parts W pb 2 [⟨1, [47], 0⟩, ⟨2, [], 1⟩]) (h3 : Parts W qa 0 []) (h4 : Parts W qb 0 []) : Calls Tryd.prog 17 #[.agg #[.bool false, .bool true, .string (bs [104, 46, 111, 114, 103]), .slice pa 2 pc, .bool false, .slice qa 0 qc], .agg #[.bool false, .bool true, .string (bs [104, 46, 111, 114, 103]), .slice pb 2 pd, .bool false, .slice qb 0 qd]] W fun e w' => e = .returned (.bool true) ∧ Below W.heap.size W w' :=
  sameTarget_any false true false [104, 46, 111, 114, 103] pa pb qa qb pc pd qc qd [⟨1, [47], 0⟩, ⟨2, [], 1⟩] [] W h1 h2 h3 h4 (by simp) (by simp)

set_option maxRecDepth 100000 in
set_option maxHeartbeats 16000000 in
theorem lawTplKnown_any (w : World) (hN : Nm w) : Calls Tryd.prog 7 #[] w fun e w' => e = .returned (.bool true) ∧ Below w.heap.size w w' := by
  have l0 := fun W => law_literal_any [36, 97] W
  have l1 := fun W => law_literal_any [97, 61] W
  have l2 := fun W => law_literal_any [47, 120, 63, 121] W
  have l3 := fun W => law_literal_any [47] W
  have l4 := fun W => law_literal_any [47, 97, 47] W
  have l5 := fun W => law_literal_any [120, 61] W
  have l6 := fun W => law_literal_any [46, 120] W
  have g1 := fun W => law_group_any 1 W
  have v1 := fun W => law_variable_any 1 W
  have v3 := fun W => law_variable_any 3 W
  have tx := fun a W h1 h2 => Text_any a 2 knL W h1 (by decide) (by decide) (by decide) (by decide) h2
  rw [show textR knL = ([37, 123, 72, 79, 83, 84, 125, 92, 36, 97], 0) from by kernel_rfl] at tx
  have y1 := fun a c W h hP => parses_yes [37, 123, 72, 79, 83, 84, 125, 92, 36, 97] knL a c W (by simp) h hP (by decide) (by kernel_rfl)
  have f0 := fun W h => fails_yes [36] 3 0 W (by simp) h (by kernel_rfl)
  have f1 := fun W h => fails_yes [37, 123, 88, 125] 11 0 W (by simp) h (by kernel_rfl)
  have f2 := fun W h => fails_yes [37, 123, 72, 79, 83, 84] 3 0 W (by simp) h (by kernel_rfl)
  have f3 := fun W h => fails_yes [97, 92] 3 1 W (by simp) h (by kernel_rfl)
  have r0 := fun W h => refuses_yes [120] ⟨false, false, [], [], false, [], 3, 0⟩ W (by simp) h (by kernel_rfl)
  have r1 := fun W h => refuses_yes [36, 49] ⟨false, false, [], [], false, [], 3, 0⟩ W (by simp) h (by kernel_rfl)
  have r2 := fun W h => refuses_yes [104, 116, 116, 112, 58, 47, 47, 47, 97] ⟨false, false, [], [], false, [], 3, 7⟩ W (by simp) h (by kernel_rfl)
  have r3 := fun W h => refuses_yes [] ⟨false, false, [], [], false, [], 2, 0⟩ W (by simp) h (by kernel_rfl)
  have ex := fun a b W h1 h4 h5 h6 => Expand_any 5 a b none 2 2 0 ppL [[119], [98, 47, 99]] [] [] [] [] [] W h1 (by decide) (by decide) (by decide) (by decide) h4 h5 h6 (by decide)
  rw [show expandR id [[119], [98, 47, 99]] [] [] [] [] [] 5 ppL = ([], 4) from by kernel_rfl] at ex
  have en := fun a b W h1 h4 h5 h6 => Encoded_any 20 a b none 2 2 0 xeL [[119], [97, 38, 98, 32, 99]] [] [] [] [] [] W h1 (by decide) (by decide) (by decide) (by decide) h4 h5 h6 (by decide)
  rw [show expandR (encS stayE) [[119], [97, 38, 98, 32, 99]] [] [] [] [] [] 20 xeL = ([120, 61, 97, 37, 50, 54, 98, 37, 50, 48, 99], 0) from by kernel_rfl] at en
  have us : ∀ (a : Option Addr) (W : World), Parts W a 4 usL → Nm W → Calls Tryd.prog 26 #[.slice a 4 4] W fun e w' => ∃ a1 c1 a2 c2, e = .returned (.tuple #[.slice a1 10 c1, .slice a2 10 c2, .agg #[.int .i64 1, .int .i64 0, .int .i64 0, .int .i64 0], .int .i64 0]) ∧ Rd w' 1 a1 10 [.int .i64 0, .int .i64 2, .int .i64 0, .int .i64 0, .int .i64 0, .int .i64 0, .int .i64 0, .int .i64 0, .int .i64 0, .int .i64 0] ∧ Below W.heap.size W w' := fun a W h1 h2 => by
    refine (uses_any a 4 usL W h1 (by decide) (by decide) (by decide) (by decide) h2).mono ?_
    rintro e w' ⟨a1, c1, a2, c2, rfl, hA, -, hB⟩
    have e1 : usesG 2 usL = [.int .i64 0, .int .i64 2, .int .i64 0, .int .i64 0, .int .i64 0, .int .i64 0, .int .i64 0, .int .i64 0, .int .i64 0, .int .i64 0] := by kernel_rfl
    have e2 : (usesG 3 usL).length = 10 := by kernel_rfl
    have e3 : usesV usL = [.int .i64 1, .int .i64 0, .int .i64 0, .int .i64 0] := by kernel_rfl
    have e4 : checkR usL = 0 := by kernel_rfl
    rw [e1] at hA
    rw [e1, e2, e3, e4]
    exact ⟨a1, c1, a2, c2, rfl, hA, hB⟩
  have li := fun a c W h1 h2 h3 h4 => Lit_any a c pxL W h1 (by decide) h2 h3 (by decide) h4
  rw [show litR pxL = ⟨[47, 97, 47], [46, 120], 5, 0⟩ from by kernel_rfl] at li
  obtain ⟨i0, hi, hz0, hz1, hz2⟩ := info_parts infoP
  unfold pv valsV at *
  have eqa := fun W => eqArr4k 1 0 0 0 W
  go_enter Tryd.func7, Tryd.ntmps7
  go_wp2_with fail
  refine (v3 _).mono ?_
  rintro e w1 ⟨rfl, h1⟩
  have b1 := h1
  go_wp2_with fail
  refine (l0 _).mono ?_
  rintro e w2 ⟨rfl, h2⟩
  have b2 := b1.trans (h2.mono b1.size)
  have b3 := b2.alloc b2.size (.cells (partCells knL).toArray 59)
  have hl := Rw.new w2 59 (partCells knL)
  go_wp2_with fail
  refine (tx (some ⟨w2.heap.size, 0, none⟩) _ (Rw.rd hl 3 2 rfl) (hN.below b3 hN.lt)).mono ?_
  rintro e w4 ⟨rfl, h4⟩
  have b4 := b3.trans (h4.mono b3.size)
  have hl := hl.below h4
  go_wp2_with fail
  refine (y1 (some ⟨w2.heap.size, 0, none⟩) 2 _ (hN.below b4 hN.lt) (Rw.rd hl 3 2 rfl)).mono ?_
  rintro e w5 ⟨rfl, h5⟩
  have b5 := b4.trans (h5.mono b4.size)
  have hl := hl.below h5
  clear hl
  go_wp2_with fail
  refine (f0 _ (hN.below b5 hN.lt)).mono ?_
  rintro e w6 ⟨rfl, h6⟩
  have b6 := b5.trans (h6.mono b5.size)
  go_wp2_with fail
  refine (f1 _ (hN.below b6 hN.lt)).mono ?_
  rintro e w7 ⟨rfl, h7⟩
  have b7 := b6.trans (h7.mono b6.size)
  go_wp2_with fail
  refine (f2 _ (hN.below b7 hN.lt)).mono ?_
  rintro e w8 ⟨rfl, h8⟩
  have b8 := b7.trans (h8.mono b7.size)
  go_wp2_with fail
  refine (f3 _ (hN.below b8 hN.lt)).mono ?_
  rintro e w9 ⟨rfl, h9⟩
  have b9 := b8.trans (h9.mono b8.size)
  go_wp2_with fail
  refine (kt0 _ (hN.below b9 hN.lt)).mono ?_
  rintro e w10 ⟨pa10, pc10, qa10, qc10, rfl, hp10, hq10, h10⟩
  have b10 := b9.trans (h10.mono b9.size)
  have b11 := b10.alloc b10.size (.cells #[.bool false, .bool false, .string (bs []), .slice pa10 0 pc10, .bool true, .slice qa10 2 qc10] 30)
  have hp10 := Rd.alloc hp10 (.cells #[.bool false, .bool false, .string (bs []), .slice pa10 0 pc10, .bool true, .slice qa10 2 qc10] 30)
  have hq10 := Rd.alloc hq10 (.cells #[.bool false, .bool false, .string (bs []), .slice pa10 0 pc10, .bool true, .slice qa10 2 qc10] 30)
  have t10 := Rw.new w10 30 [.bool false, .bool false, .string (bs []), .slice pa10 0 pc10, .bool true, .slice qa10 2 qc10]
  have b12 := b11.alloc b11.size (.cells #[.int .i64 0, .int .i64 0] 26)
  have hp10 := Rd.alloc hp10 (.cells #[.int .i64 0, .int .i64 0] 26)
  have hq10 := Rd.alloc hq10 (.cells #[.int .i64 0, .int .i64 0] 26)
  have t10 := t10.alloc (.cells #[.int .i64 0, .int .i64 0] 26)
  have u10 := Rw.new2 w10 (.cells #[.bool false, .bool false, .string (bs []), .slice pa10 0 pc10, .bool true, .slice qa10 2 qc10] 30) 26 [.int .i64 0, .int .i64 0]
  go_wp2_with fail
  refine (kt1 _ (hN.below b12 hN.lt)).mono ?_
  rintro e w13 ⟨pa13, pc13, qa13, qc13, rfl, hp13, hq13, h13⟩
  have b13 := b12.trans (h13.mono b12.size)
  have hp10 := Rd.below hp10 h13
  have hq10 := Rd.below hq10 h13
  have t10 := t10.below h13
  have u10 := u10.below h13
  have b14 := b13.alloc b13.size (.cells #[.bool false, .bool false, .string (bs []), .slice pa13 1 pc13, .bool true, .slice qa13 0 qc13] 30)
  have hp10 := Rd.alloc hp10 (.cells #[.bool false, .bool false, .string (bs []), .slice pa13 1 pc13, .bool true, .slice qa13 0 qc13] 30)
  have hq10 := Rd.alloc hq10 (.cells #[.bool false, .bool false, .string (bs []), .slice pa13 1 pc13, .bool true, .slice qa13 0 qc13] 30)
  have t10 := t10.alloc (.cells #[.bool false, .bool false, .string (bs []), .slice pa13 1 pc13, .bool true, .slice qa13 0 qc13] 30)
  have u10 := u10.alloc (.cells #[.bool false, .bool false, .string (bs []), .slice pa13 1 pc13, .bool true, .slice qa13 0 qc13] 30)
  have hp13 := Rd.alloc hp13 (.cells #[.bool false, .bool false, .string (bs []), .slice pa13 1 pc13, .bool true, .slice qa13 0 qc13] 30)
  have hq13 := Rd.alloc hq13 (.cells #[.bool false, .bool false, .string (bs []), .slice pa13 1 pc13, .bool true, .slice qa13 0 qc13] 30)
  have t13 := Rw.new w13 30 [.bool false, .bool false, .string (bs []), .slice pa13 1 pc13, .bool true, .slice qa13 0 qc13]
  have b15 := b14.alloc b14.size (.cells #[.int .i64 0, .int .i64 0] 26)
  have hp10 := Rd.alloc hp10 (.cells #[.int .i64 0, .int .i64 0] 26)
  have hq10 := Rd.alloc hq10 (.cells #[.int .i64 0, .int .i64 0] 26)
  have t10 := t10.alloc (.cells #[.int .i64 0, .int .i64 0] 26)
  have u10 := u10.alloc (.cells #[.int .i64 0, .int .i64 0] 26)
  have hp13 := Rd.alloc hp13 (.cells #[.int .i64 0, .int .i64 0] 26)
  have hq13 := Rd.alloc hq13 (.cells #[.int .i64 0, .int .i64 0] 26)
  have t13 := t13.alloc (.cells #[.int .i64 0, .int .i64 0] 26)
  have u13 := Rw.new2 w13 (.cells #[.bool false, .bool false, .string (bs []), .slice pa13 1 pc13, .bool true, .slice qa13 0 qc13] 30) 26 [.int .i64 0, .int .i64 0]
  go_wp2_with fail
  refine (kt2 _ (hN.below b15 hN.lt)).mono ?_
  rintro e w16 ⟨pa16, pc16, qa16, qc16, rfl, hp16, hq16, h16⟩
  have b16 := b15.trans (h16.mono b15.size)
  have hp10 := Rd.below hp10 h16
  have hq10 := Rd.below hq10 h16
  have t10 := t10.below h16
  have u10 := u10.below h16
  have hp13 := Rd.below hp13 h16
  have hq13 := Rd.below hq13 h16
  have t13 := t13.below h16
  have u13 := u13.below h16
  have b17 := b16.alloc b16.size (.cells #[.bool false, .bool true, .string (bs [104, 46, 111, 114, 103]), .slice pa16 2 pc16, .bool false, .slice qa16 0 qc16] 30)
  have hp10 := Rd.alloc hp10 (.cells #[.bool false, .bool true, .string (bs [104, 46, 111, 114, 103]), .slice pa16 2 pc16, .bool false, .slice qa16 0 qc16] 30)
  have hq10 := Rd.alloc hq10 (.cells #[.bool false, .bool true, .string (bs [104, 46, 111, 114, 103]), .slice pa16 2 pc16, .bool false, .slice qa16 0 qc16] 30)
  have t10 := t10.alloc (.cells #[.bool false, .bool true, .string (bs [104, 46, 111, 114, 103]), .slice pa16 2 pc16, .bool false, .slice qa16 0 qc16] 30)
  have u10 := u10.alloc (.cells #[.bool false, .bool true, .string (bs [104, 46, 111, 114, 103]), .slice pa16 2 pc16, .bool false, .slice qa16 0 qc16] 30)
  have hp13 := Rd.alloc hp13 (.cells #[.bool false, .bool true, .string (bs [104, 46, 111, 114, 103]), .slice pa16 2 pc16, .bool false, .slice qa16 0 qc16] 30)
  have hq13 := Rd.alloc hq13 (.cells #[.bool false, .bool true, .string (bs [104, 46, 111, 114, 103]), .slice pa16 2 pc16, .bool false, .slice qa16 0 qc16] 30)
  have t13 := t13.alloc (.cells #[.bool false, .bool true, .string (bs [104, 46, 111, 114, 103]), .slice pa16 2 pc16, .bool false, .slice qa16 0 qc16] 30)
  have u13 := u13.alloc (.cells #[.bool false, .bool true, .string (bs [104, 46, 111, 114, 103]), .slice pa16 2 pc16, .bool false, .slice qa16 0 qc16] 30)
  have hp16 := Rd.alloc hp16 (.cells #[.bool false, .bool true, .string (bs [104, 46, 111, 114, 103]), .slice pa16 2 pc16, .bool false, .slice qa16 0 qc16] 30)
  have hq16 := Rd.alloc hq16 (.cells #[.bool false, .bool true, .string (bs [104, 46, 111, 114, 103]), .slice pa16 2 pc16, .bool false, .slice qa16 0 qc16] 30)
  have t16 := Rw.new w16 30 [.bool false, .bool true, .string (bs [104, 46, 111, 114, 103]), .slice pa16 2 pc16, .bool false, .slice qa16 0 qc16]
  have b18 := b17.alloc b17.size (.cells #[.int .i64 0, .int .i64 0] 26)
  have hp10 := Rd.alloc hp10 (.cells #[.int .i64 0, .int .i64 0] 26)
  have hq10 := Rd.alloc hq10 (.cells #[.int .i64 0, .int .i64 0] 26)
  have t10 := t10.alloc (.cells #[.int .i64 0, .int .i64 0] 26)
  have u10 := u10.alloc (.cells #[.int .i64 0, .int .i64 0] 26)
  have hp13 := Rd.alloc hp13 (.cells #[.int .i64 0, .int .i64 0] 26)
  have hq13 := Rd.alloc hq13 (.cells #[.int .i64 0, .int .i64 0] 26)
  have t13 := t13.alloc (.cells #[.int .i64 0, .int .i64 0] 26)
  have u13 := u13.alloc (.cells #[.int .i64 0, .int .i64 0] 26)
  have hp16 := Rd.alloc hp16 (.cells #[.int .i64 0, .int .i64 0] 26)
  have hq16 := Rd.alloc hq16 (.cells #[.int .i64 0, .int .i64 0] 26)
  have t16 := t16.alloc (.cells #[.int .i64 0, .int .i64 0] 26)
  have u16 := Rw.new2 w16 (.cells #[.bool false, .bool true, .string (bs [104, 46, 111, 114, 103]), .slice pa16 2 pc16, .bool false, .slice qa16 0 qc16] 30) 26 [.int .i64 0, .int .i64 0]
  go_wp2_with fail
  have hp10 := Rd.drew hp10
  have hq10 := Rd.drew hq10
  have t10 := t10.drew
  have u10 := u10.drew
  have hp13 := Rd.drew hp13
  have hq13 := Rd.drew hq13
  have t13 := t13.drew
  have u13 := u13.drew
  have hp16 := Rd.drew hp16
  have hq16 := Rd.drew hq16
  have t16 := t16.drew
  have u16 := u16.drew
  have bd := b18.drew
  refine wp_region_noPanic ?_
  refine wp_region_held_drew (S := fun W => W.cell? ⟨w10.heap.size, 0, none⟩ = some (.bool false) ∧ W.cell? ⟨w10.heap.size, 1, none⟩ = some (.bool false) ∧ W.cell? ⟨w10.heap.size, 2, none⟩ = some (.string (bs [])) ∧ W.cell? ⟨w10.heap.size, 3, none⟩ = some (.slice pa10 0 pc10) ∧ W.cell? ⟨w10.heap.size, 4, none⟩ = some (.bool true) ∧ W.cell? ⟨w10.heap.size, 5, none⟩ = some (.slice qa10 2 qc10) ∧ W.cell? ⟨w10.heap.size + 1, 0, none⟩ = some (.int .i64 0) ∧ W.cell? ⟨w10.heap.size + 1, 1, none⟩ = some (.int .i64 0) ∧ W.cell? ⟨w13.heap.size, 0, none⟩ = some (.bool false) ∧ W.cell? ⟨w13.heap.size, 1, none⟩ = some (.bool false) ∧ W.cell? ⟨w13.heap.size, 2, none⟩ = some (.string (bs [])) ∧ W.cell? ⟨w13.heap.size, 3, none⟩ = some (.slice pa13 1 pc13) ∧ W.cell? ⟨w13.heap.size, 4, none⟩ = some (.bool true) ∧ W.cell? ⟨w13.heap.size, 5, none⟩ = some (.slice qa13 0 qc13) ∧ W.cell? ⟨w13.heap.size + 1, 0, none⟩ = some (.int .i64 0) ∧ W.cell? ⟨w13.heap.size + 1, 1, none⟩ = some (.int .i64 0) ∧ W.cell? ⟨w16.heap.size, 0, none⟩ = some (.bool false) ∧ W.cell? ⟨w16.heap.size, 1, none⟩ = some (.bool true) ∧ W.cell? ⟨w16.heap.size, 2, none⟩ = some (.string (bs [104, 46, 111, 114, 103])) ∧ W.cell? ⟨w16.heap.size, 3, none⟩ = some (.slice pa16 2 pc16) ∧ W.cell? ⟨w16.heap.size, 4, none⟩ = some (.bool false) ∧ W.cell? ⟨w16.heap.size, 5, none⟩ = some (.slice qa16 0 qc16) ∧ W.cell? ⟨w16.heap.size + 1, 0, none⟩ = some (.int .i64 0) ∧ W.cell? ⟨w16.heap.size + 1, 1, none⟩ = some (.int .i64 0)) (by kernel_rfl) ?_ (fun hH => ?_)
  · exact ⟨t10.c 0 _ rfl, t10.c 1 _ rfl, t10.c 2 _ rfl, t10.c 3 _ rfl, t10.c 4 _ rfl, t10.c 5 _ rfl, u10.c 0 _ rfl, u10.c 1 _ rfl, t13.c 0 _ rfl, t13.c 1 _ rfl, t13.c 2 _ rfl, t13.c 3 _ rfl, t13.c 4 _ rfl, t13.c 5 _ rfl, u13.c 0 _ rfl, u13.c 1 _ rfl, t16.c 0 _ rfl, t16.c 1 _ rfl, t16.c 2 _ rfl, t16.c 3 _ rfl, t16.c 4 _ rfl, t16.c 5 _ rfl, u16.c 0 _ rfl, u16.c 1 _ rfl⟩
  refine Reg.take (i := 0) (u := ?b1_v0) rfl rfl rfl (by kernel_rfl) (by kernel_rfl) (by kernel_rfl) hH ?b1_y0 ?b1_r0
  case b1_y0 => (intro w hSw; (try dsimp only at hSw); go_simp; try (with_reducible rfl))
  case' b1_r0 => simp only [List.setIfInBounds_toArray, List.set_cons_zero, List.set_cons_succ]
  refine Reg.take (i := 1) (u := ?b1_v1) rfl rfl rfl (by kernel_rfl) (by kernel_rfl) (by kernel_rfl) hH ?b1_y1 ?b1_r1
  case b1_y1 => (intro w hSw; (try dsimp only at hSw); go_simp; try (with_reducible rfl))
  case' b1_r1 => simp only [List.setIfInBounds_toArray, List.set_cons_zero, List.set_cons_succ]
  refine Reg.take (i := 2) (u := ?b1_v2) rfl rfl rfl (by kernel_rfl) (by kernel_rfl) (by kernel_rfl) hH ?b1_y2 ?b1_r2
  case b1_y2 => (intro w hSw; (try dsimp only at hSw); go_simp; try (with_reducible rfl))
  case' b1_r2 => simp only [List.setIfInBounds_toArray, List.set_cons_zero, List.set_cons_succ]
  refine Reg.take (i := 3) (u := ?b1_v3) rfl rfl rfl (by kernel_rfl) (by kernel_rfl) (by kernel_rfl) hH ?b1_y3 ?b1_r3
  case b1_y3 => (intro w hSw; (try dsimp only at hSw); go_simp; try (with_reducible rfl))
  case' b1_r3 => simp only [List.setIfInBounds_toArray, List.set_cons_zero, List.set_cons_succ]
  refine Reg.takeIf (i := 4) (u := ?b1_v4) rfl rfl rfl rfl rfl (by kernel_rfl) (by kernel_rfl) (by kernel_rfl) hH ?b1_y4 ?b1_r4
  case b1_y4 => (intro w hSw; (try dsimp only at hSw); go_simp; try (with_reducible rfl))
  case' b1_r4 => simp only [List.setIfInBounds_toArray, List.set_cons_zero, List.set_cons_succ]
  refine Reg.only (i := 5) rfl (Reg.wanted_hit rfl rfl rfl) (by kernel_rfl) (fun K hK => ?_)
  go_simp
  go_at_call 38
  refine (l1 _).mono ?_
  rintro e w19 ⟨rfl, h19⟩
  have b19 := bd.trans (h19.mono bd.size)
  have hp10 := Rd.below hp10 h19
  have hq10 := Rd.below hq10 h19
  have t10 := t10.below h19
  have u10 := u10.below h19
  have hp13 := Rd.below hp13 h19
  have hq13 := Rd.below hq13 h19
  have t13 := t13.below h19
  have u13 := u13.below h19
  have hp16 := Rd.below hp16 h19
  have hq16 := Rd.below hq16 h19
  have t16 := t16.below h19
  have u16 := u16.below h19
  refine hK.out _ _ ?_ (fun hH2 => ?_)
  · exact ⟨t10.c 0 _ rfl, t10.c 1 _ rfl, t10.c 2 _ rfl, t10.c 3 _ rfl, t10.c 4 _ rfl, t10.c 5 _ rfl, u10.c 0 _ rfl, u10.c 1 _ rfl, t13.c 0 _ rfl, t13.c 1 _ rfl, t13.c 2 _ rfl, t13.c 3 _ rfl, t13.c 4 _ rfl, t13.c 5 _ rfl, u13.c 0 _ rfl, u13.c 1 _ rfl, t16.c 0 _ rfl, t16.c 1 _ rfl, t16.c 2 _ rfl, t16.c 3 _ rfl, t16.c 4 _ rfl, t16.c 5 _ rfl, u16.c 0 _ rfl, u16.c 1 _ rfl⟩
  clear hK hH
  have hH := hH2; clear hH2
  try simp only [Act.put, List.setIfInBounds_toArray, List.set_cons_zero, List.set_cons_succ]
  refine Reg.only (i := 6) rfl (Reg.wanted_hit rfl rfl rfl) (by kernel_rfl) (fun K hK => ?_)
  go_simp
  go_at_call 41
  refine (g1 _).mono ?_
  rintro e w20 ⟨rfl, h20⟩
  have b20 := b19.trans (h20.mono b19.size)
  have hp10 := Rd.below hp10 h20
  have hq10 := Rd.below hq10 h20
  have t10 := t10.below h20
  have u10 := u10.below h20
  have hp13 := Rd.below hp13 h20
  have hq13 := Rd.below hq13 h20
  have t13 := t13.below h20
  have u13 := u13.below h20
  have hp16 := Rd.below hp16 h20
  have hq16 := Rd.below hq16 h20
  have t16 := t16.below h20
  have u16 := u16.below h20
  refine hK.out _ _ ?_ (fun hH2 => ?_)
  · exact ⟨t10.c 0 _ rfl, t10.c 1 _ rfl, t10.c 2 _ rfl, t10.c 3 _ rfl, t10.c 4 _ rfl, t10.c 5 _ rfl, u10.c 0 _ rfl, u10.c 1 _ rfl, t13.c 0 _ rfl, t13.c 1 _ rfl, t13.c 2 _ rfl, t13.c 3 _ rfl, t13.c 4 _ rfl, t13.c 5 _ rfl, u13.c 0 _ rfl, u13.c 1 _ rfl, t16.c 0 _ rfl, t16.c 1 _ rfl, t16.c 2 _ rfl, t16.c 3 _ rfl, t16.c 4 _ rfl, t16.c 5 _ rfl, u16.c 0 _ rfl, u16.c 1 _ rfl⟩
  clear hK hH
  have hH := hH2; clear hH2
  try simp only [Act.put, List.setIfInBounds_toArray, List.set_cons_zero, List.set_cons_succ]
  refine Reg.only (i := 7) rfl (Reg.wanted_hit rfl rfl rfl) (by kernel_rfl) (fun K hK => ?_)
  go_simp
  refine hK.out _ _ ?_ (fun hH2 => ?_)
  · exact ⟨(t10.alloc (.cells (partCells qaL).toArray 59)).c 0 _ rfl, (t10.alloc (.cells (partCells qaL).toArray 59)).c 1 _ rfl, (t10.alloc (.cells (partCells qaL).toArray 59)).c 2 _ rfl, (t10.alloc (.cells (partCells qaL).toArray 59)).c 3 _ rfl, (t10.alloc (.cells (partCells qaL).toArray 59)).c 4 _ rfl, (t10.alloc (.cells (partCells qaL).toArray 59)).c 5 _ rfl, (u10.alloc (.cells (partCells qaL).toArray 59)).c 0 _ rfl, (u10.alloc (.cells (partCells qaL).toArray 59)).c 1 _ rfl, (t13.alloc (.cells (partCells qaL).toArray 59)).c 0 _ rfl, (t13.alloc (.cells (partCells qaL).toArray 59)).c 1 _ rfl, (t13.alloc (.cells (partCells qaL).toArray 59)).c 2 _ rfl, (t13.alloc (.cells (partCells qaL).toArray 59)).c 3 _ rfl, (t13.alloc (.cells (partCells qaL).toArray 59)).c 4 _ rfl, (t13.alloc (.cells (partCells qaL).toArray 59)).c 5 _ rfl, (u13.alloc (.cells (partCells qaL).toArray 59)).c 0 _ rfl, (u13.alloc (.cells (partCells qaL).toArray 59)).c 1 _ rfl, (t16.alloc (.cells (partCells qaL).toArray 59)).c 0 _ rfl, (t16.alloc (.cells (partCells qaL).toArray 59)).c 1 _ rfl, (t16.alloc (.cells (partCells qaL).toArray 59)).c 2 _ rfl, (t16.alloc (.cells (partCells qaL).toArray 59)).c 3 _ rfl, (t16.alloc (.cells (partCells qaL).toArray 59)).c 4 _ rfl, (t16.alloc (.cells (partCells qaL).toArray 59)).c 5 _ rfl, (u16.alloc (.cells (partCells qaL).toArray 59)).c 0 _ rfl, (u16.alloc (.cells (partCells qaL).toArray 59)).c 1 _ rfl⟩
  clear hK hH
  have hH := hH2; clear hH2
  try simp only [Act.put, List.setIfInBounds_toArray, List.set_cons_zero, List.set_cons_succ]
  refine Reg.takeIf (i := 8) (u := ?b1_v8) rfl rfl rfl rfl rfl (by kernel_rfl) (by kernel_rfl) (by kernel_rfl) hH ?b1_y8 ?b1_r8
  case b1_y8 => (intro w hSw; (try dsimp only at hSw); go_simp; try (with_reducible rfl))
  case' b1_r8 => simp only [List.setIfInBounds_toArray, List.set_cons_zero, List.set_cons_succ]
  refine Reg.only (i := 9) rfl (Reg.wanted_hit rfl rfl rfl) (by kernel_rfl) (fun K hK => ?_)
  go_simp
  have b21 := b20.alloc b20.size (.cells (partCells qaL).toArray 59)
  have hp10 := Rd.alloc hp10 (.cells (partCells qaL).toArray 59)
  have hq10 := Rd.alloc hq10 (.cells (partCells qaL).toArray 59)
  have t10 := t10.alloc (.cells (partCells qaL).toArray 59)
  have u10 := u10.alloc (.cells (partCells qaL).toArray 59)
  have hp13 := Rd.alloc hp13 (.cells (partCells qaL).toArray 59)
  have hq13 := Rd.alloc hq13 (.cells (partCells qaL).toArray 59)
  have t13 := t13.alloc (.cells (partCells qaL).toArray 59)
  have u13 := u13.alloc (.cells (partCells qaL).toArray 59)
  have hp16 := Rd.alloc hp16 (.cells (partCells qaL).toArray 59)
  have hq16 := Rd.alloc hq16 (.cells (partCells qaL).toArray 59)
  have t16 := t16.alloc (.cells (partCells qaL).toArray 59)
  have u16 := u16.alloc (.cells (partCells qaL).toArray 59)
  have ra := Rw.new w20 59 (partCells qaL)
  go_at_call 17
  refine (ks0 _ _ _ _ _ _ _ _ _ hp10 (Rd.nil _ _ _) hq10 (Rw.rd ra 3 2 rfl)).mono ?_
  rintro e w22 ⟨rfl, h22⟩
  have b22 := b21.trans (h22.mono b21.size)
  have hp10 := Rd.below hp10 h22
  have hq10 := Rd.below hq10 h22
  have t10 := t10.below h22
  have u10 := u10.below h22
  have hp13 := Rd.below hp13 h22
  have hq13 := Rd.below hq13 h22
  have t13 := t13.below h22
  have u13 := u13.below h22
  have hp16 := Rd.below hp16 h22
  have hq16 := Rd.below hq16 h22
  have t16 := t16.below h22
  have u16 := u16.below h22
  have ra := ra.below h22
  refine hK.out _ _ ?_ (fun hH2 => ?_)
  · exact ⟨t10.c 0 _ rfl, t10.c 1 _ rfl, t10.c 2 _ rfl, t10.c 3 _ rfl, t10.c 4 _ rfl, t10.c 5 _ rfl, u10.c 0 _ rfl, u10.c 1 _ rfl, t13.c 0 _ rfl, t13.c 1 _ rfl, t13.c 2 _ rfl, t13.c 3 _ rfl, t13.c 4 _ rfl, t13.c 5 _ rfl, u13.c 0 _ rfl, u13.c 1 _ rfl, t16.c 0 _ rfl, t16.c 1 _ rfl, t16.c 2 _ rfl, t16.c 3 _ rfl, t16.c 4 _ rfl, t16.c 5 _ rfl, u16.c 0 _ rfl, u16.c 1 _ rfl⟩
  clear hK hH
  have hH := hH2; clear hH2
  try simp only [Act.put, List.setIfInBounds_toArray, List.set_cons_zero, List.set_cons_succ]
  refine Reg.take (i := 10) (u := ?b1_v10) rfl rfl rfl (by kernel_rfl) (by kernel_rfl) (by kernel_rfl) hH ?b1_y10 ?b1_r10
  case b1_y10 => (intro w hSw; (try dsimp only at hSw); go_simp; try (with_reducible rfl))
  case' b1_r10 => simp only [List.setIfInBounds_toArray, List.set_cons_zero, List.set_cons_succ]
  refine Reg.take (i := 11) (u := ?b1_v11) rfl rfl rfl (by kernel_rfl) (by kernel_rfl) (by kernel_rfl) hH ?b1_y11 ?b1_r11
  case b1_y11 => (intro w hSw; (try dsimp only at hSw); go_simp; try (with_reducible rfl))
  case' b1_r11 => simp only [List.setIfInBounds_toArray, List.set_cons_zero, List.set_cons_succ]
  refine Reg.takeIf (i := 12) (u := ?b1_v12) rfl rfl rfl rfl rfl (by kernel_rfl) (by kernel_rfl) (by kernel_rfl) hH ?b1_y12 ?b1_r12
  case b1_y12 => (intro w hSw; (try dsimp only at hSw); go_simp; try (with_reducible rfl))
  case' b1_r12 => simp only [List.setIfInBounds_toArray, List.set_cons_zero, List.set_cons_succ]
  refine Reg.takeIf (i := 13) (u := ?b1_v13) rfl rfl rfl rfl rfl (by kernel_rfl) (by kernel_rfl) (by kernel_rfl) hH ?b1_y13 ?b1_r13
  case b1_y13 => (intro w hSw; (try dsimp only at hSw); go_simp; try (with_reducible rfl))
  case' b1_r13 => simp only [List.setIfInBounds_toArray, List.set_cons_zero, List.set_cons_succ]
  refine Reg.takeIf (i := 14) (u := ?b1_v14) rfl rfl rfl rfl rfl (by kernel_rfl) (by kernel_rfl) (by kernel_rfl) hH ?b1_y14 ?b1_r14
  case b1_y14 => (intro w hSw; (try dsimp only at hSw); go_simp; try (with_reducible rfl))
  case' b1_r14 => simp only [List.setIfInBounds_toArray, List.set_cons_zero, List.set_cons_succ]
  refine Reg.take (i := 15) (u := ?b1_v15) rfl rfl rfl (by kernel_rfl) (by kernel_rfl) (by kernel_rfl) hH ?b1_y15 ?b1_r15
  case b1_y15 => (intro w hSw; (try dsimp only at hSw); go_simp; try (with_reducible rfl))
  case' b1_r15 => simp only [List.setIfInBounds_toArray, List.set_cons_zero, List.set_cons_succ]
  refine Reg.take (i := 16) (u := ?b1_v16) rfl rfl rfl (by kernel_rfl) (by kernel_rfl) (by kernel_rfl) hH ?b1_y16 ?b1_r16
  case b1_y16 => (intro w hSw; (try dsimp only at hSw); go_simp; try (with_reducible rfl))
  case' b1_r16 => simp only [List.setIfInBounds_toArray, List.set_cons_zero, List.set_cons_succ]
  refine Reg.takeIf (i := 17) (u := ?b1_v17) rfl rfl rfl rfl rfl (by kernel_rfl) (by kernel_rfl) (by kernel_rfl) hH ?b1_y17 ?b1_r17
  case b1_y17 => (intro w hSw; (try dsimp only at hSw); go_simp; try (with_reducible rfl))
  case' b1_r17 => simp only [List.setIfInBounds_toArray, List.set_cons_zero, List.set_cons_succ]
  refine Reg.only (i := 18) rfl (Reg.wanted_hit rfl rfl rfl) (by kernel_rfl) (fun K hK => ?_)
  go_simp
  go_at_call 38
  refine (l2 _).mono ?_
  rintro e w23 ⟨rfl, h23⟩
  have b23 := b22.trans (h23.mono b22.size)
  have hp10 := Rd.below hp10 h23
  have hq10 := Rd.below hq10 h23
  have t10 := t10.below h23
  have u10 := u10.below h23
  have hp13 := Rd.below hp13 h23
  have hq13 := Rd.below hq13 h23
  have t13 := t13.below h23
  have u13 := u13.below h23
  have hp16 := Rd.below hp16 h23
  have hq16 := Rd.below hq16 h23
  have t16 := t16.below h23
  have u16 := u16.below h23
  have ra := ra.below h23
  refine hK.out _ _ ?_ (fun hH2 => ?_)
  · exact ⟨t10.c 0 _ rfl, t10.c 1 _ rfl, t10.c 2 _ rfl, t10.c 3 _ rfl, t10.c 4 _ rfl, t10.c 5 _ rfl, u10.c 0 _ rfl, u10.c 1 _ rfl, t13.c 0 _ rfl, t13.c 1 _ rfl, t13.c 2 _ rfl, t13.c 3 _ rfl, t13.c 4 _ rfl, t13.c 5 _ rfl, u13.c 0 _ rfl, u13.c 1 _ rfl, t16.c 0 _ rfl, t16.c 1 _ rfl, t16.c 2 _ rfl, t16.c 3 _ rfl, t16.c 4 _ rfl, t16.c 5 _ rfl, u16.c 0 _ rfl, u16.c 1 _ rfl⟩
  clear hK hH
  have hH := hH2; clear hH2
  try simp only [Act.put, List.setIfInBounds_toArray, List.set_cons_zero, List.set_cons_succ]
  refine Reg.only (i := 19) rfl (Reg.wanted_hit rfl rfl rfl) (by kernel_rfl) (fun K hK => ?_)
  go_simp
  refine hK.out _ _ ?_ (fun hH2 => ?_)
  · exact ⟨(t10.alloc (.cells (partCells xyL).toArray 59)).c 0 _ rfl, (t10.alloc (.cells (partCells xyL).toArray 59)).c 1 _ rfl, (t10.alloc (.cells (partCells xyL).toArray 59)).c 2 _ rfl, (t10.alloc (.cells (partCells xyL).toArray 59)).c 3 _ rfl, (t10.alloc (.cells (partCells xyL).toArray 59)).c 4 _ rfl, (t10.alloc (.cells (partCells xyL).toArray 59)).c 5 _ rfl, (u10.alloc (.cells (partCells xyL).toArray 59)).c 0 _ rfl, (u10.alloc (.cells (partCells xyL).toArray 59)).c 1 _ rfl, (t13.alloc (.cells (partCells xyL).toArray 59)).c 0 _ rfl, (t13.alloc (.cells (partCells xyL).toArray 59)).c 1 _ rfl, (t13.alloc (.cells (partCells xyL).toArray 59)).c 2 _ rfl, (t13.alloc (.cells (partCells xyL).toArray 59)).c 3 _ rfl, (t13.alloc (.cells (partCells xyL).toArray 59)).c 4 _ rfl, (t13.alloc (.cells (partCells xyL).toArray 59)).c 5 _ rfl, (u13.alloc (.cells (partCells xyL).toArray 59)).c 0 _ rfl, (u13.alloc (.cells (partCells xyL).toArray 59)).c 1 _ rfl, (t16.alloc (.cells (partCells xyL).toArray 59)).c 0 _ rfl, (t16.alloc (.cells (partCells xyL).toArray 59)).c 1 _ rfl, (t16.alloc (.cells (partCells xyL).toArray 59)).c 2 _ rfl, (t16.alloc (.cells (partCells xyL).toArray 59)).c 3 _ rfl, (t16.alloc (.cells (partCells xyL).toArray 59)).c 4 _ rfl, (t16.alloc (.cells (partCells xyL).toArray 59)).c 5 _ rfl, (u16.alloc (.cells (partCells xyL).toArray 59)).c 0 _ rfl, (u16.alloc (.cells (partCells xyL).toArray 59)).c 1 _ rfl⟩
  clear hK hH
  have hH := hH2; clear hH2
  try simp only [Act.put, List.setIfInBounds_toArray, List.set_cons_zero, List.set_cons_succ]
  refine Reg.takeIf (i := 20) (u := ?b1_v20) rfl rfl rfl rfl rfl (by kernel_rfl) (by kernel_rfl) (by kernel_rfl) hH ?b1_y20 ?b1_r20
  case b1_y20 => (intro w hSw; (try dsimp only at hSw); go_simp; try (with_reducible rfl))
  case' b1_r20 => simp only [List.setIfInBounds_toArray, List.set_cons_zero, List.set_cons_succ]
  refine Reg.only (i := 21) rfl (Reg.wanted_hit rfl rfl rfl) (by kernel_rfl) (fun K hK => ?_)
  go_simp
  have b24 := b23.alloc b23.size (.cells (partCells xyL).toArray 59)
  have hp10 := Rd.alloc hp10 (.cells (partCells xyL).toArray 59)
  have hq10 := Rd.alloc hq10 (.cells (partCells xyL).toArray 59)
  have t10 := t10.alloc (.cells (partCells xyL).toArray 59)
  have u10 := u10.alloc (.cells (partCells xyL).toArray 59)
  have hp13 := Rd.alloc hp13 (.cells (partCells xyL).toArray 59)
  have hq13 := Rd.alloc hq13 (.cells (partCells xyL).toArray 59)
  have t13 := t13.alloc (.cells (partCells xyL).toArray 59)
  have u13 := u13.alloc (.cells (partCells xyL).toArray 59)
  have hp16 := Rd.alloc hp16 (.cells (partCells xyL).toArray 59)
  have hq16 := Rd.alloc hq16 (.cells (partCells xyL).toArray 59)
  have t16 := t16.alloc (.cells (partCells xyL).toArray 59)
  have u16 := u16.alloc (.cells (partCells xyL).toArray 59)
  have ra := ra.alloc (.cells (partCells xyL).toArray 59)
  have rb := Rw.new w23 59 (partCells xyL)
  go_at_call 17
  refine (ks1 _ _ _ _ _ _ _ _ _ hp13 (Rw.rd rb 3 1 rfl) hq13 (Rd.nil _ _ _)).mono ?_
  rintro e w25 ⟨rfl, h25⟩
  have b25 := b24.trans (h25.mono b24.size)
  have hp10 := Rd.below hp10 h25
  have hq10 := Rd.below hq10 h25
  have t10 := t10.below h25
  have u10 := u10.below h25
  have hp13 := Rd.below hp13 h25
  have hq13 := Rd.below hq13 h25
  have t13 := t13.below h25
  have u13 := u13.below h25
  have hp16 := Rd.below hp16 h25
  have hq16 := Rd.below hq16 h25
  have t16 := t16.below h25
  have u16 := u16.below h25
  have ra := ra.below h25
  have rb := rb.below h25
  refine hK.out _ _ ?_ (fun hH2 => ?_)
  · exact ⟨t10.c 0 _ rfl, t10.c 1 _ rfl, t10.c 2 _ rfl, t10.c 3 _ rfl, t10.c 4 _ rfl, t10.c 5 _ rfl, u10.c 0 _ rfl, u10.c 1 _ rfl, t13.c 0 _ rfl, t13.c 1 _ rfl, t13.c 2 _ rfl, t13.c 3 _ rfl, t13.c 4 _ rfl, t13.c 5 _ rfl, u13.c 0 _ rfl, u13.c 1 _ rfl, t16.c 0 _ rfl, t16.c 1 _ rfl, t16.c 2 _ rfl, t16.c 3 _ rfl, t16.c 4 _ rfl, t16.c 5 _ rfl, u16.c 0 _ rfl, u16.c 1 _ rfl⟩
  clear hK hH
  have hH := hH2; clear hH2
  try simp only [Act.put, List.setIfInBounds_toArray, List.set_cons_zero, List.set_cons_succ]
  refine Reg.take (i := 22) (u := ?b1_v22) rfl rfl rfl (by kernel_rfl) (by kernel_rfl) (by kernel_rfl) hH ?b1_y22 ?b1_r22
  case b1_y22 => (intro w hSw; (try dsimp only at hSw); go_simp; try (with_reducible rfl))
  case' b1_r22 => simp only [List.setIfInBounds_toArray, List.set_cons_zero, List.set_cons_succ]
  refine Reg.take (i := 23) (u := ?b1_v23) rfl rfl rfl (by kernel_rfl) (by kernel_rfl) (by kernel_rfl) hH ?b1_y23 ?b1_r23
  case b1_y23 => (intro w hSw; (try dsimp only at hSw); go_simp; try (with_reducible rfl))
  case' b1_r23 => simp only [List.setIfInBounds_toArray, List.set_cons_zero, List.set_cons_succ]
  refine Reg.takeIf (i := 24) (u := ?b1_v24) rfl rfl rfl rfl rfl (by kernel_rfl) (by kernel_rfl) (by kernel_rfl) hH ?b1_y24 ?b1_r24
  case b1_y24 => (intro w hSw; (try dsimp only at hSw); go_simp; try (with_reducible rfl))
  case' b1_r24 => simp only [List.setIfInBounds_toArray, List.set_cons_zero, List.set_cons_succ]
  refine Reg.takeIf (i := 25) (u := ?b1_v25) rfl rfl rfl rfl rfl (by kernel_rfl) (by kernel_rfl) (by kernel_rfl) hH ?b1_y25 ?b1_r25
  case b1_y25 => (intro w hSw; (try dsimp only at hSw); go_simp; try (with_reducible rfl))
  case' b1_r25 => simp only [List.setIfInBounds_toArray, List.set_cons_zero, List.set_cons_succ]
  refine Reg.takeIf (i := 26) (u := ?b1_v26) rfl rfl rfl rfl rfl (by kernel_rfl) (by kernel_rfl) (by kernel_rfl) hH ?b1_y26 ?b1_r26
  case b1_y26 => (intro w hSw; (try dsimp only at hSw); go_simp; try (with_reducible rfl))
  case' b1_r26 => simp only [List.setIfInBounds_toArray, List.set_cons_zero, List.set_cons_succ]
  refine Reg.take (i := 27) (u := ?b1_v27) rfl rfl rfl (by kernel_rfl) (by kernel_rfl) (by kernel_rfl) hH ?b1_y27 ?b1_r27
  case b1_y27 => (intro w hSw; (try dsimp only at hSw); go_simp; try (with_reducible rfl))
  case' b1_r27 => simp only [List.setIfInBounds_toArray, List.set_cons_zero, List.set_cons_succ]
  refine Reg.take (i := 28) (u := ?b1_v28) rfl rfl rfl (by kernel_rfl) (by kernel_rfl) (by kernel_rfl) hH ?b1_y28 ?b1_r28
  case b1_y28 => (intro w hSw; (try dsimp only at hSw); go_simp; try (with_reducible rfl))
  case' b1_r28 => simp only [List.setIfInBounds_toArray, List.set_cons_zero, List.set_cons_succ]
  refine Reg.takeIf (i := 29) (u := ?b1_v29) rfl rfl rfl rfl rfl (by kernel_rfl) (by kernel_rfl) (by kernel_rfl) hH ?b1_y29 ?b1_r29
  case b1_y29 => (intro w hSw; (try dsimp only at hSw); go_simp; try (with_reducible rfl))
  case' b1_r29 => simp only [List.setIfInBounds_toArray, List.set_cons_zero, List.set_cons_succ]
  refine Reg.only (i := 30) rfl (Reg.wanted_hit rfl rfl rfl) (by kernel_rfl) (fun K hK => ?_)
  go_simp
  go_at_call 38
  refine (l3 _).mono ?_
  rintro e w26 ⟨rfl, h26⟩
  have b26 := b25.trans (h26.mono b25.size)
  have hp10 := Rd.below hp10 h26
  have hq10 := Rd.below hq10 h26
  have t10 := t10.below h26
  have u10 := u10.below h26
  have hp13 := Rd.below hp13 h26
  have hq13 := Rd.below hq13 h26
  have t13 := t13.below h26
  have u13 := u13.below h26
  have hp16 := Rd.below hp16 h26
  have hq16 := Rd.below hq16 h26
  have t16 := t16.below h26
  have u16 := u16.below h26
  have ra := ra.below h26
  have rb := rb.below h26
  refine hK.out _ _ ?_ (fun hH2 => ?_)
  · exact ⟨t10.c 0 _ rfl, t10.c 1 _ rfl, t10.c 2 _ rfl, t10.c 3 _ rfl, t10.c 4 _ rfl, t10.c 5 _ rfl, u10.c 0 _ rfl, u10.c 1 _ rfl, t13.c 0 _ rfl, t13.c 1 _ rfl, t13.c 2 _ rfl, t13.c 3 _ rfl, t13.c 4 _ rfl, t13.c 5 _ rfl, u13.c 0 _ rfl, u13.c 1 _ rfl, t16.c 0 _ rfl, t16.c 1 _ rfl, t16.c 2 _ rfl, t16.c 3 _ rfl, t16.c 4 _ rfl, t16.c 5 _ rfl, u16.c 0 _ rfl, u16.c 1 _ rfl⟩
  clear hK hH
  have hH := hH2; clear hH2
  try simp only [Act.put, List.setIfInBounds_toArray, List.set_cons_zero, List.set_cons_succ]
  refine Reg.only (i := 31) rfl (Reg.wanted_hit rfl rfl rfl) (by kernel_rfl) (fun K hK => ?_)
  go_simp
  go_at_call 41
  refine (g1 _).mono ?_
  rintro e w27 ⟨rfl, h27⟩
  have b27 := b26.trans (h27.mono b26.size)
  have hp10 := Rd.below hp10 h27
  have hq10 := Rd.below hq10 h27
  have t10 := t10.below h27
  have u10 := u10.below h27
  have hp13 := Rd.below hp13 h27
  have hq13 := Rd.below hq13 h27
  have t13 := t13.below h27
  have u13 := u13.below h27
  have hp16 := Rd.below hp16 h27
  have hq16 := Rd.below hq16 h27
  have t16 := t16.below h27
  have u16 := u16.below h27
  have ra := ra.below h27
  have rb := rb.below h27
  refine hK.out _ _ ?_ (fun hH2 => ?_)
  · exact ⟨t10.c 0 _ rfl, t10.c 1 _ rfl, t10.c 2 _ rfl, t10.c 3 _ rfl, t10.c 4 _ rfl, t10.c 5 _ rfl, u10.c 0 _ rfl, u10.c 1 _ rfl, t13.c 0 _ rfl, t13.c 1 _ rfl, t13.c 2 _ rfl, t13.c 3 _ rfl, t13.c 4 _ rfl, t13.c 5 _ rfl, u13.c 0 _ rfl, u13.c 1 _ rfl, t16.c 0 _ rfl, t16.c 1 _ rfl, t16.c 2 _ rfl, t16.c 3 _ rfl, t16.c 4 _ rfl, t16.c 5 _ rfl, u16.c 0 _ rfl, u16.c 1 _ rfl⟩
  clear hK hH
  have hH := hH2; clear hH2
  try simp only [Act.put, List.setIfInBounds_toArray, List.set_cons_zero, List.set_cons_succ]
  refine Reg.only (i := 32) rfl (Reg.wanted_hit rfl rfl rfl) (by kernel_rfl) (fun K hK => ?_)
  go_simp
  refine hK.out _ _ ?_ (fun hH2 => ?_)
  · exact ⟨(t10.alloc (.cells (partCells hpL).toArray 59)).c 0 _ rfl, (t10.alloc (.cells (partCells hpL).toArray 59)).c 1 _ rfl, (t10.alloc (.cells (partCells hpL).toArray 59)).c 2 _ rfl, (t10.alloc (.cells (partCells hpL).toArray 59)).c 3 _ rfl, (t10.alloc (.cells (partCells hpL).toArray 59)).c 4 _ rfl, (t10.alloc (.cells (partCells hpL).toArray 59)).c 5 _ rfl, (u10.alloc (.cells (partCells hpL).toArray 59)).c 0 _ rfl, (u10.alloc (.cells (partCells hpL).toArray 59)).c 1 _ rfl, (t13.alloc (.cells (partCells hpL).toArray 59)).c 0 _ rfl, (t13.alloc (.cells (partCells hpL).toArray 59)).c 1 _ rfl, (t13.alloc (.cells (partCells hpL).toArray 59)).c 2 _ rfl, (t13.alloc (.cells (partCells hpL).toArray 59)).c 3 _ rfl, (t13.alloc (.cells (partCells hpL).toArray 59)).c 4 _ rfl, (t13.alloc (.cells (partCells hpL).toArray 59)).c 5 _ rfl, (u13.alloc (.cells (partCells hpL).toArray 59)).c 0 _ rfl, (u13.alloc (.cells (partCells hpL).toArray 59)).c 1 _ rfl, (t16.alloc (.cells (partCells hpL).toArray 59)).c 0 _ rfl, (t16.alloc (.cells (partCells hpL).toArray 59)).c 1 _ rfl, (t16.alloc (.cells (partCells hpL).toArray 59)).c 2 _ rfl, (t16.alloc (.cells (partCells hpL).toArray 59)).c 3 _ rfl, (t16.alloc (.cells (partCells hpL).toArray 59)).c 4 _ rfl, (t16.alloc (.cells (partCells hpL).toArray 59)).c 5 _ rfl, (u16.alloc (.cells (partCells hpL).toArray 59)).c 0 _ rfl, (u16.alloc (.cells (partCells hpL).toArray 59)).c 1 _ rfl⟩
  clear hK hH
  have hH := hH2; clear hH2
  try simp only [Act.put, List.setIfInBounds_toArray, List.set_cons_zero, List.set_cons_succ]
  refine Reg.takeIf (i := 33) (u := ?b1_v33) rfl rfl rfl rfl rfl (by kernel_rfl) (by kernel_rfl) (by kernel_rfl) hH ?b1_y33 ?b1_r33
  case b1_y33 => (intro w hSw; (try dsimp only at hSw); go_simp; try (with_reducible rfl))
  case' b1_r33 => simp only [List.setIfInBounds_toArray, List.set_cons_zero, List.set_cons_succ]
  refine Reg.only (i := 34) rfl (Reg.wanted_hit rfl rfl rfl) (by kernel_rfl) (fun K hK => ?_)
  go_simp
  have b28 := b27.alloc b27.size (.cells (partCells hpL).toArray 59)
  have hp10 := Rd.alloc hp10 (.cells (partCells hpL).toArray 59)
  have hq10 := Rd.alloc hq10 (.cells (partCells hpL).toArray 59)
  have t10 := t10.alloc (.cells (partCells hpL).toArray 59)
  have u10 := u10.alloc (.cells (partCells hpL).toArray 59)
  have hp13 := Rd.alloc hp13 (.cells (partCells hpL).toArray 59)
  have hq13 := Rd.alloc hq13 (.cells (partCells hpL).toArray 59)
  have t13 := t13.alloc (.cells (partCells hpL).toArray 59)
  have u13 := u13.alloc (.cells (partCells hpL).toArray 59)
  have hp16 := Rd.alloc hp16 (.cells (partCells hpL).toArray 59)
  have hq16 := Rd.alloc hq16 (.cells (partCells hpL).toArray 59)
  have t16 := t16.alloc (.cells (partCells hpL).toArray 59)
  have u16 := u16.alloc (.cells (partCells hpL).toArray 59)
  have ra := ra.alloc (.cells (partCells hpL).toArray 59)
  have rb := rb.alloc (.cells (partCells hpL).toArray 59)
  have rc := Rw.new w27 59 (partCells hpL)
  go_at_call 17
  refine (ks2 _ _ _ _ _ _ _ _ _ hp16 (Rw.rd rc 3 2 rfl) hq16 (Rd.nil _ _ _)).mono ?_
  rintro e w29 ⟨rfl, h29⟩
  have b29 := b28.trans (h29.mono b28.size)
  have hp10 := Rd.below hp10 h29
  have hq10 := Rd.below hq10 h29
  have t10 := t10.below h29
  have u10 := u10.below h29
  have hp13 := Rd.below hp13 h29
  have hq13 := Rd.below hq13 h29
  have t13 := t13.below h29
  have u13 := u13.below h29
  have hp16 := Rd.below hp16 h29
  have hq16 := Rd.below hq16 h29
  have t16 := t16.below h29
  have u16 := u16.below h29
  have ra := ra.below h29
  have rb := rb.below h29
  have rc := rc.below h29
  refine hK.out _ _ ?_ (fun hH2 => ?_)
  · exact ⟨t10.c 0 _ rfl, t10.c 1 _ rfl, t10.c 2 _ rfl, t10.c 3 _ rfl, t10.c 4 _ rfl, t10.c 5 _ rfl, u10.c 0 _ rfl, u10.c 1 _ rfl, t13.c 0 _ rfl, t13.c 1 _ rfl, t13.c 2 _ rfl, t13.c 3 _ rfl, t13.c 4 _ rfl, t13.c 5 _ rfl, u13.c 0 _ rfl, u13.c 1 _ rfl, t16.c 0 _ rfl, t16.c 1 _ rfl, t16.c 2 _ rfl, t16.c 3 _ rfl, t16.c 4 _ rfl, t16.c 5 _ rfl, u16.c 0 _ rfl, u16.c 1 _ rfl⟩
  clear hK hH
  have hH := hH2; clear hH2
  try simp only [Act.put, List.setIfInBounds_toArray, List.set_cons_zero, List.set_cons_succ]
  refine Reg.take (i := 35) (u := ?b1_v35) rfl rfl rfl (by kernel_rfl) (by kernel_rfl) (by kernel_rfl) hH ?b1_y35 ?b1_r35
  case b1_y35 => (intro w hSw; (try dsimp only at hSw); go_simp; try (with_reducible rfl))
  case' b1_r35 => simp only [List.setIfInBounds_toArray, List.set_cons_zero, List.set_cons_succ]
  refine Reg.take (i := 36) (u := ?b1_v36) rfl rfl rfl (by kernel_rfl) (by kernel_rfl) (by kernel_rfl) hH ?b1_y36 ?b1_r36
  case b1_y36 => (intro w hSw; (try dsimp only at hSw); go_simp; try (with_reducible rfl))
  case' b1_r36 => simp only [List.setIfInBounds_toArray, List.set_cons_zero, List.set_cons_succ]
  refine wpAnyH_done (by kernel_rfl) ?_ _
  refine NoPanic.normal ?_
  clear t10
  clear u10
  clear hp10
  clear hq10
  clear t13
  clear u13
  clear hp13
  clear hq13
  clear t16
  clear u16
  clear hp16
  clear hq16
  clear ra
  clear rb
  clear rc
  go_wp2_with fail
  refine (r0 _ (hN.below b29 hN.lt)).mono ?_
  rintro e w30 ⟨rfl, h30⟩
  have b30 := b29.trans (h30.mono b29.size)
  go_wp2_with fail
  refine (r1 _ (hN.below b30 hN.lt)).mono ?_
  rintro e w31 ⟨rfl, h31⟩
  have b31 := b30.trans (h31.mono b30.size)
  go_wp2_with fail
  refine (r2 _ (hN.below b31 hN.lt)).mono ?_
  rintro e w32 ⟨rfl, h32⟩
  have b32 := b31.trans (h32.mono b31.size)
  go_wp2_with fail
  refine (r3 _ (hN.below b32 hN.lt)).mono ?_
  rintro e w33 ⟨rfl, h33⟩
  have b33 := b32.trans (h33.mono b32.size)
  go_wp2_with fail
  refine (l4 _).mono ?_
  rintro e w34 ⟨rfl, h34⟩
  have b34 := b33.trans (h34.mono b33.size)
  go_wp2_with fail
  refine (g1 _).mono ?_
  rintro e w35 ⟨rfl, h35⟩
  have b35 := b34.trans (h35.mono b34.size)
  have b36 := b35.alloc b35.size (.cells (partCells ppL).toArray 59)
  have rp := Rw.new w35 59 (partCells ppL)
  have b37 := b36.alloc b36.size (.cells #[.string (bs [119]), .string (bs [98, 47, 99])] 9)
  have rp := rp.alloc (.cells #[.string (bs [119]), .string (bs [98, 47, 99])] 9)
  have rs := Rw.new2 w35 (.cells (partCells ppL).toArray 59) 9 [.string (bs [119]), .string (bs [98, 47, 99])]
  go_wp2_with fail
  refine (ex (some ⟨w35.heap.size, 0, none⟩) (some ⟨w35.heap.size + 1, 0, none⟩) _ (Rw.rd rp 3 2 rfl) (hN.below b37 hN.lt) (Rw.rd rs 1 2 rfl) (Rd.nil _ _ _)).mono ?_
  rintro e w38 ⟨rfl, h38⟩
  have b38 := b37.trans (h38.mono b37.size)
  have rp := rp.below h38
  have rs := rs.below h38
  clear rs
  go_wp2_with fail
  refine (l5 _).mono ?_
  rintro e w39 ⟨rfl, h39⟩
  have b39 := b38.trans (h39.mono b38.size)
  have rp := rp.below h39
  go_wp2_with fail
  refine (g1 _).mono ?_
  rintro e w40 ⟨rfl, h40⟩
  have b40 := b39.trans (h40.mono b39.size)
  have rp := rp.below h40
  have b41 := b40.alloc b40.size (.cells (partCells xeL).toArray 59)
  have rp := rp.alloc (.cells (partCells xeL).toArray 59)
  have rx := Rw.new w40 59 (partCells xeL)
  have b42 := b41.alloc b41.size (.cells #[.string (bs [119]), .string (bs [97, 38, 98, 32, 99])] 9)
  have rp := rp.alloc (.cells #[.string (bs [119]), .string (bs [97, 38, 98, 32, 99])] 9)
  have rx := rx.alloc (.cells #[.string (bs [119]), .string (bs [97, 38, 98, 32, 99])] 9)
  have rs := Rw.new2 w40 (.cells (partCells xeL).toArray 59) 9 [.string (bs [119]), .string (bs [97, 38, 98, 32, 99])]
  go_wp2_with fail
  refine (en (some ⟨w40.heap.size, 0, none⟩) (some ⟨w40.heap.size + 1, 0, none⟩) _ (Rw.rd rx 3 2 rfl) (hN.below b42 hN.lt) (Rw.rd rs 1 2 rfl) (Rd.nil _ _ _)).mono ?_
  rintro e w43 ⟨rfl, h43⟩
  have b43 := b42.trans (h43.mono b42.size)
  have rp := rp.below h43
  have rx := rx.below h43
  have rs := rs.below h43
  clear rs
  clear rx
  go_wp2_with fail
  refine (l3 _).mono ?_
  rintro e w44 ⟨rfl, h44⟩
  have b44 := b43.trans (h44.mono b43.size)
  have rp := rp.below h44
  go_wp2_with fail
  refine (g1 _).mono ?_
  rintro e w45 ⟨rfl, h45⟩
  have b45 := b44.trans (h45.mono b44.size)
  have rp := rp.below h45
  go_wp2_with fail
  refine (g1 _).mono ?_
  rintro e w46 ⟨rfl, h46⟩
  have b46 := b45.trans (h46.mono b45.size)
  have rp := rp.below h46
  go_wp2_with fail
  refine (v1 _).mono ?_
  rintro e w47 ⟨rfl, h47⟩
  have b47 := b46.trans (h47.mono b46.size)
  have rp := rp.below h47
  have b48 := b47.alloc b47.size (.cells (partCells usL).toArray 59)
  have rp := rp.alloc (.cells (partCells usL).toArray 59)
  have ru := Rw.new w47 59 (partCells usL)
  go_wp2_with fail
  refine (us (some ⟨w47.heap.size, 0, none⟩) _ (Rw.rd ru 3 4 rfl) (hN.below b48 hN.lt)).mono ?_
  rintro e w49 ⟨ua, uc, xa, xc, rfl, hu, h49⟩
  have b49 := b48.trans (h49.mono b48.size)
  have rp := rp.below h49
  have ru := ru.below h49
  clear ru
  have b50 := b49.alloc b49.size (.cells #[.int .i64 1, .int .i64 0, .int .i64 0, .int .i64 0] 44)
  have rp := rp.alloc (.cells #[.int .i64 1, .int .i64 0, .int .i64 0, .int .i64 0] 44)
  have hu := Rd.alloc hu (.cells #[.int .i64 1, .int .i64 0, .int .i64 0, .int .i64 0] 44)
  have r4 := Rw.new w49 44 [.int .i64 1, .int .i64 0, .int .i64 0, .int .i64 0]
  go_wp2_with fail
  refine (l6 _).mono ?_
  rintro e w51 ⟨rfl, h51⟩
  have b51 := b50.trans (h51.mono b50.size)
  have rp := rp.below h51
  have hu := Rd.below hu h51
  have r4 := r4.below h51
  have b52 := b51.alloc b51.size (.cells (partCells [⟨1, [46, 120], 0⟩]).toArray 59)
  have rp := rp.alloc (.cells (partCells [⟨1, [46, 120], 0⟩]).toArray 59)
  have hu := Rd.alloc hu (.cells (partCells [⟨1, [46, 120], 0⟩]).toArray 59)
  have r4 := r4.alloc (.cells (partCells [⟨1, [46, 120], 0⟩]).toArray 59)
  have rq := Rw.new w51 59 (partCells [⟨1, [46, 120], 0⟩])
  go_wp2_with (at_builtin; go_must (refine wpList_append_full rfl _ _ 23 rfl 59 i0 (.agg #[.int .i64 0, .string ⟨#[]⟩, .int .i64 0]) 3 32 Tryd.underlying23 hi hz0 hz1 hz2 rfl (by decide) ⟨w35.heap.size, 0, none⟩ 2 2 (partCells ppL) rfl (Rw.rd rp 3 2 rfl) (by decide) ⟨w51.heap.size, 0, none⟩ 1 1 (partCells [⟨1, [46, 120], 0⟩]) rfl (Rw.rd rq 3 1 rfl) (by decide) (partCells_one _) (by decide) (by decide) (by decide) ?_); intro v4 w4 hown4 hg4)
  have bg := b52.trans (hg4.mono b52.size)
  have rp := rp.below hg4
  have hu := Rd.below hu hg4
  have r4 := r4.below hg4
  have rq := rq.below hg4
  clear rp
  clear rq
  obtain ⟨va, vc, rfl, hLc, hcm, hpx⟩ := Owns.form hown4
  go_wp2_with fail
  refine (li va vc _ (show Parts _ va 3 pxL from hpx) hLc hcm (hN.below bg hN.lt)).mono ?_
  rintro e w53 ⟨rfl, h53⟩
  have b53 := bg.trans (h53.mono bg.size)
  have hu := Rd.below hu h53
  have r4 := r4.below h53
  obtain ⟨ad, rfl, -, hcu⟩ := Rd.get hu (by decide)
  have hcu1 := hcu 1 (.int .i64 2) rfl
  have hcu2 : w53.cell? ⟨ad.block, ad.off + 1, none⟩ = some (.int .i64 2) := by rw [← hcu1]; rfl
  have z0 := r4.c 0 (.int .i64 1) rfl
  have z1 := r4.c 1 (.int .i64 0) rfl
  have z2 := r4.c 2 (.int .i64 0) rfl
  have z3 := r4.c 3 (.int .i64 0) rfl
  go_wp2_with fail
  refine (awake25_any _ (hN.below b53 hN.lt)).mono ?_
  rintro e w54 ⟨rfl, h54⟩
  have b54 := b53.trans (h54.mono b53.size)
  have hu := Rd.below hu h54
  have r4 := r4.below h54
  go_wp2_with fail
  go_ret
  exact ⟨rfl, b54⟩
end Go.Proofs.YtllklgalghmnfaaDoor
