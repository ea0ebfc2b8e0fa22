/- Maps whose keys are the forms of routes; Hidden: which routes are alike one before them (the program). -/
import Derived.Test.YtefilalapkdegaaRouteOf
import Derived.Test.YtefilalapkdegaaRouteAll
import Derived.Maps.OwnSet
import Derived.DeepKeys4
namespace Go.Proofs.Ytefilalapkdegaa
open Go.RowKit Go.Maps Str Mem
set_option linter.unusedVariables false
set_option linter.unusedSimpArgs false

theorem laid41 : laidOutB Try.prog = true := by kernel_rfl
theorem rowF : (69 : TypeId) < Try.prog.types.size := of_decide_eq_true (by kernel_rfl)
theorem wideF : (match Try.prog.underlying 69 with | some (.array _ _) | some (.struct _) => true | _ => false) = true := by kernel_rfl
set_option maxRecDepth 20000 in
theorem lawF : Keyed Try.prog 69 := Keyed.of_law (deep_law_laid laid41 (m := 2) (by omega) rowF (by kernel_rfl) wideF)
theorem keyT : Try.prog.keyType 69 = true := by kernel_rfl
set_option maxRecDepth 20000 in
theorem litsF (d : Nat) (s : ByteArray) (hs : s.size ≤ maxLen) (n : Int) (hn : (Lit.int .i64 n).wf = true) : Try.prog.keyLits (d + 2) 69 [.string s, .int .i64 n] = some [.string s.data.toList, .int .i64 n] := by
  have hc : Try.prog.cellsOf 69 = 2 := by kernel_rfl
  have hc1 : Try.prog.cellsOf 9 = 1 := by kernel_rfl
  have hc2 : Try.prog.cellsOf 3 = 1 := by kernel_rfl
  have hu1 : Try.prog.underlying 9 = some .string := by kernel_rfl
  have hu2 : Try.prog.underlying 3 = some (.int .i64) := by kernel_rfl
  unfold Program.keyLits
  rw [Try.underlying69]
  simp [hc, hc1, hc2, hu1, hu2, Program.keyLits, hs, hn, List.mapM_cons]
theorem keyF (s : ByteArray) (hs : s.size ≤ maxLen) (n : Int) (hn : (Lit.int .i64 n).wf = true) : keyOf Try.prog 69 (.agg #[.string s, .int .i64 n]) = some (.string (keyBytes [.string s.data.toList, .int .i64 n])) := by
  unfold keyOf
  have hf : Value.formed Try.prog 69 (.agg #[.string s, .int .i64 n]) = true := by kernel_rfl
  have hl := litsF Try.prog.types.size.pred s hs n hn
  rw [keyT, hf, Try.underlying69]
  have e2 : Try.prog.types.size.pred + 2 = Try.prog.types.size + 1 := by kernel_rfl
  rw [e2] at hl
  dsimp only
  rw [if_pos (by decide), show (Value.agg #[Value.string s, Value.int IntKind.i64 n]).cells.toList = [.string s, .int .i64 n] from rfl, hl]
  rfl

namespace Route
/-- Whether two routes are alike. -/
def same (x y : List Bs) : Bool := formOf x == formOf y && x.length == y.length
theorem same_trans {x y z : List Bs} (h : same x y = true) : same x z = same y z := by
  unfold same at h ⊢
  simp at h
  rw [h.1, h.2]
theorem same_refl (x : List Bs) : same x x = true := by simp [same]
theorem same_comm (x y : List Bs) : same x y = same y x := by
  unfold same
  rw [Bool.eq_iff_iff]
  simp only [Bool.and_eq_true, beq_iff_eq]
  exact ⟨fun h => ⟨h.1.symm, h.2.symm⟩, fun h => ⟨h.1.symm, h.2.symm⟩⟩
def Slim (x : List Bs) : Prop := x.length ≤ 16 ∧ ∀ s ∈ x, s.length ≤ 100000
theorem Slim.form {x : List Bs} (h : Slim x) : (formOf x).length ≤ 1700000 := by
  have hb : (Dots.body (x.map brace)).length ≤ 16 * 100001 := Nat.le_trans (body_le (M := 100000) (x.map brace) (fun s hs => by
    obtain ⟨s0, h0, rfl⟩ := List.mem_map.1 hs
    have := h.2 s0 h0
    unfold brace
    split
    · simp
    · exact this)) (Nat.mul_le_mul_right _ (by simpa using h.1))
  have hg := glue_le (x.map brace)
  unfold formOf
  omega
end Route

abbrev formV (x : List (List UInt8)) : Value := .agg #[.string ⟨(Route.formOf x).toArray⟩, .int .i64 x.length]
def kl (x : List (List UInt8)) : Lit := .string (keyBytes [.string (Route.formOf x), .int .i64 (x.length : Nat)])
theorem key_form {x : List (List UInt8)} (h : Route.Slim x) : keyOf Try.prog 69 (formV x) = some (kl x) := by
  have h1 := h.form
  have h2 := h.1
  have := keyF ⟨(Route.formOf x).toArray⟩ (by show (Route.formOf x).toArray.size ≤ _; simp [maxLen]; omega) (x.length : Int) (WalkArith.wf_i64 (by omega))
  exact this
theorem kl_same {x y : List (List UInt8)} (hx : Route.Slim x) (hy : Route.Slim y) : kl x = kl y ↔ Route.same x y = true := by
  constructor
  · intro h
    have hxk := key_form hx
    rw [h] at hxk
    have := lawF.inj hxk (key_form hy)
    simp only [formV, Value.agg.injEq, Array.mk.injEq, List.cons.injEq, Value.string.injEq, Value.int.injEq, and_true, true_and, ByteArray.mk.injEq, List.toArray_inj] at this
    unfold Route.same
    simp [this.1]
    omega
  · intro h
    unfold Route.same at h
    simp at h
    unfold kl
    rw [h.1, h.2]

/-- Block b is a map that holds just the forms of the routes of 'seen'. -/
def FSet (w : World) (b n : Nat) (seen : List (List (List UInt8))) : Prop :=
  ∃ D : DataW Unit, w.ownsMap Try.prog 69 (plainElem Try.prog 4) b n D ∧ ∀ x, Route.Slim x → D.atKey (kl x) (.lit (.bool false)) = .lit (.bool (seen.any (Route.same x)))
theorem FSet.made (w : World) : FSet (w.alloc (.map #[] 0)) w.heap.size 0 [] := ⟨.map [], World.ownsMap_made w _ _ _, fun x _ => rfl⟩
theorem FSet.kept {w w' : World} {b n : Nat} {seen : List (List (List UInt8))} {row : Option Nat} (h : FSet w b n seen) (hg : w.grownBy w' row) (hne : some b ≠ row) : FSet w' b n seen := by
  obtain ⟨D, h1, h2⟩ := h
  exact ⟨D, h1.kept hg hne, h2⟩
theorem FSet.alloc {w : World} {b n : Nat} {seen : List (List (List UInt8))} (h : FSet w b n seen) (o : Obj) : FSet (w.alloc o) b n seen := by
  obtain ⟨D, h1, h2⟩ := h
  exact ⟨D, h1.alloc o, h2⟩
theorem FSet.lt {w : World} {b n : Nat} {seen : List (List (List UInt8))} (h : FSet w b n seen) : b < w.heap.size := by
  obtain ⟨D, h1, h2⟩ := h
  exact h1.lt
theorem FSet.block {w w' : World} {b n : Nat} {seen : List (List (List UInt8))} (h : FSet w b n seen) (e : w'.heap[b]? = w.heap[b]?) : FSet w' b n seen := by
  obtain ⟨D, ⟨es, clock, hb, r⟩, h2⟩ := h
  exact ⟨D, ⟨es, clock, e.trans hb, r⟩, h2⟩
theorem FSet.below {w w' : World} {b n : Nat} {seen : List (List (List UInt8))} (h : FSet w b n seen) {N : Nat} (g : Below N w w') (hN : b < N) : FSet w' b n seen := h.block (g.block b hN)
theorem FSet.setCell {w : World} {b n : Nat} {seen : List (List (List UInt8))} (h : FSet w b n seen) {a : Addr} (ha : b ≠ a.block) (u : Value) : FSet (w.setCell a u) b n seen := by
  obtain ⟨D, h1, h2⟩ := h
  exact ⟨D, h1.setCell ha u, h2⟩
theorem FSet.seenAs {w : World} {b n m : Nat} {seen seen' : List (List (List UInt8))} (h : FSet w b n seen) (hn : n ≤ m) (e : ∀ x, Route.Slim x → seen.any (Route.same x) = seen'.any (Route.same x)) : FSet w b m seen' := by
  obtain ⟨D, h1, h2⟩ := h
  exact ⟨D, h1.mono hn, fun x hx => by rw [h2 x hx, e x hx]⟩

theorem zeroB (w : World) : (zeroValue 4).run Try.prog w = .ok (.bool false) w := by kernel_rfl
theorem undB : Try.prog.underlying 4 = some .bool := by kernel_rfl
theorem plainB_inv {v : Value} {z : DataW Unit × List MemPlace} (h : plainElem Try.prog 4 v = some z) : ∃ c, v = .bool c ∧ z = (.lit (.bool c), []) := by
  unfold plainElem at h
  rw [undB] at h
  cases v <;> simp at h
  exact ⟨_, rfl, h.symm⟩
theorem FSet.look {w : World} {b n : Nat} {seen : List (List (List UInt8))} (h : FSet w b n seen) {x : List (List UInt8)} (hx : Route.Slim x) : (Instr.lookup 67 (.map (some b)) (formV x) false).run Try.prog w = .ok (.bool (seen.any (Route.same x))) w := by
  obtain ⟨D, h1, h2⟩ := h
  obtain ⟨v, ps, hrun, hv⟩ := h1.lookup lawF Try.underlying67 (zeroB w) (plainElem_bool undB false) (key_form hx)
  obtain ⟨c, rfl, hc⟩ := plainB_inv hv
  rw [h2 x hx] at hc
  simp only [Prod.mk.injEq, DataW.lit.injEq, Lit.bool.injEq] at hc
  rw [hrun, hc.1]
theorem FSet.put {w : World} {b n : Nat} {seen : List (List (List UInt8))} (h : FSet w b n seen) (hn : n < maxLen) {x : List (List UInt8)} (hx : Route.Slim x) :
    ∃ w', (Instr.mapUpdate 67 (.map (some b)) (formV x) (.bool true)).run Try.prog w = .ok () w' ∧ FSet w' b (n + 1) (seen ++ [x]) ∧ w.grownBy w' (some b) := by
  obtain ⟨D, h1, h2⟩ := h
  obtain ⟨w', hrun, hown, hg⟩ := h1.update lawF Try.underlying67 hn (key_form hx) (plainElem_bool undB true)
  refine ⟨w', hrun, ⟨_, hown, fun y hy => ?_⟩, hg⟩
  rw [List.any_append]
  by_cases e : kl y = kl x
  · rw [e, atKey_put_same h1.isMap (lawF.key (key_form hx))]
    have := (kl_same hy hx).1 e
    simp [this]
  · rw [atKey_put_other e, h2 y hy]
    have : Route.same y x = false := by
      rcases hq : Route.same y x with _ | _
      · rfl
      · exact absurd ((kl_same hy hx).2 hq) e
    simp [this]
theorem wpList_look_F (w : World) {ops : Array Oper} {rest : List Oper} {o : Oper} {a : Act} {Q : Exit → Act → World → Prop}
    (hg : o.guard = none) (m x : Operand) (hop : o.op = Op.lookup 67 m x false) (b n : Nat) (seen : List (List (List UInt8))) (r : List (List UInt8))
    (hm : a.eval m = .map (some b)) (hx : a.eval x = formV r) (hset : FSet w b n seen) (hr : Route.Slim r) (c : Bool) (hc : seen.any (Route.same r) = c)
    (hK : wpList Try.prog ops Q rest (a.put o.dst (.bool c)) w) :
    wpList Try.prog ops Q (o :: rest) a w := by
  refine wpList_plain hg fun K' hK' => ?_
  have hrun := hset.look hr
  rw [hc] at hrun
  unfold Oper.wp
  simp [execOp, hop, hm, hx, hrun, Result.andThen]
  exact hK' _ _ hK
theorem wpList_put_F (w : World) {ops : Array Oper} {rest : List Oper} {o : Oper} {a : Act} {Q : Exit → Act → World → Prop}
    (hg : o.guard = none) (m x v : Operand) (hop : o.op = Op.mapUpdate 67 m x v) (b n : Nat) (seen : List (List (List UInt8))) (r : List (List UInt8))
    (hm : a.eval m = .map (some b)) (F : List UInt8) (hF : F = Route.formOf r) (hx : a.eval x = .agg #[.string ⟨F.toArray⟩, .int .i64 r.length]) (hv : a.eval v = .bool true) (hset : FSet w b n seen) (hn : n < maxLen) (hr : Route.Slim r)
    (hK : ∀ w', FSet w' b (n + 1) (seen ++ [r]) → w.grownBy w' (some b) → wpList Try.prog ops Q rest (a.put o.dst undef) w') :
    wpList Try.prog ops Q (o :: rest) a w := by
  subst hF
  refine wpList_plain hg fun K' hK' => ?_
  obtain ⟨w', hrun, r1, r2⟩ := hset.put hn hr
  unfold Oper.wp
  simp [execOp, hop, hm, hx, hv, hrun, Result.andThen]
  exact hK' _ _ (hK w' r1 r2)

def hidAt (L : List RtV) (i : Nat) : Bool := ((L.take i).map RtV.l).any (Route.same (lAt L i))
def hidTo (L : List RtV) (k : Nat) : List Int := ((List.range k).filter (hidAt L)).map fun (i : Nat) => (i : Int)
def hidK (L : List RtV) : List Int := if (checkR L).1 = 0 then hidTo L L.length else []
theorem hidTo_succ (L : List RtV) (k : Nat) : hidTo L (k + 1) = hidTo L k ++ if hidAt L k = true then [(k : Int)] else [] := by
  unfold hidTo
  rw [List.range_succ, List.filter_append, List.map_append]
  congr 1
  by_cases h : hidAt L k = true <;> simp [List.filter, h]
theorem hidTo_length (L : List RtV) (k : Nat) : (hidTo L k).length ≤ k := by
  unfold hidTo
  rw [List.length_map]
  exact Nat.le_trans (List.length_filter_le _ _) (by simp)

def HidPost (w : World) (L : List RtV) (e : Ending) (w' : World) : Prop :=
  ∃ a c, e = .returned (.tuple #[.slice a (hidK L).length c, .int .i64 (checkR L).1]) ∧ Ints w' a (hidK L).length (hidK L) ∧ (hidK L).length ≤ c ∧ c ≤ maxLen ∧ (∀ ad : Addr, a = some ad → w.heap.size ≤ ad.block) ∧ Below w.heap.size w w'
def HidI (w w1 : World) (L : List RtV) (i out : Value) (wr : World) : Prop :=
  ∃ k : Nat, i = .int .i64 k ∧ k ≤ L.length ∧ Owns wr (w1.heap.size + 1) 3 1 out (hidTo L k).length ((hidTo L k).map iv) ∧ Below w1.heap.size w1 wr ∧ FSet wr w1.heap.size k ((L.take k).map RtV.l)

set_option maxRecDepth 20000 in
set_option maxHeartbeats 8000000 in
theorem vHidden_any (a : Option Addr) (c : Nat) (L : List RtV) (w : World) (h : Rts w a L) (hl : L.length ≤ 100000) :
    Calls Try.prog 14 #[.slice a L.length c] w fun e w' => HidPost w L e w' := by
  obtain ⟨i0, hi, hz0, hz1, hz2⟩ := info_of infoInt
  have hck := check_any a c L w h hl
  unfold HidPost
  have hchk : checkR L = firstBad L L.length ∨ checkR L = (5, 0) := by unfold checkR; split <;> simp
  obtain ⟨ck, hckv⟩ : ∃ x, checkR L = x := ⟨_, rfl⟩
  rw [hckv] at hck ⊢
  by_cases hc0 : ck.1 = 0
  · have hc0b : (ck.1 == 0) = true := by rw [hc0]; rfl
    have hc0c : (ck.1 != 0) = false := by rw [hc0]; rfl
    have Hk := Lib.hid (show hidK L = hidTo L L.length by unfold hidK; rw [hckv, if_pos hc0])
    have HC := Lib.hid hc0
    have hgood : ∀ r ∈ L, r.err = 0 := by
      intro r hr
      obtain ⟨j, hj, e⟩ := List.mem_iff_getElem.1 hr
      rcases hchk with hq | hq
      · have hz : firstBad L L.length = (0, 0) := by
          rw [hq] at hckv
          have h1 : (firstBad L L.length).1 = 0 := by rw [hckv]; exact hc0
          rcases Decidable.em (firstBad L L.length = (0, 0)) with h2 | h2
          · exact h2
          · exfalso
            exact firstBad_nz L.length h2 h1
        exact firstBad_all L.length (Nat.le_refl _) hz j r hj (by rw [List.getElem?_eq_getElem hj, e])
      · rw [hq] at hckv
        rw [← hckv] at hc0
        cases hc0
    clear hc0 hckv hchk
    go_enter Try.func14, Try.ntmps14
    go_wp2_with fail
    refine hck.mono ?_
    rintro e w1 ⟨rfl, g1⟩
    have hs1 := FSet.made w1
    have hmm := @run_makeMap Try.prog
    go_wp2
    go_loopw [22, 7, 8, 9, 10] (fun i out _ _ _ wr => HidI w w1 L i out wr) (fun i _ _ _ _ _ => L.length - (intOf i).toNat)
    case atStart => exact ⟨0, rfl, Nat.zero_le _, Owns.nil _ _ _ _, (Below.refl _ w1).alloc (Nat.le_refl _) _, hs1⟩
    case round =>
      obtain ⟨k, rfl, hk, hown, hbl, hset⟩ := hrel
      have hsz := hset.lt
      have hb := g1.trans (hbl.mono g1.size)
      by_cases hlt : k < L.length
      · obtain ⟨ad, r, rfl, hbb, hr, hmem, c0, c1, c2⟩ := (h.below hb).fields hlt
        have hba := hb.alloc (by have := hb.size; omega) (.cells #[.slice r.a r.l.length r.c, .int .i64 r.kd, .string ⟨r.t.toArray⟩] 35)
        have hbla := hbl.alloc hbl.size (.cells #[.slice r.a r.l.length r.c, .int .i64 r.kd, .string ⟨r.t.toArray⟩] 35)
        have hsa := hset.alloc (.cells #[.slice r.a r.l.length r.c, .int .i64 r.kd, .string ⟨r.t.toArray⟩] 35)
        have hok := (h.each r hmem).below hba
        have hof := of_any r.a r.c r.l r.kd r.t _ hok (hgood r hmem)
        unfold rtv at hof
        have hslim : Route.Slim r.l := ⟨(Route.err_ok (hgood r hmem)).1, hok.short⟩
        have HF := Lib.hid (show hidAt L k = ((L.take k).map RtV.l).any (Route.same r.l) by unfold hidAt lAt; rw [hr]; rfl)
        have HS := Lib.hid (show (L.take (k + 1)).map RtV.l = (L.take k).map RtV.l ++ [r.l] by
          rw [← List.take_append_getElem hlt, List.map_append, show L[k] = r from by rw [List.getElem?_eq_getElem hlt] at hr; injection hr]; rfl)
        have HT := Lib.hid (hidTo_succ L k)
        have hkl := hidTo_length L k
        have j0 : (0 : Int) ≤ (k : Int) := by omega
        have j1 : (k : Int) < (L.length : Int) := by omega
        obtain ⟨X, hX⟩ : ∃ X, X = hidTo L k := ⟨_, rfl⟩
        rw [← hX] at hown hkl HT
        have hown1 := hown.alloc (.cells #[.slice r.a r.l.length r.c, .int .i64 r.kd, .string ⟨r.t.toArray⟩] 35)
        have hol : ∀ j, u7.ownBlock = some j → w1.heap.size + 1 ≤ j := fun j hj => (hown.lt j hj).1
        obtain ⟨sn, hsn⟩ : ∃ sn, sn = (L.take k).map RtV.l := ⟨_, rfl⟩
        rw [← hsn] at hsa HS HF
        obtain ⟨bq, hbq⟩ : ∃ bq, sn.any (Route.same r.l) = bq := ⟨_, rfl⟩
        have HQ := Lib.hid hbq
        obtain ⟨F, hF⟩ : ∃ F, F = Route.formOf r.l := ⟨_, rfl⟩
        rw [← hF] at hof
        have HFo := Lib.hid hF
        clear hr hX hF hsn hset
        go_wp2_with fail
        refine hof.mono ?_
        rintro e w3 ⟨rfl, g3⟩
        have hbl3 := hbla.trans (g3.mono (by simp; omega))
        have hs3 := hsa.below g3 (by simp; omega)
        have hown3 := hown1.below g3 (Nat.le_refl _)
        have hs4 := hs3.alloc (.cells #[.string ⟨F.toArray⟩, .int .i64 r.l.length] 69)
        have hown4 := hown3.alloc (.cells #[.string ⟨F.toArray⟩, .int .i64 r.l.length] 69)
        have hbl4 := hbl3.alloc hbl3.size (.cells #[.string ⟨F.toArray⟩, .int .i64 r.l.length] 69)
        have hlk := hs4.look hslim
        unfold formV at hlk
        rw [HQ.out, ← HFo.out] at hlk
        have hsz4 := hs4.lt
        rcases bq with _ | _
        · go_wp2_with (at_mapUpdate; go_loud (refine wpList_put_F _ rfl _ _ _ rfl w1.heap.size k sn r.l rfl F HFo.out rfl rfl hs4 (by simp only [maxLen]; omega) hslim ?_; intro w5 hs5 hgrow))
          refine ⟨⟨k + 1, by go_num, by omega, ?_, hbl4.grown hgrow hbl4.size (by rintro j e; cases e; exact Nat.le_refl _), by rw [HS.out]; exact hs5⟩, by simp [intOf]; omega⟩
          rw [HT.out, HF.out, HQ.out]
          simpa using hown4.kept hgrow (by rintro j e q; cases q; have := hol _ e; omega)
        · go_wp2_with (at_builtin; go_must (refine wpList_append_owns _ rfl _ _ 22 rfl (w1.heap.size + 1) 3 i0 (.int .i64 0) 1 8 Try.underlying22 hi hz0 hz1 hz2 rfl (by decide) _ X.length (X.map iv) rfl (hown4.alloc _) (some ⟨w3.heap.size + 1, 0, none⟩) 1 1 [.int .i64 k] rfl (by have := Rd.one (w3.alloc (.cells #[.string ⟨F.toArray⟩, .int .i64 r.l.length] 69)) 3 (.int .i64 k); rw [World.size_alloc] at this; exact this) (by simp [Value.oneCell']) (by simp only [maxLen]; omega) (by omega) (by simp; have := hbl3.size; omega) ?_); intro v' w5 hown' hgrow)
          refine ⟨⟨k + 1, by go_num, by omega, ?_, (hbl4.alloc hbl4.size _).grown hgrow (by simp; have := hbl3.size; omega) (by rintro j e; have := hol j e; omega), ?_⟩, by simp [intOf]; omega⟩
          · rw [HT.out, HF.out, HQ.out]
            simp only [if_true, List.length_append, List.map_append]
            exact hown'
          · refine FSet.seenAs ((hs4.alloc _).kept hgrow (by intro q; have := hol _ q.symm; omega)) (Nat.le_succ k) fun x hx => ?_
            rw [HS.out, List.any_append]
            rcases hq : Route.same x r.l with _ | _
            · simp [hq]
            · have h1 : sn.any (Route.same x) = true := by
                rw [← HQ.out]
                congr 1
                funext z
                exact Route.same_trans hq
              simp [h1]
      · obtain rfl : k = L.length := by omega
        have HL := Lib.hid (show (hidK L).length = (hidTo L L.length).length by rw [Hk.out])
        go_wp2
        obtain ⟨a', c', rfl, h1, h2, h3⟩ := hown.form
        go_ret2
        rw [HL.out, HC.out]
        refine ⟨_, _, rfl, by rw [Hk.out]; exact h3, h1, h2, ?_, hb⟩
        rintro ad rfl
        have := (hown.lt ad.block (by simp [Value.ownBlock])).1
        have := g1.size
        omega
  · have hc0b : (ck.1 == 0) = false := by simpa using hc0
    have hc0c : (ck.1 != 0) = true := by simpa using hc0
    have Hk := Lib.hid (show hidK L = [] by unfold hidK; rw [hckv, if_neg hc0])
    clear hc0 hckv hchk
    go_enter Try.func14, Try.ntmps14
    go_wp2_with fail
    refine hck.mono ?_
    rintro e w1 ⟨rfl, g1⟩
    go_wp2
    go_ret2
    rw [Hk.out]
    exact ⟨none, 0, rfl, Rd.nil _ _ _, Nat.le_refl _, by simp [maxLen], by simp, g1⟩
end Go.Proofs.Ytefilalapkdegaa
