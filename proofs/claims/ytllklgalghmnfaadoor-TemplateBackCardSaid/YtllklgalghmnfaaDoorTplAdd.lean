/- last, put, add: a part more. -/
import Derived.Test.YtllklgalghmnfaaDoorTplMem
namespace Go.Proofs.YtllklgalghmnfaaDoor
open Go.RowKit Str Mem Tp
set_option linter.unusedVariables false
set_option linter.unusedSimpArgs false

theorem Parts.get {w : World} {a : Option Addr} {n : Nat} {L : List Part} (h : Parts w a n L) (k : Nat) (x : Part) (hk : L[k]? = some x) :
    ∃ ad : Addr, a = some ad ∧ ad.block < w.heap.size ∧ w.cell? (ad.add (k * 3)) = some (.int .i64 x.k) ∧ w.cell? ⟨(ad.add (k * 3)).block, (ad.add (k * 3)).off + 1, none⟩ = some (.string (bs x.t)) ∧ w.cell? ⟨(ad.add (k * 3)).block, (ad.add (k * 3)).off + 2, none⟩ = some (.int .i64 x.n) := by
  obtain ⟨g0, g1, g2⟩ := partCells_get L k x hk
  have hn : L.length = n := by have := h.len; rw [partCells_len] at this; omega
  have hlt : k < L.length := (List.getElem?_eq_some_iff.1 hk).1
  obtain ⟨ad, rfl, hb, hc⟩ := Rd.get h (by omega)
  have e : ∀ j, 0 < j → (ad.add (k * 3 + j) : Addr) = ⟨(ad.add (k * 3)).block, (ad.add (k * 3)).off + j, none⟩ := fun j hj => by
    unfold Addr.add
    by_cases h0 : k * 3 = 0
    · have : k = 0 := by omega
      subst this
      simp; omega
    · simp [h0, Nat.add_assoc]
  refine ⟨ad, rfl, hb, hc _ _ g0, ?_, ?_⟩
  · rw [← e 1 (by omega)]; exact hc _ _ g1
  · rw [← e 2 (by omega)]; exact hc _ _ g2

/-- What last returns. -/
def lastV (a : Option Addr) (L : List Part) : Value := match L.getLast? with
  | some q => if q.k = 1 then .pointer (a.map (·.add ((L.length - 1) * 3))) else .pointer none
  | none => .pointer none
set_option maxRecDepth 100000 in
theorem last_any (a : Option Addr) (c : Nat) (L : List Part) (w : World) (hP : Parts w a L.length L) (hn : L.length ≤ 1000000) :
    Calls Tryd.prog 62 #[.slice a L.length c, .func (.func 61) #[] #[]] w fun e w' => e = .returned (lastV a L) ∧ Below w.heap.size w w' := by
  rcases hl : L.getLast? with _ | q
  · have h0 : L = [] := by simpa using hl
    subst h0
    go_enter Tryd.func62, Tryd.ntmps62
    go_wp2_with fail
    go_ret
    exact ⟨rfl, Below.refl _ _⟩
  · obtain ⟨t, ht⟩ := List.getLast?_eq_some_iff.1 hl
    have hk : L[t.length]? = some q := by rw [ht]; simp
    have hLn : L.length = t.length + 1 := by rw [ht]; simp
    obtain ⟨ad, rfl, hb, c0, c1, c2⟩ := hP.get t.length q hk
    have hq := fun W => literal_any q W
    unfold pv at hq
    obtain ⟨n, hnn⟩ : ∃ n, n = t.length := ⟨_, rfl⟩
    rw [← hnn] at c0 c1 c2 hLn
    have hnz : ((L.length : Int) == 0) = false := by rw [beq_eq_false_iff_ne]; omega
    have hv : lastV (some ad) L = if q.k = 1 then .pointer (some (ad.add (n * 3))) else .pointer none := by
      unfold lastV
      rw [hl]
      simp [hLn]
    obtain ⟨V, hV⟩ : ∃ V, lastV (some ad) L = V := ⟨_, rfl⟩
    rw [hV] at hv ⊢
    have HV := Lib.hid hv
    have HLn := Lib.hid hLn
    have i0 : (0 : Int) ≤ (L.length : Int) - 1 := by omega
    have i1 : (L.length : Int) - 1 < (L.length : Int) := by omega
    have i2 : ((L.length : Int) - 1).toNat = n := by omega
    have i3 : (1 : Int) ≤ (L.length : Int) := by omega
    clear hV hv hnn hk ht hl hLn
    go_enter Tryd.func62, Tryd.ntmps62
    go_wp2_with fail
    refine (hq _).mono ?_
    rintro e w1 ⟨rfl, h1⟩
    rcases hk1 : (q.k == 1) with _ | _
    · go_wp2_with fail
      go_ret
      exact ⟨by rw [HV.out, if_neg (by simpa using hk1)]; rfl, h1⟩
    · go_wp2_with fail
      go_ret
      exact ⟨by rw [HV.out, if_pos (by simpa using hk1)]; rfl, h1⟩

/-- A store into an owned row. -/
theorem Owns.put {w : World} {base : Nat} {e : TypeId} {sz g n cap j : Nat} {xs : List Value} (h : Owns w base e sz (.slice (some ⟨g, 0, none⟩) n cap) n xs) (hj : j < n * sz) (u : Value) :
    Owns (w.setCell ⟨g, j, none⟩ u) base e sz (.slice (some ⟨g, 0, none⟩) n cap) n (xs.set j u) := by
  rcases h.2 with ⟨h0, _⟩ | ⟨g', cap', cur, hv, hb, hg, hn, hc, hs, ht⟩
  · cases h0
  · cases hv
    refine ⟨by rw [List.length_set]; exact h.1, .inr ⟨g, cap, cur.setIfInBounds j u, rfl, hb, ?_, hn, hc, by simpa using hs, ?_⟩⟩
    · simp [World.setCell, Array.getElem?_modify, hg]
    · rw [Array.toList_setIfInBounds, ← ht, List.take_set]
theorem set_grown (w : World) (g j : Nat) (u : Value) : w.grownBy (w.setCell ⟨g, j, none⟩ u) (some g) :=
  ⟨rfl, rfl, rfl, by simp [World.setCell], fun k _ hk => Below.heap_setCell w ⟨g, j, none⟩ u k (fun e => hk (by rw [e]))⟩
theorem Rd.pair3_at (w : World) (t : TypeId) (x y z : Value) (N : Nat) (h : N = w.heap.size) : Rd (w.alloc (.cells #[x, y, z] t)) 3 (some ⟨N, 0, none⟩) 1 [x, y, z] := by
  subst h
  refine ⟨rfl, fun _ => ⟨_, rfl, by simp, fun j u hu => ?_⟩⟩
  rw [add_flat, cell_of_row _ w.heap.size _ #[x, y, z] t (0, 0) (heap_alloc_new w _)]
  rcases j with _ | _ | _ | j
  · simpa using hu
  · simpa using hu
  · simpa using hu
  · simp at hu
theorem partCells_last (t : List Part) (q : Part) (x : Tp.Bs) : (partCells (t ++ [q])).set (t.length * 3 + 1) (.string (bs x)) = partCells (t ++ [⟨q.k, x, q.n⟩]) := by
  rw [partCells_append, partCells_append, List.set_append_right _ _ (by rw [partCells_len]; omega), partCells_len]
  have e : t.length * 3 + 1 - t.length * 3 = 1 := by omega
  rw [e]
  rfl
theorem grownTrans {a b c : World} {row : Option Nat} (h1 : a.grownBy b row) (h2 : b.grownBy c row) : a.grownBy c row :=
  ⟨h2.os.trans h1.os, h2.tape.trans h1.tape, h2.output.trans h1.output, Nat.le_trans h1.size h2.size, fun k hk hne => (h2.block k (Nat.lt_of_lt_of_le hk h1.size) hne).trans (h1.block k hk hne)⟩
theorem infoP : (Tryd.prog.info? 59).map (fun i => (i.zero, i.size, i.bytes)) = some (some (.agg #[.int .i64 0, .string ⟨#[]⟩, .int .i64 0]), 3, 32) := infoPart
theorem bs_append (a b : List UInt8) : bs a ++ bs b = bs (a ++ b) := eq_of_data (by rw [append_data])
/-- What put, add return. -/
def AddPost (base : Nat) (v : Value) (L' : List Part) (w : World) (e : Ending) (w' : World) : Prop := ∃ v', e = .returned v' ∧ OwnParts w' base v' L' ∧ w.grownBy w' v.ownBlock

set_option maxRecDepth 100000 in
set_option maxHeartbeats 1000000 in
theorem put_any (base : Nat) (v : Value) (L : List Part) (s : Tp.Bs) (w : World) (hO : OwnParts w base v L) (hb : base ≤ w.heap.size) (hn : L.length ≤ 1000) (hs : s.length ≤ 1000) (ht : ∀ p ∈ L, p.t.length ≤ 100000) :
    Calls Tryd.prog 76 #[v, .string (bs s)] w fun e w' => AddPost base v (addP L ⟨1, s, 0⟩) w e w' := by
  obtain ⟨i0, hi, hz0, hz1, hz2⟩ := info_parts infoP
  obtain ⟨a, c, rfl, hLc, hcm, hP⟩ := hO.form
  have hl := fun W h => last_any a c L W h (by omega)
  have hAdd : addP L ⟨1, s, 0⟩ = match L.getLast? with | some q => if q.k = 1 then L.dropLast ++ [⟨q.k, q.t ++ s, q.n⟩] else L ++ [⟨1, s, 0⟩] | none => L ++ [⟨1, s, 0⟩] := by unfold addP; rw [if_pos rfl]; rfl
  obtain ⟨M, hM⟩ : ∃ M, addP L ⟨1, s, 0⟩ = M := ⟨_, rfl⟩
  rw [hM] at hAdd ⊢
  clear hM
  have hlo := hO.lt
  obtain ⟨Q, hQ⟩ : ∃ Q : Ending → World → Prop, Q = AddPost base (.slice a L.length c) M w := ⟨_, rfl⟩
  have HQ := Lib.hid hQ
  rw [← hQ]
  clear hQ
  by_cases hlit : ∃ t q, L = t ++ [q] ∧ q.k = 1
  · obtain ⟨t, q, hL, hq⟩ := hlit
    have hlast : L.getLast? = some q := by rw [hL]; simp
    have hM : M = t ++ [⟨q.k, q.t ++ s, q.n⟩] := by rw [hAdd, hlast]; dsimp only; rw [if_pos hq, hL]; simp
    have hLn : L.length = t.length + 1 := by rw [hL]; simp
    have hk : L[t.length]? = some q := by rw [hL]; simp
    obtain ⟨g, cap, ev, hglt⟩ : ∃ g cap, Value.slice a L.length c = .slice (some ⟨g, 0, none⟩) L.length cap ∧ g < w.heap.size := by
      rcases hO.2 with ⟨_, h0⟩ | ⟨g, cap, cur, ev, hbg, hgg, _⟩
      · omega
      · exact ⟨g, cap, ev, (Array.getElem?_eq_some_iff.1 hgg).1⟩
    cases ev
    have hv : lastV (some ⟨g, 0, none⟩) L = .pointer (some ⟨g, t.length * 3, none⟩) := by
      unfold lastV
      rw [hlast]
      dsimp only
      rw [if_pos hq, hLn, Nat.add_sub_cancel, Option.map_some, add_flat, Nat.zero_add]
    rw [hv] at hl
    obtain ⟨ad, e, _, c0, c1, c2⟩ := hP.get t.length q hk
    cases e
    rw [add_flat, Nat.zero_add] at c0 c1 c2
    have hqt := ht q (by rw [hL]; simp)
    have HM := Lib.hid hM
    have HL := Lib.hid hL
    have HO := Lib.hid hO
    have hqz : (bs q.t).size ≤ 100000 := by rw [size_bs]; exact hqt
    have hsz : (bs s).size ≤ 1000 := by rw [size_bs]; exact hs
    have hcat : bs q.t ++ bs s = bs (q.t ++ s) := bs_append _ _
    have HC := Lib.hid hcat
    obtain ⟨m, hm⟩ : ∃ m, m = t.length * 3 := ⟨_, rfl⟩
    rw [← hm] at hl c0 c1 c2
    have Hm := Lib.hid hm
    have HLn := Lib.hid hLn
    clear hAdd hM hL hlast hLn hk hv hO hcat hm ht hqt
    go_enter Tryd.func76, Tryd.ntmps76
    go_wp2_with fail
    refine (hl _ hP).mono ?_
    rintro e w1 ⟨rfl, h1⟩
    have k1 : w1.cell? ⟨g, m + 1, none⟩ = some (.string (bs q.t)) := by rw [← c1]; exact World.cell?_of_block (w := w) (h1.block _ hglt)
    have hO1 : OwnParts w1 base (.slice (some ⟨g, 0, none⟩) L.length c) L := HO.out.below h1 (Nat.le_refl _)
    have kf : ∀ j, w1.frozen? ⟨g, j, none⟩ = false := fun j => by
      rcases hO1.2 with ⟨h0, _⟩ | ⟨g', cap', cur, hv', hb', hg', _⟩
      · cases h0
      · cases hv'; exact Lib.frozen_of_heap hg' j
    have HO1 := Lib.hid hO1
    clear hl c0 c1 c2 hO1
    go_wp2_with fail
    rw [HQ.out]
    refine ⟨_, rfl, ?_, ?_⟩
    · have h := Owns.put HO1.out (j := m + 1) (by have := Hm.out; have := HLn.out; omega) (.string (bs (q.t ++ s)))
      have e1 : (partCells L).set (m + 1) (.string (bs (q.t ++ s))) = partCells M := by rw [HL.out, Hm.out, partCells_last, HM.out]
      have e2 : M.length = L.length := by rw [HM.out, HL.out]; simp
      rw [e1] at h
      unfold OwnParts
      rw [e2]
      first | exact h | (rw [← HC.out] at h; exact h)
    · have hg1 : w.grownBy w1 (some g) := ⟨h1.os, h1.tape, h1.output, h1.size, fun k hk _ => h1.block k hk⟩
      exact grownTrans hg1 (set_grown w1 g _ _)
  · have hM : M = L ++ [⟨1, s, 0⟩] := by
      rw [hAdd]
      rcases hlast : L.getLast? with _ | q
      · rfl
      · obtain ⟨t, ht⟩ := List.getLast?_eq_some_iff.1 hlast
        dsimp only
        rw [if_neg (fun h => hlit ⟨t, q, ht, h⟩)]
    have hv : lastV a L = .pointer none := by
      unfold lastV
      rcases hlast : L.getLast? with _ | q
      · rfl
      · obtain ⟨t, ht⟩ := List.getLast?_eq_some_iff.1 hlast
        dsimp only
        rw [if_neg (fun h => hlit ⟨t, q, ht, h⟩)]
    rw [hv] at hl
    have HM := Lib.hid hM
    clear hAdd hM hv hlit
    go_enter Tryd.func76, Tryd.ntmps76
    go_wp2_with fail
    refine (hl _ hP).mono ?_
    rintro e w1 ⟨rfl, h1⟩
    have hO1 := hO.below h1 (Nat.le_refl _)
    have hz := h1.size
    clear hl
    go_wp2_with (at_builtin; go_must (refine wpList_append_owns _ rfl _ _ 23 rfl base 59 i0 (.agg #[.int .i64 0, .string ⟨#[]⟩, .int .i64 0]) 3 32 Tryd.underlying23 hi hz0 hz1 hz2 rfl (by decide) _ _ _ rfl (hO1.alloc _) _ 1 1 [.int .i64 1, .string (bs s), .int .i64 0] rfl (Rd.pair3_at _ _ _ _ _ _ rfl) (by simp [Value.oneCell']) (by simp only [maxLen]; omega) (by omega) (by simp; omega) ?_); intro v' w4 hown' hgrow)
    rw [HQ.out]
    refine ⟨v', rfl, ?_, ?_⟩
    · unfold OwnParts
      rw [HM.out, partCells_append, List.length_append]
      exact hown'
    · have hg1 : w.grownBy w1 (Value.slice a L.length c).ownBlock := ⟨h1.os, h1.tape, h1.output, h1.size, fun k hk _ => h1.block k hk⟩
      exact grownTrans hg1 (grownTrans (World.grownBy_alloc _ _ _) hgrow)

set_option maxRecDepth 100000 in
set_option maxHeartbeats 1000000 in
theorem add_any (base : Nat) (v : Value) (L : List Part) (p : Part) (w : World) (hO : OwnParts w base v L) (hb : base ≤ w.heap.size) (hn : L.length ≤ 1000) (hs : p.t.length ≤ 1000) (ht : ∀ p ∈ L, p.t.length ≤ 100000) (hp : p.k = 1 → p.n = 0) :
    Calls Tryd.prog 49 #[v, pv p] w fun e w' => AddPost base v (addP L p) w e w' := by
  obtain ⟨i0, hi, hz0, hz1, hz2⟩ := info_parts infoP
  have hl := fun W => literal_any p W
  have hbn := (Below.refl _ w).alloc (Nat.le_refl _) (.cells #[.int .i64 p.k, .string (bs p.t), .int .i64 p.n] 59)
  have hrow := World.alloc_heap_new w (.cells #[.int .i64 p.k, .string (bs p.t), .int .i64 p.n] 59)
  obtain ⟨Q, hQ⟩ : ∃ Q : Ending → World → Prop, Q = AddPost base v (addP L p) w := ⟨_, rfl⟩
  have HQ := Lib.hid hQ
  rw [← hQ]
  clear hQ
  have hgr : ∀ {W : World} {row : Option Nat}, Below w.heap.size w W → w.grownBy W row := fun h1 => ⟨h1.os, h1.tape, h1.output, h1.size, fun k hk _ => h1.block k hk⟩
  by_cases hk : p.k = 1
  · have hpe : p = ⟨1, p.t, 0⟩ := by
      have := hp hk
      cases p; simp_all
    have hput := fun W h1 h2 => put_any base v L p.t W h1 h2 hn hs ht
    rw [← hpe] at hput
    have hb1 : (p.k == 1) = true := by rw [hk]; rfl
    rw [hb1] at hl
    have HPE := Lib.hid hpe
    have HK := Lib.hid hk
    unfold pv at *
    clear hpe hk hb1
    go_enter Tryd.func49, Tryd.ntmps49
    go_wp2_with fail
    refine (hl _).mono ?_
    rintro e w1 ⟨rfl, h1⟩
    have b1 := hbn.trans (h1.mono hbn.size)
    have hrow1 := (h1.block _ (by simp)).trans hrow
    have c1 := cell_list (cs := [.int .i64 p.k, .string (bs p.t), .int .i64 p.n]) hrow1 1
    simp only [List.getElem?_cons_zero, List.getElem?_cons_succ] at c1
    have hO1 : OwnParts w1 base v L := hO.below b1 (Nat.le_refl _)
    go_wp2_with fail
    refine (hput _ hO1 (Nat.le_trans hb b1.size)).mono ?_
    rintro e w2 ⟨v', rfl, hO2, hg2⟩
    go_wp2_with fail
    rw [HQ.out]
    exact ⟨v', rfl, hO2, grownTrans (hgr b1) hg2⟩
  · have hb1 : (p.k == 1) = false := by simpa using hk
    rw [hb1] at hl
    have hM : addP L p = L ++ [p] := by unfold addP; rw [if_neg hk]
    have HM := Lib.hid hM
    unfold pv at *
    clear hk hb1 hM
    obtain ⟨a, c, rfl, hLc, hcm, hP⟩ := hO.form
    go_enter Tryd.func49, Tryd.ntmps49
    go_wp2_with fail
    refine (hl _).mono ?_
    rintro e w1 ⟨rfl, h1⟩
    have b1 := hbn.trans (h1.mono hbn.size)
    have hrow1 := (h1.block _ (by simp)).trans hrow
    have c0 := cell_list (cs := [.int .i64 p.k, .string (bs p.t), .int .i64 p.n]) hrow1 0
    have c1 := cell_list (cs := [.int .i64 p.k, .string (bs p.t), .int .i64 p.n]) hrow1 1
    have c2 := cell_list (cs := [.int .i64 p.k, .string (bs p.t), .int .i64 p.n]) hrow1 2
    simp only [List.getElem?_cons_zero, List.getElem?_cons_succ] at c0 c1 c2
    have hO1 := hO.below b1 (Nat.le_refl _)
    have hz := b1.size
    go_wp2_with (at_builtin; go_must (refine wpList_append_owns _ rfl _ _ 23 rfl base 59 i0 (.agg #[.int .i64 0, .string ⟨#[]⟩, .int .i64 0]) 3 32 Tryd.underlying23 hi hz0 hz1 hz2 rfl (by decide) _ _ _ rfl (hO1.alloc _) _ 1 1 [.int .i64 p.k, .string (bs p.t), .int .i64 p.n] rfl (Rd.pair3_at _ _ _ _ _ _ rfl) (by simp [Value.oneCell']) (by simp only [maxLen]; omega) (by omega) (by simp; omega) ?_); intro v' w4 hown' hgrow)
    rw [HQ.out]
    refine ⟨v', rfl, ?_, ?_⟩
    · unfold OwnParts
      rw [HM.out, partCells_append, List.length_append]
      exact hown'
    · exact grownTrans (hgr b1) (grownTrans (World.grownBy_alloc _ _ _) hgrow)
end Go.Proofs.YtllklgalghmnfaaDoor
