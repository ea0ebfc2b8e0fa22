/- SameParts, SameTarget, the law's makers, parses, fails, place. -/
import Derived.Test.YtllklgalghmnfaaDoorTplRefParse
import Derived.Deep.QuietTactic
import Derived.BigQuiet
namespace Go.Proofs.YtllklgalghmnfaaDoor
open Go.RowKit Str Mem Tp
set_option linter.unusedVariables false
set_option linter.unusedSimpArgs false

theorem sameParts_any (a b : Option Addr) (c d : Nat) (L : List Part) (w : World) (hA : Parts w a L.length L) (hB : Parts w b L.length L) (hn : L.length ≤ 1000000) :
    Calls Tryd.prog 16 #[.slice a L.length c, .slice b L.length d] w fun e w' => e = .returned (.bool true) ∧ ∃ n, w' = w.drewN n := by
  go_enter Tryd.func16, Tryd.ntmps16
  go_wp2_with fail
  go_loopw [5] (fun i wr => ∃ k : Nat, i = .int .i64 k ∧ k ≤ L.length ∧ ∃ n, wr = w.drewN n) (fun i _ => L.length - (intOf i).toNat)
  case atStart => exact ⟨0, rfl, Nat.zero_le _, 0, rfl⟩
  case round =>
    obtain ⟨k, rfl, hk, n, rfl⟩ := hrel
    by_cases hlt : k < L.length
    · obtain ⟨x, hx⟩ : ∃ x, L[k]? = some x := ⟨_, List.getElem?_eq_getElem hlt⟩
      obtain ⟨ad, rfl, _, g0, g1, g2⟩ := hA.get k x hx
      obtain ⟨bd, rfl, _, t0, t1, t2⟩ := hB.get k x hx
      clear hx
      have i0 : (0 : Int) ≤ (k : Int) := by omega
      have i1 : (k : Int) < (L.length : Int) := by omega
      go_wp2
      go_quiet (fail)
      go_wp2
      go_roundw
      case rel => exact ⟨k + 1, by go_num, by omega, n + nq, by simp [World.drewN, Nat.add_assoc]⟩
      case measure => simp [intOf]; omega
    · obtain rfl : k = L.length := by omega
      go_wp2
      go_ret
      exact ⟨rfl, n, rfl⟩

/-- A target as a value. -/
def tgtV (sm ex : Bool) (h : Tp.Bs) (pa : Option Addr) (pn pc : Nat) (hq : Bool) (qa : Option Addr) (qn qc : Nat) : Value := .agg #[.bool sm, .bool ex, .string (bs h), .slice pa pn pc, .bool hq, .slice qa qn qc]
set_option maxRecDepth 100000 in
theorem sameTarget_any (sm ex hq : Bool) (h : Tp.Bs) (pa pb qa qb : Option Addr) (pc pd qc qd : Nat) (L M : List Part) (w : World) (hA : Parts w pa L.length L) (hB : Parts w pb L.length L) (hC : Parts w qa M.length M) (hD : Parts w qb M.length M) (hn : L.length ≤ 1000000) (hm : M.length ≤ 1000000) :
    Calls Tryd.prog 17 #[tgtV sm ex h pa L.length pc hq qa M.length qc, tgtV sm ex h pb L.length pd hq qb M.length qd] w fun e w' => e = .returned (.bool true) ∧ Below w.heap.size w w' := by
  have s1 := fun W h1 h2 => sameParts_any pa pb pc pd L W h1 h2 hn
  have s2 := fun W h1 h2 => sameParts_any qa qb qc qd M W h1 h2 hm
  have hb := ((Below.refl _ w).alloc (Nat.le_refl _) (.cells #[.bool sm, .bool ex, .string (bs h), .slice pa L.length pc, .bool hq, .slice qa M.length qc] 30)).alloc (by simp) (.cells #[.bool sm, .bool ex, .string (bs h), .slice pb L.length pd, .bool hq, .slice qb M.length qd] 30)
  have hA' := Lib.hid (Rd.below hA hb)
  have hB' := Lib.hid (Rd.below hB hb)
  have hC' := Lib.hid (Rd.below hC hb)
  have hD' := Lib.hid (Rd.below hD hb)
  have HB := Lib.hid hb
  clear hA hB hC hD hb
  unfold tgtV
  go_enter Tryd.func17, Tryd.ntmps17
  go_wp2_with fail
  refine (s1 _ hA'.out hB'.out).mono ?_
  rintro e w1 ⟨rfl, n1, rfl⟩
  go_wp2_with fail
  refine (s2 _ (Rd.drewN hC'.out n1) (Rd.drewN hD'.out n1)).mono ?_
  rintro e w2 ⟨rfl, n2, rfl⟩
  go_wp2_with fail
  go_ret
  exact ⟨rfl, below_drewN HB.out (n1 + n2)⟩

theorem law_literal_any (s : Tp.Bs) (w : World) : Calls Tryd.prog 38 #[.string (bs s)] w fun e w' => e = .returned (pv ⟨1, s, 0⟩) ∧ Below w.heap.size w w' := by
  go_enter Tryd.func38, Tryd.ntmps38
  go_wp2_with fail
  refine bodyPost_ret (v := .agg #[.int .i64 1, .string (bs s), .int .i64 0]) (by simp [results, Tryd.results38, go_sem]) rfl ⟨rfl, ?_⟩
  exact (Below.refl _ w).alloc (Nat.le_refl _) _
theorem law_group_any (n : Int) (w : World) : Calls Tryd.prog 41 #[.int .i64 n] w fun e w' => e = .returned (pv ⟨2, [], n⟩) ∧ Below w.heap.size w w' := by
  go_enter Tryd.func41, Tryd.ntmps41
  go_wp2_with fail
  refine bodyPost_ret (v := .agg #[.int .i64 2, .string (bs []), .int .i64 n]) (by simp [results, Tryd.results41, go_sem]) rfl ⟨rfl, ?_⟩
  exact (Below.refl _ w).alloc (Nat.le_refl _) _
theorem law_cond_any (n : Int) (w : World) : Calls Tryd.prog 47 #[.int .i64 n] w fun e w' => e = .returned (pv ⟨3, [], n⟩) ∧ Below w.heap.size w w' := by
  go_enter Tryd.func47, Tryd.ntmps47
  go_wp2_with fail
  refine bodyPost_ret (v := .agg #[.int .i64 3, .string (bs []), .int .i64 n]) (by simp [results, Tryd.results47, go_sem]) rfl ⟨rfl, ?_⟩
  exact (Below.refl _ w).alloc (Nat.le_refl _) _
theorem law_variable_any (n : Int) (w : World) : Calls Tryd.prog 37 #[.int .i64 n] w fun e w' => e = .returned (pv ⟨4, [], n⟩) ∧ Below w.heap.size w w' := by
  go_enter Tryd.func37, Tryd.ntmps37
  go_wp2_with fail
  refine bodyPost_ret (v := .agg #[.int .i64 4, .string (bs []), .int .i64 n]) (by simp [results, Tryd.results37, go_sem]) rfl ⟨rfl, ?_⟩
  exact (Below.refl _ w).alloc (Nat.le_refl _) _

set_option maxRecDepth 100000 in
theorem parses_yes (s : Tp.Bs) (L : List Part) (a : Option Addr) (c : Nat) (w : World) (hs : s.length ≤ 100000) (hN : Nm w) (hP : Parts w a L.length L) (hn : L.length ≤ 1000000) (hr : parseR s = ⟨L, 0, 0⟩) :
    Calls Tryd.prog 39 #[.string (bs s), .slice a L.length c] w fun e w' => e = .returned (.bool true) ∧ Below w.heap.size w w' := by
  have hq := fun W h => parse_any s W hs h
  rw [hr] at hq
  clear hr
  go_enter Tryd.func39, Tryd.ntmps39
  go_wp2_with fail
  refine (hq _ hN).mono ?_
  rintro e w1 ⟨v, rfl, hO, h1⟩
  obtain ⟨a1, c1, rfl, _, _, hP1⟩ := hO.form
  have hs1 := fun W h1 h2 => sameParts_any a1 a c1 c L W h1 h2 hn
  have hb := h1.alloc h1.size (.cells #[.int .i64 0, .int .i64 0] 26)
  have hPa := Lib.hid (Rd.alloc hP1 (.cells #[.int .i64 0, .int .i64 0] 26))
  have hPb := Lib.hid (Rd.below hP hb)
  simp only [] at hPa
  clear hq hO hP1 h1
  go_wp2_with fail
  refine (hs1 _ hPa.out hPb.out).mono ?_
  rintro e w2 ⟨rfl, n2, rfl⟩
  go_wp2_with fail
  go_ret
  exact ⟨rfl, below_drewN hb n2⟩
set_option maxRecDepth 100000 in
theorem fails_yes (s : Tp.Bs) (er ea : Int) (w : World) (hs : s.length ≤ 100000) (hN : Nm w) (hr : parseR s = ⟨[], er, ea⟩) :
    Calls Tryd.prog 40 #[.string (bs s), .int .i64 er, .int .i64 ea] w fun e w' => e = .returned (.bool true) ∧ Below w.heap.size w w' := by
  have hq := fun W h => parse_any s W hs h
  rw [hr] at hq
  clear hr
  go_enter Tryd.func40, Tryd.ntmps40
  go_wp2_with fail
  refine (hq _ hN).mono ?_
  rintro e w1 ⟨v, rfl, hO, h1⟩
  obtain ⟨a1, c1, rfl, _, _, hP1⟩ := hO.form
  have hb := h1.alloc h1.size (.cells #[.int .i64 er, .int .i64 ea] 26)
  clear hq hO hP1 h1
  go_wp2_with fail
  go_ret
  exact ⟨rfl, hb⟩

/-- Whether parts are a path part. -/
def placeR (L : List Part) : Bool := match L with
  | [] => true
  | p :: _ => (p.k == 1) && (p.t.head? == some 47)
set_option maxRecDepth 100000 in
theorem place_any (a : Option Addr) (c : Nat) (L : List Part) (w : World) (hP : Parts w a L.length L) (hn : L.length ≤ 1000) (ht : ∀ p ∈ L, p.t.length ≤ 100000) :
    Calls Tryd.prog 54 #[.slice a L.length c] w fun e w' => e = .returned (.bool (placeR L)) ∧ Below w.heap.size w w' := by
  rcases L with _ | ⟨p, L⟩
  · go_enter Tryd.func54, Tryd.ntmps54
    go_wp2_with fail
    go_ret
    exact ⟨rfl, Below.refl _ _⟩
  · obtain ⟨ad, rfl, hb, c0, c1, c2⟩ := hP.get 0 p rfl
    have e0 : ad.add (0 * 3) = ad := by unfold Addr.add; simp
    rw [e0] at c0 c1 c2
    have hl := fun W => literal_any p W
    have hpt := ht p (by simp)
    have hpf := fun W => hasPrefix_any (bs p.t) ⟨#[47]⟩ (by rw [size_bs]; unfold maxLen; omega) (by simp [maxLen, ByteArray.size]) W
    have hpp : (ByteArray.data ⟨#[47]⟩).toList.isPrefixOf (bs p.t).data.toList = (p.t.head? == some 47) := by
      rw [data_bs]
      rcases p.t with _ | ⟨x, t⟩
      · rfl
      · show ((47 : UInt8) == x && true) = (some x == some 47)
        rw [Bool.and_true, Bool.eq_iff_iff]
        simp only [beq_iff_eq, Option.some.injEq]
        exact ⟨Eq.symm, Eq.symm⟩
    rw [hpp] at hpf
    have hv : placeR (p :: L) = ((p.k == 1) && (p.t.head? == some 47)) := rfl
    rw [hv]
    have hnz : (((p :: L).length : Int) == 0) = false := by rw [beq_eq_false_iff_ne]; simp; omega
    have hi1 : (0 : Int) < ((p :: L).length : Int) := by simp
    obtain ⟨n, hn2⟩ : ∃ n, (p :: L).length = n := ⟨_, rfl⟩
    rw [hn2] at hnz hi1 ⊢
    have lad := hb
    unfold pv at hl
    clear hv hpp hn2 hP ht
    rcases hk : (p.k == 1) with _ | _
    · rw [hk] at hl
      rw [Bool.false_and]
      go_enter Tryd.func54, Tryd.ntmps54
      go_wp2_with fail
      refine (hl _).mono ?_
      rintro e w1 ⟨rfl, h1⟩
      go_wp2_with fail
      go_ret
      exact ⟨rfl, h1⟩
    · rw [hk] at hl
      rw [Bool.true_and]
      go_enter Tryd.func54, Tryd.ntmps54
      go_wp2_with fail
      refine (hl _).mono ?_
      rintro e w1 ⟨rfl, h1⟩
      have c1' : w1.cell? ⟨ad.block, ad.off + 1, none⟩ = some (.string (bs p.t)) := by rw [← c1]; exact World.cell?_of_block (w := w) (h1.block _ lad)
      go_wp2_with fail
      refine (hpf _).mono ?_
      rintro e w2 ⟨rfl, rfl⟩
      go_wp2_with fail
      go_ret
      exact ⟨rfl, h1⟩
end Go.Proofs.YtllklgalghmnfaaDoor
