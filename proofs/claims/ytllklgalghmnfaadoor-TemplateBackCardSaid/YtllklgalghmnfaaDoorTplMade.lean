/- Parts made of numbers. -/
import Derived.Test.YtllklgalghmnfaaDoorTplLight
import Derived.Test.YtllklgalghmnfaaDoorTplLit
import Derived.Test.YtllklgalghmnfaaDoorTplUses
import Derived.Test.YtllklgalghmnfaaDoorInts
import Derived.Deep.Cut
import Derived.Test.YtllklgalghmnfaaDoorReg
namespace Go.Proofs.YtllklgalghmnfaaDoor
open Go.RowKit Str Mem Tp
set_option linter.unusedVariables false
set_option linter.unusedSimpArgs false
theorem tmod_cases (n m : Int) (hm : 0 < m) : (n.tmod m = n % m ∨ n.tmod m = n % m - m ∧ n % m ≠ 0) ∧ 0 ≤ n % m ∧ n % m < m := by
  have h1 := Int.emod_nonneg n (show m ≠ 0 by omega)
  have h2 := Int.emod_lt_of_pos n hm
  refine ⟨?_, h1, h2⟩
  have h := Int.tmod_eq_emod (a := n) (b := m)
  rw [h]
  by_cases hz : 0 ≤ n ∨ m ∣ n
  · rw [if_pos hz]; left; simp
  · rw [if_neg hz]; right
    refine ⟨by rw [Int.natAbs_of_nonneg (by omega)], fun e => hz (.inr (Int.dvd_of_emod_eq_zero e))⟩
theorem ret_int2 {a b : Int} (h : a = b) : Ending.returned (Value.int .i64 a) = .returned (.int .i64 b) := by rw [h]
set_option maxHeartbeats 1000000 in
theorem kitMod_any (n m : Int) (w : World) (hm : 1 ≤ m) (hm2 : m ≤ 4294967296) : Calls Tryd.prog 44 #[.int .i64 n, .int .i64 m] w fun e w' => e = .returned (.int .i64 (n % m)) ∧ w = w' := by
  obtain ⟨hc, h1, h2⟩ := tmod_cases n m (by omega)
  obtain ⟨t, ht⟩ : ∃ t, t = n.tmod m := ⟨_, rfl⟩
  obtain ⟨r, hr⟩ : ∃ r, r = n % m := ⟨_, rfl⟩
  rw [← ht, ← hr] at hc
  rw [← hr] at h1 h2 ⊢
  have HT := Lib.hid ht
  clear ht hr
  have hm0 : ¬ m = 0 := by omega
  have hm1 : ¬ m < 1 := by omega
  go_enter Tryd.func44, Tryd.ntmps44
  go_wp2
  all_goals rw [← HT.out] at *
  · have e : wrap64 (t + m) = r := by
      unfold wrap64
      omega
    go_ret
    exact ⟨ret_int2 e, rfl⟩
  · have e : t = r := by omega
    go_ret
    exact ⟨ret_int2 e, rfl⟩
def bytesM : Tp.Bs := [47, 97, 98, 36, 37, 63, 92, 32, 255]
def litM (at' f : Nat) : Tp.Bs := (bytesM.drop at').take (f + 1)
theorem litM_cut (a f : Nat) (ha : a < 9) (hf : f < 3) : (ByteArray.mk #[47, 97, 98, 36, 37, 63, 92, 32, 255]).extract a (min 9 (a + 1 + f)) = bs (litM a f) := by
  have : ∀ a : Fin 9, ∀ f : Fin 3, (ByteArray.mk #[47, 97, 98, 36, 37, 63, 92, 32, 255]).extract a.val (min 9 (a.val + 1 + f.val)) = bs (litM a.val f.val) := by decide
  exact this ⟨a, ha⟩ ⟨f, hf⟩
/-- Whether a list of parts ends with a literal one. -/
def endsLit (L : List Part) : Bool := match L.getLast? with
  | some p => p.k == 1
  | none => false
def madeStep (L : List Part) (n : Int) : List Part :=
  let k := (n % 1048576).toNat
  if k % 4 = 1 then L ++ [⟨2, [], (k / 4 % 10 : Nat)⟩]
  else if k % 4 = 2 then L ++ [⟨3, [], (k / 4 % 10 : Nat)⟩]
  else if k % 4 = 3 then L ++ [⟨4, [], 1 + (k / 4 % 4 : Nat)⟩]
  else if endsLit L = true then L else L ++ [⟨1, litM (k / 4 % 9) (k / 64 % 3), 0⟩]
def madeL (l : List Int) : List Part := (l.take 8).foldl madeStep []
def madeTo (l : List Int) (k : Nat) : List Part := (l.take k).foldl madeStep []
theorem madeTo_next (l : List Int) (k : Nat) (n : Int) (h : l[k]? = some n) : madeTo l (k + 1) = madeStep (madeTo l k) n := by
  unfold madeTo
  rw [List.take_add_one, h]
  simp
theorem madeTo_len (l : List Int) : ∀ k, (madeTo l k).length ≤ k
  | 0 => by simp [madeTo]
  | k + 1 => by
    have ih := madeTo_len l k
    rcases h : l[k]? with _ | n
    · have : madeTo l (k + 1) = madeTo l k := by
        unfold madeTo
        rw [List.take_add_one, h]
        simp
      rw [this]; omega
    · rw [madeTo_next l k n h]
      unfold madeStep
      dsimp only
      split
      · simp; omega
      · split
        · simp; omega
        · split
          · simp; omega
          · split
            · omega
            · simp; omega
theorem Parts.lastE {w : World} {a : Option Addr} {L : List Part} (h : Parts w a L.length L) (hn : L ≠ []) : ∃ (ad : Addr) (p : Part), a = some ad ∧ L.getLast? = some p ∧ w.cell? (ad.add ((L.length - 1) * 3)) = some (.int .i64 p.k) := by
  have hlt : L.length - 1 < L.length := by have := List.length_pos_iff.2 hn; omega
  obtain ⟨ad, he, _, g0, _, _⟩ := Parts.get h (L.length - 1) _ (List.getElem?_eq_getElem hlt)
  exact ⟨ad, _, he, by rw [List.getLast?_eq_getElem?, List.getElem?_eq_getElem hlt], g0⟩

theorem tm (X : Nat) (h : X < 1048576) (m : Nat) : (wrap64 (X : Int)).tmod (m : Int) = ((X % m : Nat) : Int) := by
  have : wrap64 (X : Int) = (X : Int) := by unfold wrap64; omega
  rw [this, Int.tmod_eq_emod_of_nonneg (by omega), Int.natCast_emod]
theorem ar3 (D : Nat) : wrap64 (1 + ((D % 4 : Nat) : Int)) = 1 + ((D % 4 : Nat) : Int) := by
  have h : D % 4 < 4 := Nat.mod_lt _ (by omega)
  generalize D % 4 = E at h
  unfold wrap64
  omega
theorem ar5 (a f : Nat) (ha : a < 9) (hf : f < 3) : wrap64 (wrap64 ((a : Int) + 1) + (f : Int)) = wrap64 ((a : Int) + 1 + (f : Int)) := by
  unfold wrap64
  omega
theorem ar6 (a f : Nat) (ha : a < 9) (hf : f < 3) : 0 ≤ min (9 : Int) (wrap64 ((a : Int) + 1 + (f : Int))) ∧ min (9 : Int) (wrap64 ((a : Int) + 1 + (f : Int))) ≤ 9 ∧ (a : Int) ≤ min (9 : Int) (wrap64 ((a : Int) + 1 + (f : Int))) := by
  have : wrap64 ((a : Int) + 1 + (f : Int)) = (a : Int) + 1 + (f : Int) := by unfold wrap64; omega
  rw [this]
  omega
theorem ar4 (a f : Nat) (ha : a < 9) (hf : f < 3) : min (9 : Int) (wrap64 ((a : Int) + 1 + (f : Int))) = ((min 9 (a + 1 + f) : Nat) : Int) ∧ (a : Int) ≤ ((min 9 (a + 1 + f) : Nat) : Int) ∧ ((min 9 (a + 1 + f) : Nat) : Int) ≤ 9 := by
  have : wrap64 ((a : Int) + 1 + (f : Int)) = (a : Int) + 1 + (f : Int) := by unfold wrap64; omega
  rw [this]
  omega
set_option maxRecDepth 100000 in
set_option maxHeartbeats 16000000 in
theorem made_any (a : Option Addr) (c : Nat) (l : List Int) (w : World) (hI : Ints w a l.length l) :
    Calls Tryd.prog 43 #[.slice a l.length c] w fun e w' => ∃ v, e = .returned v ∧ OwnParts w' w.heap.size v (madeL l) ∧ Below w.heap.size w w' := by
  obtain ⟨i0, hi, hz0, hz1, hz2⟩ := info_parts infoP
  obtain ⟨m8, hm8⟩ : ∃ m, m = min l.length 8 := ⟨_, rfl⟩
  have hV : madeL l = madeTo l m8 := by
    unfold madeL madeTo
    rw [hm8]
    congr 1
    rcases Nat.le_total l.length 8 with h | h
    · rw [Nat.min_eq_left h, List.take_of_length_le h, List.take_length]
    · rw [Nat.min_eq_right h]
  rw [hV]
  clear hV
  have HI := Lib.hid hI
  clear hI
  obtain ⟨P, hPe⟩ : ∃ P : Ending → World → Prop, P = fun e w' => ∃ v, e = .returned v ∧ OwnParts w' w.heap.size v (madeTo l m8) ∧ Below w.heap.size w w' := ⟨_, rfl⟩
  have HPe := Lib.hid hPe
  rw [← hPe]
  clear hPe
  go_enter Tryd.func43, Tryd.ntmps43
  go_wp2_with fail
  go_loopg [3, 5] m8 (fun g v i W => ∃ k : Nat, i = .int .i64 k ∧ k + g = m8 ∧ OwnParts W w.heap.size v (madeTo l k) ∧ Below w.heap.size w W)
  case atStart => exact ⟨0, rfl, by omega, Owns.nil _ _ _ _, Below.refl _ _⟩
  case round =>
    obtain ⟨k, rfl, hk, hO, hb⟩ := hrel
    have hlen := madeTo_len l k
    have HO := Lib.hid hO
    have HB := Lib.hid hb
    clear hO hb
    by_cases hlt : k < m8
    · obtain ⟨g', rfl⟩ : ∃ g', gk = g' + 1 := ⟨gk - 1, by omega⟩
      have hkl : k < l.length := by omega
      have hk2 : k + 1 + g' = m8 := by omega
      obtain ⟨ad, n, rfl, hbk, hn, hcell⟩ := (show Ints wr a l.length l from Rd.below HI.out HB.out).get hkl
      have i0' : (0 : Int) ≤ (k : Int) := by omega
      have i1 : (k : Int) < (l.length : Int) := by omega
      have i8 : (k : Int) < 8 := by omega
      have hnx := madeTo_next l k n hn
      obtain ⟨M, hM⟩ : ∃ M, madeTo l k = M := ⟨_, rfl⟩
      rw [hM] at HO hlen hnx
      have hmd := fun W => kitMod_any n 1048576 W (by omega) (by omega)
      have hr1 := Int.emod_nonneg n (show (1048576 : Int) ≠ 0 by omega)
      have hr2 := Int.emod_lt_of_pos n (show (0 : Int) < 1048576 by omega)
      obtain ⟨K, hK⟩ : ∃ K : Nat, n % 1048576 = (K : Int) := ⟨(n % 1048576).toNat, by omega⟩
      rw [hK] at hmd hr2
      have hst : madeStep M n = if K % 4 = 1 then M ++ [⟨2, [], (K / 4 % 10 : Nat)⟩] else if K % 4 = 2 then M ++ [⟨3, [], (K / 4 % 10 : Nat)⟩] else if K % 4 = 3 then M ++ [⟨4, [], 1 + (K / 4 % 4 : Nat)⟩] else if endsLit M = true then M else M ++ [⟨1, litM (K / 4 % 9) (K / 64 % 3), 0⟩] := by
        unfold madeStep
        rw [hK]
        rfl
      rw [hst] at hnx
      have HNX := Lib.hid hnx
      clear hn hM hr1 hK hst hnx hbk
      have k0 : (0 : Int) ≤ (K : Int) := by omega
      have hlz := HB.out.size
      obtain ⟨va, vc, rfl, hLc, hcm, hPr⟩ := OwnParts.form HO.out
      have HPR := Lib.hid hPr
      clear hPr
      obtain ⟨D, hD⟩ : ∃ D : Nat, K / 4 = D := ⟨_, rfl⟩
      have eD : (K : Int) / 4 = (D : Int) := by rw [← hD]; rfl
      have d0 : (0 : Int) ≤ (D : Int) := Int.natCast_nonneg _
      have HDl : Hid (D < 1048576) := Lib.hid (by have : K < 1048576 := by omega
                                                  rw [← hD]; exact Nat.lt_of_le_of_lt (Nat.div_le_self _ _) this)
      have HKl : Hid (K < 1048576) := Lib.hid (by omega)
      rw [hD] at HNX
      rcases (by omega : K % 4 = 1 ∨ K % 4 = 2 ∨ K % 4 = 3 ∨ K % 4 = 0) with hc4 | hc4 | hc4 | hc4
      · have e4 : (K : Int) % 4 = 1 := by omega
        obtain ⟨E, hE⟩ : ∃ E : Nat, D % 10 = E := ⟨_, rfl⟩
        have eE : (wrap64 (D : Int)).tmod 10 = (E : Int) := by rw [← hE]; exact tm D HDl.out 10
        rw [hE, if_pos hc4] at HNX
        clear hE hD hc4
        clear hr2
        go_wp2_with fail
        refine (hmd _).mono ?_
        rintro e1 w1 ⟨rfl, rfl⟩
        clear hmd
        go_wp2_with fail
        have hlaw := law_group_any (E : Int)
        unfold pv at hlaw
        refine (hlaw _).mono ?_
        rintro e2 w2 ⟨rfl, h2⟩
        have hzz := h2.size
        have HO1 := Lib.hid (Owns.below HO.out h2 (Nat.le_refl _))
        go_wp2_with (at_builtin; go_must (refine wpList_append_owns _ rfl _ _ 23 rfl w.heap.size 59 i0 (.agg #[.int .i64 0, .string ⟨#[]⟩, .int .i64 0]) 3 32 Tryd.underlying23 hi hz0 hz1 hz2 rfl (by decide) _ _ _ rfl (HO1.out.alloc _) _ 1 1 _ rfl (Rd.pair3_at _ _ _ _ _ _ rfl) (by simp [Value.oneCell']) (by simp only [maxLen]; omega) (by omega) (by simp; omega) ?_); intro v9 w9 hown hgrow)
        go_roundg g'
        case measure => omega
        case rel =>
          refine ⟨k + 1, by go_num, by omega, ?_, ((HB.out.trans (h2.mono hlz)).alloc (by have := h2.size; omega) _).grown hgrow (by have := h2.size; simp; omega) (fun j hj => (Owns.lt HO.out j hj).1)⟩
          rw [HNX.out]
          unfold OwnParts
          rw [partCells_append, List.length_append]
          exact hown
      · have e4 : (K : Int) % 4 = 2 := by omega
        obtain ⟨E, hE⟩ : ∃ E : Nat, D % 10 = E := ⟨_, rfl⟩
        have eE : (wrap64 (D : Int)).tmod 10 = (E : Int) := by rw [← hE]; exact tm D HDl.out 10
        rw [hE, if_neg (by omega), if_pos hc4] at HNX
        clear hE hD hc4
        clear hr2
        go_wp2_with fail
        refine (hmd _).mono ?_
        rintro e1 w1 ⟨rfl, rfl⟩
        clear hmd
        go_wp2_with fail
        have hlaw := law_cond_any (E : Int)
        unfold pv at hlaw
        refine (hlaw _).mono ?_
        rintro e2 w2 ⟨rfl, h2⟩
        have hzz := h2.size
        have HO1 := Lib.hid (Owns.below HO.out h2 (Nat.le_refl _))
        go_wp2_with (at_builtin; go_must (refine wpList_append_owns _ rfl _ _ 23 rfl w.heap.size 59 i0 (.agg #[.int .i64 0, .string ⟨#[]⟩, .int .i64 0]) 3 32 Tryd.underlying23 hi hz0 hz1 hz2 rfl (by decide) _ _ _ rfl (HO1.out.alloc _) _ 1 1 _ rfl (Rd.pair3_at _ _ _ _ _ _ rfl) (by simp [Value.oneCell']) (by simp only [maxLen]; omega) (by omega) (by simp; omega) ?_); intro v9 w9 hown hgrow)
        go_roundg g'
        case measure => omega
        case rel =>
          refine ⟨k + 1, by go_num, by omega, ?_, ((HB.out.trans (h2.mono hlz)).alloc (by have := h2.size; omega) _).grown hgrow (by have := h2.size; simp; omega) (fun j hj => (Owns.lt HO.out j hj).1)⟩
          rw [HNX.out]
          unfold OwnParts
          rw [partCells_append, List.length_append]
          exact hown
      · have e4 : (K : Int) % 4 = 3 := by omega
        obtain ⟨E, hE⟩ : ∃ E : Nat, D % 4 = E := ⟨_, rfl⟩
        have eE : (wrap64 (D : Int)).tmod 4 = (E : Int) := by rw [← hE]; exact tm D HDl.out 4
        rw [hE, if_neg (by omega), if_neg (by omega), if_pos hc4] at HNX
        have HWE : Hid (wrap64 (1 + (E : Int)) = 1 + (E : Int)) := Lib.hid (by rw [← hE]; exact ar3 D)
        clear hE hD hc4
        clear hr2
        go_wp2_with fail
        refine (hmd _).mono ?_
        rintro e1 w1 ⟨rfl, rfl⟩
        clear hmd
        go_wp2_with fail
        have hlaw := law_variable_any (wrap64 (1 + (E : Int)))
        unfold pv at hlaw
        refine (hlaw _).mono ?_
        rintro e2 w2 ⟨rfl, h2⟩
        have hzz := h2.size
        have HO1 := Lib.hid (Owns.below HO.out h2 (Nat.le_refl _))
        go_wp2_with (at_builtin; go_must (refine wpList_append_owns _ rfl _ _ 23 rfl w.heap.size 59 i0 (.agg #[.int .i64 0, .string ⟨#[]⟩, .int .i64 0]) 3 32 Tryd.underlying23 hi hz0 hz1 hz2 rfl (by decide) _ _ _ rfl (HO1.out.alloc _) _ 1 1 _ rfl (Rd.pair3_at _ _ _ _ _ _ rfl) (by simp [Value.oneCell']) (by simp only [maxLen]; omega) (by omega) (by simp; omega) ?_); intro v9 w9 hown hgrow)
        go_roundg g'
        case measure => omega
        case rel =>
          refine ⟨k + 1, by go_num, by omega, ?_, ((HB.out.trans (h2.mono hlz)).alloc (by have := h2.size; omega) _).grown hgrow (by have := h2.size; simp; omega) (fun j hj => (Owns.lt HO.out j hj).1)⟩
          rw [HNX.out]
          unfold OwnParts
          rw [partCells_append, List.length_append]
          rw [HWE.out] at hown
          exact hown
      · have e4 : (K : Int) % 4 = 0 := by omega
        rw [if_neg (by omega), if_neg (by omega), if_neg (by omega)] at HNX
        by_cases hM0 : M = []
        · have hM2 : M.length = 0 := by rw [hM0]; rfl
          have j0 : ((M.length : Int) == 0) = true := by simp; omega
          have hen : ¬ endsLit M = true := by rw [hM0]; simp [endsLit]
          rw [if_neg hen] at HNX
          clear hM0 hen hM2
          obtain ⟨A, hA⟩ : ∃ A : Nat, D % 9 = A := ⟨_, rfl⟩
          obtain ⟨F, hF⟩ : ∃ F : Nat, K / 64 % 3 = F := ⟨_, rfl⟩
          have a9 : A < 9 := by rw [← hA]; exact Nat.mod_lt _ (by decide)
          have f3 : F < 3 := by rw [← hF]; exact Nat.mod_lt _ (by decide)
          have eA : (wrap64 (D : Int)).tmod 9 = (A : Int) := by rw [← hA]; exact tm D HDl.out 9
          obtain ⟨G, hG⟩ : ∃ G : Nat, K / 64 = G := ⟨_, rfl⟩
          have eG : (K : Int) / 64 = (G : Int) := by rw [← hG]; rfl
          have g0 : (0 : Int) ≤ (G : Int) := Int.natCast_nonneg _
          have eF : (wrap64 (G : Int)).tmod 3 = (F : Int) := by rw [← hF, hG]; exact tm G (by rw [← hG]; exact Nat.lt_of_le_of_lt (Nat.div_le_self _ _) HKl.out) 3
          obtain ⟨eH, h0, h9⟩ := ar4 A F a9 f3
          obtain ⟨H, hH⟩ : ∃ H : Nat, min 9 (A + 1 + F) = H := ⟨_, rfl⟩
          have hcut := litM_cut A F a9 f3
          rw [hH] at hcut eH h0 h9
          obtain ⟨y1, y2, y3⟩ := ar6 A F a9 f3
          have Y1 := Lib.hid y1
          have Y2 := Lib.hid y2
          have Y3 := Lib.hid y3
          have hcut : (ByteArray.mk #[47, 97, 98, 36, 37, 63, 92, 32, 255]).extract A (min (9 : Int) (wrap64 ((A : Int) + 1 + (F : Int)))).toNat = bs (litM A F) := by rw [eH, Int.toNat_natCast]; exact hcut
          have a0 : (0 : Int) ≤ (A : Int) := Int.natCast_nonneg _
          clear a9 f3 eH hH y1 y2 y3
          rw [hA, hF] at HNX
          obtain ⟨X, hX⟩ : ∃ X, litM A F = X := ⟨_, rfl⟩
          rw [hX] at hcut HNX
          obtain ⟨XB, hXB⟩ : ∃ B, bs X = B := ⟨_, rfl⟩
          have hlit := fun W => law_literal_any X W
          rw [hXB] at hcut hlit
          unfold pv at hlit
          rw [hXB] at hlit
          have HCUT := Lib.hid hcut
          have hpc : partCells [⟨1, X, 0⟩] = [.int .i64 1, .string XB, .int .i64 0] := by rw [← hXB]; rfl
          clear hA hF hG hX hXB hD hc4 hcut
          clear hr2
          go_wp2_with fail
          refine (hmd _).mono ?_
          rintro e1 w1 ⟨rfl, rfl⟩
          clear hmd
          go_upto_region 15 with fail
          clear eD eA e4 d0 HDl HKl
          try clear j0
          try clear j1 j2 j3
          go_wp2_with fail
          · have hlaw := hlit
            rw [← HCUT.out] at hlaw
            refine (hlaw _).mono ?_
            rintro e2 w2 ⟨rfl, h2⟩
            clear eF eG g0 a0 h0 h9
            have hzz := h2.size
            have HO1 := Lib.hid (Owns.below HO.out h2 (Nat.le_refl _))
            go_wp2_with (at_builtin; go_must (refine wpList_append_owns _ rfl _ _ 23 rfl w.heap.size 59 i0 (.agg #[.int .i64 0, .string ⟨#[]⟩, .int .i64 0]) 3 32 Tryd.underlying23 hi hz0 hz1 hz2 rfl (by decide) _ _ _ rfl (HO1.out.alloc _) _ 1 1 _ rfl (Rd.pair3_at _ _ _ _ _ _ rfl) (by simp [Value.oneCell']) (by simp only [maxLen]; omega) (by omega) (by simp; omega) ?_); intro v9 w9 hown hgrow)
            go_roundg g'
            case measure => first | exact Nat.lt_succ_self _ | exact Nat.le_refl _ | omega
            case rel =>
              refine ⟨k + 1, rfl, hk2, ?_, ((HB.out.trans (h2.mono hlz)).alloc (Nat.le_trans hlz hzz) _).grown hgrow (by rw [World.size_alloc]; exact Nat.le_succ_of_le (Nat.le_trans hlz hzz)) (fun j hj => (Owns.lt HO.out j hj).1)⟩
              rw [HNX.out]
              unfold OwnParts
              rw [partCells_append, List.length_append]
              rw [hpc]; rw [HCUT.out] at hown; exact hown
          all_goals first | exact absurd (And.intro Y1.out Y2.out) (by assumption) | exact absurd Y3.out (Int.not_le.2 (by assumption))
        · obtain ⟨pd, q, rfl, hq, hql⟩ := Parts.lastE HPR.out hM0
          have hM1 : 0 < M.length := List.length_pos_iff.2 hM0
          have j0 : ((M.length : Int) == 0) = false := by simp; omega
          have j1 : (0 : Int) ≤ (M.length : Int) - 1 := by omega
          have j2 : (M.length : Int) - 1 < (M.length : Int) := by omega
          have j3 : (M.length : Int) - 1 = ((M.length - 1 : Nat) : Int) := by omega
          by_cases hq1 : q.k = 1
          · have hen : endsLit M = true := by unfold endsLit; rw [hq]; simpa using hq1
            have bq : (q.k == 1) = true := by simpa using hq1
            rw [if_pos hen] at HNX
            clear hq hen hq1 hM0 hD hc4
            clear hr2
            go_wp2_with fail
            refine (hmd _).mono ?_
            rintro e1 w1 ⟨rfl, rfl⟩
            clear hmd
            go_wp2_with fail
            go_roundg g'
            case measure => omega
            case rel => exact ⟨k + 1, by go_num, by omega, by rw [HNX.out]; exact HO.out, HB.out⟩
          · have hen : ¬ endsLit M = true := by unfold endsLit; rw [hq]; simpa using hq1
            have bq : (q.k == 1) = false := by simpa using hq1
            rw [if_neg hen] at HNX
            clear hq hen hq1 hM0
            obtain ⟨A, hA⟩ : ∃ A : Nat, D % 9 = A := ⟨_, rfl⟩
            obtain ⟨F, hF⟩ : ∃ F : Nat, K / 64 % 3 = F := ⟨_, rfl⟩
            have a9 : A < 9 := by rw [← hA]; exact Nat.mod_lt _ (by decide)
            have f3 : F < 3 := by rw [← hF]; exact Nat.mod_lt _ (by decide)
            have eA : (wrap64 (D : Int)).tmod 9 = (A : Int) := by rw [← hA]; exact tm D HDl.out 9
            obtain ⟨G, hG⟩ : ∃ G : Nat, K / 64 = G := ⟨_, rfl⟩
            have eG : (K : Int) / 64 = (G : Int) := by rw [← hG]; rfl
            have g0 : (0 : Int) ≤ (G : Int) := Int.natCast_nonneg _
            have eF : (wrap64 (G : Int)).tmod 3 = (F : Int) := by rw [← hF, hG]; exact tm G (by rw [← hG]; exact Nat.lt_of_le_of_lt (Nat.div_le_self _ _) HKl.out) 3
            obtain ⟨eH, h0, h9⟩ := ar4 A F a9 f3
            obtain ⟨H, hH⟩ : ∃ H : Nat, min 9 (A + 1 + F) = H := ⟨_, rfl⟩
            have hcut := litM_cut A F a9 f3
            rw [hH] at hcut eH h0 h9
            obtain ⟨y1, y2, y3⟩ := ar6 A F a9 f3
            have Y1 := Lib.hid y1
            have Y2 := Lib.hid y2
            have Y3 := Lib.hid y3
            have hcut : (ByteArray.mk #[47, 97, 98, 36, 37, 63, 92, 32, 255]).extract A (min (9 : Int) (wrap64 ((A : Int) + 1 + (F : Int)))).toNat = bs (litM A F) := by rw [eH, Int.toNat_natCast]; exact hcut
            have a0 : (0 : Int) ≤ (A : Int) := Int.natCast_nonneg _
            clear a9 f3 eH hH y1 y2 y3
            rw [hA, hF] at HNX
            obtain ⟨X, hX⟩ : ∃ X, litM A F = X := ⟨_, rfl⟩
            rw [hX] at hcut HNX
            obtain ⟨XB, hXB⟩ : ∃ B, bs X = B := ⟨_, rfl⟩
            have hlit := fun W => law_literal_any X W
            rw [hXB] at hcut hlit
            unfold pv at hlit
            rw [hXB] at hlit
            have HCUT := Lib.hid hcut
            have hpc : partCells [⟨1, X, 0⟩] = [.int .i64 1, .string XB, .int .i64 0] := by rw [← hXB]; rfl
            clear hA hF hG hX hXB hD hc4 hcut
            clear hr2
            go_wp2_with fail
            refine (hmd _).mono ?_
            rintro e1 w1 ⟨rfl, rfl⟩
            clear hmd
            go_upto_region 15 with fail
            clear eD eA e4 d0 HDl HKl
            try clear j0
            try clear j1 j2 j3
            go_wp2_with fail
            · have hlaw := hlit
              rw [← HCUT.out] at hlaw
              refine (hlaw _).mono ?_
              rintro e2 w2 ⟨rfl, h2⟩
              clear eF eG g0 a0 h0 h9
              have hzz := h2.size
              have HO1 := Lib.hid (Owns.below HO.out h2 (Nat.le_refl _))
              go_wp2_with (at_builtin; go_must (refine wpList_append_owns _ rfl _ _ 23 rfl w.heap.size 59 i0 (.agg #[.int .i64 0, .string ⟨#[]⟩, .int .i64 0]) 3 32 Tryd.underlying23 hi hz0 hz1 hz2 rfl (by decide) _ _ _ rfl (HO1.out.alloc _) _ 1 1 _ rfl (Rd.pair3_at _ _ _ _ _ _ rfl) (by simp [Value.oneCell']) (by simp only [maxLen]; omega) (by omega) (by simp; omega) ?_); intro v9 w9 hown hgrow)
              go_roundg g'
              case measure => first | exact Nat.lt_succ_self _ | exact Nat.le_refl _ | omega
              case rel =>
                refine ⟨k + 1, rfl, hk2, ?_, ((HB.out.trans (h2.mono hlz)).alloc (Nat.le_trans hlz hzz) _).grown hgrow (by rw [World.size_alloc]; exact Nat.le_succ_of_le (Nat.le_trans hlz hzz)) (fun j hj => (Owns.lt HO.out j hj).1)⟩
                rw [HNX.out]
                unfold OwnParts
                rw [partCells_append, List.length_append]
                rw [hpc]; rw [HCUT.out] at hown; exact hown
            all_goals first | exact absurd (And.intro Y1.out Y2.out) (by assumption) | exact absurd Y3.out (Int.not_le.2 (by assumption))
    · obtain rfl : k = m8 := by omega
      by_cases h8 : (k : Int) < (l.length : Int)
      · have h9 : ¬ (k : Int) < 8 := by omega
        go_wp2_with fail
        rw [HPe.out]
        exact ⟨_, rfl, HO.out, HB.out⟩
      · go_wp2_with fail
        rw [HPe.out]
        exact ⟨_, rfl, HO.out, HB.out⟩
def flagOf (L : List Part) (prev : Bool) : Bool := match L.getLast? with
  | some q => q.k == 1
  | none => prev
theorem checkTo_snoc (p : Part) (hp : oneE p = 0) : ∀ (L : List Part) (prev : Bool), checkTo L prev = 0 → ¬ (p.k = 1 ∧ flagOf L prev = true) → checkTo (L ++ [p]) prev = 0
  | [], prev, _, hf => by
    show checkTo [p] prev = 0
    unfold checkTo
    rw [if_neg (by omega), if_neg (by simpa [flagOf] using hf)]
    rfl
  | q :: L, prev, h, hf => by
    unfold checkTo at h
    split at h
    · rename_i h1; exact absurd h h1
    · rename_i h1
      split at h
      · cases h
      · rename_i h2
        show checkTo (q :: (L ++ [p])) prev = 0
        unfold checkTo
        rw [if_neg h1, if_neg h2]
        refine checkTo_snoc p hp L _ h ?_
        rcases L with _ | ⟨x, L⟩
        · simpa [flagOf] using hf
        · have : flagOf (q :: x :: L) prev = flagOf (x :: L) (q.k == 1) := by
            unfold flagOf
            rw [List.getLast?_cons_cons]
            cases h9 : (x :: L).getLast? with
            | none => simp at h9
            | some z => rfl
          rwa [this] at hf
theorem checkTo_take : ∀ (L : List Part) (prev : Bool) (n : Nat), checkTo L prev = 0 → checkTo (L.take n) prev = 0
  | [], _, _, _ => by simp [checkTo]
  | q :: L, prev, 0, _ => rfl
  | q :: L, prev, n + 1, h => by
    unfold checkTo at h
    split at h
    · rename_i h1; exact absurd h h1
    · rename_i h1
      split at h
      · cases h
      · rename_i h2
        rw [List.take_succ_cons]
        unfold checkTo
        rw [if_neg h1, if_neg h2]
        exact checkTo_take L _ n h
theorem checkTo_low (L : List Part) (prev : Bool) (h : checkTo L prev = 0) : checkTo L false = 0 := by
  rcases L with _ | ⟨q, L⟩
  · rfl
  · unfold checkTo at h ⊢
    split at h
    · rename_i h1; exact absurd h h1
    · rename_i h1
      split at h
      · cases h
      · rw [if_neg h1, if_neg (by simp)]
        exact h
theorem checkTo_drop : ∀ (L : List Part) (prev : Bool) (n : Nat), checkTo L prev = 0 → checkTo (L.drop n) false = 0
  | [], _, _, _ => by simp [checkTo]
  | q :: L, prev, 0, h => checkTo_low _ _ h
  | q :: L, prev, n + 1, h => by
    unfold checkTo at h
    split at h
    · rename_i h1; exact absurd h h1
    · rename_i h1
      split at h
      · cases h
      · exact checkTo_drop L _ n h
/-- A part as the law makes them. -/
def gp (p : Part) : Prop := oneE p = 0 ∧ (writeP p).length ≤ 9 ∧ p.t.length ≤ 3
theorem nm_short (n : Nat) : (nmOf n).length ≤ 6 := by
  unfold nmOf
  split <;> simp
theorem gp_lit (a f : Nat) (ha : a < 9) (hf : f < 3) : gp ⟨1, litM a f, 0⟩ := by
  have h : ∀ a : Fin 9, ∀ f : Fin 3, (litM a.val f.val) ≠ [] ∧ (esc (litM a.val f.val)).length ≤ 9 ∧ (litM a.val f.val).length ≤ 3 := by decide
  obtain ⟨h1, h2, h3⟩ := h ⟨a, ha⟩ ⟨f, hf⟩
  refine ⟨?_, ?_, h3⟩
  · unfold oneE
    simp [lowR, highR, h1]
  · unfold writeP
    simpa using h2
theorem gp_num (k n : Int) (hk : k = 2 ∨ k = 3) (h0 : 0 ≤ n) (h9 : n ≤ 9) : gp ⟨k, [], n⟩ := by
  refine ⟨?_, ?_, by simp⟩
  · unfold oneE
    rcases hk with rfl | rfl
    · simp [lowR, highR]; omega
    · simp [lowR, highR]; omega
  · unfold writeP
    rcases hk with rfl | rfl <;> simp
theorem gp_var (n : Int) (h0 : 1 ≤ n) (h9 : n ≤ 4) : gp ⟨4, [], n⟩ := by
  refine ⟨?_, ?_, by simp⟩
  · unfold oneE
    simp [lowR, highR]; omega
  · unfold writeP
    have := nm_short n.toNat
    simp
    omega
structure GM (L : List Part) : Prop where
  g : ∀ p ∈ L, gp p
  c : checkTo L false = 0
theorem GM.nil : GM [] := ⟨by simp, rfl⟩
theorem GM.snoc {L : List Part} (h : GM L) (p : Part) (hp : gp p) (hf : ¬ (p.k = 1 ∧ endsLit L = true)) : GM (L ++ [p]) :=
  ⟨fun q hq => by
    rcases List.mem_append.1 hq with hq | hq
    · exact h.g q hq
    · rw [List.mem_singleton.1 hq]; exact hp,
  checkTo_snoc p hp.1 L false h.c (by
    have : flagOf L false = endsLit L := by unfold flagOf endsLit; rfl
    rwa [this])⟩
theorem GM.step {L : List Part} (h : GM L) (n : Int) : GM (madeStep L n) := by
  unfold madeStep
  dsimp only
  split
  · exact h.snoc _ (gp_num _ _ (.inl rfl) (by omega) (by omega)) (by simp)
  · split
    · exact h.snoc _ (gp_num _ _ (.inr rfl) (by omega) (by omega)) (by simp)
    · split
      · exact h.snoc _ (gp_var _ (by omega) (by omega)) (by simp)
      · split
        · exact h
        · rename_i hl
          exact h.snoc _ (gp_lit _ _ (Nat.mod_lt _ (by decide)) (Nat.mod_lt _ (by decide))) (fun hh => hl hh.2)
theorem foldl_GM : ∀ (l : List Int) (L : List Part), GM L → GM (l.foldl madeStep L)
  | [], L, h => h
  | n :: l, L, h => foldl_GM l _ (h.step n)
theorem madeL_GM (l : List Int) : GM (madeL l) := foldl_GM _ _ GM.nil
theorem madeL_len (l : List Int) : (madeL l).length ≤ 8 := by
  have := madeTo_len l 8
  exact this
theorem text_short : ∀ (L : List Part), (∀ p ∈ L, gp p) → (textP L).length ≤ L.length * 9
  | [], _ => by simp [textP]
  | p :: L, h => by
    have h1 := (h p (by simp)).2.1
    have h2 := text_short L (fun q hq => h q (by simp [hq]))
    have e : textP (p :: L) = writeP p ++ textP L := by simp [textP]
    rw [e, List.length_append, List.length_cons, Nat.succ_mul]
    omega
theorem checkR_of {L : List Part} (h : ∀ p ∈ L, gp p) (hc : checkTo L false = 0) (hl : L.length ≤ 8) : checkR L = 0 := by
  have := text_short L h
  unfold checkR
  rw [if_neg (by omega), if_neg (by omega)]
theorem GM.ok {L : List Part} (h : GM L) (hl : L.length ≤ 8) : checkR L = 0 := checkR_of h.g h.c hl
theorem GM.okT {L : List Part} (h : GM L) (hl : L.length ≤ 8) (n : Nat) : checkR (L.take n) = 0 := checkR_of (fun p hp => h.g p (List.mem_of_mem_take hp)) (checkTo_take L false n h.c) (by rw [List.length_take]; omega)
theorem GM.okD {L : List Part} (h : GM L) (hl : L.length ≤ 8) (n : Nat) : checkR (L.drop n) = 0 := checkR_of (fun p hp => h.g p (List.mem_of_mem_drop hp)) (checkTo_drop L false n h.c) (by rw [List.length_drop]; omega)
end Go.Proofs.YtllklgalghmnfaaDoor
