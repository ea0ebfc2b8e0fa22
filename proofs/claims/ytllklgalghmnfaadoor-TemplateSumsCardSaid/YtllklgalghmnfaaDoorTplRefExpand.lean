/- The reference's value of a part. -/
import Derived.Test.YtllklgalghmnfaaDoorTplValueRow
import Derived.Test.YtllklgalghmnfaaDoorTplRefStay
import Derived.Test.YtllklgalghmnfaaDoorLawTplKnown
namespace Go.Proofs.YtllklgalghmnfaaDoor
open Go.RowKit Str Mem Tp
set_option linter.unusedVariables false
set_option linter.unusedSimpArgs false
set_option maxRecDepth 100000 in
set_option maxHeartbeats 4000000 in
theorem refValue_var (p : Part) (hk : p.k = 4) (h1 : 1 ≤ p.n) (h4 : p.n ≤ 4) (R C : List Tp.Bs) (a b : Option Addr) (n c m d : Nat) (x1 x2 x3 x4 : Tp.Bs) (w : World) :
    Calls Tryd.prog 87 #[pv p, valsV a n c b m d x1 x2 x3 x4] w fun e w' => e = .returned (.string (bs (valueR R C x1 x2 x3 x4 p))) ∧ Below w.heap.size w w' := by
  have b4 : (p.k == 4) = true := by rw [hk]; rfl
  have hv : valueR R C x1 x2 x3 x4 p = (if p.n = 1 then x1 else if p.n = 2 then x2 else if p.n = 3 then x3 else x4) := by unfold valueR; rw [if_pos hk]
  rw [hv]
  unfold pv valsV
  clear hv hk
  have hh := ((Below.refl _ w).alloc (Nat.le_refl _) (.cells #[.int .i64 p.k, .string (bs p.t), .int .i64 p.n] 59)).alloc (by simp) (.cells #[.slice a n c, .slice b m d, .string (bs x1), .string (bs x2), .string (bs x3), .string (bs x4)] 53)
  obtain ⟨X, hX⟩ : ∃ X, (if p.n = 1 then x1 else if p.n = 2 then x2 else if p.n = 3 then x3 else x4) = X := ⟨_, rfl⟩
  rw [hX]
  rcases (by omega : p.n = 1 ∨ p.n = 2 ∨ p.n = 3 ∨ p.n = 4) with h | h | h | h <;> rw [h] at hX hh ⊢ <;> clear h h1 h4
  · have hX2 : x1 = X := hX
    subst hX2
    clear hX
    go_enter Tryd.func87, Tryd.ntmps87
    go_wp2_with fail
    go_ret
    exact ⟨rfl, hh⟩
  · have hX2 : x2 = X := hX
    subst hX2
    clear hX
    go_enter Tryd.func87, Tryd.ntmps87
    go_wp2_with fail
    go_ret
    exact ⟨rfl, hh⟩
  · have hX2 : x3 = X := hX
    subst hX2
    clear hX
    go_enter Tryd.func87, Tryd.ntmps87
    go_wp2_with fail
    go_ret
    exact ⟨rfl, hh⟩
  · have hX2 : x4 = X := hX
    subst hX2
    clear hX
    go_enter Tryd.func87, Tryd.ntmps87
    go_wp2_with fail
    go_ret
    exact ⟨rfl, hh⟩
set_option maxRecDepth 100000 in
set_option maxHeartbeats 4000000 in
theorem refValue_row (p : Part) (N : Nat) (hk : p.k ≠ 4) (hN : p.n = (N : Int)) (h9 : N ≤ 9) (R C : List Tp.Bs) (a b : Option Addr) (c d : Nat) (x1 x2 x3 x4 : Tp.Bs) (w : World) (hR : Strs w a R.length R) (hC : Strs w b C.length C) (hRn : R.length ≤ 1000000) (hCn : C.length ≤ 1000000) :
    Calls Tryd.prog 87 #[pv p, valsV a R.length c b C.length d x1 x2 x3 x4] w fun e w' => e = .returned (.string (bs (valueR R C x1 x2 x3 x4 p))) ∧ Below w.heap.size w w' := by
  have b4 : (p.k == 4) = false := by simpa using hk
  rw [value_pick R C x1 x2 x3 x4 p hk, hN, Int.toNat_natCast]
  have hh := ((Below.refl _ w).alloc (Nat.le_refl _) (.cells #[.int .i64 p.k, .string (bs p.t), .int .i64 (N : Int)] 59)).alloc (by simp) (.cells #[.slice a R.length c, .slice b C.length d, .string (bs x1), .string (bs x2), .string (bs x3), .string (bs x4)] 53)
  have hR2 : Strs _ a R.length R := Rd.below hR hh
  have hC2 : Strs _ b C.length C := Rd.below hC hh
  have n0 : (0 : Int) ≤ (N : Int) := by omega
  unfold pv valsV
  rw [hN]
  have HH := Lib.hid hh
  clear hR hC hk hN hh
  by_cases h3 : p.k = 3
  · have b3 : (p.k == 3) = true := by rw [h3]; rfl
    rw [if_pos h3]
    clear h3
    by_cases hlt : N < C.length
    · obtain ⟨ad, s, rfl, hb, hs, hcell⟩ := hC2.get hlt
      have hv : C.getD N [] = s := by rw [List.getD_eq_getElem?_getD, hs]; rfl
      have n1 : (N : Int) < (C.length : Int) := by omega
      rw [hv]
      clear hv hs hR2 hC2
      go_enter Tryd.func87, Tryd.ntmps87
      go_wp2_with fail
      go_ret
      exact ⟨rfl, HH.out⟩
    · have hv : C.getD N [] = [] := by rw [List.getD_eq_getElem?_getD, List.getElem?_eq_none (by omega)]; rfl
      have n1 : ¬ (N : Int) < (C.length : Int) := by omega
      rw [hv]
      clear hv hR2 hC2
      go_enter Tryd.func87, Tryd.ntmps87
      go_wp2_with fail
      go_ret
      exact ⟨rfl, HH.out⟩
  · have b3 : (p.k == 3) = false := by simpa using h3
    rw [if_neg h3]
    clear h3
    by_cases hlt : N < R.length
    · obtain ⟨ad, s, rfl, hb, hs, hcell⟩ := hR2.get hlt
      have hv : R.getD N [] = s := by rw [List.getD_eq_getElem?_getD, hs]; rfl
      have n1 : (N : Int) < (R.length : Int) := by omega
      rw [hv]
      clear hv hs hR2 hC2
      go_enter Tryd.func87, Tryd.ntmps87
      go_wp2_with fail
      go_ret
      exact ⟨rfl, HH.out⟩
    · have hv : R.getD N [] = [] := by rw [List.getD_eq_getElem?_getD, List.getElem?_eq_none (by omega)]; rfl
      have n1 : ¬ (N : Int) < (R.length : Int) := by omega
      rw [hv]
      clear hv hR2 hC2
      go_enter Tryd.func87, Tryd.ntmps87
      go_wp2_with fail
      go_ret
      exact ⟨rfl, HH.out⟩
end Go.Proofs.YtllklgalghmnfaaDoor
namespace Go.Proofs.YtllklgalghmnfaaDoor
open Go.RowKit Str Mem Tp
set_option linter.unusedVariables false
set_option linter.unusedSimpArgs false
theorem hex_cut (n : Nat) (h : n < 16) : (ByteArray.mk #[48, 49, 50, 51, 52, 53, 54, 55, 56, 57, 65, 66, 67, 68, 69, 70]).extract n (n + 1) = bs [hexD n] := by
  have : ∀ n : Fin 16, (ByteArray.mk #[48, 49, 50, 51, 52, 53, 54, 55, 56, 57, 65, 66, 67, 68, 69, 70]).extract n.val (n.val + 1) = bs [hexD n.val] := by decide
  exact this ⟨n, h⟩
theorem one_cut (s : Tp.Bs) (k : Nat) (x : UInt8) (h : s[k]? = some x) : (bs s).extract k (k + 1) = bs [x] := eq_of_data (by
  obtain ⟨hk, e⟩ := List.getElem?_eq_some_iff.1 h
  rw [extract_data, data_bs, data_bs, List.drop_eq_getElem_cons hk, e]
  simp)
theorem char_at (E : Tp.Bs) (m : Nat) (x : UInt8) (h : E[m]? = some x) (hin : m < (bs E).size) : (bs E)[m]'hin = x := by
  rw [get_data _ m hin]
  have : m < E.length := hin
  rw [List.getElem?_eq_getElem this] at h
  injection h
theorem encB_yes (V : S4) (x : UInt8) (h37 : hasS V 37 = false) (h : hasS V x.toNat = true) : encB V x = [x] := by
  have : x ≠ 37 := fun e => by rw [e, show (37 : UInt8).toNat = 37 from rfl, h37] at h; cases h
  unfold encB
  rw [if_pos ⟨this, h⟩]
theorem encB_no (V : S4) (x : UInt8) (h : hasS V x.toNat = false) : encB V x = [37, hexD (x.toNat / 16), hexD (x.toNat % 16)] := by
  unfold encB
  rw [if_neg (by rw [h]; simp)]
set_option maxRecDepth 100000 in
set_option maxHeartbeats 8000000 in
theorem refEncoded_any (s : Tp.Bs) (w : World) (hn : s.length ≤ 1000000) : Calls Tryd.prog 88 #[.string (bs s)] w fun e w' => e = .returned (.string (bs (encS stayE s))) ∧ Below w.heap.size w w' := by
  have hst := fun W => refStay_any W
  have hhas := fun b hb W => refHas_any stayE b hb W
  have hnx := encS_next stayE s
  have h37 : hasS stayE 37 = false := by kernel_rfl
  have hfull : encS stayE (s.take s.length) = encS stayE s := by rw [List.take_length]
  obtain ⟨V, hV⟩ : ∃ V, stayE = V := ⟨_, rfl⟩
  rw [hV] at hst hhas hnx h37 hfull ⊢
  clear hV
  obtain ⟨E, hE⟩ : ∃ E, encS V s = E := ⟨_, rfl⟩
  rw [hE] at hfull ⊢
  have hcut := one_cut s
  have hch : ∀ B : ByteArray, bs s = B → ∀ (m : Nat) (x : UInt8), s[m]? = some x → ∀ (hin : m < B.size), B[m]'hin = x := fun B hB => by subst hB; exact char_at s
  have hsz : (bs s).size = s.length := size_bs s
  obtain ⟨S, hS⟩ : ∃ S, bs s = S := ⟨_, rfl⟩
  rw [hS] at hcut hsz ⊢
  have hch := hch S hS
  have HNX := Lib.hid hnx
  have H37 := Lib.hid h37
  have HFULL := Lib.hid hfull
  have HCUT := Lib.hid hcut
  have HCH := Lib.hid hch
  have HSZ := Lib.hid hsz
  clear hnx h37 hfull hE hcut hch hsz hS
  go_enter Tryd.func88, Tryd.ntmps88
  go_wp2_with fail
  refine (hst _).mono ?_
  rintro e w1 ⟨rfl, h1⟩
  have b2 := h1.alloc h1.size (.cells #[.int .u64 V.a0, .int .u64 V.a1, .int .u64 V.a2, .int .u64 V.a3] 69)
  have r2 := Rw.new w1 69 [.int .u64 V.a0, .int .u64 V.a1, .int .u64 V.a2, .int .u64 V.a3]
  clear hst h1
  go_wp2_with fail
  obtain ⟨W7, hW7⟩ : ∃ W, W = w1.alloc (.cells #[.int .u64 V.a0, .int .u64 V.a1, .int .u64 V.a2, .int .u64 V.a3] 69) := ⟨_, rfl⟩
  obtain ⟨n7, hn7⟩ : ∃ n, n = w1.heap.size := ⟨_, rfl⟩
  rw [← hW7] at b2 r2 ⊢
  rw [← hn7] at r2 ⊢
  clear hW7 hn7
  have B7 := Lib.hid b2
  have R7 := Lib.hid r2
  clear b2 r2
  go_loopg [3, 5] s.length (fun g out i W => ∃ (k : Nat) (A : ByteArray), i = .int .i64 k ∧ k + g = s.length ∧ out = .string A ∧ A = bs (encS V (s.take k)) ∧ Below w.heap.size w W ∧ Rw W n7 69 [.int .u64 V.a0, .int .u64 V.a1, .int .u64 V.a2, .int .u64 V.a3])
  case atStart => exact ⟨0, _, rfl, by omega, rfl, rfl, B7.out, R7.out⟩
  case round =>
    clear B7 R7
    obtain ⟨k, A, rfl, hk, rfl, hA, hb, hr⟩ := hrel
    by_cases hlt : k < s.length
    · obtain ⟨g', rfl⟩ : ∃ g', gk = g' + 1 := ⟨gk - 1, by omega⟩
      have i0 : (0 : Int) ≤ (k : Int) := by omega
      have i1 : (k : Int) < (S.size : Int) := by have := HSZ.out; omega
      have i2 : (k : Int) + 1 ≤ (S.size : Int) := by omega
      have hnx := HNX.out k hlt
      obtain ⟨x, hx⟩ : ∃ x, s[k] = x := ⟨_, rfl⟩
      have hxo : s[k]? = some x := by rw [List.getElem?_eq_getElem hlt, hx]
      rw [hx] at hnx
      have hch : ∀ hin, S[k]'hin = x := fun hin => HCH.out k x hxo hin
      have HCT := Lib.hid (HCUT.out k x hxo)
      obtain ⟨q, hq⟩ : ∃ q, hasS V x.toNat = q := ⟨_, rfl⟩
      have hh := fun W => hhas x.toNat x.toNat_lt W
      have c0 := hr.c 0 _ rfl
      have c1 := hr.c 1 _ rfl
      have c2 := hr.c 2 _ rfl
      have c3 := hr.c 3 _ rfl
      rw [hq] at hh
      have HX1 := Lib.hid hnx
      have HQ := Lib.hid hq
      have HB := Lib.hid hb
      have HR := Lib.hid hr
      have hel := encS_len V (s.take k)
      have htl : (s.take k).length ≤ 1000000 := by rw [List.length_take]; omega
      have hAz : A.size ≤ 3000000 := by rw [hA, size_bs]; omega
      have HA := Lib.hid hA
      clear hel htl hnx hx hxo hq hb hr hA
      cases q with
      | true =>
        have hcat : A ++ S.extract k (k + 1) = bs (encS V (s.take (k + 1))) := by rw [HX1.out, HA.out, HCT.out, bs_append, encB_yes V x H37.out HQ.out]
        have HCAT := Lib.hid hcat
        clear hcat
        go_wp2_with (go_at_call 46; refine (hh _).mono ?_; rintro e w8 ⟨rfl, h8⟩; have hr8 := HR.out.below h8; have hb8 := HB.out.trans (h8.mono HB.out.size))
        go_roundg g'
        case measure => omega
        case rel => exact ⟨k + 1, _, by go_num, by omega, rfl, HCAT.out, hb8, hr8⟩
      | false =>
        have hlx := x.toNat_lt
        obtain ⟨p, hp⟩ : ∃ p, x.toNat / 16 = p := ⟨_, rfl⟩
        obtain ⟨r, hr⟩ : ∃ r, x.toNat % 16 = r := ⟨_, rfl⟩
        have p0 : p < 16 := by omega
        have r0 : r < 16 := by omega
        have hcat : A ++ ⟨#[37]⟩ ++ (ByteArray.mk #[48, 49, 50, 51, 52, 53, 54, 55, 56, 57, 65, 66, 67, 68, 69, 70]).extract p (p + 1) ++ (ByteArray.mk #[48, 49, 50, 51, 52, 53, 54, 55, 56, 57, 65, 66, 67, 68, 69, 70]).extract r (r + 1) = bs (encS V (s.take (k + 1))) := by
          rw [HX1.out, HA.out, hex_cut p p0, hex_cut r r0, encB_no V x HQ.out, hp, hr, show (⟨#[37]⟩ : ByteArray) = bs [37] from rfl, bs_append, bs_append, bs_append, List.append_assoc, List.append_assoc]
          rfl
        have HCAT := Lib.hid hcat
        have e1 : (x.toNat : Int) / 16 = (p : Int) := by omega
        have e2 : (x.toNat : Int) % 16 = (r : Int) := by omega
        have p1 : (0 : Int) ≤ (p : Int) := by omega
        have r1 : (0 : Int) ≤ (r : Int) := by omega
        have p2 : (p : Int) + 1 ≤ 16 := by omega
        have r2 : (r : Int) + 1 ≤ 16 := by omega
        have w1 : IntKind.u8.wrap ((p : Int) + 1) = (p : Int) + 1 := IntWalk.u8_in _ (by omega)
        have w2 : IntKind.u8.wrap ((r : Int) + 1) = (r : Int) + 1 := IntWalk.u8_in _ (by omega)
        clear hp hr hcat
        go_wp2_with (go_at_call 46; refine (hh _).mono ?_; rintro e w8 ⟨rfl, h8⟩; have hr8 := HR.out.below h8; have hb8 := HB.out.trans (h8.mono HB.out.size))
        go_quiet (fail)
        go_wp2_with fail
        go_roundg g'
        case measure => omega
        case rel => exact ⟨k + 1, _, by go_num, by omega, rfl, HCAT.out, below_drewN hb8 _, hr8.drewN _⟩
    · obtain rfl : k = s.length := by omega
      rw [HFULL.out] at hA
      subst hA
      have i1 : ¬ (s.length : Int) < (S.size : Int) := by have := HSZ.out; omega
      go_wp2_with fail
      go_ret
      exact ⟨rfl, hb⟩
end Go.Proofs.YtllklgalghmnfaaDoor
namespace Go.Proofs.YtllklgalghmnfaaDoor
open Go.RowKit Str Mem Tp
set_option linter.unusedVariables false
set_option linter.unusedSimpArgs false
def fE (q : Bool) : Tp.Bs → Tp.Bs := if q then encS stayE else id
theorem refValue_any (p : Part) (hp : oneE p = 0) (h1 : p.k ≠ 1) (R C : List Tp.Bs) (a b : Option Addr) (c d : Nat) (x1 x2 x3 x4 : Tp.Bs) (w : World) (hR : Strs w a R.length R) (hC : Strs w b C.length C) (hRn : R.length ≤ 1000000) (hCn : C.length ≤ 1000000) :
    Calls Tryd.prog 87 #[pv p, valsV a R.length c b C.length d x1 x2 x3 x4] w fun e w' => e = .returned (.string (bs (valueR R C x1 x2 x3 x4 p))) ∧ Below w.heap.size w w' := by
  unfold oneE at hp
  split at hp
  · cases hp
  · rename_i hk
    split at hp
    · cases hp
    · rename_i hn
      by_cases h4 : p.k = 4
      · simp [lowR, highR, h4] at hn
        exact refValue_var p h4 (by omega) (by omega) R C a b R.length c C.length d x1 x2 x3 x4 w
      · have hl : lowR p.k = 0 := by unfold lowR; rw [if_neg h4]
        have hh : highR p.k = 9 := by unfold highR; rw [if_neg h1, if_neg h4]
        rw [hl, hh] at hn
        obtain ⟨N, hN⟩ : ∃ N : Nat, p.n = N := ⟨p.n.toNat, by omega⟩
        exact refValue_row p N h4 hN (by omega) R C a b c d x1 x2 x3 x4 w hR hC hRn hCn
def sumP (f : Tp.Bs → Tp.Bs) (R C : List Tp.Bs) (x1 x2 x3 x4 : Tp.Bs) (L : List Part) : Tp.Bs := L.flatMap (pieceR f R C x1 x2 x3 x4)
theorem expTo_sum (f : Tp.Bs → Tp.Bs) (R C : List Tp.Bs) (x1 x2 x3 x4 : Tp.Bs) (most : Int) : ∀ (L : List Part) (out : Tp.Bs), (out.length : Int) ≤ most →
    expTo f R C x1 x2 x3 x4 most L out = if most < (out ++ sumP f R C x1 x2 x3 x4 L).length then none else some (out ++ sumP f R C x1 x2 x3 x4 L)
  | [], out, h => by
    rw [expTo, if_neg (by simp [sumP]; omega)]
    simp [sumP]
  | p :: L, out, h => by
    have e : out ++ sumP f R C x1 x2 x3 x4 (p :: L) = (out ++ pieceR f R C x1 x2 x3 x4 p) ++ sumP f R C x1 x2 x3 x4 L := by simp [sumP]
    rw [expTo, e]
    by_cases hm : most < (out ++ pieceR f R C x1 x2 x3 x4 p).length
    · rw [if_pos hm, if_pos (by rw [List.length_append]; omega)]
    · rw [if_neg hm, expTo_sum f R C x1 x2 x3 x4 most L _ (by omega)]
theorem sumP_next (f : Tp.Bs → Tp.Bs) (R C : List Tp.Bs) (x1 x2 x3 x4 : Tp.Bs) (L : List Part) (k : Nat) (x : Part) (h : L[k]? = some x) : sumP f R C x1 x2 x3 x4 (L.take (k + 1)) = sumP f R C x1 x2 x3 x4 (L.take k) ++ pieceR f R C x1 x2 x3 x4 x := by
  unfold sumP
  rw [List.take_add_one, h]
  simp
theorem expandR_sum (f : Tp.Bs → Tp.Bs) (L : List Part) (R C : List Tp.Bs) (x1 x2 x3 x4 : Tp.Bs) (most : Int) (hE : checkR L = 0) (h1 : ¬ 10 < R.length) (h2 : ¬ 10 < C.length) (h3 : ¬ most < 0) (h4 : ¬ 1024 < most) :
    expandR f R C x1 x2 x3 x4 most L = if most < (sumP f R C x1 x2 x3 x4 L).length then ([], 4) else (sumP f R C x1 x2 x3 x4 L, 0) := by
  unfold expandR
  rw [if_neg (by omega), if_neg (by omega), expTo_sum _ _ _ _ _ _ _ _ L [] (by simp; omega), List.nil_append]
  by_cases h : most < (sumP f R C x1 x2 x3 x4 L).length
  · rw [if_pos h, if_pos h]
  · rw [if_neg h, if_neg h]

set_option maxRecDepth 100000 in
set_option maxHeartbeats 4000000 in
theorem refExp_err (q : Bool) (most : Int) (a b e : Option Addr) (ca c d : Nat) (f : Tp.Bs → Tp.Bs) (L : List Part) (R C : List Tp.Bs) (x1 x2 x3 x4 : Tp.Bs) (w : World) (hP : Parts w a L.length L) (hn : L.length ≤ 100000) (ht : ∀ p ∈ L, p.t.length ≤ 100000)
    (hE : checkR L ≠ 0) :
    Calls Tryd.prog 66 #[.slice a L.length ca, valsV b R.length c e C.length d x1 x2 x3 x4, .int .i64 most, .bool q] w fun e w' => e = .returned (.tuple #[.string (bs (expandR f R C x1 x2 x3 x4 most L).1), .int .i64 (expandR f R C x1 x2 x3 x4 most L).2]) ∧ Below w.heap.size w w' := by
  have hb := (Below.refl _ w).alloc (Nat.le_refl _) (.cells #[.slice b R.length c, .slice e C.length d, .string (bs x1), .string (bs x2), .string (bs x3), .string (bs x4)] 53)
  have hP2 : Parts _ a L.length L := Rd.below hP hb
  have hck := fun W h1 => refCheck_any a ca L W h1 hn ht
  have hv : expandR f R C x1 x2 x3 x4 most L = ([], checkR L) := by unfold expandR; rw [if_pos hE]
  rw [hv]
  clear hv
  obtain ⟨V, hV⟩ : ∃ V, checkR L = V := ⟨_, rfl⟩
  rw [hV] at hck hE ⊢
  clear hV
  have hE1 : (V == 0) = false := by simpa using hE
  have HP := Lib.hid hP2
  have HB := Lib.hid hb
  clear hP2 hP hb ht
  unfold valsV
  go_enter Tryd.func66, Tryd.ntmps66
  go_wp2_with fail
  refine (hck _ HP.out).mono ?_
  rintro e w2 ⟨rfl, h2⟩
  have hb2 := HB.out.trans (h2.mono HB.out.size)
  go_wp2_with fail
  refine bodyPost_ret (v := .tuple #[.string ⟨#[]⟩, .int .i64 V]) (by simp [results, Tryd.results66, go_sem]) rfl ⟨rfl, hb2⟩

set_option maxRecDepth 100000 in
set_option maxHeartbeats 4000000 in
theorem refExp_two (q : Bool) (most : Int) (a b e : Option Addr) (ca c d : Nat) (f : Tp.Bs → Tp.Bs) (L : List Part) (R C : List Tp.Bs) (x1 x2 x3 x4 : Tp.Bs) (w : World) (hP : Parts w a L.length L) (hn : L.length ≤ 100000) (ht : ∀ p ∈ L, p.t.length ≤ 100000)
    (hE : checkR L = 0) (hs : 10 < R.length ∨ 10 < C.length ∨ most < 0 ∨ 1024 < most) :
    Calls Tryd.prog 66 #[.slice a L.length ca, valsV b R.length c e C.length d x1 x2 x3 x4, .int .i64 most, .bool q] w fun e w' => e = .returned (.tuple #[.string (bs (expandR f R C x1 x2 x3 x4 most L).1), .int .i64 (expandR f R C x1 x2 x3 x4 most L).2]) ∧ Below w.heap.size w w' := by
  have hb := (Below.refl _ w).alloc (Nat.le_refl _) (.cells #[.slice b R.length c, .slice e C.length d, .string (bs x1), .string (bs x2), .string (bs x3), .string (bs x4)] 53)
  have hrow := World.alloc_heap_new w (.cells #[.slice b R.length c, .slice e C.length d, .string (bs x1), .string (bs x2), .string (bs x3), .string (bs x4)] 53)
  have hP2 : Parts _ a L.length L := Rd.below hP hb
  have hck := fun W h1 => refCheck_any a ca L W h1 hn ht
  rw [expand_out f L R C x1 x2 x3 x4 most hE hs]
  rw [hE] at hck
  have HP := Lib.hid hP2
  have HB := Lib.hid hb
  clear hP2 hP hb ht hE
  unfold valsV
  go_enter Tryd.func66, Tryd.ntmps66
  go_wp2_with fail
  refine (hck _ HP.out).mono ?_
  rintro e2 w2 ⟨rfl, h2⟩
  have hb2 := HB.out.trans (h2.mono HB.out.size)
  have hrow2 := (h2.block _ (by simp)).trans hrow
  have c0 := cell_list (cs := [.slice b R.length c, .slice e C.length d, .string (bs x1), .string (bs x2), .string (bs x3), .string (bs x4)]) hrow2 0
  have c1 := cell_list (cs := [.slice b R.length c, .slice e C.length d, .string (bs x1), .string (bs x2), .string (bs x3), .string (bs x4)]) hrow2 1
  simp only [List.getElem?_cons_zero, List.getElem?_cons_succ] at c0 c1
  clear hck
  by_cases s1 : (10 : Int) < (R.length : Int)
  · have g1 : decide ((10 : Int) < (R.length : Int)) = true := decide_eq_true s1
    go_wp2_with fail
    refine bodyPost_ret (v := .tuple #[.string ⟨#[]⟩, .int .i64 2]) (by simp [results, Tryd.results66, go_sem]) rfl ⟨rfl, hb2⟩
  by_cases s2 : (10 : Int) < (C.length : Int)
  · go_wp2_with fail
    refine bodyPost_ret (v := .tuple #[.string ⟨#[]⟩, .int .i64 2]) (by simp [results, Tryd.results66, go_sem]) rfl ⟨rfl, hb2⟩
  by_cases s3 : most < 0
  · go_wp2_with fail
    refine bodyPost_ret (v := .tuple #[.string ⟨#[]⟩, .int .i64 2]) (by simp [results, Tryd.results66, go_sem]) rfl ⟨rfl, hb2⟩
  have s4 : 1024 < most := by omega
  go_wp2_with fail
  refine bodyPost_ret (v := .tuple #[.string ⟨#[]⟩, .int .i64 2]) (by simp [results, Tryd.results66, go_sem]) rfl ⟨rfl, hb2⟩

theorem sum_len (f : Tp.Bs → Tp.Bs) (R C : List Tp.Bs) (x1 x2 x3 x4 : Tp.Bs) (B : Nat) : ∀ (L : List Part), (∀ p ∈ L, (pieceR f R C x1 x2 x3 x4 p).length ≤ B) → (sumP f R C x1 x2 x3 x4 L).length ≤ L.length * B
  | [], _ => by simp [sumP]
  | p :: L, h => by
    have h1 := h p (by simp)
    have h2 := sum_len f R C x1 x2 x3 x4 B L (fun x hx => h x (by simp [hx]))
    have e : sumP f R C x1 x2 x3 x4 (p :: L) = pieceR f R C x1 x2 x3 x4 p ++ sumP f R C x1 x2 x3 x4 L := by simp [sumP]
    rw [e, List.length_append, List.length_cons, Nat.succ_mul]
    omega
set_option maxRecDepth 100000 in
set_option maxHeartbeats 8000000 in
theorem refExp_loop (q : Bool) (most : Int) (a b e : Option Addr) (ca c d : Nat) (L : List Part) (R C : List Tp.Bs) (x1 x2 x3 x4 : Tp.Bs) (w : World) (hP : Parts w a L.length L) (hn : L.length ≤ 100000) (ht : ∀ p ∈ L, p.t.length ≤ 100000)
    (hR : Strs w b R.length R) (hC : Strs w e C.length C)
    (hfb : ∀ p ∈ L, (valueR R C x1 x2 x3 x4 p).length ≤ 300000)
    (hE : checkR L = 0) (hs1 : ¬ 10 < R.length) (hs2 : ¬ 10 < C.length) (hs3 : ¬ most < 0) (hs4 : ¬ 1024 < most) :
    Calls Tryd.prog 66 #[.slice a L.length ca, valsV b R.length c e C.length d x1 x2 x3 x4, .int .i64 most, .bool q] w fun e w' => e = .returned (.tuple #[.string (bs (expandR (fE q) R C x1 x2 x3 x4 most L).1), .int .i64 (expandR (fE q) R C x1 x2 x3 x4 most L).2]) ∧ Below w.heap.size w w' := by
  have hb := (Below.refl _ w).alloc (Nat.le_refl _) (.cells #[.slice b R.length c, .slice e C.length d, .string (bs x1), .string (bs x2), .string (bs x3), .string (bs x4)] 53)
  have hrow := World.alloc_heap_new w (.cells #[.slice b R.length c, .slice e C.length d, .string (bs x1), .string (bs x2), .string (bs x3), .string (bs x4)] 53)
  have hP2 : Parts _ a L.length L := Rd.below hP hb
  have hck := fun W h1 => refCheck_any a ca L W h1 hn ht
  have HFIT := Lib.hid (checkR_fit L hE ht)
  have hex := expandR_sum (fE q) L R C x1 x2 x3 x4 most hE hs1 hs2 hs3 hs4
  rw [hE] at hck
  obtain ⟨O, hO⟩ : ∃ O, expandR (fE q) R C x1 x2 x3 x4 most L = O := ⟨_, rfl⟩
  rw [hO] at hex ⊢
  have hpl : ∀ p ∈ L, (pieceR (fE q) R C x1 x2 x3 x4 p).length ≤ 1000000 := fun p hp => by
    unfold pieceR
    split
    · have := ht p hp; omega
    · have h1 := hfb p hp
      have h2 := encS_len stayE (valueR R C x1 x2 x3 x4 p)
      unfold fE
      split
      · omega
      · simp only [id]; omega
  have HPL := Lib.hid hpl
  have HEX := Lib.hid hex
  have HP := Lib.hid hP2
  have HB := Lib.hid hb
  have HR := Lib.hid hR
  have HC := Lib.hid hC
  have HT := Lib.hid ht
  have HFB := Lib.hid hfb
  clear hP2 hP hb ht hE hO hex hR hC hfb hpl
  have t1 : ¬ (10 : Int) < (R.length : Int) := by omega
  have t2 : ¬ (10 : Int) < (C.length : Int) := by omega
  have hv0 : valsV b R.length c e C.length d x1 x2 x3 x4 = .agg #[.slice b R.length c, .slice e C.length d, .string (bs x1), .string (bs x2), .string (bs x3), .string (bs x4)] := rfl
  rw [hv0]
  have HV0 := Lib.hid hv0
  clear hv0
  go_enter Tryd.func66, Tryd.ntmps66
  go_wp2_with fail
  refine (hck _ HP.out).mono ?_
  rintro e2 w2 ⟨rfl, h2⟩
  have hb2 := HB.out.trans (h2.mono HB.out.size)
  have hrow2 := (h2.block _ (by simp)).trans hrow
  have c0 := cell_list (cs := [.slice b R.length c, .slice e C.length d, .string (bs x1), .string (bs x2), .string (bs x3), .string (bs x4)]) hrow2 0
  have c1 := cell_list (cs := [.slice b R.length c, .slice e C.length d, .string (bs x1), .string (bs x2), .string (bs x3), .string (bs x4)]) hrow2 1
  simp only [List.getElem?_cons_zero, List.getElem?_cons_succ] at c0 c1
  have HP3 := Lib.hid (show Parts w2 a L.length L from Rd.below HP.out h2)
  have hlt2 : w.heap.size < w2.heap.size := lt_of_cells hrow2
  clear hck
  go_wp2_with fail
  go_loopg [11, 12] L.length (fun g s i wr => ∃ (k : Nat) (A : ByteArray), i = .int .i64 k ∧ k + g = L.length ∧ s = .string A ∧ A = bs (sumP (fE q) R C x1 x2 x3 x4 (L.take k)) ∧ Below w2.heap.size w2 wr)
  case atStart => exact ⟨0, _, rfl, by omega, rfl, rfl, Below.refl _ _⟩
  case round =>
    clear c0 c1
    obtain ⟨k, A, rfl, hk, rfl, hA, hbl⟩ := hrel
    by_cases hlt : k < L.length
    · obtain ⟨g', rfl⟩ : ∃ g', gk = g' + 1 := ⟨gk - 1, by omega⟩
      obtain ⟨x, hx⟩ : ∃ x, L[k]? = some x := ⟨_, List.getElem?_eq_getElem hlt⟩
      have hPr : Parts wr a L.length L := Rd.below HP3.out hbl
      obtain ⟨ad, rfl, had, g0, g1, g2⟩ := Parts.get (L := L) hPr k x hx
      have hxm : x ∈ L := List.mem_of_getElem? hx
      have hnx := sumP_next (fE q) R C x1 x2 x3 x4 L k x hx
      have hsl := sum_len (fE q) R C x1 x2 x3 x4 1000000 (L.take k) (fun p hp => HPL.out p (List.mem_of_mem_take hp))
      have htl : (L.take k).length ≤ 100000 := by rw [List.length_take]; omega
      have hpz := HPL.out x hxm
      have hAz : A.size ≤ 100000000000 := by rw [hA, size_bs]; omega
      have i0 : (0 : Int) ≤ (k : Int) := by omega
      have i1 : (k : Int) < (L.length : Int) := by omega
      have hvw := (hbl.block _ hlt2).trans hrow2
      have q0 := cell_list (cs := [.slice b R.length c, .slice e C.length d, .string (bs x1), .string (bs x2), .string (bs x3), .string (bs x4)]) hvw 0
      have q1 := cell_list (cs := [.slice b R.length c, .slice e C.length d, .string (bs x1), .string (bs x2), .string (bs x3), .string (bs x4)]) hvw 1
      have q2 := cell_list (cs := [.slice b R.length c, .slice e C.length d, .string (bs x1), .string (bs x2), .string (bs x3), .string (bs x4)]) hvw 2
      have q3 := cell_list (cs := [.slice b R.length c, .slice e C.length d, .string (bs x1), .string (bs x2), .string (bs x3), .string (bs x4)]) hvw 3
      have q4 := cell_list (cs := [.slice b R.length c, .slice e C.length d, .string (bs x1), .string (bs x2), .string (bs x3), .string (bs x4)]) hvw 4
      have q5 := cell_list (cs := [.slice b R.length c, .slice e C.length d, .string (bs x1), .string (bs x2), .string (bs x3), .string (bs x4)]) hvw 5
      simp only [List.getElem?_cons_zero, List.getElem?_cons_succ] at q0 q1 q2 q3 q4 q5
      have HNX := Lib.hid hnx
      have HA := Lib.hid hA
      have HBL := Lib.hid hbl
      clear hx hPr hsl htl hnx hA hbl hvw
      rcases hlit : (x.k == 1) with _ | _
      · have hk1 : x.k ≠ 1 := by simpa using hlit
        have HPC : Hid (pieceR (fE q) R C x1 x2 x3 x4 x = fE q (valueR R C x1 x2 x3 x4 x)) := Lib.hid (by unfold pieceR; rw [if_neg hk1])
        have hva := fun W h1 h2 => refValue_any x (HFIT.out x hxm).1 hk1 R C b e c d x1 x2 x3 x4 W h1 h2 (by omega) (by omega)
        unfold pv at hva
        rw [HV0.out] at hva
        have hvl := HFB.out x hxm
        have hen := fun W => refEncoded_any (valueR R C x1 x2 x3 x4 x) W (by omega)
        have hzz : (encS stayE (valueR R C x1 x2 x3 x4 x)).length ≤ 900000 := by have := encS_len stayE (valueR R C x1 x2 x3 x4 x); omega
        obtain ⟨Y, hY⟩ : ∃ Y, valueR R C x1 x2 x3 x4 x = Y := ⟨_, rfl⟩
        rw [hY] at hva hen hvl hzz HPC
        clear hY
        obtain ⟨Z, hZ⟩ : ∃ Z, encS stayE Y = Z := ⟨_, rfl⟩
        rw [hZ] at hen hzz
        have HZ := Lib.hid hZ
        have hYz : (bs Y).size ≤ 300000 := by rw [size_bs]; omega
        have hZz : (bs Z).size ≤ 900000 := by rw [size_bs]; omega
        have hcT : A ++ bs Z = bs (sumP (fE q) R C x1 x2 x3 x4 (L.take k) ++ Z) := by rw [HA.out, bs_append]
        have hcF : A ++ bs Y = bs (sumP (fE q) R C x1 x2 x3 x4 (L.take k) ++ Y) := by rw [HA.out, bs_append]
        obtain ⟨YB, hYB⟩ : ∃ B, bs Y = B := ⟨_, rfl⟩
        obtain ⟨ZB, hZB⟩ : ∃ B, bs Z = B := ⟨_, rfl⟩
        rw [hYB] at hva hen hYz hcF
        rw [hZB] at hen hZz hcT
        have HCT := Lib.hid hcT
        have HCF := Lib.hid hcF
        clear hZ hk1 hYB hZB hcT hcF
        have hbw := HB.out.trans ((h2.trans (HBL.out.mono h2.size)).mono HB.out.size)
        have HR3 : Hid (Strs wr b R.length R) := Lib.hid (Rd.keep HR.out (by have := HBL.out.size; omega) (fun _ _ _ h => hbw.block _ h))
        have HC3 : Hid (Strs wr e C.length C) := Lib.hid (Rd.keep HC.out (by have := HBL.out.size; omega) (fun _ _ _ h => hbw.block _ h))
        clear hbw
        go_wp2_with fail
        go_region_with (go_at_call 87; refine (hva _ (Rd.drew HR3.out) (Rd.drew HC3.out)).mono ?_; rintro e5 w5 ⟨rfl, h5⟩; have hb5 := HBL.out.drew.trans (h5.mono HBL.out.drew.size))
        all_goals
          clear q0 q1 q2 q3 q4 q5 g0 g1 g2 HR3 HC3 hva
          cases q with
          | true =>
            go_wp2_with fail
            refine (hen _).mono ?_
            rintro e6 w6 ⟨rfl, h6⟩
            have hb6 := hb5.trans (h6.mono hb5.size)
            go_wp2_with fail
            go_roundg g'
            case measure => omega
            case rel => exact ⟨k + 1, _, by go_num, by omega, rfl, by rw [HCT.out, HNX.out, HPC.out, ← HZ.out]; rfl, hb6⟩
          | false =>
            go_wp2_with fail
            go_roundg g'
            case measure => omega
            case rel => exact ⟨k + 1, _, by go_num, by omega, rfl, by rw [HCF.out, HNX.out, HPC.out]; rfl, hb5⟩
      · have HPC : Hid (pieceR (fE q) R C x1 x2 x3 x4 x = x.t) := Lib.hid (by unfold pieceR; rw [if_pos (by simpa using hlit)])
        have hxt := HT.out x hxm
        have hcat : A ++ bs x.t = bs (sumP (fE q) R C x1 x2 x3 x4 (L.take (k + 1))) := by rw [HNX.out, HPC.out, HA.out, bs_append]
        have hBz : (bs x.t).size ≤ 100000 := by rw [size_bs]; omega
        obtain ⟨B, hB⟩ : ∃ B, bs x.t = B := ⟨_, rfl⟩
        rw [hB] at hcat hBz g1
        have HCAT := Lib.hid hcat
        clear hcat hB
        go_wp2_with fail
        go_roundg g'
        case measure => omega
        case rel => exact ⟨k + 1, _, by go_num, by omega, rfl, HCAT.out, HBL.out⟩
    · obtain rfl : k = L.length := by omega
      rw [List.take_length] at hA
      have hsz : (A.size : Int) = ((sumP (fE q) R C x1 x2 x3 x4 L).length : Int) := by rw [hA, size_bs]
      have ho := HEX.out
      by_cases hm : most < (A.size : Int)
      · rw [if_pos (by omega)] at ho
        have HO := Lib.hid ho
        clear ho hsz hA
        go_wp2_with fail
        refine bodyPost_ret (v := .tuple #[.string ⟨#[]⟩, .int .i64 4]) (by simp [results, Tryd.results66, go_sem]) rfl ⟨by (rw [HO.out]; try rfl), hb2.trans (hbl.mono (by omega))⟩
      · rw [if_neg (by omega)] at ho
        have HO := Lib.hid ho
        have HA := Lib.hid hA
        clear ho hsz hA
        go_wp2_with fail
        refine bodyPost_ret (v := .tuple #[.string A, .int .i64 0]) (by simp [results, Tryd.results66, go_sem]) rfl ⟨by (rw [HO.out, HA.out]; try rfl), hb2.trans (hbl.mono (by omega))⟩

theorem refExp_any (q : Bool) (most : Int) (a b e : Option Addr) (ca c d : Nat) (L : List Part) (R C : List Tp.Bs) (x1 x2 x3 x4 : Tp.Bs) (w : World) (hP : Parts w a L.length L) (hn : L.length ≤ 100000) (ht : ∀ p ∈ L, p.t.length ≤ 100000)
    (hR : Strs w b R.length R) (hC : Strs w e C.length C)
    (hfb : ∀ p ∈ L, (valueR R C x1 x2 x3 x4 p).length ≤ 300000) :
    Calls Tryd.prog 66 #[.slice a L.length ca, valsV b R.length c e C.length d x1 x2 x3 x4, .int .i64 most, .bool q] w fun e w' => e = .returned (.tuple #[.string (bs (expandR (fE q) R C x1 x2 x3 x4 most L).1), .int .i64 (expandR (fE q) R C x1 x2 x3 x4 most L).2]) ∧ Below w.heap.size w w' := by
  by_cases hE : checkR L = 0
  · by_cases hs : 10 < R.length ∨ 10 < C.length ∨ most < 0 ∨ 1024 < most
    · exact refExp_two q most a b e ca c d (fE q) L R C x1 x2 x3 x4 w hP hn ht hE hs
    · exact refExp_loop q most a b e ca c d L R C x1 x2 x3 x4 w hP hn ht hR hC hfb hE (by omega) (by omega) (by omega) (by omega)
  · exact refExp_err q most a b e ca c d (fE q) L R C x1 x2 x3 x4 w hP hn ht hE
set_option maxRecDepth 100000 in
set_option maxHeartbeats 4000000 in
theorem refExpand_any (most : Int) (a b e : Option Addr) (ca c d : Nat) (L : List Part) (R C : List Tp.Bs) (x1 x2 x3 x4 : Tp.Bs) (w : World) (hP : Parts w a L.length L) (hn : L.length ≤ 100000) (ht : ∀ p ∈ L, p.t.length ≤ 100000)
    (hR : Strs w b R.length R) (hC : Strs w e C.length C)
    (hfb : ∀ p ∈ L, (valueR R C x1 x2 x3 x4 p).length ≤ 300000) :
    Calls Tryd.prog 33 #[.slice a L.length ca, valsV b R.length c e C.length d x1 x2 x3 x4, .int .i64 most] w fun e w' => e = .returned (.tuple #[.string (bs (expandR id R C x1 x2 x3 x4 most L).1), .int .i64 (expandR id R C x1 x2 x3 x4 most L).2]) ∧ Below w.heap.size w w' := by
  have hb := (Below.refl _ w).alloc (Nat.le_refl _) (.cells #[.slice b R.length c, .slice e C.length d, .string (bs x1), .string (bs x2), .string (bs x3), .string (bs x4)] 53)
  have hx := refExp_any false most a b e ca c d L R C x1 x2 x3 x4 _ (show Parts _ a L.length L from Rd.below hP hb) hn ht (show Strs _ b R.length R from Rd.below hR hb) (show Strs _ e C.length C from Rd.below hC hb) hfb
  rw [show fE false = id from rfl] at hx
  obtain ⟨O, hO⟩ : ∃ O, expandR id R C x1 x2 x3 x4 most L = O := ⟨_, rfl⟩
  rw [hO] at hx ⊢
  have HX := Lib.hid hx
  have HB := Lib.hid hb
  clear hx hb hP hR hC ht hfb hO
  have hv0 : valsV b R.length c e C.length d x1 x2 x3 x4 = .agg #[.slice b R.length c, .slice e C.length d, .string (bs x1), .string (bs x2), .string (bs x3), .string (bs x4)] := rfl
  rw [hv0] at HX ⊢
  clear hv0
  go_enter Tryd.func33, Tryd.ntmps33
  go_wp2_with fail
  refine HX.out.mono ?_
  rintro e2 w2 ⟨rfl, h2⟩
  go_wp2_with fail
  refine bodyPost_ret (v := .tuple #[.string (bs O.1), .int .i64 O.2]) (by simp [results, Tryd.results33, go_sem]) rfl ⟨rfl, HB.out.trans (h2.mono HB.out.size)⟩
set_option maxRecDepth 100000 in
set_option maxHeartbeats 4000000 in
theorem refEncodedE_any (most : Int) (a b e : Option Addr) (ca c d : Nat) (L : List Part) (R C : List Tp.Bs) (x1 x2 x3 x4 : Tp.Bs) (w : World) (hP : Parts w a L.length L) (hn : L.length ≤ 100000) (ht : ∀ p ∈ L, p.t.length ≤ 100000)
    (hR : Strs w b R.length R) (hC : Strs w e C.length C)
    (hfb : ∀ p ∈ L, (valueR R C x1 x2 x3 x4 p).length ≤ 300000) :
    Calls Tryd.prog 35 #[.slice a L.length ca, valsV b R.length c e C.length d x1 x2 x3 x4, .int .i64 most] w fun e w' => e = .returned (.tuple #[.string (bs (expandR (encS stayE) R C x1 x2 x3 x4 most L).1), .int .i64 (expandR (encS stayE) R C x1 x2 x3 x4 most L).2]) ∧ Below w.heap.size w w' := by
  have hb := (Below.refl _ w).alloc (Nat.le_refl _) (.cells #[.slice b R.length c, .slice e C.length d, .string (bs x1), .string (bs x2), .string (bs x3), .string (bs x4)] 53)
  have hx := refExp_any true most a b e ca c d L R C x1 x2 x3 x4 _ (show Parts _ a L.length L from Rd.below hP hb) hn ht (show Strs _ b R.length R from Rd.below hR hb) (show Strs _ e C.length C from Rd.below hC hb) hfb
  rw [show fE true = encS stayE from rfl] at hx
  obtain ⟨O, hO⟩ : ∃ O, expandR (encS stayE) R C x1 x2 x3 x4 most L = O := ⟨_, rfl⟩
  rw [hO] at hx ⊢
  have HX := Lib.hid hx
  have HB := Lib.hid hb
  clear hx hb hP hR hC ht hfb hO
  have hv0 : valsV b R.length c e C.length d x1 x2 x3 x4 = .agg #[.slice b R.length c, .slice e C.length d, .string (bs x1), .string (bs x2), .string (bs x3), .string (bs x4)] := rfl
  rw [hv0] at HX ⊢
  clear hv0
  go_enter Tryd.func35, Tryd.ntmps35
  go_wp2_with fail
  refine HX.out.mono ?_
  rintro e2 w2 ⟨rfl, h2⟩
  go_wp2_with fail
  refine bodyPost_ret (v := .tuple #[.string (bs O.1), .int .i64 O.2]) (by simp [results, Tryd.results35, go_sem]) rfl ⟨rfl, HB.out.trans (h2.mono HB.out.size)⟩
end Go.Proofs.YtllklgalghmnfaaDoor
