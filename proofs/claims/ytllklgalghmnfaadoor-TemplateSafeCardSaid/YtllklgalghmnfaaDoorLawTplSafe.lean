/- TemplateSafe: encoded results. -/
import Derived.Test.YtllklgalghmnfaaDoorLawTplKnown
import Derived.Test.YtllklgalghmnfaaDoorTplRefStay
namespace Go.Proofs.YtllklgalghmnfaaDoor
open Go.RowKit Str Mem Tp
set_option linter.unusedVariables false
set_option linter.unusedSimpArgs false
def allH (t : S4) (l : Tp.Bs) : Bool := l.all fun b => hasS t b.toNat
theorem allH_next (t : S4) (l : Tp.Bs) (k : Nat) (h : k < l.length) : allH t (l.take (k + 1)) = (allH t (l.take k) && hasS t l[k].toNat) := by
  unfold allH
  rw [List.take_add_one, List.getElem?_eq_getElem h, Option.toList_some, List.all_append]
  simp
theorem enc_all (t : S4) (h37 : hasS t 37 = false) : ∀ l : Tp.Bs, allH t l = true → encS t l = l
  | [], _ => rfl
  | b :: l, h => by
    unfold allH at h
    rw [List.all_cons, Bool.and_eq_true] at h
    have h1 : encS t (b :: l) = encB t b ++ encS t l := by simp [encS]
    have hb : b ≠ 37 := fun e => by rw [e] at h; rw [show (37 : UInt8).toNat = 37 from rfl, h37] at h; exact absurd h.1 (by decide)
    rw [h1, enc_all t h37 l h.2]
    unfold encB
    rw [if_pos ⟨hb, h.1⟩]
    rfl
theorem enc_step (t : S4) (s : Tp.Bs) (k m : Nat) (hm : (encS t (s.take k)).length = m) (h : k < s.length) :
    (s[k] ≠ 37 ∧ hasS t s[k].toNat = true ∧ m < (encS t s).length ∧ (encS t s)[m]? = some s[k] ∧ (encS t (s.take (k + 1))).length = m + 1) ∨
    (m + 2 < (encS t s).length ∧ (encS t s)[m]? = some 37 ∧ (encS t (s.take (k + 1))).length = m + 3) := by
  have hd : encS t s = encS t (s.take k) ++ (encB t s[k] ++ encS t (s.drop (k + 1))) := by
    unfold encS
    rw [← List.append_assoc, show List.flatMap (encB t) (s.take k) ++ encB t s[k] = List.flatMap (encB t) (s.take (k + 1)) from (encS_next t s k h).symm, ← List.flatMap_append, List.take_append_drop]
  have hn := encS_next t s k h
  have hl : (encS t (s.take (k + 1))).length = m + (encB t s[k]).length := by rw [hn, List.length_append, hm]
  have hg : ∀ x r, encB t s[k] = x :: r → (encS t s)[m]? = some x := fun x r e => by
    rw [hd, e, List.getElem?_append_right (by omega), hm, Nat.sub_self]; rfl
  have hll : m + (encB t s[k]).length ≤ (encS t s).length := by
    rw [hd, List.length_append, List.length_append, hm]; omega
  by_cases hc : s[k] ≠ 37 ∧ hasS t s[k].toNat = true
  · have e : encB t s[k] = [s[k]] := by unfold encB; rw [if_pos hc]
    rw [e, List.length_singleton] at hl hll
    exact .inl ⟨hc.1, hc.2, by omega, hg _ _ e, hl⟩
  · have e : encB t s[k] = [37, hexD (s[k].toNat / 16), hexD (s[k].toNat % 16)] := by unfold encB; rw [if_neg hc]
    have e2 : (encB t s[k]).length = 3 := by rw [e]; rfl
    rw [e2] at hl hll
    exact .inr ⟨by omega, hg _ _ e, hl⟩
theorem safe_exp (f : Tp.Bs → Tp.Bs) (s : Tp.Bs) (h : (f s).length ≤ 1024) : expandR f [s] [] [] [] [] [] 1024 [⟨2, [], 0⟩] = (f s, 0) := by
  have hc : checkR [⟨2, [], 0⟩] = 0 := by kernel_rfl
  unfold expandR
  rw [if_neg (by rw [hc]; simp), if_neg (by simp)]
  have hv : pieceR f [s] [] [] [] [] [] ⟨2, [], 0⟩ = f s := by simp [pieceR, valueR]
  simp only [expTo, List.nil_append, hv]
  rw [if_neg (by omega)]
theorem byte_at (E : Tp.Bs) (m : Nat) (x : UInt8) (h : E[m]? = some x) (hin : m < (bs E).size) : (bs E)[m]'hin = x := by
  rw [get_data _ m hin]
  have : m < E.length := hin
  rw [List.getElem?_eq_getElem this] at h
  injection h
theorem has37 : hasS stayE 37 = false := by kernel_rfl

set_option maxRecDepth 100000 in
set_option maxHeartbeats 16000000 in
theorem lawTplSafe_any (s : Tp.Bs) (w : World) (hN : Nm w) : Calls Tryd.prog 9 #[.string (bs s)] w fun e w' => e = .returned (.bool true) ∧ Below w.heap.size w w' := by
  by_cases hlen : 60 < s.length
  · have hl : (60 : Int) < (s.length : Int) := by omega
    go_enter Tryd.func9, Tryd.ntmps9
    go_wp2_with fail
    refine (lawTplKnown_any _ hN).mono ?_
    rintro e w1 ⟨rfl, h1⟩
    go_wp2_with fail
    go_ret
    exact ⟨rfl, h1⟩
  · have hl : ¬ (60 : Int) < (s.length : Int) := by omega
    have g0 := fun W => law_group_any 0 W
    have en := fun a b W h1 h4 h5 => Encoded_any 1024 a b none 1 1 0 [⟨2, [], 0⟩] [s] [] [] [] [] [] W h1 (by decide) (by decide) (by decide) (by decide) h4 h5 (Rd.nil _ _ _) (by intro p hp; simp only [List.mem_singleton] at hp; subst hp; simp [valueR]; omega)
    have hel := encS_len stayE s
    have hk := enc_step stayE s
    have hal := enc_all stayE has37 s
    have hfull : encS stayE (s.take s.length) = encS stayE s := by rw [List.take_length]
    rw [safe_exp _ _ (by omega)] at en
    unfold pv valsV at *
    have hst := fun W => refStay_any W
    have hhas := fun b hb W => refHas_any stayE b hb W
    have hnx := allH_next stayE s
    obtain ⟨V, hV⟩ : ∃ V, stayE = V := ⟨_, rfl⟩
    rw [hV] at en hel hk hal hfull hst hhas hnx
    clear hV
    obtain ⟨E, hE⟩ : ∃ E, encS V s = E := ⟨_, rfl⟩
    rw [hE] at en hel hk hal hfull
    have HK := Lib.hid hk
    have HAL := Lib.hid hal
    have HFULL := Lib.hid hfull
    have HNX := Lib.hid hnx
    clear hk hal hfull hnx hE
    go_enter Tryd.func9, Tryd.ntmps9
    go_wp2_with fail
    refine (lawTplKnown_any _ hN).mono ?_
    rintro e w1 ⟨rfl, h1⟩
    go_wp2_with fail
    refine (g0 _).mono ?_
    rintro e w2 ⟨rfl, h2⟩
    have b2 := h1.trans (h2.mono h1.size)
    have b3 := b2.alloc b2.size (.cells (partCells [⟨2, [], 0⟩]).toArray 59)
    have rl := (Rw.new w2 59 (partCells [⟨2, [], 0⟩])).alloc (.cells #[.string (bs s)] 9)
    have b4 := b3.alloc b3.size (.cells #[.string (bs s)] 9)
    have rs := Rw.new2 w2 (.cells (partCells [⟨2, [], 0⟩]).toArray 59) 9 [.string (bs s)]
    go_wp2_with fail
    refine (en (some ⟨w2.heap.size, 0, none⟩) (some ⟨w2.heap.size + 1, 0, none⟩) _ (Rw.rd rl 3 1 rfl) (hN.below b4 hN.lt) (Rw.rd rs 1 1 rfl)).mono ?_
    rintro e w5 ⟨rfl, h5⟩
    have b5 := b4.trans (h5.mono b4.size)
    clear rl rs en g0 b2 b3 b4 h1 h2 h5
    go_wp2_with fail
    refine (hst _).mono ?_
    rintro e w6 ⟨rfl, h6⟩
    have b6 := b5.trans (h6.mono b5.size)
    have b7 := b6.alloc b6.size (.cells #[.int .u64 V.a0, .int .u64 V.a1, .int .u64 V.a2, .int .u64 V.a3] 69)
    have r7 := Rw.new w6 69 [.int .u64 V.a0, .int .u64 V.a1, .int .u64 V.a2, .int .u64 V.a3]
    clear hst b5 h6 b6
    go_wp2_with fail
    obtain ⟨W7, hW7⟩ : ∃ W, W = w6.alloc (.cells #[.int .u64 V.a0, .int .u64 V.a1, .int .u64 V.a2, .int .u64 V.a3] 69) := ⟨_, rfl⟩
    obtain ⟨n7, hn7⟩ : ∃ n, n = w6.heap.size := ⟨_, rfl⟩
    rw [← hW7] at b7 r7 ⊢
    rw [← hn7] at r7 ⊢
    clear hW7 hn7
    have B7 := Lib.hid b7
    have R7 := Lib.hid r7
    clear b7 r7
    go_loopg [8, 10] s.length (fun g al i W => ∃ k : Nat, i = .int .i64 k ∧ k + g = s.length ∧ al = .bool (allH V (s.take k)) ∧ Below w.heap.size w W ∧ Rw W n7 69 [.int .u64 V.a0, .int .u64 V.a1, .int .u64 V.a2, .int .u64 V.a3])
    case atStart => exact ⟨0, rfl, by omega, rfl, B7.out, R7.out⟩
    case round =>
      clear B7 R7
      obtain ⟨k, rfl, hk, rfl, hb, hr⟩ := hrel
      by_cases hlt : k < s.length
      · obtain ⟨g', rfl⟩ : ∃ g', gk = g' + 1 := ⟨gk - 1, by omega⟩
        have i0 : (0 : Int) ≤ (k : Int) := by omega
        have i1 : (k : Int) < (s.length : Int) := by omega
        have hnx := HNX.out k hlt
        obtain ⟨x, hx⟩ : ∃ x, s[k] = x := ⟨_, rfl⟩
        rw [hx] at hnx
        have hch : ∀ hin, (bs s)[k]'hin = x := fun hin => byte_at s k x (by rw [List.getElem?_eq_getElem hlt, hx]) hin
        have HNX1 := Lib.hid hnx
        clear hnx hx
        obtain ⟨q, hq⟩ : ∃ q, hasS V x.toNat = q := ⟨_, rfl⟩
        have hh := fun W => hhas x.toNat x.toNat_lt W
        rw [hq] at hh HNX1
        obtain ⟨p, hp⟩ : ∃ p, allH V (s.take k) = p := ⟨_, rfl⟩
        rw [hp] at HNX1 ⊢
        clear hp hq
        cases p with
        | true =>
          go_wp2_with fail
          refine wp_region_noPanic ?_
          refine wp_region_held_drew (S := fun W => W.cell? ⟨n7, 0, none⟩ = some (.int .u64 V.a0) ∧ W.cell? ⟨n7, 1, none⟩ = some (.int .u64 V.a1) ∧ W.cell? ⟨n7, 2, none⟩ = some (.int .u64 V.a2) ∧ W.cell? ⟨n7, 3, none⟩ = some (.int .u64 V.a3)) (by kernel_rfl) ?_ (fun hH => ?_)
          · exact ⟨hr.drew.c 0 _ rfl, hr.drew.c 1 _ rfl, hr.drew.c 2 _ rfl, hr.drew.c 3 _ rfl⟩
          refine Reg.take (i := 0) (u := ?b1_v0) rfl rfl rfl (by kernel_rfl) (by kernel_rfl) (by kernel_rfl) hH ?b1_y0 ?b1_r0
          case b1_y0 => (intro w hSw; (try dsimp only at hSw); go_simp; try (with_reducible rfl))
          case' b1_r0 => simp only [List.setIfInBounds_toArray, List.set_cons_zero, List.set_cons_succ]
          refine Reg.take (i := 1) (u := ?b1_v1) rfl rfl rfl (by kernel_rfl) (by kernel_rfl) (by kernel_rfl) hH ?b1_y1 ?b1_r1
          case b1_y1 => (intro w hSw; (try dsimp only at hSw); go_simp; try (with_reducible rfl))
          case' b1_r1 => simp only [List.setIfInBounds_toArray, List.set_cons_zero, List.set_cons_succ]
          refine Reg.takeIf (i := 2) (u := ?b1_v2) rfl rfl rfl rfl rfl (by kernel_rfl) (by kernel_rfl) (by kernel_rfl) hH ?b1_y2 ?b1_r2
          case b1_y2 => (intro w hSw; (try dsimp only at hSw); go_simp; try (with_reducible rfl))
          case' b1_r2 => simp only [List.setIfInBounds_toArray, List.set_cons_zero, List.set_cons_succ]
          refine Reg.takeIf (i := 3) (u := ?b1_v3) rfl rfl rfl rfl rfl (by kernel_rfl) (by kernel_rfl) (by kernel_rfl) hH ?b1_y3 ?b1_r3
          case b1_y3 => (intro w hSw; (try dsimp only at hSw); go_simp; try (with_reducible rfl))
          case' b1_r3 => simp only [List.setIfInBounds_toArray, List.set_cons_zero, List.set_cons_succ]
          refine Reg.takeIf (i := 4) (u := ?b1_v4) rfl rfl rfl rfl rfl (by kernel_rfl) (by kernel_rfl) (by kernel_rfl) hH ?b1_y4 ?b1_r4
          case b1_y4 => (intro w hSw; (try dsimp only at hSw); go_simp; try (with_reducible rfl))
          case' b1_r4 => simp only [List.setIfInBounds_toArray, List.set_cons_zero, List.set_cons_succ]
          refine Reg.takeIf (i := 5) (u := ?b1_v5) rfl rfl rfl rfl rfl (by kernel_rfl) (by kernel_rfl) (by kernel_rfl) hH ?b1_y5 ?b1_r5
          case b1_y5 => (intro w hSw; (try dsimp only at hSw); go_simp; try (with_reducible rfl))
          case' b1_r5 => simp only [List.setIfInBounds_toArray, List.set_cons_zero, List.set_cons_succ]
          refine Reg.only (i := 6) rfl (Reg.wanted_hit rfl rfl rfl) (by kernel_rfl) (fun K hK => ?_)
          go_simp
          go_at_call 46
          refine (hh _).mono ?_
          rintro e w8 ⟨rfl, h8⟩
          have hr8 := hr.drew.below h8
          have hb8 := hb.drew.trans (h8.mono hb.drew.size)
          refine hK.out _ _ ?_ (fun hH2 => ?_)
          · exact ⟨hr8.c 0 _ rfl, hr8.c 1 _ rfl, hr8.c 2 _ rfl, hr8.c 3 _ rfl⟩
          clear hK hH
          have hH := hH2; clear hH2
          try simp only [Act.put, List.setIfInBounds_toArray, List.set_cons_zero, List.set_cons_succ]
          refine Reg.take (i := 7) (u := ?b1_v7) rfl rfl rfl (by kernel_rfl) (by kernel_rfl) (by kernel_rfl) hH ?b1_y7 ?b1_r7
          case b1_y7 => (intro w hSw; (try dsimp only at hSw); go_simp; try (with_reducible rfl))
          case' b1_r7 => simp only [List.setIfInBounds_toArray, List.set_cons_zero, List.set_cons_succ]
          refine Reg.take (i := 8) (u := ?b1_v8) rfl rfl rfl (by kernel_rfl) (by kernel_rfl) (by kernel_rfl) hH ?b1_y8 ?b1_r8
          case b1_y8 => (intro w hSw; (try dsimp only at hSw); go_simp; try (with_reducible rfl))
          case' b1_r8 => simp only [List.setIfInBounds_toArray, List.set_cons_zero, List.set_cons_succ]
          refine wpAnyH_done (by kernel_rfl) ?_ _
          refine NoPanic.normal ?_
          go_wp2_with fail
          go_roundg g'
          case measure => omega
          case rel => exact ⟨k + 1, by go_num, by omega, by rw [HNX1.out]; rfl, hb8, hr8⟩
        | false =>
          go_wp2_with fail
          refine wp_region_noPanic ?_
          refine wp_region_held_drew (S := fun W => W.cell? ⟨n7, 0, none⟩ = some (.int .u64 V.a0) ∧ W.cell? ⟨n7, 1, none⟩ = some (.int .u64 V.a1) ∧ W.cell? ⟨n7, 2, none⟩ = some (.int .u64 V.a2) ∧ W.cell? ⟨n7, 3, none⟩ = some (.int .u64 V.a3)) (by kernel_rfl) ?_ (fun hH => ?_)
          · exact ⟨hr.drew.c 0 _ rfl, hr.drew.c 1 _ rfl, hr.drew.c 2 _ rfl, hr.drew.c 3 _ rfl⟩
          refine Reg.take (i := 0) (u := ?b2_v0) rfl rfl rfl (by kernel_rfl) (by kernel_rfl) (by kernel_rfl) hH ?b2_y0 ?b2_r0
          case b2_y0 => (intro w hSw; (try dsimp only at hSw); go_simp; try (with_reducible rfl))
          case' b2_r0 => simp only [List.setIfInBounds_toArray, List.set_cons_zero, List.set_cons_succ]
          refine Reg.take (i := 1) (u := ?b2_v1) rfl rfl rfl (by kernel_rfl) (by kernel_rfl) (by kernel_rfl) hH ?b2_y1 ?b2_r1
          case b2_y1 => (intro w hSw; (try dsimp only at hSw); go_simp; try (with_reducible rfl))
          case' b2_r1 => simp only [List.setIfInBounds_toArray, List.set_cons_zero, List.set_cons_succ]
          refine Reg.skip (i := 2) rfl rfl rfl rfl rfl (by first | exact Value.noConfusion | (intro h; cases h)) (by kernel_rfl) (by kernel_rfl) (by kernel_rfl) hH ?_
          simp only [List.setIfInBounds_toArray, List.set_cons_zero, List.set_cons_succ]
          refine Reg.skip (i := 3) rfl rfl rfl rfl rfl (by first | exact Value.noConfusion | (intro h; cases h)) (by kernel_rfl) (by kernel_rfl) (by kernel_rfl) hH ?_
          simp only [List.setIfInBounds_toArray, List.set_cons_zero, List.set_cons_succ]
          refine Reg.skip (i := 4) rfl rfl rfl rfl rfl (by first | exact Value.noConfusion | (intro h; cases h)) (by kernel_rfl) (by kernel_rfl) (by kernel_rfl) hH ?_
          simp only [List.setIfInBounds_toArray, List.set_cons_zero, List.set_cons_succ]
          refine Reg.skip (i := 5) rfl rfl rfl rfl rfl (by first | exact Value.noConfusion | (intro h; cases h)) (by kernel_rfl) (by kernel_rfl) (by kernel_rfl) hH ?_
          simp only [List.setIfInBounds_toArray, List.set_cons_zero, List.set_cons_succ]
          refine Reg.onlySkip (i := 6) rfl rfl rfl rfl rfl (by first | exact Value.noConfusion | (intro h; cases h)) (by kernel_rfl) hH ?_
          simp only [List.setIfInBounds_toArray, List.set_cons_zero, List.set_cons_succ]
          refine Reg.take (i := 7) (u := ?b2_v7) rfl rfl rfl (by kernel_rfl) (by kernel_rfl) (by kernel_rfl) hH ?b2_y7 ?b2_r7
          case b2_y7 => (intro w hSw; (try dsimp only at hSw); go_simp; try (with_reducible rfl))
          case' b2_r7 => simp only [List.setIfInBounds_toArray, List.set_cons_zero, List.set_cons_succ]
          refine Reg.take (i := 8) (u := ?b2_v8) rfl rfl rfl (by kernel_rfl) (by kernel_rfl) (by kernel_rfl) hH ?b2_y8 ?b2_r8
          case b2_y8 => (intro w hSw; (try dsimp only at hSw); go_simp; try (with_reducible rfl))
          case' b2_r8 => simp only [List.setIfInBounds_toArray, List.set_cons_zero, List.set_cons_succ]
          refine wpAnyH_done (by kernel_rfl) ?_ _
          refine NoPanic.normal ?_
          go_wp2_with fail
          go_roundg g'
          case measure => omega
          case rel => exact ⟨k + 1, by go_num, by omega, by rw [HNX1.out]; rfl, hb.drew, hr.drew⟩
      · obtain rfl : k = s.length := by omega
        rw [List.take_length]
        obtain ⟨A, hA⟩ : ∃ A, allH V s = A := ⟨_, rfl⟩
        rw [hA]
        have HA := Lib.hid hA
        have HB := Lib.hid hb
        have HR := Lib.hid hr
        clear hA hb hr HNX
        go_wp2_with fail
        go_loopg [9, 11] s.length (fun g n i W => ∃ k : Nat, n = .int .i64 k ∧ k + g = s.length ∧ i = .int .i64 (encS V (s.take k)).length ∧ Below w.heap.size w W ∧ Rw W n7 69 [.int .u64 V.a0, .int .u64 V.a1, .int .u64 V.a2, .int .u64 V.a3])
        case atStart => exact ⟨0, rfl, by omega, rfl, HB.out, HR.out⟩
        case round =>
        clear HB HR
        obtain ⟨k, rfl, hk, rfl, hb, hr⟩ := hrel
        obtain ⟨m, hm⟩ : ∃ m, (encS V (s.take k)).length = m := ⟨_, rfl⟩
        rw [hm]
        by_cases hlt : k < s.length
        · obtain ⟨g', rfl⟩ : ∃ g', gk = g' + 1 := ⟨gk - 1, by omega⟩
          have i0 : (0 : Int) ≤ (m : Int) := by omega
          rcases HK.out k m hm hlt with ⟨h37, hq, hml, hEm, hnl⟩ | ⟨hml, hEm, hnl⟩
          · have i1 : (m : Int) < (E.length : Int) := by omega
            obtain ⟨x, hx⟩ : ∃ x, s[k] = x := ⟨_, rfl⟩
            rw [hx] at h37 hq hEm
            have hch : ∀ hin, (bs E)[m]'hin = x := fun hin => byte_at E m x hEm hin
            have hne : ((x.toNat : Int) == 37) = false := by
              have : x.toNat ≠ 37 := fun e => h37 (UInt8.toNat_inj.1 e)
              simp; omega
            have hh := fun W => hhas x.toNat x.toNat_lt W
            rw [hq] at hh
            have HNL := Lib.hid hnl
            clear hx h37 hq hEm hnl hm
            go_wp2_with fail
            refine wp_region_noPanic ?_
            refine wp_region_held_drew (S := fun W => W.cell? ⟨n7, 0, none⟩ = some (.int .u64 V.a0) ∧ W.cell? ⟨n7, 1, none⟩ = some (.int .u64 V.a1) ∧ W.cell? ⟨n7, 2, none⟩ = some (.int .u64 V.a2) ∧ W.cell? ⟨n7, 3, none⟩ = some (.int .u64 V.a3)) (by kernel_rfl) ?_ (fun hH => ?_)
            · exact ⟨hr.drew.c 0 _ rfl, hr.drew.c 1 _ rfl, hr.drew.c 2 _ rfl, hr.drew.c 3 _ rfl⟩
            refine Reg.take (i := 0) (u := ?b3_v0) rfl rfl rfl (by kernel_rfl) (by kernel_rfl) (by kernel_rfl) hH ?b3_y0 ?b3_r0
            case b3_y0 => (intro w hSw; (try dsimp only at hSw); go_simp; try (with_reducible rfl))
            case' b3_r0 => simp only [List.setIfInBounds_toArray, List.set_cons_zero, List.set_cons_succ]
            refine Reg.take (i := 1) (u := ?b3_v1) rfl rfl rfl (by kernel_rfl) (by kernel_rfl) (by kernel_rfl) hH ?b3_y1 ?b3_r1
            case b3_y1 => (intro w hSw; (try dsimp only at hSw); go_simp; try (with_reducible rfl))
            case' b3_r1 => simp only [List.setIfInBounds_toArray, List.set_cons_zero, List.set_cons_succ]
            refine Reg.take (i := 2) (u := ?b3_v2) rfl rfl rfl (by kernel_rfl) (by kernel_rfl) (by kernel_rfl) hH ?b3_y2 ?b3_r2
            case b3_y2 => (intro w hSw; (try dsimp only at hSw); go_simp; try (with_reducible rfl))
            case' b3_r2 => simp only [List.setIfInBounds_toArray, List.set_cons_zero, List.set_cons_succ]
            refine Reg.take (i := 3) (u := ?b3_v3) rfl rfl rfl (by kernel_rfl) (by kernel_rfl) (by kernel_rfl) hH ?b3_y3 ?b3_r3
            case b3_y3 => (intro w hSw; (try dsimp only at hSw); go_simp; try (with_reducible rfl))
            case' b3_r3 => simp only [List.setIfInBounds_toArray, List.set_cons_zero, List.set_cons_succ]
            refine Reg.only (i := 4) rfl (Reg.wanted_free rfl) (by kernel_rfl) (fun K hK => ?_)
            go_simp
            go_at_call 46
            refine (hh _).mono ?_
            rintro e w8 ⟨rfl, h8⟩
            have hr8 := hr.drew.below h8
            have hb8 := hb.drew.trans (h8.mono hb.drew.size)
            refine hK.out _ _ ?_ (fun hH2 => ?_)
            · exact ⟨hr8.c 0 _ rfl, hr8.c 1 _ rfl, hr8.c 2 _ rfl, hr8.c 3 _ rfl⟩
            clear hK hH
            have hH := hH2; clear hH2
            try simp only [Act.put, List.setIfInBounds_toArray, List.set_cons_zero, List.set_cons_succ]
            refine Reg.take (i := 5) (u := ?b3_v5) rfl rfl rfl (by kernel_rfl) (by kernel_rfl) (by kernel_rfl) hH ?b3_y5 ?b3_r5
            case b3_y5 => (intro w hSw; (try dsimp only at hSw); go_simp; try (with_reducible rfl))
            case' b3_r5 => simp only [List.setIfInBounds_toArray, List.set_cons_zero, List.set_cons_succ]
            refine wpAnyH_done (by kernel_rfl) ?_ _
            refine NoPanic.normal ?_
            go_wp2_with fail
            go_roundg g'
            case measure => omega
            case rel => exact ⟨k + 1, by go_num, by omega, by rw [HNL.out]; go_num, hb8, hr8⟩
          · have i1 : (m : Int) < (E.length : Int) := by omega
            have i2 : ¬ (E.length : Int) ≤ (m : Int) + 2 := by omega
            have hch : ∀ hin, (bs E)[m]'hin = 37 := fun hin => byte_at E m 37 hEm hin
            have HNL := Lib.hid hnl
            have HB := Lib.hid hb
            have HR := Lib.hid hr
            clear hEm hnl hm hb hr
            go_wp2_with fail
            go_roundg g'
            case measure => omega
            case rel => exact ⟨k + 1, by go_num, by omega, by rw [HNL.out]; go_num, HB.out, HR.out⟩
        · obtain rfl : k = s.length := by omega
          rw [HFULL.out] at hm
          subst hm
          have HB := Lib.hid hb
          clear hb hr HK
          cases A with
          | true =>
            have he := HAL.out HA.out
            subst he
            go_wp2_with fail
            go_ret
            exact ⟨rfl, HB.out⟩
          | false =>
            go_wp2_with fail
            go_ret
            exact ⟨rfl, HB.out⟩
end Go.Proofs.YtllklgalghmnfaaDoor
