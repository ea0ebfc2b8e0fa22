/- The statement InheritChains, walked: it returns true. -/
import Derived.Test.YtajnkapnndhbaaaMadeFacts
import Derived.Test.YtajnkapnndhbaaaInhRefChain
namespace Go.Proofs.Ytajnkapnndhbaaa.Inh
open Mem
/-- Whether a mode Alone stands among the first k; how many rules there are up to the first mode Alone. -/
def fst (L : List DirV) (C : List Nat) (k : Nat) : Bool := (C.take k).any fun x => decide (modeOf L x = 0)
def alo (L : List DirV) (C : List Nat) (k : Nat) : Bool := (C.take k).all fun x => decide (modeOf L x = 0)
def mny (L : List DirV) (C : List Nat) : Nat → Nat
  | 0 => 0
  | k + 1 => if fst L C k then mny L C k else mny L C k + rnOf L (C.getD k 0)
theorem fst_succ {L : List DirV} {C : List Nat} {k x : Nat} (h : C[k]? = some x) : fst L C (k + 1) = (fst L C k || decide (modeOf L x = 0)) := by
  obtain ⟨hk, rfl⟩ := List.getElem?_eq_some_iff.1 h
  unfold fst
  rw [← List.take_append_getElem hk, List.any_append]
  simp
theorem alo_succ {L : List DirV} {C : List Nat} {k x : Nat} (h : C[k]? = some x) : alo L C (k + 1) = (alo L C k && decide (modeOf L x = 0)) := by
  obtain ⟨hk, rfl⟩ := List.getElem?_eq_some_iff.1 h
  unfold alo
  rw [← List.take_append_getElem hk, List.all_append]
  simp
theorem mny_succ {L : List DirV} {C : List Nat} {k x : Nat} (h : C[k]? = some x) : mny L C (k + 1) = if fst L C k then mny L C k else mny L C k + rnOf L x := by
  have : C.getD k 0 = x := by rw [List.getD_eq_getElem?_getD, h]; rfl
  rw [mny, this]
theorem setOf_cons {L : List DirV} {x : Nat} {t : List Nat} (h0 : 0 ≤ modeOf L x) (h2 : modeOf L x ≤ 2) : (setOf L (x :: t)).length = rnOf L x + if modeOf L x = 0 then 0 else (setOf L t).length := by
  show (if modeOf L x = 1 then setOf L t ++ own L x else if modeOf L x = 2 then own L x ++ setOf L t else own L x).length = _
  split
  · rw [List.length_append, own_length, if_neg (by omega)]; omega
  · split
    · rw [List.length_append, own_length, if_neg (by omega)]
    · rw [own_length, if_pos (by omega)]; rfl
theorem mny_set {L : List DirV} {C : List Nat} (hm : ∀ x ∈ C, 0 ≤ modeOf L x ∧ modeOf L x ≤ 2) : ∀ k, k ≤ C.length → (fst L C k = false → mny L C k + (setOf L (C.drop k)).length = (setOf L C).length) ∧ (fst L C k = true → mny L C k = (setOf L C).length)
  | 0, _ => by simp [fst, mny]
  | k + 1, hk => by
    have ih := mny_set hm k (by omega)
    have hx : C[k]? = some C[k] := List.getElem?_eq_getElem (by omega)
    obtain ⟨h0, h2⟩ := hm C[k] (List.getElem_mem _)
    have hd : C.drop k = C[k] :: C.drop (k + 1) := List.drop_eq_getElem_cons (by omega)
    rw [fst_succ hx, mny_succ hx]
    rcases hf : fst L C k with _ | _
    · have i1 := ih.1 hf
      rw [hd, setOf_cons h0 h2] at i1
      constructor
      · intro h
        simp at h
        rw [if_neg h] at i1
        simp; omega
      · intro h
        simp at h
        rw [if_pos h] at i1
        simp; omega
    · have i1 := ih.2 hf
      simp [i1]
theorem mny_end {L : List DirV} {C : List Nat} (hm : ∀ x ∈ C, 0 ≤ modeOf L x ∧ modeOf L x ≤ 2) : mny L C C.length = (setOf L C).length := by
  have h := mny_set hm C.length (Nat.le_refl _)
  rcases hf : fst L C C.length with _ | _
  · have := h.1 hf
    simpa [setOf] using this
  · exact h.2 hf
theorem mny_le {L : List DirV} {C : List Nat} (hs : ∀ x, rnOf L x ≤ 80) : ∀ k, mny L C k ≤ 80 * k
  | 0 => by simp [mny]
  | k + 1 => by
    have := mny_le (C := C) hs k
    have := hs (C.getD k 0)
    unfold mny
    split <;> omega
theorem chain_dec {L : List DirV} (h : Valid L) : ∀ (n : Nat) (d : Int), d < L.length → up L d ≤ n → ∀ i x y, (chain L d)[i]? = some y → (chain L d)[i + 1]? = some x → plen L x < plen L y
  | n, d, hd, hn, i, x, y, hy, hx => by
    by_cases hneg : d < 0
    · rw [chain_neg L hneg] at hy; simp at hy
    · obtain ⟨k, rfl⟩ : ∃ k : Nat, d = k := ⟨d.toNat, by omega⟩
      have hk : k < L.length := by omega
      have hu := up_less h hk
      have hr := above_range L k
      rw [chain_step h hk] at hx hy
      cases i with
      | zero =>
        simp at hx hy
        by_cases ha : above L k < 0
        · rw [chain_neg L ha] at hx; simp at hx
        · obtain ⟨q, hq⟩ : ∃ q : Nat, above L k = q := ⟨(above L k).toNat, by omega⟩
          have hs := above_shorter h hk (by omega)
          rw [hq] at hs hx
          rw [chain_step h (by omega)] at hx
          simp at hx hs
          rw [← hx, ← hy]
          exact hs.2
      | succ i =>
        cases n with
        | zero => omega
        | succ n => exact chain_dec h n (above L k) hr.2 (by omega) i x y (by simpa using hy) (by simpa using hx)
end Go.Proofs.Ytajnkapnndhbaaa.Inh

namespace Go.Proofs.Ytajnkapnndhbaaa
open Go.RowKit Str Mem
set_option linter.unusedVariables false
set_option linter.unusedSimpArgs false

def ChI (w : World) (L : List DirV) (C : List Nat) (m al f i : Value) (wr : World) : Prop :=
  ∃ k : Nat, i = .int .i64 k ∧ k ≤ C.length ∧ m = .int .i64 (Inh.mny L C k) ∧ al = .bool (Inh.alo L C k) ∧ f = .bool (Inh.fst L C k) ∧ ∃ n, wr = w.drewN n

set_option maxRecDepth 20000 in
set_option maxHeartbeats 4000000 in
theorem lawChains_any (a : Option Addr) (c : Nat) (l : List Int) (n : Int) (w : World) (h : Ints w a l.length l) :
    Calls Try.prog 8 #[.slice a l.length c, .int .i64 n] w fun e w' => e = .returned (.bool true) ∧ Below w.heap.size w w' := by
  have hk := fun w => lawInhKnown_any w
  have hmd := fun w h => made30_any a c l w h
  have hpt := fun w => path30_any n w
  have hpn := pPath_normal n
  have hps := pPath_short n
  obtain ⟨p, hp⟩ : ∃ p, p = pPath n := ⟨_, rfl⟩
  rw [← hp] at hpt hpn hps
  clear hp
  go_enter Try.func8, Try.ntmps8
  go_wp2_with fail
  refine (hk _).mono ?_
  rintro e w1 ⟨rfl, b1⟩
  go_wp2_with fail
  refine (hmd _ (h.below b1)).mono ?_
  rintro e w2 ⟨aL, cL, L, rfl, hkey, hLc, hcm, hdd, h2⟩
  have b2 := b1.trans (h2.mono b1.size)
  have hsm := made_small hkey
  have hchk := made_check hkey
  have hL7 := made_length hkey
  have D2 := hdd.dirs
  clear hkey hdd hmd
  go_wp2_with fail
  refine (hpt _).mono ?_
  rintro e w3 ⟨rfl, h3⟩
  have b3 := b2.trans (h3.mono b2.size)
  have D3 := Dirs.below D2 h3
  have hval : Inh.Valid L := by unfold Inh.Valid; rw [hchk]
  have efind : Inh.findR L p = (Inh.some? (Inh.find L p), 0) := by unfold Inh.findR; rw [hchk, hpn]; rfl
  have kf := fun w hD => inhFind_any (a := aL) (c := cL) (L := L) (w := w) p hD hLc hsm (by omega)
  have kr := fun w hD => inhRules_any aL cL L p w hD hLc hsm (by omega)
  have erul : Inh.rulesR L p = (if (Inh.some? (Inh.find L p)).2 then (Inh.set L (Inh.some? (Inh.find L p)).1, 0) else ([], 0)) := by unfold Inh.rulesR; rw [efind]; rfl
  rw [efind] at kf
  rw [erul] at kr
  have hfr := Inh.find_range L p
  clear efind erul hpn
  by_cases hneg : Inh.find L p < 0
  · have e1 : Inh.find L p = -1 := by omega
    rw [e1, some_neg] at kf kr
    simp only [Bool.false_eq_true, if_false] at kr
    unfold tri at kf
    unfold SpotsPost at kr
    simp only [List.length_nil] at kr
    clear hfr hneg e1 hchk
    go_wp2_with fail
    refine (kf _ D3).mono ?_
    rintro e w4 ⟨rfl, h4⟩
    have b4 := b3.trans (h4.mono b3.size)
    have D4 := Dirs.below D3 h4
    go_wp2_with fail
    refine (kr _ D4).mono ?_
    rintro e w5 ⟨a5, c5, rfl, _, _, _, h5⟩
    go_wp2_with fail
    go_ret
    exact ⟨rfl, b4.trans (h5.mono b4.size)⟩
  · obtain ⟨j, hj⟩ : ∃ j : Nat, Inh.find L p = j := ⟨(Inh.find L p).toNat, by omega⟩
    rw [hj] at hfr
    rw [hj, some_pos] at kf kr
    simp only [if_true] at kr
    have hjL : j < L.length := by omega
    have hask : Inh.asked L j = 0 := Inh.asked_in (by rw [hchk]) (by omega)
    have kc := fun w hD => chain_any aL cL L j w hD hLc hsm
    have ks := fun w hD => inhSet_any aL cL L j w hD hLc hsm
    have eset : Inh.setR L j = (Inh.set L j, 0) := by unfold Inh.setR; rw [if_pos hask]
    rw [eset] at ks
    unfold ChainPost chainR at kc
    rw [hask, if_pos rfl] at kc
    unfold tri at kf
    unfold SpotsPost at kr ks
    have hc129 := chain_129 hval hsm j (by omega)
    have hcm2 := chain_mem hval (Inh.up L j) j (by omega) (Nat.le_refl _)
    have hcd := Inh.chain_dec hval (Inh.up L j) j (by omega) (Nat.le_refl _)
    have hstep := Inh.chain_step hval hjL
    have hset := set_length hval hsm j (by omega)
    obtain ⟨S, hS⟩ : ∃ S, S = Inh.set L j := ⟨_, rfl⟩
    have hS2 := hS
    unfold Inh.set at hS2
    rw [← hS] at kr ks hset
    obtain ⟨C, hC⟩ : ∃ C, C = Inh.chain L j := ⟨_, rfl⟩
    rw [← hC] at kc hc129 hcm2 hcd hstep hS2
    have hmodes : ∀ x ∈ C, 0 ≤ Inh.modeOf L x ∧ Inh.modeOf L x ≤ 2 := fun x hx => by
      have := Inh.badAt_ok ((Inh.valid_parts hval).2.1 x (hcm2 x hx))
      exact ⟨this.2.2.1, this.2.2.2⟩
    have hend := Inh.mny_end hmodes
    rw [← hS2] at hend
    have hC0 : C[0]? = some j := by rw [hstep]; rfl
    have hal0 : Inh.alo L C C.length = true → S.length = Inh.rnOf L j := by
      intro ha
      unfold Inh.alo at ha
      rw [List.take_length, List.all_eq_true] at ha
      have hm0 := ha j (List.mem_of_getElem? hC0)
      simp at hm0
      rw [hS2, hstep, Inh.setOf_cons (by omega) (by omega), if_pos hm0]; rfl
    have hCl : 0 < C.length := by rw [hstep]; simp
    have hml := Inh.mny_le (L := L) (C := C) (fun x => rn_small hsm x)
    have hnl := nums_length C
    obtain ⟨q, hq⟩ : ∃ q, C.length = q + 1 := ⟨C.length - 1, by omega⟩
    rw [hq] at kc hc129 hend hal0 hnl
    have HQ := Lib.hid hq
    clear hq hCl
    clear hS hS2 hC hstep eset hask hj hneg hfr hchk hmodes
    have HN := Lib.hid hnl
    clear hnl
    have hq0 : ((q : Int) + 1 == 0) = false := by rw [beq_eq_false_iff_ne]; omega
    go_wp2_with fail
    refine (kf _ D3).mono ?_
    rintro e w4 ⟨rfl, h4⟩
    have b4 := b3.trans (h4.mono b3.size)
    have D4 := Dirs.below D3 h4
    go_wp2_with fail
    refine (kc _ D4).mono ?_
    rintro e w5 ⟨aC, cC, rfl, rC, _, _, h5⟩
    have b5 := b4.trans (h5.mono b4.size)
    have D5 := Dirs.below D4 h5
    go_wp2_with fail
    refine (kr _ D5).mono ?_
    rintro e w6 ⟨aR, cR, rfl, rR, _, _, h6⟩
    have b6 := b5.trans (h6.mono b5.size)
    have D6 := Dirs.below D5 h6
    replace rC := rC.below h6
    go_wp2_with fail
    refine (ks _ D6).mono ?_
    rintro e w7 ⟨aS, cS, rfl, rS, _, _, h7⟩
    have b7 := b6.trans (h7.mono b6.size)
    have D7 := Dirs.below D6 h7
    replace rC := rC.below h7
    replace rR := rR.below h7
    have hss := sameSpots_any aR aS cR cS S w7 rR rS (by omega)
    have hcell : ∀ (cd : Addr), aC = some cd → ∀ (w' : World), Below w7.heap.size w7 w' → ∀ k x, C[k]? = some x → w'.cell? (cd.add k) = some (.int .i64 (x : Nat)) := by
      rintro cd rfl w' hb k x hk
      have hkl : k < C.length := (List.getElem?_eq_some_iff.1 hk).1
      rw [HQ.out] at hkl
      obtain ⟨ad', m, e, _, hls, hc⟩ := (rC.below hb).get hkl
      cases e
      obtain ⟨d, rfl, hd⟩ := nums_get hls
      rw [hk] at hd; cases hd
      exact hc
    obtain ⟨cd, hcd0, hcdlt⟩ : ∃ cd : Addr, aC = some cd ∧ cd.block < w7.heap.size := by
      obtain ⟨ad', m, e, hb, _⟩ := rC.get (show 0 < q + 1 by omega)
      exact ⟨ad', e, hb⟩
    have hcell2 := hcell cd hcd0
    clear hcell
    subst hcd0
    have hcell : ∀ (w' : World), Below w7.heap.size w7 w' → ∀ k x, C[k]? = some x → w'.cell? (cd.add k) = some (.int .i64 (x : Nat)) := hcell2
    clear hcell2
    obtain ⟨ad, had0⟩ : ∃ ad : Addr, aL = some ad := by
      obtain ⟨ad, _, e, _⟩ := D7.fields hjL
      exact ⟨ad, e⟩
    subst had0
    have hdir : ∀ (w' : World), Below w7.heap.size w7 w' → ∀ x, x < L.length → ∃ d : DirV, L[x]? = some d ∧ w'.cell? (ad.add (x * 3)) = some (.string ⟨d.path.toArray⟩) ∧ w'.cell? ⟨(ad.add (x * 3)).block, (ad.add (x * 3)).off + 1, none⟩ = some (.int .i64 d.mode) ∧ w'.cell? ⟨(ad.add (x * 3)).block, (ad.add (x * 3)).off + 2, none⟩ = some (.slice d.ra d.rn d.rc) := by
      intro w' hb x hx
      obtain ⟨ad', d, e, _, h1, h2, h3, h4⟩ := (D7.below hb).fields hx
      cases e
      exact ⟨d, h1, h2, h3, h4⟩
    clear kf kr kc ks
    have cc0 := hcell w7 (Below.refl _ _) 0 j hC0
    rw [show cd.add 0 = cd by simp [Addr.add]] at cc0
    go_wp2_with fail
    refine hss.mono ?_
    rintro e w8 ⟨rfl, h8⟩
    have b8 := b7.trans (h8.mono b7.size)
    go_wp2_with fail
    have hcell8 := hcell w8 h8
    have hdir8 := hdir w8 h8
    clear hcell hdir cc0
    have HCELL := Lib.hid hcell8
    have HDIR := Lib.hid hdir8
    have HCD := Lib.hid hcd
    have HCM := Lib.hid hcm2
    have HML := Lib.hid hml
    have HAL := Lib.hid hal0
    have HEND := Lib.hid hend
    clear hcell8 hdir8 hcd hcm2 hml hal0 hend hk hpt hss rS rR rC b7 b6 b5 b4 b3 b2 b1 h7 h6 h5 h4 h3 h2 h8 D2 D3 D4 D5 D6 D7 h hval hL7 hLc hcm hC0 hcdlt
    go_loopw [19, 20, 21, 22] (fun m al f i wr => ChI w8 L C m al f i wr) (fun _ _ _ i _ => q + 1 - (intOf i).toNat)
    case atStart => exact ⟨0, rfl, Nat.zero_le _, rfl, rfl, rfl, 0, rfl⟩
    case round =>
      obtain ⟨k, rfl, hkC, rfl, rfl, rfl, nn, rfl⟩ := hrel
      rw [HQ.out] at hkC
      by_cases hlt : k < q + 1
      · obtain ⟨x, hx⟩ : ∃ x, C[k]? = some x := ⟨C[k]'(by rw [HQ.out]; exact hlt), List.getElem?_eq_getElem (by rw [HQ.out]; exact hlt)⟩
        have hxL := HCM.out x (List.mem_of_getElem? hx)
        obtain ⟨dx, hgx, p0, q0, r0⟩ := HDIR.out x hxL
        have e0 := HCELL.out k x hx
        have hmode := Inh.modeOf_get hgx
        have hrn := Inh.rnOf_get hgx
        have hf := Inh.fst_succ (L := L) hx
        have ha := Inh.alo_succ (L := L) hx
        have hm := Inh.mny_succ (L := L) hx
        have hml1 := HML.out k
        have hrn80 := rn_small hsm x
        rw [hmode] at hf ha
        rw [hrn] at hm hrn80
        have hplx := Inh.plen_get hgx
        have hx0 : ¬ (x : Int) < 0 := by omega
        have hx1 : ¬ (L.length : Int) ≤ (x : Int) := by omega
        have hx1' : ¬ L.length ≤ x := by omega
        have hx2 : (x : Int) < (L.length : Int) := by omega
        have hx3 : (0 : Int) ≤ (x : Int) := by omega
        obtain ⟨M, hM⟩ : ∃ M, M = Inh.mny L C k := ⟨_, rfl⟩
        obtain ⟨F, hF⟩ : ∃ F, F = Inh.fst L C k := ⟨_, rfl⟩
        obtain ⟨A, hA⟩ : ∃ A, A = Inh.alo L C k := ⟨_, rfl⟩
        rw [← hM] at hm hml1 ⊢
        rw [← hF] at hf hm ⊢
        rw [← hA] at ha ⊢
        have Hf := Lib.hid hf
        have Ha := Lib.hid ha
        have Hm := Lib.hid hm
        have Hpx := Lib.hid hplx
        have Hgx := Lib.hid hgx
        have Hx := Lib.hid hx
        clear hf ha hm hF hA hM hplx hgx hmode hrn hx
        by_cases hk0 : k = 0
        · subst hk0
          rw [show cd.add 0 = cd by simp [Addr.add]] at e0
          go_wp2
          refine wp_region_noPanic ?_
          refine wp_region_held_drew (S := fun w' => w'.cell? cd = some (.int .i64 x)) (by kernel_rfl) ?_ (fun hH => ?_)
          · exact e0
          refine Reg.take (i := 0) (u := ?b1_v0) rfl rfl rfl (by kernel_rfl) (by kernel_rfl) (by kernel_rfl) hH ?b1_y0 ?b1_r0
          case b1_y0 => (intro w hSw; (try dsimp only at hSw); go_simp; try (with_reducible rfl))
          case' b1_r0 => simp only [List.setIfInBounds_toArray, List.set_cons_zero, List.set_cons_succ]
          refine Reg.take (i := 1) (u := ?b1_v1) rfl rfl rfl (by kernel_rfl) (by kernel_rfl) (by kernel_rfl) hH ?b1_y1 ?b1_r1
          case b1_y1 => (intro w hSw; (try dsimp only at hSw); go_simp; try (with_reducible rfl))
          case' b1_r1 => simp only [List.setIfInBounds_toArray, List.set_cons_zero, List.set_cons_succ]
          refine Reg.take (i := 2) (u := ?b1_v2) rfl rfl rfl (by kernel_rfl) (by kernel_rfl) (by kernel_rfl) hH ?b1_y2 ?b1_r2
          case b1_y2 => (intro w hSw; (try dsimp only at hSw); go_simp; try (with_reducible rfl))
          case' b1_r2 => simp only [List.setIfInBounds_toArray, List.set_cons_zero, List.set_cons_succ]
          refine Reg.take (i := 3) (u := ?b1_v3) rfl rfl rfl (by kernel_rfl) (by kernel_rfl) (by kernel_rfl) hH ?b1_y3 ?b1_r3
          case b1_y3 => (intro w hSw; (try dsimp only at hSw); go_simp; try (with_reducible rfl))
          case' b1_r3 => simp only [List.setIfInBounds_toArray, List.set_cons_zero, List.set_cons_succ]
          refine Reg.take (i := 4) (u := ?b1_v4) rfl rfl rfl (by kernel_rfl) (by kernel_rfl) (by kernel_rfl) hH ?b1_y4 ?b1_r4
          case b1_y4 => (intro w hSw; (try dsimp only at hSw); go_simp; try (with_reducible rfl))
          case' b1_r4 => simp only [List.setIfInBounds_toArray, List.set_cons_zero, List.set_cons_succ]
          refine Reg.take (i := 5) (u := ?b1_v5) rfl rfl rfl (by kernel_rfl) (by kernel_rfl) (by kernel_rfl) hH ?b1_y5 ?b1_r5
          case b1_y5 => (intro w hSw; (try dsimp only at hSw); go_simp; try (with_reducible rfl))
          case' b1_r5 => simp only [List.setIfInBounds_toArray, List.set_cons_zero, List.set_cons_succ]
          refine Reg.takeIf (i := 6) (u := ?b1_v6) rfl rfl rfl rfl rfl (by kernel_rfl) (by kernel_rfl) (by kernel_rfl) hH ?b1_y6 ?b1_r6
          case b1_y6 => (intro w hSw; (try dsimp only at hSw); go_simp; try (with_reducible rfl))
          case' b1_r6 => simp only [List.setIfInBounds_toArray, List.set_cons_zero, List.set_cons_succ]
          refine Reg.takeIf (i := 7) (u := ?b1_v7) rfl rfl rfl rfl rfl (by kernel_rfl) (by kernel_rfl) (by kernel_rfl) hH ?b1_y7 ?b1_r7
          case b1_y7 => (intro w hSw; (try dsimp only at hSw); go_simp; try (with_reducible rfl))
          case' b1_r7 => simp only [List.setIfInBounds_toArray, List.set_cons_zero, List.set_cons_succ]
          refine Reg.takeIf (i := 8) (u := ?b1_v8) rfl rfl rfl rfl rfl (by kernel_rfl) (by kernel_rfl) (by kernel_rfl) hH ?b1_y8 ?b1_r8
          case b1_y8 => (intro w hSw; (try dsimp only at hSw); go_simp; try (with_reducible rfl))
          case' b1_r8 => simp only [List.setIfInBounds_toArray, List.set_cons_zero, List.set_cons_succ]
          refine Reg.takeIf (i := 9) (u := ?b1_v9) rfl rfl rfl rfl rfl (by kernel_rfl) (by kernel_rfl) (by kernel_rfl) hH ?b1_y9 ?b1_r9
          case b1_y9 => (intro w hSw; (try dsimp only at hSw); go_simp; try (with_reducible rfl))
          case' b1_r9 => simp only [List.setIfInBounds_toArray, List.set_cons_zero, List.set_cons_succ]
          refine Reg.takeIf (i := 10) (u := ?b1_v10) rfl rfl rfl rfl rfl (by kernel_rfl) (by kernel_rfl) (by kernel_rfl) hH ?b1_y10 ?b1_r10
          case b1_y10 => (intro w hSw; (try dsimp only at hSw); go_simp; try (with_reducible rfl))
          case' b1_r10 => simp only [List.setIfInBounds_toArray, List.set_cons_zero, List.set_cons_succ]
          refine Reg.takeIf (i := 11) (u := ?b1_v11) rfl rfl rfl rfl rfl (by kernel_rfl) (by kernel_rfl) (by kernel_rfl) hH ?b1_y11 ?b1_r11
          case b1_y11 => (intro w hSw; (try dsimp only at hSw); go_simp; try (with_reducible rfl))
          case' b1_r11 => simp only [List.setIfInBounds_toArray, List.set_cons_zero, List.set_cons_succ]
          refine Reg.takeIf (i := 12) (u := ?b1_v12) rfl rfl rfl rfl rfl (by kernel_rfl) (by kernel_rfl) (by kernel_rfl) hH ?b1_y12 ?b1_r12
          case b1_y12 => (intro w hSw; (try dsimp only at hSw); go_simp; try (with_reducible rfl))
          case' b1_r12 => simp only [List.setIfInBounds_toArray, List.set_cons_zero, List.set_cons_succ]
          refine Reg.take (i := 13) (u := ?b1_v13) rfl rfl rfl (by kernel_rfl) (by kernel_rfl) (by kernel_rfl) hH ?b1_y13 ?b1_r13
          case b1_y13 => (intro w hSw; (try dsimp only at hSw); go_simp; try (with_reducible rfl))
          case' b1_r13 => simp only [List.setIfInBounds_toArray, List.set_cons_zero, List.set_cons_succ]
          refine Reg.take (i := 14) (u := ?b1_v14) rfl rfl rfl (by kernel_rfl) (by kernel_rfl) (by kernel_rfl) hH ?b1_y14 ?b1_r14
          case b1_y14 => (intro w hSw; (try dsimp only at hSw); go_simp; try (with_reducible rfl))
          case' b1_r14 => simp only [List.setIfInBounds_toArray, List.set_cons_zero, List.set_cons_succ]
          refine Reg.takeIf (i := 15) (u := ?b1_v15) rfl rfl rfl rfl rfl (by kernel_rfl) (by kernel_rfl) (by kernel_rfl) hH ?b1_y15 ?b1_r15
          case b1_y15 => (intro w hSw; (try dsimp only at hSw); go_simp; try (with_reducible rfl))
          case' b1_r15 => simp only [List.setIfInBounds_toArray, List.set_cons_zero, List.set_cons_succ]
          refine Reg.takeIf (i := 16) (u := ?b1_v16) rfl rfl rfl rfl rfl (by kernel_rfl) (by kernel_rfl) (by kernel_rfl) hH ?b1_y16 ?b1_r16
          case b1_y16 => (intro w hSw; (try dsimp only at hSw); go_simp; try (with_reducible rfl))
          case' b1_r16 => simp only [List.setIfInBounds_toArray, List.set_cons_zero, List.set_cons_succ]
          refine Reg.takeIf (i := 17) (u := ?b1_v17) rfl rfl rfl rfl rfl (by kernel_rfl) (by kernel_rfl) (by kernel_rfl) hH ?b1_y17 ?b1_r17
          case b1_y17 => (intro w hSw; (try dsimp only at hSw); go_simp; try (with_reducible rfl))
          case' b1_r17 => simp only [List.setIfInBounds_toArray, List.set_cons_zero, List.set_cons_succ]
          refine Reg.skip (i := 18) rfl rfl rfl rfl rfl (by first | exact Value.noConfusion | (intro h; cases h)) (by kernel_rfl) (by kernel_rfl) (by kernel_rfl) hH ?_
          simp only [List.setIfInBounds_toArray, List.set_cons_zero, List.set_cons_succ]
          refine Reg.skip (i := 19) rfl rfl rfl rfl rfl (by first | exact Value.noConfusion | (intro h; cases h)) (by kernel_rfl) (by kernel_rfl) (by kernel_rfl) hH ?_
          simp only [List.setIfInBounds_toArray, List.set_cons_zero, List.set_cons_succ]
          refine Reg.skip (i := 20) rfl rfl rfl rfl rfl (by first | exact Value.noConfusion | (intro h; cases h)) (by kernel_rfl) (by kernel_rfl) (by kernel_rfl) hH ?_
          simp only [List.setIfInBounds_toArray, List.set_cons_zero, List.set_cons_succ]
          refine Reg.skip (i := 21) rfl rfl rfl rfl rfl (by first | exact Value.noConfusion | (intro h; cases h)) (by kernel_rfl) (by kernel_rfl) (by kernel_rfl) hH ?_
          simp only [List.setIfInBounds_toArray, List.set_cons_zero, List.set_cons_succ]
          refine Reg.skip (i := 22) rfl rfl rfl rfl rfl (by first | exact Value.noConfusion | (intro h; cases h)) (by kernel_rfl) (by kernel_rfl) (by kernel_rfl) hH ?_
          simp only [List.setIfInBounds_toArray, List.set_cons_zero, List.set_cons_succ]
          refine Reg.skip (i := 23) rfl rfl rfl rfl rfl (by first | exact Value.noConfusion | (intro h; cases h)) (by kernel_rfl) (by kernel_rfl) (by kernel_rfl) hH ?_
          simp only [List.setIfInBounds_toArray, List.set_cons_zero, List.set_cons_succ]
          refine Reg.skip (i := 24) rfl rfl rfl rfl rfl (by first | exact Value.noConfusion | (intro h; cases h)) (by kernel_rfl) (by kernel_rfl) (by kernel_rfl) hH ?_
          simp only [List.setIfInBounds_toArray, List.set_cons_zero, List.set_cons_succ]
          refine Reg.skip (i := 25) rfl rfl rfl rfl rfl (by first | exact Value.noConfusion | (intro h; cases h)) (by kernel_rfl) (by kernel_rfl) (by kernel_rfl) hH ?_
          simp only [List.setIfInBounds_toArray, List.set_cons_zero, List.set_cons_succ]
          refine Reg.skip (i := 26) rfl rfl rfl rfl rfl (by first | exact Value.noConfusion | (intro h; cases h)) (by kernel_rfl) (by kernel_rfl) (by kernel_rfl) hH ?_
          simp only [List.setIfInBounds_toArray, List.set_cons_zero, List.set_cons_succ]
          refine Reg.skip (i := 27) rfl rfl rfl rfl rfl (by first | exact Value.noConfusion | (intro h; cases h)) (by kernel_rfl) (by kernel_rfl) (by kernel_rfl) hH ?_
          simp only [List.setIfInBounds_toArray, List.set_cons_zero, List.set_cons_succ]
          refine Reg.skip (i := 28) rfl rfl rfl rfl rfl (by first | exact Value.noConfusion | (intro h; cases h)) (by kernel_rfl) (by kernel_rfl) (by kernel_rfl) hH ?_
          simp only [List.setIfInBounds_toArray, List.set_cons_zero, List.set_cons_succ]
          refine Reg.skip (i := 29) rfl rfl rfl rfl rfl (by first | exact Value.noConfusion | (intro h; cases h)) (by kernel_rfl) (by kernel_rfl) (by kernel_rfl) hH ?_
          simp only [List.setIfInBounds_toArray, List.set_cons_zero, List.set_cons_succ]
          refine Reg.skip (i := 30) rfl rfl rfl rfl rfl (by first | exact Value.noConfusion | (intro h; cases h)) (by kernel_rfl) (by kernel_rfl) (by kernel_rfl) hH ?_
          simp only [List.setIfInBounds_toArray, List.set_cons_zero, List.set_cons_succ]
          refine Reg.skip (i := 31) rfl rfl rfl rfl rfl (by first | exact Value.noConfusion | (intro h; cases h)) (by kernel_rfl) (by kernel_rfl) (by kernel_rfl) hH ?_
          simp only [List.setIfInBounds_toArray, List.set_cons_zero, List.set_cons_succ]
          refine Reg.skip (i := 32) rfl rfl rfl rfl rfl (by first | exact Value.noConfusion | (intro h; cases h)) (by kernel_rfl) (by kernel_rfl) (by kernel_rfl) hH ?_
          simp only [List.setIfInBounds_toArray, List.set_cons_zero, List.set_cons_succ]
          refine Reg.skip (i := 33) rfl rfl rfl rfl rfl (by first | exact Value.noConfusion | (intro h; cases h)) (by kernel_rfl) (by kernel_rfl) (by kernel_rfl) hH ?_
          simp only [List.setIfInBounds_toArray, List.set_cons_zero, List.set_cons_succ]
          refine Reg.skip (i := 34) rfl rfl rfl rfl rfl (by first | exact Value.noConfusion | (intro h; cases h)) (by kernel_rfl) (by kernel_rfl) (by kernel_rfl) hH ?_
          simp only [List.setIfInBounds_toArray, List.set_cons_zero, List.set_cons_succ]
          refine Reg.skip (i := 35) rfl rfl rfl rfl rfl (by first | exact Value.noConfusion | (intro h; cases h)) (by kernel_rfl) (by kernel_rfl) (by kernel_rfl) hH ?_
          simp only [List.setIfInBounds_toArray, List.set_cons_zero, List.set_cons_succ]
          refine Reg.skip (i := 36) rfl rfl rfl rfl rfl (by first | exact Value.noConfusion | (intro h; cases h)) (by kernel_rfl) (by kernel_rfl) (by kernel_rfl) hH ?_
          simp only [List.setIfInBounds_toArray, List.set_cons_zero, List.set_cons_succ]
          refine Reg.skip (i := 37) rfl rfl rfl rfl rfl (by first | exact Value.noConfusion | (intro h; cases h)) (by kernel_rfl) (by kernel_rfl) (by kernel_rfl) hH ?_
          simp only [List.setIfInBounds_toArray, List.set_cons_zero, List.set_cons_succ]
          refine Reg.takeIf (i := 38) (u := ?b1_v38) rfl rfl rfl rfl rfl (by kernel_rfl) (by kernel_rfl) (by kernel_rfl) hH ?b1_y38 ?b1_r38
          case b1_y38 => (intro w hSw; (try dsimp only at hSw); go_simp; try (with_reducible rfl))
          case' b1_r38 => simp only [List.setIfInBounds_toArray, List.set_cons_zero, List.set_cons_succ]
          refine Reg.take (i := 39) (u := ?b1_v39) rfl rfl rfl (by kernel_rfl) (by kernel_rfl) (by kernel_rfl) hH ?b1_y39 ?b1_r39
          case b1_y39 => (intro w hSw; (try dsimp only at hSw); go_simp; try (with_reducible rfl))
          case' b1_r39 => simp only [List.setIfInBounds_toArray, List.set_cons_zero, List.set_cons_succ]
          refine wpAnyH_done (by kernel_rfl) ?_ _
          refine NoPanic.normal ?_
          by_cases hm0 : dx.mode = 0
          all_goals (rcases F with _ | _)
          all_goals (rcases A with _ | _)
          all_goals
            go_wp2
            go_roundw
            case rel => exact ⟨1, by go_num, by have := HQ.out; omega, by rw [Hm.out]; simp, by rw [Ha.out]; simp [hm0], by rw [Hf.out]; simp [hm0], _, rfl⟩
            case measure => simp [intOf] <;> omega
        · obtain ⟨y, hy⟩ : ∃ y, C[k - 1]? = some y := ⟨C[k - 1]'(by rw [HQ.out]; omega), List.getElem?_eq_getElem (by rw [HQ.out]; omega)⟩
          have hyL := HCM.out y (List.mem_of_getElem? hy)
          obtain ⟨dy, hgy, p1, _, _⟩ := HDIR.out y hyL
          have e1 := HCELL.out (k - 1) y hy
          have hdec := HCD.out (k - 1) x y hy (by rw [show k - 1 + 1 = k by omega]; exact Hx.out)
          rw [Hpx.out, Inh.plen_get hgy] at hdec
          clear hy hgy
          have hy2 : (y : Int) < (L.length : Int) := by omega
          have hy3 : (0 : Int) ≤ (y : Int) := by omega
          have hk1 : (0 : Int) ≤ (k : Int) - 1 := by omega
          have hk2 : (k : Int) - 1 < (q : Int) + 1 := by omega
          have hk3 : (0 : Int) < (k : Int) := by omega
          have hk1b : (1 : Int) ≤ (k : Int) := by omega
          have hk1c : 1 ≤ k := by omega
          have hkw : IntKind.i64.wrap ((k : Int) - 1) = (k : Int) - 1 := IntWalk.i64_in _ (by omega)
          have hk3' : 0 < k := by omega
          have hdec2 : ¬ (dy.path.length : Int) ≤ (dx.path.length : Int) := by omega
          have hdec3 : ¬ dy.path.length ≤ dx.path.length := by omega
          go_wp2
          refine wp_region_noPanic ?_
          refine wp_region_held_drew (S := fun w' => w'.cell? (cd.add k) = some (.int .i64 x) ∧ w'.cell? (cd.add (k - 1)) = some (.int .i64 y) ∧ w'.cell? (ad.add (x * 3)) = some (.string ⟨dx.path.toArray⟩) ∧ w'.cell? (ad.add (y * 3)) = some (.string ⟨dy.path.toArray⟩)) (by kernel_rfl) ?_ (fun hH => ?_)
          · exact ⟨e0, e1, p0, p1⟩
          refine Reg.take (i := 0) (u := ?b2_v0) rfl rfl rfl (by kernel_rfl) (by kernel_rfl) (by kernel_rfl) hH ?b2_y0 ?b2_r0
          case b2_y0 => (intro w hSw; (try dsimp only at hSw); go_simp; try (with_reducible rfl))
          case' b2_r0 => simp only [List.setIfInBounds_toArray, List.set_cons_zero, List.set_cons_succ]
          refine Reg.take (i := 1) (u := ?b2_v1) rfl rfl rfl (by kernel_rfl) (by kernel_rfl) (by kernel_rfl) hH ?b2_y1 ?b2_r1
          case b2_y1 => (intro w hSw; (try dsimp only at hSw); go_simp; try (with_reducible rfl))
          case' b2_r1 => simp only [List.setIfInBounds_toArray, List.set_cons_zero, List.set_cons_succ]
          refine Reg.take (i := 2) (u := ?b2_v2) rfl rfl rfl (by kernel_rfl) (by kernel_rfl) (by kernel_rfl) hH ?b2_y2 ?b2_r2
          case b2_y2 => (intro w hSw; (try dsimp only at hSw); go_simp; try (with_reducible rfl))
          case' b2_r2 => simp only [List.setIfInBounds_toArray, List.set_cons_zero, List.set_cons_succ]
          refine Reg.take (i := 3) (u := ?b2_v3) rfl rfl rfl (by kernel_rfl) (by kernel_rfl) (by kernel_rfl) hH ?b2_y3 ?b2_r3
          case b2_y3 => (intro w hSw; (try dsimp only at hSw); go_simp; try (with_reducible rfl))
          case' b2_r3 => simp only [List.setIfInBounds_toArray, List.set_cons_zero, List.set_cons_succ]
          refine Reg.take (i := 4) (u := ?b2_v4) rfl rfl rfl (by kernel_rfl) (by kernel_rfl) (by kernel_rfl) hH ?b2_y4 ?b2_r4
          case b2_y4 => (intro w hSw; (try dsimp only at hSw); go_simp; try (with_reducible rfl))
          case' b2_r4 => simp only [List.setIfInBounds_toArray, List.set_cons_zero, List.set_cons_succ]
          refine Reg.take (i := 5) (u := ?b2_v5) rfl rfl rfl (by kernel_rfl) (by kernel_rfl) (by kernel_rfl) hH ?b2_y5 ?b2_r5
          case b2_y5 => (intro w hSw; (try dsimp only at hSw); go_simp; try (with_reducible rfl))
          case' b2_r5 => simp only [List.setIfInBounds_toArray, List.set_cons_zero, List.set_cons_succ]
          refine Reg.takeIf (i := 6) (u := ?b2_v6) rfl rfl rfl rfl rfl (by kernel_rfl) (by kernel_rfl) (by kernel_rfl) hH ?b2_y6 ?b2_r6
          case b2_y6 => (intro w hSw; (try dsimp only at hSw); go_simp; try (with_reducible rfl))
          case' b2_r6 => simp only [List.setIfInBounds_toArray, List.set_cons_zero, List.set_cons_succ]
          refine Reg.takeIf (i := 7) (u := ?b2_v7) rfl rfl rfl rfl rfl (by kernel_rfl) (by kernel_rfl) (by kernel_rfl) hH ?b2_y7 ?b2_r7
          case b2_y7 => (intro w hSw; (try dsimp only at hSw); go_simp; try (with_reducible rfl))
          case' b2_r7 => simp only [List.setIfInBounds_toArray, List.set_cons_zero, List.set_cons_succ]
          refine Reg.takeIf (i := 8) (u := ?b2_v8) rfl rfl rfl rfl rfl (by kernel_rfl) (by kernel_rfl) (by kernel_rfl) hH ?b2_y8 ?b2_r8
          case b2_y8 => (intro w hSw; (try dsimp only at hSw); go_simp; try (with_reducible rfl))
          case' b2_r8 => simp only [List.setIfInBounds_toArray, List.set_cons_zero, List.set_cons_succ]
          refine Reg.takeIf (i := 9) (u := ?b2_v9) rfl rfl rfl rfl rfl (by kernel_rfl) (by kernel_rfl) (by kernel_rfl) hH ?b2_y9 ?b2_r9
          case b2_y9 => (intro w hSw; (try dsimp only at hSw); go_simp; try (with_reducible rfl))
          case' b2_r9 => simp only [List.setIfInBounds_toArray, List.set_cons_zero, List.set_cons_succ]
          refine Reg.takeIf (i := 10) (u := ?b2_v10) rfl rfl rfl rfl rfl (by kernel_rfl) (by kernel_rfl) (by kernel_rfl) hH ?b2_y10 ?b2_r10
          case b2_y10 => (intro w hSw; (try dsimp only at hSw); go_simp; try (with_reducible rfl))
          case' b2_r10 => simp only [List.setIfInBounds_toArray, List.set_cons_zero, List.set_cons_succ]
          refine Reg.takeIf (i := 11) (u := ?b2_v11) rfl rfl rfl rfl rfl (by kernel_rfl) (by kernel_rfl) (by kernel_rfl) hH ?b2_y11 ?b2_r11
          case b2_y11 => (intro w hSw; (try dsimp only at hSw); go_simp; try (with_reducible rfl))
          case' b2_r11 => simp only [List.setIfInBounds_toArray, List.set_cons_zero, List.set_cons_succ]
          refine Reg.takeIf (i := 12) (u := ?b2_v12) rfl rfl rfl rfl rfl (by kernel_rfl) (by kernel_rfl) (by kernel_rfl) hH ?b2_y12 ?b2_r12
          case b2_y12 => (intro w hSw; (try dsimp only at hSw); go_simp; try (with_reducible rfl))
          case' b2_r12 => simp only [List.setIfInBounds_toArray, List.set_cons_zero, List.set_cons_succ]
          refine Reg.take (i := 13) (u := ?b2_v13) rfl rfl rfl (by kernel_rfl) (by kernel_rfl) (by kernel_rfl) hH ?b2_y13 ?b2_r13
          case b2_y13 => (intro w hSw; (try dsimp only at hSw); go_simp; try (with_reducible rfl))
          case' b2_r13 => simp only [List.setIfInBounds_toArray, List.set_cons_zero, List.set_cons_succ]
          refine Reg.take (i := 14) (u := ?b2_v14) rfl rfl rfl (by kernel_rfl) (by kernel_rfl) (by kernel_rfl) hH ?b2_y14 ?b2_r14
          case b2_y14 => (intro w hSw; (try dsimp only at hSw); go_simp; try (with_reducible rfl))
          case' b2_r14 => simp only [List.setIfInBounds_toArray, List.set_cons_zero, List.set_cons_succ]
          refine Reg.takeIf (i := 15) (u := ?b2_v15) rfl rfl rfl rfl rfl (by kernel_rfl) (by kernel_rfl) (by kernel_rfl) hH ?b2_y15 ?b2_r15
          case b2_y15 => (intro w hSw; (try dsimp only at hSw); go_simp; try (with_reducible rfl))
          case' b2_r15 => simp only [List.setIfInBounds_toArray, List.set_cons_zero, List.set_cons_succ]
          refine Reg.takeIf (i := 16) (u := ?b2_v16) rfl rfl rfl rfl rfl (by kernel_rfl) (by kernel_rfl) (by kernel_rfl) hH ?b2_y16 ?b2_r16
          case b2_y16 => (intro w hSw; (try dsimp only at hSw); go_simp; try (with_reducible rfl))
          case' b2_r16 => simp only [List.setIfInBounds_toArray, List.set_cons_zero, List.set_cons_succ]
          refine Reg.takeIf (i := 17) (u := ?b2_v17) rfl rfl rfl rfl rfl (by kernel_rfl) (by kernel_rfl) (by kernel_rfl) hH ?b2_y17 ?b2_r17
          case b2_y17 => (intro w hSw; (try dsimp only at hSw); go_simp; try (with_reducible rfl))
          case' b2_r17 => simp only [List.setIfInBounds_toArray, List.set_cons_zero, List.set_cons_succ]
          refine Reg.takeIf (i := 18) (u := ?b2_v18) rfl rfl rfl rfl rfl (by kernel_rfl) (by kernel_rfl) (by kernel_rfl) hH ?b2_y18 ?b2_r18
          case b2_y18 => (intro w hSw; (try dsimp only at hSw); go_simp; try (with_reducible rfl))
          case' b2_r18 => simp only [List.setIfInBounds_toArray, List.set_cons_zero, List.set_cons_succ]
          refine Reg.takeIf (i := 19) (u := ?b2_v19) rfl rfl rfl rfl rfl (by kernel_rfl) (by kernel_rfl) (by kernel_rfl) hH ?b2_y19 ?b2_r19
          case b2_y19 => (intro w hSw; (try dsimp only at hSw); go_simp; try (with_reducible rfl))
          case' b2_r19 => simp only [List.setIfInBounds_toArray, List.set_cons_zero, List.set_cons_succ]
          refine Reg.takeIf (i := 20) (u := ?b2_v20) rfl rfl rfl rfl rfl (by kernel_rfl) (by kernel_rfl) (by kernel_rfl) hH ?b2_y20 ?b2_r20
          case b2_y20 => (intro w hSw; (try dsimp only at hSw); go_simp; try (with_reducible rfl))
          case' b2_r20 => simp only [List.setIfInBounds_toArray, List.set_cons_zero, List.set_cons_succ]
          refine Reg.takeIf (i := 21) (u := ?b2_v21) rfl rfl rfl rfl rfl (by kernel_rfl) (by kernel_rfl) (by kernel_rfl) hH ?b2_y21 ?b2_r21
          case b2_y21 => (intro w hSw; (try dsimp only at hSw); go_simp; try (with_reducible rfl))
          case' b2_r21 => simp only [List.setIfInBounds_toArray, List.set_cons_zero, List.set_cons_succ]
          refine Reg.takeIf (i := 22) (u := ?b2_v22) rfl rfl rfl rfl rfl (by kernel_rfl) (by kernel_rfl) (by kernel_rfl) hH ?b2_y22 ?b2_r22
          case b2_y22 => (intro w hSw; (try dsimp only at hSw); go_simp; try (with_reducible rfl))
          case' b2_r22 => simp only [List.setIfInBounds_toArray, List.set_cons_zero, List.set_cons_succ]
          refine Reg.takeIf (i := 23) (u := ?b2_v23) rfl rfl rfl rfl rfl (by kernel_rfl) (by kernel_rfl) (by kernel_rfl) hH ?b2_y23 ?b2_r23
          case b2_y23 => (intro w hSw; (try dsimp only at hSw); go_simp; try (with_reducible rfl))
          case' b2_r23 => simp only [List.setIfInBounds_toArray, List.set_cons_zero, List.set_cons_succ]
          refine Reg.takeIf (i := 24) (u := ?b2_v24) rfl rfl rfl rfl rfl (by kernel_rfl) (by kernel_rfl) (by kernel_rfl) hH ?b2_y24 ?b2_r24
          case b2_y24 => (intro w hSw; (try dsimp only at hSw); go_simp; try (with_reducible rfl))
          case' b2_r24 => simp only [List.setIfInBounds_toArray, List.set_cons_zero, List.set_cons_succ]
          refine Reg.takeIf (i := 25) (u := ?b2_v25) rfl rfl rfl rfl rfl (by kernel_rfl) (by kernel_rfl) (by kernel_rfl) hH ?b2_y25 ?b2_r25
          case b2_y25 => (intro w hSw; (try dsimp only at hSw); go_simp; try (with_reducible rfl))
          case' b2_r25 => simp only [List.setIfInBounds_toArray, List.set_cons_zero, List.set_cons_succ]
          refine Reg.takeIf (i := 26) (u := ?b2_v26) rfl rfl rfl rfl rfl (by kernel_rfl) (by kernel_rfl) (by kernel_rfl) hH ?b2_y26 ?b2_r26
          case b2_y26 => (intro w hSw; (try dsimp only at hSw); go_simp; try (with_reducible rfl))
          case' b2_r26 => simp only [List.setIfInBounds_toArray, List.set_cons_zero, List.set_cons_succ]
          refine Reg.takeIf (i := 27) (u := ?b2_v27) rfl rfl rfl rfl rfl (by kernel_rfl) (by kernel_rfl) (by kernel_rfl) hH ?b2_y27 ?b2_r27
          case b2_y27 => (intro w hSw; (try dsimp only at hSw); go_simp; try (with_reducible rfl))
          case' b2_r27 => simp only [List.setIfInBounds_toArray, List.set_cons_zero, List.set_cons_succ]
          refine Reg.takeIf (i := 28) (u := ?b2_v28) rfl rfl rfl rfl rfl (by kernel_rfl) (by kernel_rfl) (by kernel_rfl) hH ?b2_y28 ?b2_r28
          case b2_y28 => (intro w hSw; (try dsimp only at hSw); go_simp; try (with_reducible rfl))
          case' b2_r28 => simp only [List.setIfInBounds_toArray, List.set_cons_zero, List.set_cons_succ]
          refine Reg.takeIf (i := 29) (u := ?b2_v29) rfl rfl rfl rfl rfl (by kernel_rfl) (by kernel_rfl) (by kernel_rfl) hH ?b2_y29 ?b2_r29
          case b2_y29 => (intro w hSw; (try dsimp only at hSw); go_simp; try (with_reducible rfl))
          case' b2_r29 => simp only [List.setIfInBounds_toArray, List.set_cons_zero, List.set_cons_succ]
          refine Reg.takeIf (i := 30) (u := ?b2_v30) rfl rfl rfl rfl rfl (by kernel_rfl) (by kernel_rfl) (by kernel_rfl) hH ?b2_y30 ?b2_r30
          case b2_y30 => (intro w hSw; (try dsimp only at hSw); go_simp; try (with_reducible rfl))
          case' b2_r30 => simp only [List.setIfInBounds_toArray, List.set_cons_zero, List.set_cons_succ]
          refine Reg.takeIf (i := 31) (u := ?b2_v31) rfl rfl rfl rfl rfl (by kernel_rfl) (by kernel_rfl) (by kernel_rfl) hH ?b2_y31 ?b2_r31
          case b2_y31 => (intro w hSw; (try dsimp only at hSw); go_simp; try (with_reducible rfl))
          case' b2_r31 => simp only [List.setIfInBounds_toArray, List.set_cons_zero, List.set_cons_succ]
          refine Reg.takeIf (i := 32) (u := ?b2_v32) rfl rfl rfl rfl rfl (by kernel_rfl) (by kernel_rfl) (by kernel_rfl) hH ?b2_y32 ?b2_r32
          case b2_y32 => (intro w hSw; (try dsimp only at hSw); go_simp; try (with_reducible rfl))
          case' b2_r32 => simp only [List.setIfInBounds_toArray, List.set_cons_zero, List.set_cons_succ]
          refine Reg.takeIf (i := 33) (u := ?b2_v33) rfl rfl rfl rfl rfl (by kernel_rfl) (by kernel_rfl) (by kernel_rfl) hH ?b2_y33 ?b2_r33
          case b2_y33 => (intro w hSw; (try dsimp only at hSw); go_simp; try (with_reducible rfl))
          case' b2_r33 => simp only [List.setIfInBounds_toArray, List.set_cons_zero, List.set_cons_succ]
          refine Reg.takeIf (i := 34) (u := ?b2_v34) rfl rfl rfl rfl rfl (by kernel_rfl) (by kernel_rfl) (by kernel_rfl) hH ?b2_y34 ?b2_r34
          case b2_y34 => (intro w hSw; (try dsimp only at hSw); go_simp; try (with_reducible rfl))
          case' b2_r34 => simp only [List.setIfInBounds_toArray, List.set_cons_zero, List.set_cons_succ]
          refine Reg.takeIf (i := 35) (u := ?b2_v35) rfl rfl rfl rfl rfl (by kernel_rfl) (by kernel_rfl) (by kernel_rfl) hH ?b2_y35 ?b2_r35
          case b2_y35 => (intro w hSw; (try dsimp only at hSw); go_simp; try (with_reducible rfl))
          case' b2_r35 => simp only [List.setIfInBounds_toArray, List.set_cons_zero, List.set_cons_succ]
          refine Reg.takeIf (i := 36) (u := ?b2_v36) rfl rfl rfl rfl rfl (by kernel_rfl) (by kernel_rfl) (by kernel_rfl) hH ?b2_y36 ?b2_r36
          case b2_y36 => (intro w hSw; (try dsimp only at hSw); go_simp; try (with_reducible rfl))
          case' b2_r36 => simp only [List.setIfInBounds_toArray, List.set_cons_zero, List.set_cons_succ]
          refine Reg.takeIf (i := 37) (u := ?b2_v37) rfl rfl rfl rfl rfl (by kernel_rfl) (by kernel_rfl) (by kernel_rfl) hH ?b2_y37 ?b2_r37
          case b2_y37 => (intro w hSw; (try dsimp only at hSw); go_simp; try (with_reducible rfl))
          case' b2_r37 => simp only [List.setIfInBounds_toArray, List.set_cons_zero, List.set_cons_succ]
          refine Reg.takeIf (i := 38) (u := ?b2_v38) rfl rfl rfl rfl rfl (by kernel_rfl) (by kernel_rfl) (by kernel_rfl) hH ?b2_y38 ?b2_r38
          case b2_y38 => (intro w hSw; (try dsimp only at hSw); go_simp; try (with_reducible rfl))
          case' b2_r38 => simp only [List.setIfInBounds_toArray, List.set_cons_zero, List.set_cons_succ]
          refine Reg.take (i := 39) (u := ?b2_v39) rfl rfl rfl (by kernel_rfl) (by kernel_rfl) (by kernel_rfl) hH ?b2_y39 ?b2_r39
          case b2_y39 => (intro w hSw; (try dsimp only at hSw); go_simp; try (with_reducible rfl))
          case' b2_r39 => simp only [List.setIfInBounds_toArray, List.set_cons_zero, List.set_cons_succ]
          refine wpAnyH_done (by kernel_rfl) ?_ _
          refine NoPanic.normal ?_
          by_cases hm0 : dx.mode = 0
          all_goals (rcases F with _ | _)
          all_goals (rcases A with _ | _)
          all_goals
            go_wp2
            go_roundw
            case rel => exact ⟨k + 1, by go_num, by have := HQ.out; omega, by rw [Hm.out]; simp, by rw [Ha.out]; simp [hm0], by rw [Hf.out]; simp [hm0], _, rfl⟩
            case measure => simp [intOf]; omega
      · obtain rfl : k = q + 1 := by omega
        obtain ⟨dj, hgj, _, _, rj⟩ := HDIR.out j hjL
        have hrj := Inh.rnOf_get hgj
        have hal0 := HAL.out
        rw [hrj] at hal0
        rw [HEND.out]
        have hj2 : (j : Int) < (L.length : Int) := by omega
        have hj3 : (0 : Int) ≤ (j : Int) := by omega
        obtain ⟨A, hA⟩ : ∃ A, A = Inh.alo L C (q + 1) := ⟨_, rfl⟩
        rw [← hA] at hal0 ⊢
        obtain ⟨n, hn⟩ : ∃ n, n = S.length := ⟨_, rfl⟩
        rw [← hn] at hal0 hset ⊢
        have hd80 : dj.rn ≤ 80 := by have := rn_small hsm j; omega
        clear hgj hrj hA
        rcases A with _ | _
        · clear hal0
          go_wp2
          go_ret
          exact ⟨rfl, below_drewN (b8.trans (by exact Below.refl _ _)) _⟩
        · have ha1 := hal0 rfl
          subst ha1
          clear hal0
          go_wp2
          go_ret
          exact ⟨rfl, below_drewN b8 _⟩

end Go.Proofs.Ytajnkapnndhbaaa
