/- fits: what is found of a route for a path, as the reference finds it. -/
import Derived.Test.YtefilalapkdegaaRouteFit
namespace Go.Proofs.Ytefilalapkdegaa
open Go.RowKit Str Mem
set_option linter.unusedVariables false
set_option linter.unusedSimpArgs false

theorem cont_intro {F : Nat → World → Option Addr → Nat → Prop} {G : Nat → World → Option Addr → Nat → Value → Prop} {R : Prop} (h1 : (∀ D U ca cc v, F D U ca cc → G D U ca cc v) → R) (h2 : ∀ D U ca cc v, F D U ca cc → G D U ca cc v) : R := h1 h2
theorem glue_snoc : ∀ (l : List (List UInt8)) (x : List UInt8), Dots.glue (l ++ [x]) = if l = [] then x else Dots.glue l ++ 47 :: x
  | [], x => rfl
  | [y], x => rfl
  | y :: z :: r, x => by
    rw [if_neg (by simp)]
    have ih := glue_snoc (z :: r) x
    rw [if_neg (by simp)] at ih
    show y ++ 47 :: Dots.glue ((z :: r) ++ [x]) = y ++ 47 :: Dots.glue (z :: r) ++ 47 :: x
    rw [ih]; simp
theorem glue_take {P : List (List UInt8)} {k n : Nat} (hk : k ≤ n) (hn : n < P.length) : Dots.glue ((P.drop k).take (n + 1 - k)) = if n = k then Route.nth P n else Dots.glue ((P.drop k).take (n - k)) ++ 47 :: Route.nth P n := by
  have e : (P.drop k).take (n + 1 - k) = (P.drop k).take (n - k) ++ [Route.nth P n] := by
    have hx : (P.drop k)[n - k]? = some (Route.nth P n) := by rw [List.getElem?_drop, show k + (n - k) = n by omega]; exact Route.nth_some hn
    obtain ⟨h1, h2⟩ := List.getElem?_eq_some_iff.1 hx
    rw [show n + 1 - k = n - k + 1 by omega, ← List.take_append_getElem h1, h2]
  rw [e, glue_snoc]
  by_cases h : n = k
  · subst h; simp
  · rw [if_neg h, if_neg]
    intro h0
    have := congrArg List.length h0
    simp at this
    omega

/-- What is known of the struct that is filled, and of all else, ahead of the loop. -/
def FitF (w : World) (a : Option Addr) (c : Nat) (l P : List (List UInt8)) (kd t : Value) (sa : Option Addr) (D : Nat) (U : World) (ca : Option Addr) (cc : Nat) : Prop :=
  U.heap[D]? = some (.cells [.bool true, .slice ca l.length cc, kd, t, .slice none 0 0, .slice none 0 0, .string ⟨#[]⟩].toArray 43 (0, 0)) ∧
  Below w.heap.size w U ∧ D < U.heap.size ∧ w.heap.size + 2 ≤ D ∧
  Rd U 3 (some ⟨w.heap.size, 0, none⟩) 1 [.slice a l.length c, kd, t] ∧ Rd U 1 sa P.length (P.map sv) ∧ (∀ ad : Addr, sa = some ad → ad.block ≠ D) ∧
  Rd U 1 ca l.length (l.map sv) ∧ l.length ≤ cc ∧ cc ≤ maxLen ∧ (∀ ad : Addr, ca = some ad → ad.block ≠ D) ∧ (∀ ad : Addr, ca = some ad → ad.block ≠ w.heap.size + 1) ∧ (∀ ad : Addr, ca = some ad → w.heap.size ≤ ad.block) ∧
  U.heap[w.heap.size + 1]? = some (.cells [.bool false, .slice none 0 0, .int .i64 0, .string ⟨#[]⟩, .slice none 0 0, .slice none 0 0, .string ⟨#[]⟩].toArray 43 (0, 0))

def RestI (w u : World) (D : Nat) (N V P : List (List UInt8)) (k : Nat) (vc kd t vN vV : Value) (i : Value) (wr : World) : Prop :=
  ∃ n : Nat, i = .int .i64 n ∧ k ≤ n ∧ n ≤ P.length ∧
    Owns wr u.heap.size 9 1 vN N.length (N.map sv) ∧ Owns wr u.heap.size 9 1 vV V.length (V.map sv) ∧
    wr.heap[D]? = some (.cells [.bool true, vc, kd, t, vN, vV, .string ⟨(Dots.glue ((P.drop k).take (n - k))).toArray⟩].toArray 43 (0, 0)) ∧ Kp D u wr ∧ Below w.heap.size w wr
theorem last_eq (s : ByteArray) (b : Bool) (h : Dots.isOpen s.data.toList = b) (hh : s.size - 1 < s.size) : (((s[s.size - 1]'hh).toNat : Int) == 47) = b := by
  have := last_is s b h hh
  rw [bne] at this
  rcases b with _ | _ <;> simpa using this

set_option maxRecDepth 20000 in
set_option maxHeartbeats 8000000 in
theorem rfits_any (a : Option Addr) (c : Nat) (l : List (List UInt8)) (kd : Int) (t : List UInt8) (p : ByteArray) (w : World) (h : RtOk w a l.length c l t) (he : Route.err l kd t = 0) (hn : Dots.normal p.data.toList = true) :
    Calls Try.prog 51 #[rtv a l.length c kd t, .string p] w fun e w' => ∃ v, e = .returned v ∧ FoundIs w' w.heap.size l kd t (Route.fit (Dots.isOpen p.data.toList) l (Dots.segments p.data.toList)) v ∧ Below w.heap.size w w' := by
  obtain ⟨ti, hi, hz0, hz1, hz2⟩ := info_of infoTxt
  have hf := Route.fine_of he
  have hl16 := (Route.err_ok he).1
  have hsg := fun w => refSegs_own p w hn
  unfold rtv
  obtain ⟨P, hP⟩ : ∃ P, P = Dots.segments p.data.toList := ⟨_, rfl⟩
  obtain ⟨op, hop⟩ : ∃ o, o = Dots.isOpen p.data.toList := ⟨_, rfl⟩
  rw [← hP] at hsg ⊢
  rw [← hop]
  have hbody : (Dots.body P).length ≤ 128 := by rw [hP]; exact segs_body hn
  have HP := Lib.hid hP
  have HO := Lib.hid hop
  have hpn := normal_small hn
  rw [← size_data] at hpn
  clear hP hop hn
  obtain ⟨W0, hW0⟩ : ∃ W0, W0 = (w.alloc (Obj.cells #[.slice a l.length c, .int .i64 kd, .string ⟨t.toArray⟩] 35)).alloc (Obj.cells #[.bool false, .slice none 0 0, .int .i64 0, .string ⟨#[]⟩, .slice none 0 0, .slice none 0 0, .string ⟨#[]⟩] 43) := ⟨_, rfl⟩
  have hb0 : Below w.heap.size w W0 := by rw [hW0]; exact ((Below.refl _ w).alloc (Nat.le_refl _) _).alloc (by simp) _
  have hsz0 : W0.heap.size = w.heap.size + 2 := by rw [hW0]; simp
  have hx0 : Rd W0 3 (some ⟨w.heap.size, 0, none⟩) 1 [.slice a l.length c, .int .i64 kd, .string ⟨t.toArray⟩] := by rw [hW0]; exact (box3_new w _ _ _ _).alloc _
  have hr0 : W0.heap[w.heap.size + 1]? = some (.cells [.bool false, .slice none 0 0, .int .i64 0, .string ⟨#[]⟩, .slice none 0 0, .slice none 0 0, .string ⟨#[]⟩].toArray 43 (0, 0)) := by
    rw [hW0]
    have := heap_alloc_new (w.alloc (Obj.cells #[.slice a l.length c, .int .i64 kd, .string ⟨t.toArray⟩] 35)) (Obj.cells #[.bool false, .slice none 0 0, .int .i64 0, .string ⟨#[]⟩, .slice none 0 0, .slice none 0 0, .string ⟨#[]⟩] 43)
    rw [World.size_alloc] at this
    exact this
  have HW := Lib.hid hW0
  clear hW0
  go_enter Try.func51, Try.ntmps51
  go_wp2_with fail
  rw [← HW.out]
  refine (hsg _).mono ?_
  rintro e w1 ⟨vs, rfl, hvs, g1⟩
  have hb1 : Below w.heap.size w w1 := hb0.trans (g1.mono hb0.size)
  have hx1 := hx0.below g1
  have hr1 := (g1.block (w.heap.size + 1) (by omega)).trans hr0
  obtain ⟨p0, p1, p2⟩ := box3 hx1
  obtain ⟨sa, sc, rfl, hcs, hcsm, hrs⟩ := hvs.form
  have hSl := (h.below hb1).strs
  have hs1 := g1.size
  have hsb : ∀ ad : Addr, sa = some ad → ad.block < w1.heap.size := by
    rintro ad rfl
    exact (hvs.lt ad.block (by simp [Value.ownBlock])).2
  go_wp2
  have hS3 : ∀ W, Below w1.heap.size w1 W → (W.cell? ⟨w.heap.size, 0, none⟩ = some (.slice a l.length c) ∧ W.cell? ⟨w.heap.size, 1, none⟩ = some (.int .i64 kd) ∧ W.cell? ⟨w.heap.size, 2, none⟩ = some (.string ⟨t.toArray⟩)) := fun W hW => box3 (hx1.below hW)
  refine cont_intro (F := FitF w a c l P (.int .i64 kd) (.string ⟨t.toArray⟩) sa) (G := ?G) (fun cont => ?br) ?pf
  case br =>
    refine wp_region_noPanic ?_
    refine wp_region_held_drew (S := fun w' => w'.cell? ⟨w.heap.size, 0, none⟩ = some (.slice a l.length c) ∧ w'.cell? ⟨w.heap.size, 1, none⟩ = some (.int .i64 kd) ∧ w'.cell? ⟨w.heap.size, 2, none⟩ = some (.string ⟨t.toArray⟩)) (by kernel_rfl) ?_ (fun hH => ?_)
    · exact ⟨p0, p1, p2⟩
    refine Reg.take (i := 1) (u := ?qv1) rfl rfl rfl (by kernel_rfl) (by kernel_rfl) (by kernel_rfl) hH ?qy1 ?qr1
    case qy1 => (intro w hSw; (try dsimp only at hSw); go_simp; try (with_reducible rfl))
    case' qr1 => simp only [List.setIfInBounds_toArray, List.set_cons_zero, List.set_cons_succ]
    refine Reg.take (i := 4) (u := ?qv4) rfl rfl rfl (by kernel_rfl) (by kernel_rfl) (by kernel_rfl) hH ?qy4 ?qr4
    case qy4 => (intro w hSw; (try dsimp only at hSw); go_simp; try (with_reducible rfl))
    case' qr4 => simp only [List.setIfInBounds_toArray, List.set_cons_zero, List.set_cons_succ]
    refine Reg.take (i := 6) (u := ?qv6) rfl rfl rfl (by kernel_rfl) (by kernel_rfl) (by kernel_rfl) hH ?qy6 ?qr6
    case qy6 => (intro w hSw; (try dsimp only at hSw); go_simp; try (with_reducible rfl))
    case' qr6 => simp only [List.setIfInBounds_toArray, List.set_cons_zero, List.set_cons_succ]
    refine Reg.take (i := 2) (u := ?qv2) rfl rfl rfl (by kernel_rfl) (by kernel_rfl) (by kernel_rfl) hH ?qy2 ?qr2
    case qy2 => (intro w hSw; (try dsimp only at hSw); go_simp; try (with_reducible rfl))
    case' qr2 => simp only [List.setIfInBounds_toArray, List.set_cons_zero, List.set_cons_succ]
    refine Reg.take (i := 5) (u := ?qv5) rfl rfl rfl (by kernel_rfl) (by kernel_rfl) (by kernel_rfl) hH ?qy5 ?qr5
    case qy5 => (intro w hSw; (try dsimp only at hSw); go_simp; try (with_reducible rfl))
    case' qr5 => simp only [List.setIfInBounds_toArray, List.set_cons_zero, List.set_cons_succ]
    refine Reg.take (i := 7) (u := ?qv7) rfl rfl rfl (by kernel_rfl) (by kernel_rfl) (by kernel_rfl) hH ?qy7 ?qr7
    case qy7 => (intro w hSw; (try dsimp only at hSw); go_simp; try (with_reducible rfl))
    case' qr7 => simp only [List.setIfInBounds_toArray, List.set_cons_zero, List.set_cons_succ]
    refine Reg.either (i := 0) (j := 10) rfl rfl (Reg.wanted_free rfl) (Reg.wanted_free rfl) (by kernel_rfl) (fun K hK => ?oA) (fun K hK => ?oB)
    case oA =>
      go_simp
      refine hK.out _ _ (hS3 _ (((Below.refl _ w1).alloc (Nat.le_refl _) _).drew)) (fun hH2 => ?_)
      clear hK hH
      have hH := hH2; clear hH2
      try simp only [Act.put, List.setIfInBounds_toArray, List.set_cons_zero, List.set_cons_succ]
      refine Reg.either (i := 3) (j := 10) rfl rfl (Reg.wanted_free rfl) (Reg.wanted_free rfl) (by kernel_rfl) (fun K hK => ?oA1) (fun K hK => ?oA2)
      case oA1 =>
        refine wp_append_lies (o := _) _ _ _ 33 rfl w1.heap.size 9 ti (.string ⟨#[]⟩) 1 16 Try.underlying33 hi hz0 hz1 hz2 rfl (by decide) _ 0 [] rfl (Owns.drew (Owns.fresh w1 _ 1)) a l.length c (l.map sv) rfl (Rd.below hSl (Below.mono (((Below.refl w1.heap.size w1).alloc (Nat.le_refl _) (.cells #[] 9)).drew) (by omega))) (one_sv l) (by simp only [maxLen]; omega) (by omega) (by first | (simp [World.drew]; done) | (simp [World.drew]; omega)) ?_
        intro vc w3 hown hgrow hlies
        rw [Nat.zero_add, List.nil_append] at hown
        obtain ⟨ca, cc, rfl, hcc, hccm, hcr⟩ := hown.form
        have hbw3 : Below w1.heap.size w1 w3 := Below.grown (((Below.refl w1.heap.size w1).alloc (Nat.le_refl _) (.cells #[] 9)).drew) hgrow (by first | (simp [World.drew]; done) | (simp [World.drew]; omega)) (by rintro q hq; injection hq with hq; (try dsimp only at hq); omega)
        refine hK.out _ _ (hS3 _ (hbw3)) (fun hH2 => ?_)
        clear hK hH
        have hH := hH2; clear hH2
        try simp only [Act.put, List.setIfInBounds_toArray, List.set_cons_zero, List.set_cons_succ]
        refine Reg.take (i := 8) (u := ?qav8) rfl rfl rfl (by kernel_rfl) (by kernel_rfl) (by kernel_rfl) hH ?qay8 ?qar8
        case qay8 => (intro w hSw; (try dsimp only at hSw); go_simp; try (with_reducible rfl))
        case' qar8 => simp only [List.setIfInBounds_toArray, List.set_cons_zero, List.set_cons_succ]
        refine Reg.take (i := 9) (u := ?qav9) rfl rfl rfl (by kernel_rfl) (by kernel_rfl) (by kernel_rfl) hH ?qay9 ?qar9
        case qay9 => (intro w hSw; (try dsimp only at hSw); go_simp; try (with_reducible rfl))
        case' qar9 => simp only [List.setIfInBounds_toArray, List.set_cons_zero, List.set_cons_succ]
        refine Reg.only (i := 10) rfl (Reg.wanted_free rfl) (by kernel_rfl) (fun K hK => ?_)
        go_simp
        refine hK.out _ _ (hS3 _ (hbw3.alloc (by have := hbw3.size; omega) _)) (fun hH2 => ?_)
        clear hK hH
        have hH := hH2; clear hH2
        try simp only [Act.put, List.setIfInBounds_toArray, List.set_cons_zero, List.set_cons_succ]
        refine Reg.only (i := 11) rfl (Reg.wanted_free rfl) (by kernel_rfl) (fun K hK => ?_)
        go_simp
        obtain ⟨U, hU⟩ : ∃ U, U = w3.alloc (.cells #[.bool true, .slice ca l.length cc, .int .i64 kd, .string ⟨t.toArray⟩, .slice none 0 0, .slice none 0 0, .string ⟨#[]⟩] 43) := ⟨_, rfl⟩
        have hBU : Below w1.heap.size w1 U := by rw [hU]; exact hbw3.alloc (by have := hbw3.size; omega) _
        have hUrow : U.heap[w3.heap.size]? = some (.cells [.bool true, .slice ca l.length cc, .int .i64 kd, .string ⟨t.toArray⟩, .slice none 0 0, .slice none 0 0, .string ⟨#[]⟩].toArray 43 (0, 0)) := by rw [hU]; exact heap_alloc_new _ _
        have hUD : w3.heap.size < U.heap.size := by rw [hU]; simp
        have hcU : Rd U 1 ca l.length (l.map sv) := by rw [hU]; exact hcr.alloc _
        have hz3 := hbw3.size
        have hsD : ∀ ad : Addr, sa = some ad → ad.block ≠ w3.heap.size := fun ad e q => by have := hsb ad e; omega
        have hcD : ∀ ad : Addr, ca = some ad → ad.block ≠ w3.heap.size := by
          rintro ad rfl q
          have := (hown.lt ad.block (by simp [Value.ownBlock])).2
          omega
        have hcGe : ∀ ad : Addr, ca = some ad → w.heap.size ≤ ad.block := by
          rintro ad rfl
          have := (hown.lt ad.block (by simp [Value.ownBlock])).1
          omega
        have hcR : ∀ ad : Addr, ca = some ad → ad.block ≠ w.heap.size + 1 := by
          rintro ad rfl q
          have := (hown.lt ad.block (by simp [Value.ownBlock])).1
          omega
        rw [← hU]
        clear hU
        refine hK.out _ _ (hS3 _ (hBU)) (fun hH2 => ?_)
        clear hK hH
        have hH := hH2; clear hH2
        try simp only [Act.put, List.setIfInBounds_toArray, List.set_cons_zero, List.set_cons_succ]
        refine wpAnyH_done (by kernel_rfl) ?_ _
        refine NoPanic.normal ?_
        obtain ⟨D, hD⟩ : ∃ D, D = w3.heap.size := ⟨_, rfl⟩
        rw [← hD] at hUrow hUD hsD hcD hz3 ⊢
        obtain ⟨v17, hv17⟩ : ∃ v, v = Value.slice (some ⟨w1.heap.size, 0, none⟩) 0 0 := ⟨_, rfl⟩
        rw [← hv17]
        clear hv17
        have hbU : Below w.heap.size w U := hb1.trans (hBU.mono (by omega))
        exact cont D U ca cc v17 ⟨hUrow, hbU, hUD, by omega, hx1.below hBU, hrs.below hBU, hsD, hcU, hcc, hccm, hcD, hcR, hcGe, (hBU.block _ (by omega)).trans hr1⟩
      case oA2 =>
        go_simp
        refine hK.out _ _ (hS3 _ ((((Below.refl w1.heap.size w1).alloc (Nat.le_refl _) (.cells #[] 9)).alloc (by simp) (.cells #[.bool false, .slice none 0 0, .int .i64 0, .string ⟨#[]⟩, .slice none 0 0, .slice none 0 0, .string ⟨#[]⟩] 43)).drew)) (fun hH2 => ?_)
        clear hK hH
        have hH := hH2; clear hH2
        try simp only [Act.put, List.setIfInBounds_toArray, List.set_cons_zero, List.set_cons_succ]
        refine Reg.only (i := 3) rfl (Reg.wanted_free rfl) (by kernel_rfl) (fun K hK => ?_)
        refine wp_append_lies (o := _) _ _ _ 33 rfl w1.heap.size 9 ti (.string ⟨#[]⟩) 1 16 Try.underlying33 hi hz0 hz1 hz2 rfl (by decide) _ 0 [] rfl (Owns.drew ((Owns.fresh w1 _ 1).alloc (.cells #[.bool false, .slice none 0 0, .int .i64 0, .string ⟨#[]⟩, .slice none 0 0, .slice none 0 0, .string ⟨#[]⟩] 43))) a l.length c (l.map sv) rfl (Rd.below hSl (Below.mono ((((Below.refl w1.heap.size w1).alloc (Nat.le_refl _) (.cells #[] 9)).alloc (by simp) (.cells #[.bool false, .slice none 0 0, .int .i64 0, .string ⟨#[]⟩, .slice none 0 0, .slice none 0 0, .string ⟨#[]⟩] 43)).drew) (by omega))) (one_sv l) (by simp only [maxLen]; omega) (by omega) (by first | (simp [World.drew]; done) | (simp [World.drew]; omega)) ?_
        intro vc w3 hown hgrow hlies
        rw [Nat.zero_add, List.nil_append] at hown
        obtain ⟨ca, cc, rfl, hcc, hccm, hcr⟩ := hown.form
        have hbw3 : Below w1.heap.size w1 w3 := Below.grown ((((Below.refl w1.heap.size w1).alloc (Nat.le_refl _) (.cells #[] 9)).alloc (by simp) (.cells #[.bool false, .slice none 0 0, .int .i64 0, .string ⟨#[]⟩, .slice none 0 0, .slice none 0 0, .string ⟨#[]⟩] 43)).drew) hgrow (by first | (simp [World.drew]; done) | (simp [World.drew]; omega)) (by rintro q hq; injection hq with hq; (try dsimp only at hq); omega)
        refine hK.out _ _ (hS3 _ (hbw3)) (fun hH2 => ?_)
        clear hK hH
        have hH := hH2; clear hH2
        try simp only [Act.put, List.setIfInBounds_toArray, List.set_cons_zero, List.set_cons_succ]
        refine Reg.take (i := 8) (u := ?qbv8) rfl rfl rfl (by kernel_rfl) (by kernel_rfl) (by kernel_rfl) hH ?qby8 ?qbr8
        case qby8 => (intro w hSw; (try dsimp only at hSw); go_simp; try (with_reducible rfl))
        case' qbr8 => simp only [List.setIfInBounds_toArray, List.set_cons_zero, List.set_cons_succ]
        refine Reg.take (i := 9) (u := ?qbv9) rfl rfl rfl (by kernel_rfl) (by kernel_rfl) (by kernel_rfl) hH ?qby9 ?qbr9
        case qby9 => (intro w hSw; (try dsimp only at hSw); go_simp; try (with_reducible rfl))
        case' qbr9 => simp only [List.setIfInBounds_toArray, List.set_cons_zero, List.set_cons_succ]
        have hrowD3 : w3.heap[w1.heap.size + 1]? = some (.cells [.bool false, .slice none 0 0, .int .i64 0, .string ⟨#[]⟩, .slice none 0 0, .slice none 0 0, .string ⟨#[]⟩].toArray 43 (0, 0)) := (hgrow.block _ (by first | (simp [World.drew]; done) | (simp [World.drew]; omega)) (by intro q; injection q with q; (try dsimp only at q); omega)).trans ((by have := heap_alloc_new (w1.alloc (.cells #[] 9)) (.cells #[.bool false, .slice none 0 0, .int .i64 0, .string ⟨#[]⟩, .slice none 0 0, .slice none 0 0, .string ⟨#[]⟩] 43); rw [World.size_alloc] at this; exact this))
        obtain ⟨⟨n0, n1, n2, n3, n4, n5, n6⟩, m0, m1, m2, m3, m4, m5, m6⟩ := row7 hrowD3
        refine Reg.only (i := 11) rfl (Reg.wanted_free rfl) (by kernel_rfl) (fun K hK => ?_)
        go_simp
        obtain ⟨U, hU⟩ : ∃ U, U = set7 w3 (w1.heap.size + 1) (.bool true) (.slice ca l.length cc) (.int .i64 kd) (.string ⟨t.toArray⟩) (.slice none 0 0) (.slice none 0 0) (.string ⟨#[]⟩) := ⟨_, rfl⟩
        have hBU : Below w1.heap.size w1 U := by rw [hU]; exact set7_below hbw3 (by omega)
        have hUrow : U.heap[w1.heap.size + 1]? = some (.cells [.bool true, .slice ca l.length cc, .int .i64 kd, .string ⟨t.toArray⟩, .slice none 0 0, .slice none 0 0, .string ⟨#[]⟩].toArray 43 (0, 0)) := by rw [hU]; exact set7_row hrowD3
        have hcD : ∀ ad : Addr, ca = some ad → ad.block ≠ w1.heap.size + 1 := by
          rintro ad rfl q
          rcases hlies ad.block (by simp [Value.ownBlock]) with h1 | h1
          · injection h1 with h1; (try dsimp only at h1); omega
          · simp [World.drew] at h1; omega
        have hUD : w1.heap.size + 1 < U.heap.size := (Array.getElem?_eq_some_iff.1 hUrow).1
        have hcU : Rd U 1 ca l.length (l.map sv) := by rw [hU]; exact Rd.set7 hcr hcD
        have hsD : ∀ ad : Addr, sa = some ad → ad.block ≠ w1.heap.size + 1 := fun ad e q => by have := hsb ad e; omega
        have hcGe : ∀ ad : Addr, ca = some ad → w.heap.size ≤ ad.block := by
          rintro ad rfl
          have := (hown.lt ad.block (by simp [Value.ownBlock])).1
          omega
        have hcR : ∀ ad : Addr, ca = some ad → ad.block ≠ w.heap.size + 1 := by
          rintro ad rfl q
          have := (hown.lt ad.block (by simp [Value.ownBlock])).1
          omega
        unfold set7 at hU
        rw [← hU]
        clear hU
        refine hK.out _ _ (hS3 _ (hBU)) (fun hH2 => ?_)
        clear hK hH
        have hH := hH2; clear hH2
        try simp only [Act.put, List.setIfInBounds_toArray, List.set_cons_zero, List.set_cons_succ]
        refine wpAnyH_done (by kernel_rfl) ?_ _
        refine NoPanic.normal ?_
        obtain ⟨v17, hv17⟩ : ∃ v, v = Value.slice (some ⟨w1.heap.size, 0, none⟩) 0 0 := ⟨_, rfl⟩
        rw [← hv17]
        clear hv17
        obtain ⟨D, hD⟩ : ∃ D, D = w1.heap.size + 1 := ⟨_, rfl⟩
        have hDge : w1.heap.size ≤ D := by omega
        rw [← hD] at hUrow hUD hsD hcD ⊢
        have hbU : Below w.heap.size w U := hb1.trans (hBU.mono (by omega))
        exact cont D U ca cc v17 ⟨hUrow, hbU, hUD, by omega, hx1.below hBU, hrs.below hBU, hsD, hcU, hcc, hccm, hcD, hcR, hcGe, (hBU.block _ (by omega)).trans hr1⟩
    case oB =>
      go_simp
      refine hK.out _ _ (hS3 _ (((Below.refl w1.heap.size w1).alloc (Nat.le_refl _) (.cells #[.bool false, .slice none 0 0, .int .i64 0, .string ⟨#[]⟩, .slice none 0 0, .slice none 0 0, .string ⟨#[]⟩] 43)).drew)) (fun hH2 => ?_)
      clear hK hH
      have hH := hH2; clear hH2
      try simp only [Act.put, List.setIfInBounds_toArray, List.set_cons_zero, List.set_cons_succ]
      refine Reg.only (i := 0) rfl (Reg.wanted_free rfl) (by kernel_rfl) (fun K hK => ?_)
      go_simp
      refine hK.out _ _ (hS3 _ ((((Below.refl w1.heap.size w1).alloc (Nat.le_refl _) (.cells #[.bool false, .slice none 0 0, .int .i64 0, .string ⟨#[]⟩, .slice none 0 0, .slice none 0 0, .string ⟨#[]⟩] 43)).alloc (by simp) (.cells #[] 9)).drew)) (fun hH2 => ?_)
      clear hK hH
      have hH := hH2; clear hH2
      try simp only [Act.put, List.setIfInBounds_toArray, List.set_cons_zero, List.set_cons_succ]
      have hfr := Owns.fresh (w1.alloc (.cells #[.bool false, .slice none 0 0, .int .i64 0, .string ⟨#[]⟩, .slice none 0 0, .slice none 0 0, .string ⟨#[]⟩] 43)) 9 1
      rw [World.size_alloc] at hfr
      refine Reg.only (i := 3) rfl (Reg.wanted_free rfl) (by kernel_rfl) (fun K hK => ?_)
      refine wp_append_lies (o := _) _ _ _ 33 rfl w1.heap.size 9 ti (.string ⟨#[]⟩) 1 16 Try.underlying33 hi hz0 hz1 hz2 rfl (by decide) _ 0 [] rfl (Owns.drew (hfr.mono (by omega))) a l.length c (l.map sv) rfl (Rd.below hSl (Below.mono ((((Below.refl w1.heap.size w1).alloc (Nat.le_refl _) (.cells #[.bool false, .slice none 0 0, .int .i64 0, .string ⟨#[]⟩, .slice none 0 0, .slice none 0 0, .string ⟨#[]⟩] 43)).alloc (by simp) (.cells #[] 9)).drew) (by omega))) (one_sv l) (by simp only [maxLen]; omega) (by omega) (by first | (simp [World.drew]; done) | (simp [World.drew]; omega)) ?_
      intro vc w3 hown hgrow hlies
      rw [Nat.zero_add, List.nil_append] at hown
      obtain ⟨ca, cc, rfl, hcc, hccm, hcr⟩ := hown.form
      have hbw3 : Below w1.heap.size w1 w3 := Below.grown ((((Below.refl w1.heap.size w1).alloc (Nat.le_refl _) (.cells #[.bool false, .slice none 0 0, .int .i64 0, .string ⟨#[]⟩, .slice none 0 0, .slice none 0 0, .string ⟨#[]⟩] 43)).alloc (by simp) (.cells #[] 9)).drew) hgrow (by first | (simp [World.drew]; done) | (simp [World.drew]; omega)) (by rintro q hq; injection hq with hq; (try dsimp only at hq); omega)
      refine hK.out _ _ (hS3 _ (hbw3)) (fun hH2 => ?_)
      clear hK hH
      have hH := hH2; clear hH2
      try simp only [Act.put, List.setIfInBounds_toArray, List.set_cons_zero, List.set_cons_succ]
      refine Reg.take (i := 8) (u := ?qcv8) rfl rfl rfl (by kernel_rfl) (by kernel_rfl) (by kernel_rfl) hH ?qcy8 ?qcr8
      case qcy8 => (intro w hSw; (try dsimp only at hSw); go_simp; try (with_reducible rfl))
      case' qcr8 => simp only [List.setIfInBounds_toArray, List.set_cons_zero, List.set_cons_succ]
      refine Reg.take (i := 9) (u := ?qcv9) rfl rfl rfl (by kernel_rfl) (by kernel_rfl) (by kernel_rfl) hH ?qcy9 ?qcr9
      case qcy9 => (intro w hSw; (try dsimp only at hSw); go_simp; try (with_reducible rfl))
      case' qcr9 => simp only [List.setIfInBounds_toArray, List.set_cons_zero, List.set_cons_succ]
      have hrowD3 : w3.heap[w1.heap.size]? = some (.cells [.bool false, .slice none 0 0, .int .i64 0, .string ⟨#[]⟩, .slice none 0 0, .slice none 0 0, .string ⟨#[]⟩].toArray 43 (0, 0)) := (hgrow.block _ (by first | (simp [World.drew]; done) | (simp [World.drew]; omega)) (by intro q; injection q with q; (try dsimp only at q); omega)).trans ((Below.heap_alloc _ _ _ (by simp)).trans (heap_alloc_new w1 _))
      obtain ⟨⟨n0, n1, n2, n3, n4, n5, n6⟩, m0, m1, m2, m3, m4, m5, m6⟩ := row7 hrowD3
      refine Reg.only (i := 11) rfl (Reg.wanted_free rfl) (by kernel_rfl) (fun K hK => ?_)
      go_simp
      obtain ⟨U, hU⟩ : ∃ U, U = set7 w3 (w1.heap.size) (.bool true) (.slice ca l.length cc) (.int .i64 kd) (.string ⟨t.toArray⟩) (.slice none 0 0) (.slice none 0 0) (.string ⟨#[]⟩) := ⟨_, rfl⟩
      have hBU : Below w1.heap.size w1 U := by rw [hU]; exact set7_below hbw3 (by omega)
      have hUrow : U.heap[w1.heap.size]? = some (.cells [.bool true, .slice ca l.length cc, .int .i64 kd, .string ⟨t.toArray⟩, .slice none 0 0, .slice none 0 0, .string ⟨#[]⟩].toArray 43 (0, 0)) := by rw [hU]; exact set7_row hrowD3
      have hcD : ∀ ad : Addr, ca = some ad → ad.block ≠ w1.heap.size := by
        rintro ad rfl q
        rcases hlies ad.block (by simp [Value.ownBlock]) with h1 | h1
        · injection h1 with h1; (try dsimp only at h1); omega
        · simp [World.drew] at h1; omega
      have hUD : w1.heap.size < U.heap.size := (Array.getElem?_eq_some_iff.1 hUrow).1
      have hcU : Rd U 1 ca l.length (l.map sv) := by rw [hU]; exact Rd.set7 hcr hcD
      have hsD : ∀ ad : Addr, sa = some ad → ad.block ≠ w1.heap.size := fun ad e q => by have := hsb ad e; omega
      have hcGe : ∀ ad : Addr, ca = some ad → w.heap.size ≤ ad.block := by
        rintro ad rfl
        have := (hown.lt ad.block (by simp [Value.ownBlock])).1
        omega
      have hcR : ∀ ad : Addr, ca = some ad → ad.block ≠ w.heap.size + 1 := by
        rintro ad rfl q
        have := (hown.lt ad.block (by simp [Value.ownBlock])).1
        omega
      unfold set7 at hU
      rw [← hU]
      clear hU
      refine hK.out _ _ (hS3 _ (hBU)) (fun hH2 => ?_)
      clear hK hH
      have hH := hH2; clear hH2
      try simp only [Act.put, List.setIfInBounds_toArray, List.set_cons_zero, List.set_cons_succ]
      refine wpAnyH_done (by kernel_rfl) ?_ _
      refine NoPanic.normal ?_
      obtain ⟨v17, hv17⟩ : ∃ v, v = Value.slice (some ⟨w1.heap.size + 1, 0, none⟩) 0 0 := ⟨_, rfl⟩
      rw [← hv17]
      clear hv17
      obtain ⟨D, hD⟩ : ∃ D, D = w1.heap.size := ⟨_, rfl⟩
      have hDge : w1.heap.size ≤ D := by omega
      rw [← hD] at hUrow hUD hsD hcD ⊢
      have hbU : Below w.heap.size w U := hb1.trans (hBU.mono (by omega))
      exact cont D U ca cc v17 ⟨hUrow, hbU, hUD, by omega, hx1.below hBU, hrs.below hBU, hsD, hcU, hcc, hccm, hcD, hcR, hcGe, (hBU.block _ (by omega)).trans hr1⟩
  case pf =>
    rintro D U ca cc v17 ⟨hd4, hbU, hDlt, hDge, hxU, hrU, hsne, hcU, hcc, hccm, hcne, hcneR, hcge, hRU⟩
    clear hb1 hx1 hr1 p0 p1 p2 hrs hSl hs1 hsb hb0 hx0 hr0 g1 hS3
    obtain ⟨x0, x1, x2⟩ := box3 hxU
    go_wp2
    go_loopw [8, 9, 10, 11] (fun i _ _ _ wr => FitI w U D op l P (.slice ca l.length cc) (.int .i64 kd) (.string ⟨t.toArray⟩) i wr) (fun i _ _ _ _ => l.length - (intOf i).toNat)
    case atStart => exact ⟨0, [], [], _, _, rfl, Nat.zero_le _, Nat.zero_le _, Nat.le_refl _, Nat.le_refl _, Route.comb_nil _, Owns.nil _ _ _ _, Owns.nil _ _ _ _, by simp [Value.ownBlock], hd4, Kp.refl _ _, hbU⟩
    case round =>
      obtain ⟨k, N, V, vN, vV, rfl, hk, hkP, hNk, hVk, hcomb, hoN, hoV, hap, hrow, hkp, hbl⟩ := hrel
      clear x0 x1 x2
      have hbx := hxU.kp hkp (by rintro ad e; cases e; simp; omega)
      obtain ⟨x0, x1, x2⟩ := box3 hbx
      have hseg := hrU.kp hkp hsne
      have hcl := hcU.kp hkp hcne
      have hrR := (hkp.block (w.heap.size + 1) (by omega) (by omega)).trans hRU
      by_cases hlt : k < l.length
      · obtain ⟨ad, rfl, hbb, hls, hcell, hsl⟩ := (h.below hbl).get hlt
        have hs0 : 0 < (bs (Route.nth l k)).size := by rw [size_bs]; exact List.length_pos_iff.2 (hf.at hlt).1
        have hkd := fun w => rkind_any (bs (Route.nth l k)) hs0 (by rw [data_bs]; exact (hf.at hlt).2) w
        rw [data_bs] at hkd
        obtain ⟨q, hq⟩ : ∃ q, Route.kind (Route.nth l k) = q := ⟨_, rfl⟩
        have hqc := Route.kind_cases (Route.nth l k)
        rw [hq] at hkd hqc
        have HQ := Lib.hid hq
        have HCo := Lib.hid hcomb
        clear hs0 hls hq hcomb
        have i0 : (0 : Int) ≤ (k : Int) := by omega
        have i1 : (k : Int) < (l.length : Int) := by omega
        obtain ⟨⟨d0, d1, d2, d3, d4, d5, d6⟩, f0, f1, f2, f3, f4, f5, f6⟩ := row7 hrow
        obtain ⟨⟨r0, r1, r2, r3, r4, r5, r6⟩, e0, e1, e2, e3, e4, e5, e6⟩ := row7 hrR
        go_wp2_with fail
        refine (hkd _).mono ?_
        rintro e w5 ⟨rfl, rfl⟩
        rcases hqc with rfl | rfl | rfl
        · by_cases hkp2 : k < P.length
          · have hlt2 : (k : Int) < (P.length : Int) := by omega
            obtain ⟨sd, sx, rfl, hsdb, hPs, hscell⟩ := Strs.get hseg hkp2
            obtain rfl := Route.nth_get hPs
            obtain ⟨b, hb⟩ : ∃ b, (Route.nth l k == Route.nth P k) = b := ⟨_, rfl⟩
            clear hPs
            rcases b with _ | _
            · have Hn := Lib.hid (show Route.fit op l P = none by rw [← HCo.out, Route.fit_name hlt HQ.out hkp2, if_neg (by simpa using hb)]; rfl)
              go_wp2_with fail
              try rw [Exit.noGoto_ret]
              obtain ⟨Wf, hWf⟩ : ∃ Wf, Wf = set7 (wr) (w.heap.size + 1) (.bool false) (.slice none 0 0) (.int .i64 0) (.string ⟨#[]⟩) (.slice none 0 0) (.slice none 0 0) (.string ⟨#[]⟩) := ⟨_, rfl⟩
              have hrf : Wf.heap[w.heap.size + 1]? = some (.cells [.bool false, .slice none 0 0, .int .i64 0, .string ⟨#[]⟩, .slice none 0 0, .slice none 0 0, .string ⟨#[]⟩].toArray 43 (0, 0)) := by rw [hWf]; exact set7_row (hrR)
              have hbf : Below w.heap.size w Wf := by rw [hWf]; exact set7_below (hbl) (by omega)
              unfold set7 at hWf
              rw [← hWf]
              clear hWf
              obtain ⟨⟨z0, z1, z2, z3, z4, z5, z6⟩, _⟩ := row7 hrf
              refine bodyPost_ret (v := .agg #[.bool false, .slice none 0 0, .int .i64 0, .string ⟨#[]⟩, .slice none 0 0, .slice none 0 0, .string ⟨#[]⟩]) (by simp [results, Try.results36, go_sem, z0, z1, z2, z3, z4, z5, z6]) rfl ⟨_, rfl, ?_, hbf⟩
              rw [Hn.out]
              exact rfl
            · have Hc := Lib.hid (show Route.fit op (l.drop k) (P.drop k) = Route.fit op (l.drop (k + 1)) (P.drop (k + 1)) by rw [Route.fit_name hlt HQ.out hkp2, if_pos (by simpa using hb)])
              go_wp2
              refine ⟨⟨k + 1, N, V, _, _, by go_num, by omega, by omega, by omega, by omega, by rw [← HCo.out, Hc.out], hoN, hoV, hap, hrow, hkp, hbl⟩, by simp [intOf]; omega⟩
          · have hge : (P.length : Int) ≤ (k : Int) := by omega
            have Hn := Lib.hid (show Route.fit op l P = none by rw [← HCo.out, Route.fit_short hlt (by rw [HQ.out]; decide) (by omega)]; rfl)
            go_wp2_with fail
            try rw [Exit.noGoto_ret]
            obtain ⟨Wf, hWf⟩ : ∃ Wf, Wf = set7 (wr) (w.heap.size + 1) (.bool false) (.slice none 0 0) (.int .i64 0) (.string ⟨#[]⟩) (.slice none 0 0) (.slice none 0 0) (.string ⟨#[]⟩) := ⟨_, rfl⟩
            have hrf : Wf.heap[w.heap.size + 1]? = some (.cells [.bool false, .slice none 0 0, .int .i64 0, .string ⟨#[]⟩, .slice none 0 0, .slice none 0 0, .string ⟨#[]⟩].toArray 43 (0, 0)) := by rw [hWf]; exact set7_row (hrR)
            have hbf : Below w.heap.size w Wf := by rw [hWf]; exact set7_below (hbl) (by omega)
            unfold set7 at hWf
            rw [← hWf]
            clear hWf
            obtain ⟨⟨z0, z1, z2, z3, z4, z5, z6⟩, _⟩ := row7 hrf
            refine bodyPost_ret (v := .agg #[.bool false, .slice none 0 0, .int .i64 0, .string ⟨#[]⟩, .slice none 0 0, .slice none 0 0, .string ⟨#[]⟩]) (by simp [results, Try.results36, go_sem, z0, z1, z2, z3, z4, z5, z6]) rfl ⟨_, rfl, ?_, hbf⟩
            rw [Hn.out]
            exact rfl
        · by_cases hkp2 : k < P.length
          · have hlt2 : (k : Int) < (P.length : Int) := by omega
            have hpar : Route.param (Route.nth l k) = true := (Route.kind_2 (Route.valid_at he hlt)).1 HQ.out
            obtain ⟨sd, sx, rfl, hsdb, hPs, hscell⟩ := Strs.get hseg hkp2
            obtain rfl := Route.nth_get hPs
            have hL2 := Route.param_len hpar
            have hsl1 : (1 : Int) ≤ ((Route.nth l k).length : Int) := by omega
            have hsl2 : (1 : Int) ≤ ((Route.nth l k).length : Int) - 1 := by omega
            have hsl3 : ((Route.nth l k).length : Int) - 1 ≤ ((Route.nth l k).length : Int) := by omega
            have hwr : IntKind.i64.wrap (((Route.nth l k).length : Int) - 1) = ((Route.nth l k).length : Int) - 1 := IntWalk.i64_in _ (by omega)
            have d4a : ∀ o, (wr.alloc o).cell? ⟨D, 4, none⟩ = some vN := fun o => (World.cell?_of_block (w := wr) (a := ⟨D, 4, none⟩) (Below.heap_alloc wr o _ (by have := hkp.size; show D < _; omega))).trans d4
            have hmid : sv (Route.mid (Route.nth l k)) = .string ((⟨(Route.nth l k).toArray⟩ : ByteArray).extract 1 ((Route.nth l k).length - 1)) := by unfold sv Route.mid; rw [bs_extract, List.dropLast_eq_take, List.length_drop]
            have hvNf := hoN.form
            obtain ⟨aN, cN0, rfl, _⟩ := hvNf
            go_wp2
            refine wp_region_noPanic ?_
            refine wp_region_held_drew (S := fun _ => True) (by kernel_rfl) ?_ (fun hH => ?_)
            · trivial
            refine Reg.take (i := 0) (u := ?p18v0) rfl rfl rfl (by kernel_rfl) (by kernel_rfl) (by kernel_rfl) hH ?p18y0 ?p18r0
            case p18y0 => (intro w hSw; (try dsimp only at hSw); go_simp; try (with_reducible rfl))
            case' p18r0 => simp only [List.setIfInBounds_toArray, List.set_cons_zero, List.set_cons_succ]
            refine Reg.take (i := 2) (u := ?p18v2) rfl rfl rfl (by kernel_rfl) (by kernel_rfl) (by kernel_rfl) hH ?p18y2 ?p18r2
            case p18y2 => (intro w hSw; (try dsimp only at hSw); go_simp; try (with_reducible rfl))
            case' p18r2 => simp only [List.setIfInBounds_toArray, List.set_cons_zero, List.set_cons_succ]
            refine Reg.take (i := 3) (u := ?p18v3) rfl rfl rfl (by kernel_rfl) (by kernel_rfl) (by kernel_rfl) hH ?p18y3 ?p18r3
            case p18y3 => (intro w hSw; (try dsimp only at hSw); go_simp; try (with_reducible rfl))
            case' p18r3 => simp only [List.setIfInBounds_toArray, List.set_cons_zero, List.set_cons_succ]
            refine Reg.take (i := 4) (u := ?p18v4) rfl rfl rfl (by kernel_rfl) (by kernel_rfl) (by kernel_rfl) hH ?p18y4 ?p18r4
            case p18y4 => (intro w hSw; (try dsimp only at hSw); go_simp; try (with_reducible rfl))
            case' p18r4 => simp only [List.setIfInBounds_toArray, List.set_cons_zero, List.set_cons_succ]
            refine Reg.take (i := 5) (u := ?p18v5) rfl rfl rfl (by kernel_rfl) (by kernel_rfl) (by kernel_rfl) hH ?p18y5 ?p18r5
            case p18y5 => (intro w hSw; (try dsimp only at hSw); go_simp; try (with_reducible rfl))
            case' p18r5 => simp only [List.setIfInBounds_toArray, List.set_cons_zero, List.set_cons_succ]
            refine Reg.take (i := 6) (u := ?p18v6) rfl rfl rfl (by kernel_rfl) (by kernel_rfl) (by kernel_rfl) hH ?p18y6 ?p18r6
            case p18y6 => (intro w hSw; (try dsimp only at hSw); go_simp; try (with_reducible rfl))
            case' p18r6 => simp only [List.setIfInBounds_toArray, List.set_cons_zero, List.set_cons_succ]
            refine Reg.pair (i := 1) (j := 7) (u := .slice aN N.length cN0) (x := .slice (some ⟨wr.heap.size, 0, none⟩) 1 1) (w1 := (wr.alloc (.cells #[.string ((⟨(Route.nth l k).toArray⟩ : ByteArray).extract 1 ((Route.nth l k).length - 1))] 9)).drew) rfl rfl rfl rfl rfl rfl (by kernel_rfl) (by kernel_rfl) (by kernel_rfl) trivial trivial (by decide) (by decide) ?p18y1 ?p18y2 ?p18y3 ?p18y4 ?p18go
            case p18y1 => (go_simp; try (with_reducible rfl))
            case p18y2 => (go_simp; try (with_reducible rfl))
            case p18y3 => (go_simp; try (with_reducible rfl))
            case p18y4 => (go_simp; try (with_reducible rfl))
            case' p18go => simp only [List.setIfInBounds_toArray, List.set_cons_zero, List.set_cons_succ]
            refine Reg.only (i := 8) rfl (Reg.wanted_free rfl) (by kernel_rfl) (fun K hK => ?_)
            refine wp_append_lies (o := _) _ _ _ 33 rfl U.heap.size 9 ti (.string ⟨#[]⟩) 1 16 Try.underlying33 hi hz0 hz1 hz2 rfl (by decide) _ N.length (N.map sv) rfl (Owns.drew (hoN.alloc _)) _ 1 1 [sv (Route.mid (Route.nth l k))] rfl (Rd.drew (by rw [hmid]; exact Rd.one wr _ _)) (by simp [sv, Value.oneCell']) (by simp only [maxLen]; omega) (by omega) (by simp; have := hkp.size; omega) ?_
            intro vN' w6 hownN hgrowN hliesN
            obtain ⟨hkp7, hbl7, hoN7, hoV7, hap7, hrow6, hrow7⟩ := grow_field (i := 4) hDlt (by omega) hkp hbl hownN hgrowN hliesN hoN hoV hap hrow
            obtain ⟨gN, cN, rfl, _⟩ := hownN.succ
            obtain ⟨⟨d0', d1', d2', d3', d4', d5', d6'⟩, f0', f1', f2', f3', f4', f5', f6'⟩ := row7 hrow6
            refine hK.out _ _ trivial (fun hH2 => ?_)
            clear hK hH
            have hH := hH2; clear hH2
            try simp only [Act.put, List.setIfInBounds_toArray, List.set_cons_zero, List.set_cons_succ]
            refine Reg.only (i := 9) rfl (Reg.wanted_free rfl) (by kernel_rfl) (fun K hK => ?_)
            go_simp
            refine hK.out _ _ trivial (fun hH2 => ?_)
            clear hK hH
            have hH := hH2; clear hH2
            try simp only [Act.put, List.setIfInBounds_toArray, List.set_cons_zero, List.set_cons_succ]
            refine Reg.only (i := 10) rfl (Reg.wanted_free rfl) (by kernel_rfl) (fun K hK => ?_)
            go_simp
            refine hK.out _ _ trivial (fun hH2 => ?_)
            clear hK hH
            have hH := hH2; clear hH2
            try simp only [Act.put, List.setIfInBounds_toArray, List.set_cons_zero, List.set_cons_succ]
            refine wpAnyH_done (by kernel_rfl) ?_ _
            refine NoPanic.normal ?_
            obtain ⟨W7, hW7⟩ : ∃ W7, W7 = w6.setCell ⟨D, 4, none⟩ (.slice (some ⟨gN, 0, none⟩) (N.length + 1) cN) := ⟨_, rfl⟩
            rw [← hW7] at hkp7 hbl7 hoN7 hoV7 hrow7 ⊢
            clear hW7 d0' d1' d2' d3' d4' d5' d6' f0' f1' f2' f3' f4' f5' f6' d0 d1 d2 d3 d4 d5 d6 f0 f1 f2 f3 f4 f5 f6 d4a hscell
            obtain ⟨⟨d0, d1, d2, d3, d4, d5, d6⟩, f0, f1, f2, f3, f4, f5, f6⟩ := row7 hrow7
            have hsegc : ∀ W, Kp D U W → W.cell? (sd.add k) = some (.string ⟨(Route.nth P k).toArray⟩) := fun W hK => by
              obtain ⟨ad', s', e1, _, e2, e3⟩ := Strs.get (hrU.kp hK hsne) hkp2
              cases e1
              rw [hPs] at e2
              cases e2
              exact e3
            have hscell := hsegc _ hkp7
            have hvVf := hoV7.form
            obtain ⟨aV, cV0, rfl, _⟩ := hvVf
            have d5a : ∀ o, (W7.alloc o).cell? ⟨D, 5, none⟩ = some (.slice aV V.length cV0) := fun o => (World.cell?_of_block (w := W7) (a := ⟨D, 5, none⟩) (Below.heap_alloc W7 o _ (by have := hkp7.size; show D < _; omega))).trans d5
            go_wp2
            refine wp_region_noPanic ?_
            refine wp_region_held_drew (S := fun w' => w'.cell? (sd.add k) = some (.string ⟨(Route.nth P k).toArray⟩)) (by kernel_rfl) ?_ (fun hH => ?_)
            · exact (hsegc _ hkp7.drew)
            refine Reg.take (i := 0) (u := ?p19v0) rfl rfl rfl (by kernel_rfl) (by kernel_rfl) (by kernel_rfl) hH ?p19y0 ?p19r0
            case p19y0 => (intro w hSw; (try dsimp only at hSw); go_simp; try (with_reducible rfl))
            case' p19r0 => simp only [List.setIfInBounds_toArray, List.set_cons_zero, List.set_cons_succ]
            refine Reg.take (i := 2) (u := ?p19v2) rfl rfl rfl (by kernel_rfl) (by kernel_rfl) (by kernel_rfl) hH ?p19y2 ?p19r2
            case p19y2 => (intro w hSw; (try dsimp only at hSw); go_simp; try (with_reducible rfl))
            case' p19r2 => simp only [List.setIfInBounds_toArray, List.set_cons_zero, List.set_cons_succ]
            refine Reg.take (i := 3) (u := ?p19v3) rfl rfl rfl (by kernel_rfl) (by kernel_rfl) (by kernel_rfl) hH ?p19y3 ?p19r3
            case p19y3 => (intro w hSw; (try dsimp only at hSw); go_simp; try (with_reducible rfl))
            case' p19r3 => simp only [List.setIfInBounds_toArray, List.set_cons_zero, List.set_cons_succ]
            refine Reg.take (i := 4) (u := ?p19v4) rfl rfl rfl (by kernel_rfl) (by kernel_rfl) (by kernel_rfl) hH ?p19y4 ?p19r4
            case p19y4 => (intro w hSw; (try dsimp only at hSw); go_simp; try (with_reducible rfl))
            case' p19r4 => simp only [List.setIfInBounds_toArray, List.set_cons_zero, List.set_cons_succ]
            refine Reg.take (i := 5) (u := ?p19v5) rfl rfl rfl (by kernel_rfl) (by kernel_rfl) (by kernel_rfl) hH ?p19y5 ?p19r5
            case p19y5 => (intro w hSw; (try dsimp only at hSw); go_simp; try (with_reducible rfl))
            case' p19r5 => simp only [List.setIfInBounds_toArray, List.set_cons_zero, List.set_cons_succ]
            refine Reg.pair (i := 1) (j := 6) (u := .slice aV V.length cV0) (x := .slice (some ⟨W7.heap.size, 0, none⟩) 1 1) (w1 := (W7.alloc (.cells #[.string ⟨(Route.nth P k).toArray⟩] 9)).drew) rfl rfl rfl rfl rfl rfl (by kernel_rfl) (by kernel_rfl) (by kernel_rfl) (hsegc _ hkp7.drew) (hsegc _ (hkp7.alloc _).drew) (by decide) (by decide) ?p19y1 ?p19y2 ?p19y3 ?p19y4 ?p19go
            case p19y1 => (go_simp; try (with_reducible rfl))
            case p19y2 => (go_simp; try (with_reducible rfl))
            case p19y3 => (go_simp; try (with_reducible rfl))
            case p19y4 => (go_simp; try (with_reducible rfl))
            case' p19go => simp only [List.setIfInBounds_toArray, List.set_cons_zero, List.set_cons_succ]
            refine Reg.only (i := 7) rfl (Reg.wanted_free rfl) (by kernel_rfl) (fun K hK => ?_)
            refine wp_append_lies (o := _) _ _ _ 33 rfl U.heap.size 9 ti (.string ⟨#[]⟩) 1 16 Try.underlying33 hi hz0 hz1 hz2 rfl (by decide) _ V.length (V.map sv) rfl (Owns.drew (hoV7.alloc _)) _ 1 1 [sv (Route.nth P k)] rfl (Rd.drew (Rd.one W7 _ _)) (by simp [sv, Value.oneCell']) (by simp only [maxLen]; omega) (by omega) (by simp; have := hkp7.size; omega) ?_
            intro vV' w8 hownV hgrowV hliesV
            obtain ⟨hkp9, hbl9, hoV9, hoN9, hap9, hrow8, hrow9⟩ := grow_field (i := 5) hDlt (by omega) hkp7 hbl7 hownV hgrowV hliesV hoV7 hoN7 (fun j h1 h2 => hap7 j h2 h1) hrow7
            obtain ⟨gV, cV, rfl, _⟩ := hownV.succ
            obtain ⟨⟨d0', d1', d2', d3', d4', d5', d6'⟩, f0', f1', f2', f3', f4', f5', f6'⟩ := row7 hrow8
            have hkp8 := (hkp7.alloc (.cells #[.string ⟨(Route.nth P k).toArray⟩] 9)).drew.grown hgrowV (fun j hj => (hoV7.lt j hj).1)
            refine hK.out _ _ (hsegc _ hkp8) (fun hH2 => ?_)
            clear hK hH
            have hH := hH2; clear hH2
            try simp only [Act.put, List.setIfInBounds_toArray, List.set_cons_zero, List.set_cons_succ]
            refine Reg.only (i := 8) rfl (Reg.wanted_free rfl) (by kernel_rfl) (fun K hK => ?_)
            go_simp
            refine hK.out _ _ (hsegc _ hkp8) (fun hH2 => ?_)
            clear hK hH
            have hH := hH2; clear hH2
            try simp only [Act.put, List.setIfInBounds_toArray, List.set_cons_zero, List.set_cons_succ]
            refine Reg.only (i := 9) rfl (Reg.wanted_free rfl) (by kernel_rfl) (fun K hK => ?_)
            go_simp
            refine hK.out _ _ (hsegc _ hkp9) (fun hH2 => ?_)
            clear hK hH
            have hH := hH2; clear hH2
            try simp only [Act.put, List.setIfInBounds_toArray, List.set_cons_zero, List.set_cons_succ]
            refine wpAnyH_done (by kernel_rfl) ?_ _
            refine NoPanic.normal ?_
            go_wp2
            refine ⟨⟨k + 1, N ++ [Route.mid (Route.nth l k)], V ++ [Route.nth P k], _, _, by go_num, by omega, by omega, by simp; omega, by simp; omega, ?_, ?_, ?_, fun j h1 h2 => hap9 j h2 h1, hrow9, hkp9, hbl9⟩, by simp [intOf]; omega⟩
            · rw [← HCo.out, Route.fit_param hlt HQ.out hkp2, Route.comb_comb]
            · simpa using hoN9
            · simpa using hoV9
          · have hge : (P.length : Int) ≤ (k : Int) := by omega
            have Hn := Lib.hid (show Route.fit op l P = none by rw [← HCo.out, Route.fit_short hlt (by rw [HQ.out]; decide) (by omega)]; rfl)
            go_wp2_with fail
            try rw [Exit.noGoto_ret]
            obtain ⟨Wf, hWf⟩ : ∃ Wf, Wf = set7 (wr) (w.heap.size + 1) (.bool false) (.slice none 0 0) (.int .i64 0) (.string ⟨#[]⟩) (.slice none 0 0) (.slice none 0 0) (.string ⟨#[]⟩) := ⟨_, rfl⟩
            have hrf : Wf.heap[w.heap.size + 1]? = some (.cells [.bool false, .slice none 0 0, .int .i64 0, .string ⟨#[]⟩, .slice none 0 0, .slice none 0 0, .string ⟨#[]⟩].toArray 43 (0, 0)) := by rw [hWf]; exact set7_row (hrR)
            have hbf : Below w.heap.size w Wf := by rw [hWf]; exact set7_below (hbl) (by omega)
            unfold set7 at hWf
            rw [← hWf]
            clear hWf
            obtain ⟨⟨z0, z1, z2, z3, z4, z5, z6⟩, _⟩ := row7 hrf
            refine bodyPost_ret (v := .agg #[.bool false, .slice none 0 0, .int .i64 0, .string ⟨#[]⟩, .slice none 0 0, .slice none 0 0, .string ⟨#[]⟩]) (by simp [results, Try.results36, go_sem, z0, z1, z2, z3, z4, z5, z6]) rfl ⟨_, rfl, ?_, hbf⟩
            rw [Hn.out]
            exact rfl
        · have Hn := Lib.hid (show Route.fit op l P = some (N, V, Route.restOf op (P.drop k)) by rw [← HCo.out, Route.fit_rest hlt HQ.out]; simp [Route.comb])
          obtain ⟨aN, cN0, rfl, _⟩ := hoN.form
          obtain ⟨aV, cV0, rfl, _⟩ := hoV.form
          go_wp2
          go_loopw [11] (fun i wr => RestI w U D N V P k (.slice ca l.length cc) (.int .i64 kd) (.string ⟨t.toArray⟩) (.slice aN N.length cN0) (.slice aV V.length cV0) i wr) (fun i _ => P.length - (intOf i).toNat)
          case atStart => exact ⟨k, rfl, Nat.le_refl _, hkP, hoN, hoV, by rw [Nat.sub_self]; exact hrow, hkp, hbl⟩
          case round =>
            clear d0 d1 d2 d3 d4 d5 d6 f0 f1 f2 f3 f4 f5 f6 r0 r1 r2 r3 r4 r5 r6 e0 e1 e2 e3 e4 e5 e6 x0 x1 x2 hbx hcell hrR hcl hseg hoN hoV hrow hkp hbl hap hkd hbb
            obtain ⟨n, rfl, hkn, hnP, hoN, hoV, hrow, hkp, hbl⟩ := hrel
            obtain ⟨⟨d0, d1, d2, d3, d4, d5, d6⟩, f0, f1, f2, f3, f4, f5, f6⟩ := row7 hrow
            have hrR := (hkp.block (w.heap.size + 1) (by omega) (by omega)).trans hRU
            by_cases hnl : n < P.length
            · have hnl' : (n : Int) < (P.length : Int) := by omega
              have HG := Lib.hid (glue_take hkn hnl)
              obtain ⟨sd, sx, rfl, hsdb, hPs, _⟩ := Strs.get (hrU.kp hkp hsne) hnl
              obtain rfl := Route.nth_get hPs
              have hsegc : ∀ W, Kp D U W → W.cell? (sd.add n) = some (.string ⟨(Route.nth P n).toArray⟩) := fun W hK => by
                obtain ⟨ad', s', e1, _, e2, e3⟩ := Strs.get (hrU.kp hK hsne) hnl
                cases e1
                rw [hPs] at e2
                cases e2
                exact e3
              have hscell := hsegc _ hkp
              obtain ⟨G, hG⟩ : ∃ G, G = Dots.glue ((P.drop k).take (n - k)) := ⟨_, rfl⟩
              rw [← hG] at hrow d6
              have HGG := Lib.hid hG
              rw [← hG] at HG
              have hGl : G.length ≤ 128 := by rw [hG]; exact Nat.le_trans (glue_le _) (Nat.le_trans (body_take_le _ _) (Nat.le_trans (body_drop_le P k) hbody))
              have hPl : (Route.nth P n).length ≤ 128 := Nat.le_trans (body_each P _ (List.mem_of_getElem? hPs)) hbody
              have hc1 : ¬ 9223372036854775807 < (Route.nth P n).length := by omega
              have hc2 : ¬ 9223372036854775807 < G.length + 1 := by omega
              have hc3 : ¬ 9223372036854775807 < G.length + 1 + (Route.nth P n).length := by omega
              have hJ0 : (⟨#[]⟩ ++ ⟨(Route.nth P n).toArray⟩ : ByteArray) = ⟨(Route.nth P n).toArray⟩ := bs_add [] (Route.nth P n)
              have hPlen : P.length ≤ 128 := Nat.le_trans (body_count P) hbody
              clear hG
              by_cases hnk : n = k
              · have hnk' : (n : Int) ≤ (k : Int) := by omega
                have HE := Lib.hid hnk
                have hG0 : G = [] := by rw [HGG.out, hnk, Nat.sub_self]; rfl
                subst hG0
                have hkpA := hkp
                clear hnk
                go_wp2
                refine wp_region_noPanic ?_
                refine wp_region_held_drew (S := fun w' => w'.cell? (sd.add n) = some (.string ⟨(Route.nth P n).toArray⟩)) (by kernel_rfl) ?_ (fun hH => ?_)
                · exact (hsegc _ hkpA.drew)
                refine Reg.take (i := 0) (u := ?u1v0) rfl rfl rfl (by kernel_rfl) (by kernel_rfl) (by kernel_rfl) hH ?u1y0 ?u1r0
                case u1y0 => (intro w hSw; (try dsimp only at hSw); go_simp; try (with_reducible rfl))
                case' u1r0 => simp only [List.setIfInBounds_toArray, List.set_cons_zero, List.set_cons_succ]
                refine Reg.take (i := 2) (u := ?u1v2) rfl rfl rfl (by kernel_rfl) (by kernel_rfl) (by kernel_rfl) hH ?u1y2 ?u1r2
                case u1y2 => (intro w hSw; (try dsimp only at hSw); go_simp; try (with_reducible rfl))
                case' u1r2 => simp only [List.setIfInBounds_toArray, List.set_cons_zero, List.set_cons_succ]
                refine Reg.take (i := 3) (u := ?u1v3) rfl rfl rfl (by kernel_rfl) (by kernel_rfl) (by kernel_rfl) hH ?u1y3 ?u1r3
                case u1y3 => (intro w hSw; (try dsimp only at hSw); go_simp; try (with_reducible rfl))
                case' u1r3 => simp only [List.setIfInBounds_toArray, List.set_cons_zero, List.set_cons_succ]
                refine Reg.take (i := 4) (u := ?u1v4) rfl rfl rfl (by kernel_rfl) (by kernel_rfl) (by kernel_rfl) hH ?u1y4 ?u1r4
                case u1y4 => (intro w hSw; (try dsimp only at hSw); go_simp; try (with_reducible rfl))
                case' u1r4 => simp only [List.setIfInBounds_toArray, List.set_cons_zero, List.set_cons_succ]
                refine Reg.take (i := 5) (u := ?u1v5) rfl rfl rfl (by kernel_rfl) (by kernel_rfl) (by kernel_rfl) hH ?u1y5 ?u1r5
                case u1y5 => (intro w hSw; (try dsimp only at hSw); go_simp; try (with_reducible rfl))
                case' u1r5 => simp only [List.setIfInBounds_toArray, List.set_cons_zero, List.set_cons_succ]
                refine Reg.only (i := 1) rfl (Reg.wanted_free rfl) (by kernel_rfl) (fun K hK => ?_)
                go_simp
                refine hK.out _ _ (hsegc _ hkpA.drew) (fun hH2 => ?_)
                clear hK hH
                have hH := hH2; clear hH2
                try simp only [Act.put, List.setIfInBounds_toArray, List.set_cons_zero, List.set_cons_succ]
                refine Reg.only (i := 6) rfl (Reg.wanted_free rfl) (by kernel_rfl) (fun K hK => ?_)
                go_simp
                refine hK.out _ _ (hsegc _ hkpA.drew) (fun hH2 => ?_)
                clear hK hH
                have hH := hH2; clear hH2
                try simp only [Act.put, List.setIfInBounds_toArray, List.set_cons_zero, List.set_cons_succ]
                refine Reg.only (i := 7) rfl (Reg.wanted_free rfl) (by kernel_rfl) (fun K hK => ?_)
                go_simp
                refine hK.out _ _ (hsegc _ hkpA.drew) (fun hH2 => ?_)
                clear hK hH
                have hH := hH2; clear hH2
                try simp only [Act.put, List.setIfInBounds_toArray, List.set_cons_zero, List.set_cons_succ]
                refine Reg.only (i := 8) rfl (Reg.wanted_free rfl) (by kernel_rfl) (fun K hK => ?_)
                go_simp
                refine hK.out _ _ (hsegc _ (hkpA.drew.setD 6 _)) (fun hH2 => ?_)
                clear hK hH
                have hH := hH2; clear hH2
                try simp only [Act.put, List.setIfInBounds_toArray, List.set_cons_zero, List.set_cons_succ]
                refine wpAnyH_done (by kernel_rfl) ?_ _
                refine NoPanic.normal ?_
                go_wp2
                refine ⟨⟨n + 1, by go_num, by omega, by omega, (hoN.setOld (p := ⟨D, 6, none⟩) hDlt _).drew, (hoV.setOld (p := ⟨D, 6, none⟩) hDlt _).drew, ?_, (hkp.setD 6 _).drew, (hbl.setCell (p := ⟨D, 6, none⟩) (by show w.heap.size ≤ D; omega) _).drew⟩, by simp [intOf]; omega⟩
                rw [HG.out, if_pos HE.out]
                exact set_row (w := wr) hrow 6 (.string ⟨(Route.nth P n).toArray⟩)
              · have hnk' : (k : Int) < (n : Int) := by omega
                have HE := Lib.hid hnk
                have hrowA := set_row hrow 6 (.string ⟨(G ++ [47]).toArray⟩)
                have hJs : (⟨G.toArray⟩ ++ ⟨#[47]⟩ : ByteArray) = ⟨(G ++ [47]).toArray⟩ := bs_add G [47]
                have hJt : (⟨(G ++ [47]).toArray⟩ ++ ⟨(Route.nth P n).toArray⟩ : ByteArray) = ⟨(G ++ 47 :: Route.nth P n).toArray⟩ := (bs_add (G ++ [47]) (Route.nth P n)).trans (by simp)
                have hkpA := hkp.setD 6 (.string ⟨(G ++ [47]).toArray⟩)
                obtain ⟨⟨d0', d1', d2', d3', d4', d5', d6'⟩, f0', f1', f2', f3', f4', f5', f6'⟩ := row7 hrowA
                have hscellA := hsegc _ hkpA
                go_wp2
                refine wp_region_noPanic ?_
                refine wp_region_held_drew (S := fun w' => w'.cell? (sd.add n) = some (.string ⟨(Route.nth P n).toArray⟩)) (by kernel_rfl) ?_ (fun hH => ?_)
                · exact (hsegc _ hkpA.drew)
                refine Reg.take (i := 0) (u := ?u2v0) rfl rfl rfl (by kernel_rfl) (by kernel_rfl) (by kernel_rfl) hH ?u2y0 ?u2r0
                case u2y0 => (intro w hSw; (try dsimp only at hSw); go_simp; try (with_reducible rfl))
                case' u2r0 => simp only [List.setIfInBounds_toArray, List.set_cons_zero, List.set_cons_succ]
                refine Reg.take (i := 2) (u := ?u2v2) rfl rfl rfl (by kernel_rfl) (by kernel_rfl) (by kernel_rfl) hH ?u2y2 ?u2r2
                case u2y2 => (intro w hSw; (try dsimp only at hSw); go_simp; try (with_reducible rfl))
                case' u2r2 => simp only [List.setIfInBounds_toArray, List.set_cons_zero, List.set_cons_succ]
                refine Reg.take (i := 3) (u := ?u2v3) rfl rfl rfl (by kernel_rfl) (by kernel_rfl) (by kernel_rfl) hH ?u2y3 ?u2r3
                case u2y3 => (intro w hSw; (try dsimp only at hSw); go_simp; try (with_reducible rfl))
                case' u2r3 => simp only [List.setIfInBounds_toArray, List.set_cons_zero, List.set_cons_succ]
                refine Reg.take (i := 4) (u := ?u2v4) rfl rfl rfl (by kernel_rfl) (by kernel_rfl) (by kernel_rfl) hH ?u2y4 ?u2r4
                case u2y4 => (intro w hSw; (try dsimp only at hSw); go_simp; try (with_reducible rfl))
                case' u2r4 => simp only [List.setIfInBounds_toArray, List.set_cons_zero, List.set_cons_succ]
                refine Reg.take (i := 5) (u := ?u2v5) rfl rfl rfl (by kernel_rfl) (by kernel_rfl) (by kernel_rfl) hH ?u2y5 ?u2r5
                case u2y5 => (intro w hSw; (try dsimp only at hSw); go_simp; try (with_reducible rfl))
                case' u2r5 => simp only [List.setIfInBounds_toArray, List.set_cons_zero, List.set_cons_succ]
                refine Reg.only (i := 1) rfl (Reg.wanted_free rfl) (by kernel_rfl) (fun K hK => ?_)
                go_simp
                refine hK.out _ _ (hsegc _ hkpA.drew) (fun hH2 => ?_)
                clear hK hH
                have hH := hH2; clear hH2
                try simp only [Act.put, List.setIfInBounds_toArray, List.set_cons_zero, List.set_cons_succ]
                refine Reg.only (i := 6) rfl (Reg.wanted_free rfl) (by kernel_rfl) (fun K hK => ?_)
                go_simp
                refine hK.out _ _ (hsegc _ hkpA.drew) (fun hH2 => ?_)
                clear hK hH
                have hH := hH2; clear hH2
                try simp only [Act.put, List.setIfInBounds_toArray, List.set_cons_zero, List.set_cons_succ]
                refine Reg.only (i := 7) rfl (Reg.wanted_free rfl) (by kernel_rfl) (fun K hK => ?_)
                go_simp
                refine hK.out _ _ (hsegc _ hkpA.drew) (fun hH2 => ?_)
                clear hK hH
                have hH := hH2; clear hH2
                try simp only [Act.put, List.setIfInBounds_toArray, List.set_cons_zero, List.set_cons_succ]
                refine Reg.only (i := 8) rfl (Reg.wanted_free rfl) (by kernel_rfl) (fun K hK => ?_)
                go_simp
                refine hK.out _ _ (hsegc _ (hkpA.drew.setD 6 _)) (fun hH2 => ?_)
                clear hK hH
                have hH := hH2; clear hH2
                try simp only [Act.put, List.setIfInBounds_toArray, List.set_cons_zero, List.set_cons_succ]
                refine wpAnyH_done (by kernel_rfl) ?_ _
                refine NoPanic.normal ?_
                go_wp2
                refine ⟨⟨n + 1, by go_num, by omega, by omega, ((hoN.setOld (p := ⟨D, 6, none⟩) hDlt _).setOld (p := ⟨D, 6, none⟩) hDlt _).drew, ((hoV.setOld (p := ⟨D, 6, none⟩) hDlt _).setOld (p := ⟨D, 6, none⟩) hDlt _).drew, ?_, (hkpA.setD 6 _).drew, ((hbl.setCell (p := ⟨D, 6, none⟩) (by show w.heap.size ≤ D; omega) _).setCell (p := ⟨D, 6, none⟩) (by show w.heap.size ≤ D; omega) _).drew⟩, by simp [intOf]; omega⟩
                rw [HG.out, if_neg HE.out]
                have hz : ((wr.setCell ⟨D, 6, none⟩ (.string ⟨(G ++ [47]).toArray⟩)).setCell ⟨D, 6, none⟩ (.string ⟨(G ++ 47 :: Route.nth P n).toArray⟩)).heap[D]? = some (.cells [.bool true, .slice ca l.length cc, .int .i64 kd, .string ⟨t.toArray⟩, .slice aN N.length cN0, .slice aV V.length cV0, .string ⟨(G ++ 47 :: Route.nth P n).toArray⟩].toArray 43 (0, 0)) := set_row hrowA 6 (.string ⟨(G ++ 47 :: Route.nth P n).toArray⟩)
                exact hz
            · obtain rfl : n = P.length := by omega
              have hall : (P.drop k).take (P.length - k) = P.drop k := List.take_of_length_le (by simp)
              rw [hall] at hrow d6
              obtain ⟨G, hG⟩ : ∃ G, G = Dots.glue (P.drop k) := ⟨_, rfl⟩
              have hGl : G.length ≤ 128 := by rw [hG]; exact Nat.le_trans (glue_le _) (Nat.le_trans (body_drop_le P k) hbody)
              rw [← hG] at hrow d6
              have HGG := Lib.hid hG
              clear hG hall
              have hc2 : ¬ 9223372036854775807 < G.length + 1 := by omega
              have hcl := hcU.kp hkp hcne
              obtain ⟨⟨r0, r1, r2, r3, r4, r5, r6⟩, e0, e1, e2, e3, e4, e5, e6⟩ := row7 hrR
              have hidx : p.size - 1 < p.size := by omega
              have hlast := last_eq p op HO.out.symm hidx
              have hwp : IntKind.i64.wrap ((p.size : Int) - 1) = (p.size : Int) - 1 := IntWalk.i64_in _ (by omega)
              have hnn : ¬ (P.length : Int) < (P.length : Int) := by omega
              by_cases hkp2 : k < P.length
              · have hkl : (k : Int) < (P.length : Int) := by omega
                have hPd : P.drop k ≠ [] := by intro e; have := congrArg List.length e; simp at this; omega
                have Hn2 := Lib.hid (show Route.fit op l P = some (N, V, G ++ if op then [47] else []) by rw [Hn.out, HGG.out]; simp [Route.restOf, hPd])
                clear hPd
                rcases op with _ | _
                · go_wp2_with fail
                  try rw [Exit.noGoto_ret]
                  obtain ⟨Wf, hWf⟩ : ∃ Wf, Wf = set7 (wr) (w.heap.size + 1) (.bool true) (.slice ca l.length cc) (.int .i64 kd) (.string ⟨t.toArray⟩) (.slice aN N.length cN0) (.slice aV V.length cV0) (.string ⟨G.toArray⟩) := ⟨_, rfl⟩
                  have hrf : Wf.heap[w.heap.size + 1]? = some (.cells [.bool true, .slice ca l.length cc, .int .i64 kd, .string ⟨t.toArray⟩, .slice aN N.length cN0, .slice aV V.length cV0, .string ⟨G.toArray⟩].toArray 43 (0, 0)) := by rw [hWf]; exact set7_row (hrR)
                  have hbf : Below w.heap.size w Wf := by rw [hWf]; exact set7_below (hbl) (by omega)
                  have sl1 : SlAt Wf w.heap.size (.slice ca l.length cc) l := by rw [hWf]; exact ⟨ca, cc, rfl, hcc, hccm, Rd.set7 (hcl) hcneR, hcge⟩
                  have sl2 : SlAt Wf w.heap.size (.slice aN N.length cN0) N := by rw [hWf]; exact SlAt.of_owns (Owns.set7 (hoN) (by omega)) (by omega)
                  have sl3 : SlAt Wf w.heap.size (.slice aV V.length cV0) V := by rw [hWf]; exact SlAt.of_owns (Owns.set7 (hoV) (by omega)) (by omega)
                  unfold set7 at hWf
                  rw [← hWf]
                  clear hWf
                  obtain ⟨⟨z0, z1, z2, z3, z4, z5, z6⟩, _⟩ := row7 hrf
                  refine bodyPost_ret (v := .agg #[.bool true, .slice ca l.length cc, .int .i64 kd, .string ⟨t.toArray⟩, .slice aN N.length cN0, .slice aV V.length cV0, .string ⟨G.toArray⟩]) (by simp [results, Try.results51, go_sem, z0, z1, z2, z3, z4, z5, z6]) rfl ⟨_, rfl, ?_, hbf⟩
                  rw [Hn2.out]
                  exact ⟨_, _, _, by simp, sl1, sl2, sl3⟩
                · have hJs : (⟨G.toArray⟩ ++ ⟨#[47]⟩ : ByteArray) = ⟨(G ++ [47]).toArray⟩ := bs_add G [47]
                  have hrow8 := set_row hrow 6 (.string ⟨(G ++ [47]).toArray⟩)
                  have hrR8 := (Below.heap_setCell wr ⟨D, 6, none⟩ (.string ⟨(G ++ [47]).toArray⟩) (w.heap.size + 1) (by show w.heap.size + 1 ≠ D; omega)).trans hrR
                  have hbl8 : Below w.heap.size w (wr.setCell ⟨D, 6, none⟩ (.string ⟨(G ++ [47]).toArray⟩)) := hbl.setCell (by show w.heap.size ≤ D; omega) _
                  have hcl8 := (hcU.kp (hkp.setD 6 (.string ⟨(G ++ [47]).toArray⟩)) hcne)
                  have hoN8 := hoN.setOld (p := ⟨D, 6, none⟩) hDlt (.string ⟨(G ++ [47]).toArray⟩)
                  have hoV8 := hoV.setOld (p := ⟨D, 6, none⟩) hDlt (.string ⟨(G ++ [47]).toArray⟩)
                  obtain ⟨⟨d0', d1', d2', d3', d4', d5', d6'⟩, f0', f1', f2', f3', f4', f5', f6'⟩ := row7 hrow8
                  obtain ⟨⟨r0', r1', r2', r3', r4', r5', r6'⟩, e0', e1', e2', e3', e4', e5', e6'⟩ := row7 hrR8
                  go_wp2_with fail
                  try rw [Exit.noGoto_ret]
                  obtain ⟨Wf, hWf⟩ : ∃ Wf, Wf = set7 (wr.setCell ⟨D, 6, none⟩ (.string ⟨(G ++ [47]).toArray⟩)) (w.heap.size + 1) (.bool true) (.slice ca l.length cc) (.int .i64 kd) (.string ⟨t.toArray⟩) (.slice aN N.length cN0) (.slice aV V.length cV0) (.string ⟨(G ++ [47]).toArray⟩) := ⟨_, rfl⟩
                  have hrf : Wf.heap[w.heap.size + 1]? = some (.cells [.bool true, .slice ca l.length cc, .int .i64 kd, .string ⟨t.toArray⟩, .slice aN N.length cN0, .slice aV V.length cV0, .string ⟨(G ++ [47]).toArray⟩].toArray 43 (0, 0)) := by rw [hWf]; exact set7_row (hrR8)
                  have hbf : Below w.heap.size w Wf := by rw [hWf]; exact set7_below (hbl8) (by omega)
                  have sl1 : SlAt Wf w.heap.size (.slice ca l.length cc) l := by rw [hWf]; exact ⟨ca, cc, rfl, hcc, hccm, Rd.set7 (hcl8) hcneR, hcge⟩
                  have sl2 : SlAt Wf w.heap.size (.slice aN N.length cN0) N := by rw [hWf]; exact SlAt.of_owns (Owns.set7 (hoN8) (by omega)) (by omega)
                  have sl3 : SlAt Wf w.heap.size (.slice aV V.length cV0) V := by rw [hWf]; exact SlAt.of_owns (Owns.set7 (hoV8) (by omega)) (by omega)
                  unfold set7 at hWf
                  rw [← hWf]
                  clear hWf
                  obtain ⟨⟨z0, z1, z2, z3, z4, z5, z6⟩, _⟩ := row7 hrf
                  refine bodyPost_ret (v := .agg #[.bool true, .slice ca l.length cc, .int .i64 kd, .string ⟨t.toArray⟩, .slice aN N.length cN0, .slice aV V.length cV0, .string ⟨(G ++ [47]).toArray⟩]) (by simp [results, Try.results51, go_sem, z0, z1, z2, z3, z4, z5, z6]) rfl ⟨_, rfl, ?_, hbf⟩
                  rw [Hn2.out]
                  exact ⟨_, _, _, rfl, sl1, sl2, sl3⟩
              · have hkl : (P.length : Int) ≤ (k : Int) := by omega
                have hkl' : ¬ (k : Int) < (P.length : Int) := by omega
                have hG0 : G = [] := by rw [HGG.out, List.drop_eq_nil_of_le (by omega)]; rfl
                have Hn2 := Lib.hid (show Route.fit op l P = some (N, V, G) by rw [Hn.out, HGG.out, List.drop_eq_nil_of_le (by omega)]; simp [Route.restOf, Dots.glue])
                clear hG0
                go_wp2_with fail
                try rw [Exit.noGoto_ret]
                obtain ⟨Wf, hWf⟩ : ∃ Wf, Wf = set7 (wr) (w.heap.size + 1) (.bool true) (.slice ca l.length cc) (.int .i64 kd) (.string ⟨t.toArray⟩) (.slice aN N.length cN0) (.slice aV V.length cV0) (.string ⟨G.toArray⟩) := ⟨_, rfl⟩
                have hrf : Wf.heap[w.heap.size + 1]? = some (.cells [.bool true, .slice ca l.length cc, .int .i64 kd, .string ⟨t.toArray⟩, .slice aN N.length cN0, .slice aV V.length cV0, .string ⟨G.toArray⟩].toArray 43 (0, 0)) := by rw [hWf]; exact set7_row (hrR)
                have hbf : Below w.heap.size w Wf := by rw [hWf]; exact set7_below (hbl) (by omega)
                have sl1 : SlAt Wf w.heap.size (.slice ca l.length cc) l := by rw [hWf]; exact ⟨ca, cc, rfl, hcc, hccm, Rd.set7 (hcl) hcneR, hcge⟩
                have sl2 : SlAt Wf w.heap.size (.slice aN N.length cN0) N := by rw [hWf]; exact SlAt.of_owns (Owns.set7 (hoN) (by omega)) (by omega)
                have sl3 : SlAt Wf w.heap.size (.slice aV V.length cV0) V := by rw [hWf]; exact SlAt.of_owns (Owns.set7 (hoV) (by omega)) (by omega)
                unfold set7 at hWf
                rw [← hWf]
                clear hWf
                obtain ⟨⟨z0, z1, z2, z3, z4, z5, z6⟩, _⟩ := row7 hrf
                refine bodyPost_ret (v := .agg #[.bool true, .slice ca l.length cc, .int .i64 kd, .string ⟨t.toArray⟩, .slice aN N.length cN0, .slice aV V.length cV0, .string ⟨G.toArray⟩]) (by simp [results, Try.results51, go_sem, z0, z1, z2, z3, z4, z5, z6]) rfl ⟨_, rfl, ?_, hbf⟩
                rw [Hn2.out]
                exact ⟨_, _, _, rfl, sl1, sl2, sl3⟩
      · obtain rfl : k = l.length := by omega
        obtain ⟨⟨r0, r1, r2, r3, r4, r5, r6⟩, e0, e1, e2, e3, e4, e5, e6⟩ := row7 hrR
        by_cases hlong : l.length < P.length
        · have hgt : (l.length : Int) < (P.length : Int) := by omega
          have Hn := Lib.hid (show Route.fit op l P = none by rw [← hcomb, Route.fit_long (Nat.le_refl _) hlong]; rfl)
          clear hcomb
          go_wp2_with fail
          try rw [Exit.noGoto_ret]
          obtain ⟨Wf, hWf⟩ : ∃ Wf, Wf = set7 (wr) (w.heap.size + 1) (.bool false) (.slice none 0 0) (.int .i64 0) (.string ⟨#[]⟩) (.slice none 0 0) (.slice none 0 0) (.string ⟨#[]⟩) := ⟨_, rfl⟩
          have hrf : Wf.heap[w.heap.size + 1]? = some (.cells [.bool false, .slice none 0 0, .int .i64 0, .string ⟨#[]⟩, .slice none 0 0, .slice none 0 0, .string ⟨#[]⟩].toArray 43 (0, 0)) := by rw [hWf]; exact set7_row (hrR)
          have hbf : Below w.heap.size w Wf := by rw [hWf]; exact set7_below (hbl) (by omega)
          unfold set7 at hWf
          rw [← hWf]
          clear hWf
          obtain ⟨⟨z0, z1, z2, z3, z4, z5, z6⟩, _⟩ := row7 hrf
          refine bodyPost_ret (v := .agg #[.bool false, .slice none 0 0, .int .i64 0, .string ⟨#[]⟩, .slice none 0 0, .slice none 0 0, .string ⟨#[]⟩]) (by simp [results, Try.results36, go_sem, z0, z1, z2, z3, z4, z5, z6]) rfl ⟨_, rfl, ?_, hbf⟩
          rw [Hn.out]
          exact rfl
        · have hgt : (P.length : Int) ≤ (l.length : Int) := by omega
          have hgt' : ¬ (l.length : Int) < (P.length : Int) := by omega
          have Hn := Lib.hid (show Route.fit op l P = some (N, V, []) by rw [← hcomb, Route.fit_end (Nat.le_refl _) (by omega)]; simp [Route.comb])
          clear hcomb
          obtain ⟨aN, cN0, rfl, _⟩ := hoN.form
          obtain ⟨aV, cV0, rfl, _⟩ := hoV.form
          obtain ⟨⟨d0, d1, d2, d3, d4, d5, d6⟩, f0, f1, f2, f3, f4, f5, f6⟩ := row7 hrow
          go_wp2_with fail
          try rw [Exit.noGoto_ret]
          obtain ⟨Wf, hWf⟩ : ∃ Wf, Wf = set7 (wr) (w.heap.size + 1) (.bool true) (.slice ca l.length cc) (.int .i64 kd) (.string ⟨t.toArray⟩) (.slice aN N.length cN0) (.slice aV V.length cV0) (.string ⟨#[]⟩) := ⟨_, rfl⟩
          have hrf : Wf.heap[w.heap.size + 1]? = some (.cells [.bool true, .slice ca l.length cc, .int .i64 kd, .string ⟨t.toArray⟩, .slice aN N.length cN0, .slice aV V.length cV0, .string ⟨#[]⟩].toArray 43 (0, 0)) := by rw [hWf]; exact set7_row (hrR)
          have hbf : Below w.heap.size w Wf := by rw [hWf]; exact set7_below (hbl) (by omega)
          have sl1 : SlAt Wf w.heap.size (.slice ca l.length cc) l := by rw [hWf]; exact ⟨ca, cc, rfl, hcc, hccm, Rd.set7 (hcl) hcneR, hcge⟩
          have sl2 : SlAt Wf w.heap.size (.slice aN N.length cN0) N := by rw [hWf]; exact SlAt.of_owns (Owns.set7 (hoN) (by omega)) (by omega)
          have sl3 : SlAt Wf w.heap.size (.slice aV V.length cV0) V := by rw [hWf]; exact SlAt.of_owns (Owns.set7 (hoV) (by omega)) (by omega)
          unfold set7 at hWf
          rw [← hWf]
          clear hWf
          obtain ⟨⟨z0, z1, z2, z3, z4, z5, z6⟩, _⟩ := row7 hrf
          refine bodyPost_ret (v := .agg #[.bool true, .slice ca l.length cc, .int .i64 kd, .string ⟨t.toArray⟩, .slice aN N.length cN0, .slice aV V.length cV0, .string ⟨#[]⟩]) (by simp [results, Try.results36, go_sem, z0, z1, z2, z3, z4, z5, z6]) rfl ⟨_, rfl, ?_, hbf⟩
          rw [Hn.out]
          exact ⟨_, _, _, rfl, sl1, sl2, sl3⟩


end Go.Proofs.Ytefilalapkdegaa
