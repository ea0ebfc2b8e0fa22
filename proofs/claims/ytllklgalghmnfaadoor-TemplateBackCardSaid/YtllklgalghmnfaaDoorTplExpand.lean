/- template.expand, plainly; where Check errs. -/
import Derived.Test.YtllklgalghmnfaaDoorTplValueRow
namespace Go.Proofs.YtllklgalghmnfaaDoor
open Go.RowKit Str Mem Tp
set_option linter.unusedVariables false
set_option linter.unusedSimpArgs false

/-- What a part puts into the text, by a function of its value. -/
def pieceR (f : Tp.Bs → Tp.Bs) (R C : List Tp.Bs) (x1 x2 x3 x4 : Tp.Bs) (p : Part) : Tp.Bs := if p.k = 1 then p.t else f (valueR R C x1 x2 x3 x4 p)
/-- The text so far and more parts: none when it grows beyond what is asked. -/
def expTo (f : Tp.Bs → Tp.Bs) (R C : List Tp.Bs) (x1 x2 x3 x4 : Tp.Bs) (most : Int) : List Part → Tp.Bs → Option Tp.Bs
  | [], out => some out
  | p :: L, out => if most < (out ++ pieceR f R C x1 x2 x3 x4 p).length then none else expTo f R C x1 x2 x3 x4 most L (out ++ pieceR f R C x1 x2 x3 x4 p)
def expandR (f : Tp.Bs → Tp.Bs) (R C : List Tp.Bs) (x1 x2 x3 x4 : Tp.Bs) (most : Int) (L : List Part) : Tp.Bs × Int :=
  if checkR L ≠ 0 then ([], checkR L) else if 10 < R.length ∨ 10 < C.length ∨ most < 0 ∨ 1024 < most then ([], 2) else match expTo f R C x1 x2 x3 x4 most L [] with
    | some t => (t, 0)
    | none => ([], 4)
theorem checkR_fit (L : List Part) (h : checkR L = 0) (ht : ∀ p ∈ L, p.t.length ≤ 100000) : ∀ p ∈ L, oneE p = 0 ∧ fitW p := by
  have hc : checkTo L false = 0 := by
    unfold checkR at h
    split at h
    · exact h
    · rename_i h0; simpa using h0
  clear h
  have main : ∀ (L : List Part) (b : Bool), checkTo L b = 0 → ∀ p ∈ L, oneE p = 0 := by
    intro L
    induction L with
    | nil => intro b _ p hp; simp at hp
    | cons q L ih =>
      intro b h p hp
      unfold checkTo at h
      split at h
      · rename_i h0; exact absurd h h0
      · rename_i h0
        split at h
        · cases h
        · rcases List.mem_cons.1 hp with rfl | hp
          · simpa using h0
          · exact ih _ h p hp
  exact fun p hp => ⟨main L false hc p hp, one_fit p (main L false hc p hp) (ht p hp)⟩
theorem through_id (s : Tp.Bs) (w : World) : Calls Tryd.prog 65 #[.string (bs s)] w fun e w' => e = .returned (.string (bs s)) ∧ Below w.heap.size w w' := by
  go_enter Tryd.func65, Tryd.ntmps65
  go_wp2_with fail
  go_ret
  exact ⟨rfl, Below.refl _ _⟩

set_option maxRecDepth 100000 in
set_option maxHeartbeats 4000000 in
theorem expand_err (G : Nat) (caps : Array Value) (most : Int) (a b e : Option Addr) (ca c d : Nat) (f : Tp.Bs → Tp.Bs) (L : List Part) (R C : List Tp.Bs) (x1 x2 x3 x4 : Tp.Bs) (w : World) (hP : Parts w a L.length L) (hn : L.length ≤ 100000) (hc : L.length ≤ ca) (hcm : ca ≤ maxLen) (ht : ∀ p ∈ L, p.t.length ≤ 100000) (hN : Nm w)
    (hE : checkR L ≠ 0) :
    Calls Tryd.prog 64 #[.slice a L.length ca, valsV b R.length c e C.length d x1 x2 x3 x4, .int .i64 most, .func (.func G) #[] caps] w fun e w' => e = .returned (.tuple #[.string (bs (expandR f R C x1 x2 x3 x4 most L).1), .int .i64 (expandR f R C x1 x2 x3 x4 most L).2]) ∧ Below w.heap.size w w' := by
  have hb := (Below.refl _ w).alloc (Nat.le_refl _) (.cells #[.slice b R.length c, .slice e C.length d, .string (bs x1), .string (bs x2), .string (bs x3), .string (bs x4)] 53)
  have hP2 : Parts _ a L.length L := Rd.below hP hb
  have hN2 := hN.below hb hN.lt
  have hck := fun W h1 h2 => check_any a ca L W h1 hn hc hcm ht h2
  have hv : expandR f R C x1 x2 x3 x4 most L = ([], checkR L) := by unfold expandR; rw [if_pos hE]
  rw [hv]
  clear hv
  obtain ⟨V, hV⟩ : ∃ V, checkR L = V := ⟨_, rfl⟩
  rw [hV] at hck hE ⊢
  clear hV
  have hE1 : (V == 0) = false := by simpa using hE
  have HP := Lib.hid hP2
  have HN := Lib.hid hN2
  have HB := Lib.hid hb
  clear hP2 hN2 hP hN hb ht
  unfold valsV
  go_enter Tryd.func64, Tryd.ntmps64
  go_wp2_with fail
  refine (hck _ HP.out HN.out).mono ?_
  rintro e w2 ⟨rfl, h2⟩
  have hb2 := HB.out.trans (h2.mono HB.out.size)
  go_wp2_with fail
  refine bodyPost_ret (v := .tuple #[.string ⟨#[]⟩, .int .i64 V]) (by simp [results, Tryd.results64, go_sem]) rfl ⟨rfl, hb2⟩
end Go.Proofs.YtllklgalghmnfaaDoor
namespace Go.Proofs.YtllklgalghmnfaaDoor
open Go.RowKit Str Mem Tp
set_option linter.unusedVariables false
set_option linter.unusedSimpArgs false

theorem expand_out (f : Tp.Bs → Tp.Bs) (L : List Part) (R C : List Tp.Bs) (x1 x2 x3 x4 : Tp.Bs) (most : Int) (hE : checkR L = 0) (hs : 10 < R.length ∨ 10 < C.length ∨ most < 0 ∨ 1024 < most) : expandR f R C x1 x2 x3 x4 most L = ([], 2) := by
  unfold expandR; rw [if_neg (by omega), if_pos hs]
set_option maxRecDepth 100000 in
set_option maxHeartbeats 4000000 in
theorem expand_two (G : Nat) (caps : Array Value) (most : Int) (a b e : Option Addr) (ca c d : Nat) (f : Tp.Bs → Tp.Bs) (L : List Part) (R C : List Tp.Bs) (x1 x2 x3 x4 : Tp.Bs) (w : World) (hP : Parts w a L.length L) (hn : L.length ≤ 100000) (hc : L.length ≤ ca) (hcm : ca ≤ maxLen) (ht : ∀ p ∈ L, p.t.length ≤ 100000) (hN : Nm w)
    (hE : checkR L = 0) (hs : 10 < R.length ∨ 10 < C.length ∨ most < 0 ∨ 1024 < most) :
    Calls Tryd.prog 64 #[.slice a L.length ca, valsV b R.length c e C.length d x1 x2 x3 x4, .int .i64 most, .func (.func G) #[] caps] w fun e w' => e = .returned (.tuple #[.string (bs (expandR f R C x1 x2 x3 x4 most L).1), .int .i64 (expandR f R C x1 x2 x3 x4 most L).2]) ∧ Below w.heap.size w w' := by
  have hb := (Below.refl _ w).alloc (Nat.le_refl _) (.cells #[.slice b R.length c, .slice e C.length d, .string (bs x1), .string (bs x2), .string (bs x3), .string (bs x4)] 53)
  have hrow := World.alloc_heap_new w (.cells #[.slice b R.length c, .slice e C.length d, .string (bs x1), .string (bs x2), .string (bs x3), .string (bs x4)] 53)
  have hP2 : Parts _ a L.length L := Rd.below hP hb
  have hN2 := hN.below hb hN.lt
  have hck := fun W h1 h2 => check_any a ca L W h1 hn hc hcm ht h2
  rw [expand_out f L R C x1 x2 x3 x4 most hE hs]
  rw [hE] at hck
  have HP := Lib.hid hP2
  have HN := Lib.hid hN2
  have HB := Lib.hid hb
  clear hP2 hN2 hP hN hb ht hE
  unfold valsV
  go_enter Tryd.func64, Tryd.ntmps64
  go_wp2_with fail
  refine (hck _ HP.out HN.out).mono ?_
  rintro e2 w2 ⟨rfl, h2⟩
  have hb2 := HB.out.trans (h2.mono HB.out.size)
  have hrow2 := (h2.block _ (by simp)).trans hrow
  have c0 := cell_list (cs := [.slice b R.length c, .slice e C.length d, .string (bs x1), .string (bs x2), .string (bs x3), .string (bs x4)]) hrow2 0
  have c1 := cell_list (cs := [.slice b R.length c, .slice e C.length d, .string (bs x1), .string (bs x2), .string (bs x3), .string (bs x4)]) hrow2 1
  simp only [List.getElem?_cons_zero, List.getElem?_cons_succ] at c0 c1
  clear hck
  by_cases s1 : (10 : Int) < (R.length : Int)
  · have g1 : decide ((10 : Int) < (R.length : Int)) = true := decide_eq_true s1
    go_wp2_with fail
    refine bodyPost_ret (v := .tuple #[.string ⟨#[]⟩, .int .i64 2]) (by simp [results, Tryd.results64, go_sem]) rfl ⟨rfl, hb2⟩
  by_cases s2 : (10 : Int) < (C.length : Int)
  · go_wp2_with fail
    refine bodyPost_ret (v := .tuple #[.string ⟨#[]⟩, .int .i64 2]) (by simp [results, Tryd.results64, go_sem]) rfl ⟨rfl, hb2⟩
  by_cases s3 : most < 0
  · go_wp2_with fail
    refine bodyPost_ret (v := .tuple #[.string ⟨#[]⟩, .int .i64 2]) (by simp [results, Tryd.results64, go_sem]) rfl ⟨rfl, hb2⟩
  have s4 : 1024 < most := by omega
  go_wp2_with fail
  refine bodyPost_ret (v := .tuple #[.string ⟨#[]⟩, .int .i64 2]) (by simp [results, Tryd.results64, go_sem]) rfl ⟨rfl, hb2⟩
end Go.Proofs.YtllklgalghmnfaaDoor
namespace Go.Proofs.YtllklgalghmnfaaDoor
open Go.RowKit Str Mem Tp
set_option linter.unusedVariables false
set_option linter.unusedSimpArgs false

theorem value_any (p : Part) (hp : oneE p = 0) (h1 : p.k ≠ 1) (R C : List Tp.Bs) (a b : Option Addr) (c d : Nat) (x1 x2 x3 x4 : Tp.Bs) (w : World) (hR : Strs w a R.length R) (hC : Strs w b C.length C) (hRn : R.length ≤ 1000000) (hCn : C.length ≤ 1000000) :
    Calls Tryd.prog 86 #[pv p, valsV a R.length c b C.length d x1 x2 x3 x4] w fun e w' => e = .returned (.string (bs (valueR R C x1 x2 x3 x4 p))) ∧ Below w.heap.size w w' := by
  unfold oneE at hp
  split at hp
  · cases hp
  · rename_i hk
    split at hp
    · cases hp
    · rename_i hn
      by_cases h4 : p.k = 4
      · simp [lowR, highR, h4] at hn
        exact value_var p h4 (by omega) (by omega) R C a b R.length c C.length d x1 x2 x3 x4 w
      · have hl : lowR p.k = 0 := by unfold lowR; rw [if_neg h4]
        have hh : highR p.k = 9 := by unfold highR; rw [if_neg h1, if_neg h4]
        rw [hl, hh] at hn
        obtain ⟨N, hN⟩ : ∃ N : Nat, p.n = N := ⟨p.n.toNat, by omega⟩
        exact value_row p N h4 hN (by omega) R C a b c d x1 x2 x3 x4 w hR hC hRn hCn
theorem expTo_next (f : Tp.Bs → Tp.Bs) (R C : List Tp.Bs) (x1 x2 x3 x4 : Tp.Bs) (most : Int) (L : List Part) (k : Nat) (x : Part) (h : L[k]? = some x) (out : Tp.Bs) :
    expTo f R C x1 x2 x3 x4 most (L.drop k) out = if most < (out ++ pieceR f R C x1 x2 x3 x4 x).length then none else expTo f R C x1 x2 x3 x4 most (L.drop (k + 1)) (out ++ pieceR f R C x1 x2 x3 x4 x) := by
  obtain ⟨hlt, hx⟩ := List.getElem?_eq_some_iff.1 h
  rw [List.drop_eq_getElem_cons hlt, expTo, hx]

set_option maxRecDepth 100000 in
set_option maxHeartbeats 4000000 in
theorem expand_loop (most : Int) (a b e : Option Addr) (ca c d : Nat) (f : Tp.Bs → Tp.Bs) (L : List Part) (R C : List Tp.Bs) (x1 x2 x3 x4 : Tp.Bs) (w : World) (hP : Parts w a L.length L) (hn : L.length ≤ 100000) (hc : L.length ≤ ca) (hcm : ca ≤ maxLen) (ht : ∀ p ∈ L, p.t.length ≤ 100000) (hN : Nm w)
    (hR : Strs w b R.length R) (hC : Strs w e C.length C)
    (hth : ∀ s W, Calls Tryd.prog 65 #[.string (bs s)] W fun e w' => e = .returned (.string (bs (f s))) ∧ Below W.heap.size W w')
    (hfb : ∀ p ∈ L, (f (valueR R C x1 x2 x3 x4 p)).length ≤ 1000000)
    (hE : checkR L = 0) (hs1 : ¬ 10 < R.length) (hs2 : ¬ 10 < C.length) (hs3 : ¬ most < 0) (hs4 : ¬ 1024 < most) :
    Calls Tryd.prog 64 #[.slice a L.length ca, valsV b R.length c e C.length d x1 x2 x3 x4, .int .i64 most, .func (.func 65) #[] #[]] w fun e w' => e = .returned (.tuple #[.string (bs (expandR f R C x1 x2 x3 x4 most L).1), .int .i64 (expandR f R C x1 x2 x3 x4 most L).2]) ∧ Below w.heap.size w w' := by
  have hb := (Below.refl _ w).alloc (Nat.le_refl _) (.cells #[.slice b R.length c, .slice e C.length d, .string (bs x1), .string (bs x2), .string (bs x3), .string (bs x4)] 53)
  have hrow := World.alloc_heap_new w (.cells #[.slice b R.length c, .slice e C.length d, .string (bs x1), .string (bs x2), .string (bs x3), .string (bs x4)] 53)
  have hP2 : Parts _ a L.length L := Rd.below hP hb
  have hN2 := hN.below hb hN.lt
  have hck := fun W h1 h2 => check_any a ca L W h1 hn hc hcm ht h2
  have HFIT := Lib.hid (checkR_fit L hE ht)
  have hex : expandR f R C x1 x2 x3 x4 most L = match expTo f R C x1 x2 x3 x4 most L [] with
    | some t => (t, 0)
    | none => ([], 4) := by unfold expandR; (rw [if_neg (by omega), if_neg (by omega)]) <;> rfl
  rw [hE] at hck
  obtain ⟨O, hO⟩ : ∃ O, expandR f R C x1 x2 x3 x4 most L = O := ⟨_, rfl⟩
  rw [hO] at hex ⊢
  have HEX := Lib.hid hex
  have HP := Lib.hid hP2
  have HN := Lib.hid hN2
  have HB := Lib.hid hb
  have HR := Lib.hid hR
  have HC := Lib.hid hC
  have HT := Lib.hid ht
  have HFB := Lib.hid hfb
  clear hP2 hN2 hP hN hb ht hE hO hex hR hC hfb
  have t1 : ¬ (10 : Int) < (R.length : Int) := by omega
  have t2 : ¬ (10 : Int) < (C.length : Int) := by omega
  have hv0 : valsV b R.length c e C.length d x1 x2 x3 x4 = .agg #[.slice b R.length c, .slice e C.length d, .string (bs x1), .string (bs x2), .string (bs x3), .string (bs x4)] := rfl
  rw [hv0]
  have HV0 := Lib.hid hv0
  clear hv0
  go_enter Tryd.func64, Tryd.ntmps64
  go_wp2_with fail
  refine (hck _ HP.out HN.out).mono ?_
  rintro e2 w2 ⟨rfl, h2⟩
  have hb2 := HB.out.trans (h2.mono HB.out.size)
  have hrow2 := (h2.block _ (by simp)).trans hrow
  have c0 := cell_list (cs := [.slice b R.length c, .slice e C.length d, .string (bs x1), .string (bs x2), .string (bs x3), .string (bs x4)]) hrow2 0
  have c1 := cell_list (cs := [.slice b R.length c, .slice e C.length d, .string (bs x1), .string (bs x2), .string (bs x3), .string (bs x4)]) hrow2 1
  simp only [List.getElem?_cons_zero, List.getElem?_cons_succ] at c0 c1
  have HP3 := Lib.hid (show Parts w2 a L.length L from Rd.below HP.out h2)
  have hlt2 : w.heap.size < w2.heap.size := lt_of_cells hrow2
  clear hck
  go_wp2_with fail
  go_loopg [11, 39] L.length (fun g s i wr => ∃ (k : Nat) (out : Tp.Bs), i = .int .i64 k ∧ k + g = L.length ∧ s = .string (bs out) ∧ out.length ≤ 1024 ∧ expTo f R C x1 x2 x3 x4 most L [] = expTo f R C x1 x2 x3 x4 most (L.drop k) out ∧ Below w2.heap.size w2 wr)
  case atStart => exact ⟨0, [], rfl, by omega, rfl, by simp, rfl, Below.refl _ _⟩
  case round =>
    obtain ⟨k, out, rfl, hk, rfl, hol, hexp, hbl⟩ := hrel
    have HEXP := Lib.hid hexp
    clear hexp
    by_cases hlt : k < L.length
    · obtain ⟨g', rfl⟩ : ∃ g', gk = g' + 1 := ⟨gk - 1, by omega⟩
      obtain ⟨x, hx⟩ : ∃ x, L[k]? = some x := ⟨_, List.getElem?_eq_getElem hlt⟩
      have hPr : Parts wr a L.length L := Rd.below HP3.out hbl
      obtain ⟨ad, rfl, had, g0, g1, g2⟩ := Parts.get (L := L) hPr k x hx
      have hli := fun W => literal_any x W
      unfold pv at hli
      have hrowr := World.alloc_heap_new wr (.cells #[.int .i64 x.k, .string (bs x.t), .int .i64 x.n] 59)
      have hba := (Below.refl wr.heap.size wr).alloc (Nat.le_refl _) (.cells #[.int .i64 x.k, .string (bs x.t), .int .i64 x.n] 59)
      have HX := Lib.hid hx
      have i0 : (0 : Int) ≤ (k : Int) := by omega
      have i1 : (k : Int) < (L.length : Int) := by omega
      clear hx hPr
      go_wp2_with fail
      refine (hli _).mono ?_
      rintro e3 w3 ⟨rfl, h3⟩
      have hb3 := hba.trans (h3.mono (by simp))
      have hrow3 := (h3.block _ (by simp)).trans hrowr
      have p0 := cell_list (cs := [.int .i64 x.k, .string (bs x.t), .int .i64 x.n]) hrow3 0
      have p1 := cell_list (cs := [.int .i64 x.k, .string (bs x.t), .int .i64 x.n]) hrow3 1
      have p2 := cell_list (cs := [.int .i64 x.k, .string (bs x.t), .int .i64 x.n]) hrow3 2
      have hbw3 := hbl.trans (hb3.mono hbl.size)
      have hvw := (hbw3.block _ hlt2).trans hrow2
      have q0 := cell_list (cs := [.slice b R.length c, .slice e C.length d, .string (bs x1), .string (bs x2), .string (bs x3), .string (bs x4)]) hvw 0
      have q1 := cell_list (cs := [.slice b R.length c, .slice e C.length d, .string (bs x1), .string (bs x2), .string (bs x3), .string (bs x4)]) hvw 1
      have q2 := cell_list (cs := [.slice b R.length c, .slice e C.length d, .string (bs x1), .string (bs x2), .string (bs x3), .string (bs x4)]) hvw 2
      have q3 := cell_list (cs := [.slice b R.length c, .slice e C.length d, .string (bs x1), .string (bs x2), .string (bs x3), .string (bs x4)]) hvw 3
      have q4 := cell_list (cs := [.slice b R.length c, .slice e C.length d, .string (bs x1), .string (bs x2), .string (bs x3), .string (bs x4)]) hvw 4
      have q5 := cell_list (cs := [.slice b R.length c, .slice e C.length d, .string (bs x1), .string (bs x2), .string (bs x3), .string (bs x4)]) hvw 5
      simp only [List.getElem?_cons_zero, List.getElem?_cons_succ] at p0 p1 p2 q0 q1 q2 q3 q4 q5
      have hxm : x ∈ L := List.mem_of_getElem? HX.out
      have hxt := HT.out x hxm
      have hnx := Lib.hid (expTo_next f R C x1 x2 x3 x4 most L k x HX.out out)
      rcases hlit : (x.k == 1) with _ | _
      · have hk1 : x.k ≠ 1 := by simpa using hlit
        have HPC : Hid (pieceR f R C x1 x2 x3 x4 x = f (valueR R C x1 x2 x3 x4 x)) := Lib.hid (by unfold pieceR; rw [if_neg hk1])
        have hfl := HFB.out x hxm
        have hva := fun W h1 h2 => value_any x (HFIT.out x hxm).1 hk1 R C b e c d x1 x2 x3 x4 W h1 h2 (by omega) (by omega)
        unfold pv at hva
        rw [HV0.out] at hva
        have hth2 := fun W => hth (valueR R C x1 x2 x3 x4 x) W
        obtain ⟨Z, hZ⟩ : ∃ Z, f (valueR R C x1 x2 x3 x4 x) = Z := ⟨_, rfl⟩
        rw [hZ] at HPC hth2 hfl
        obtain ⟨Y, hY⟩ : ∃ Y, valueR R C x1 x2 x3 x4 x = Y := ⟨_, rfl⟩
        rw [hY] at hva hth2
        clear hZ hY hlit hth
        have hbb3 := HB.out.trans ((h2.trans (hbw3.mono h2.size)).mono HB.out.size)
        have HR3 : Hid (Strs w3 b R.length R) := Lib.hid (Rd.keep HR.out (by have := hbw3.size; omega) (fun _ _ _ h => (hb2.trans (hbw3.mono (by omega))).block _ h))
        have HC3 : Hid (Strs w3 e C.length C) := Lib.hid (Rd.keep HC.out (by have := hbw3.size; omega) (fun _ _ _ h => (hb2.trans (hbw3.mono (by omega))).block _ h))
        go_wp2_with fail
        refine (hva _ HR3.out HC3.out).mono ?_
        rintro e5 w5 ⟨rfl, h5⟩
        go_wp2_with fail
        refine (hth2 _).mono ?_
        rintro e6 w6 ⟨rfl, h6⟩
        have hb6 := hb3.trans ((h5.trans (h6.mono h5.size)).mono hb3.size)
        clear hva hth2
        go_wp2_with fail
        refine (join2_any _ out Z _ (by first | exact World.alloc_heap_new w6 _ | exact heap_alloc_new w6 _) (by omega) (by omega)).mono ?_
        rintro e4 w9 ⟨rfl, h9⟩
        have hb9 := hb6.trans ((((Below.refl _ w6).alloc (Nat.le_refl _) _).trans (h9.mono (by simp))).mono hb6.size)
        have hsz : ((bs (out ++ Z)).size : Int) = ((out ++ Z).length : Int) := by rw [size_bs]
        obtain ⟨B, hB⟩ : ∃ B, bs (out ++ Z) = B := ⟨_, rfl⟩
        rw [hB] at hsz ⊢
        have HSZ := Lib.hid hsz
        have HBB := Lib.hid hB
        clear hB hsz
        by_cases hm : most < (B.size : Int)
        · go_wp2_with fail
          have ho := HEX.out
          rw [HEXP.out, hnx.out, HPC.out, if_pos (by have := HSZ.out; omega)] at ho
          refine bodyPost_ret (v := .tuple #[.string ⟨#[]⟩, .int .i64 4]) (by simp [results, Tryd.results64, go_sem]) rfl ⟨by (rw [ho]; try rfl), hb2.trans ((hbl.trans (hb9.mono hbl.size)).mono (by omega))⟩
        · go_wp2_with fail
          go_roundg g'
          case measure => omega
          case rel => exact ⟨k + 1, out ++ Z, by go_num, by omega, by rw [HBB.out], by have := HSZ.out; omega, by rw [HEXP.out, hnx.out, HPC.out, if_neg (by have := HSZ.out; omega)], hbl.trans (hb9.mono hbl.size)⟩
      · have HPC : Hid (pieceR f R C x1 x2 x3 x4 x = x.t) := Lib.hid (by unfold pieceR; rw [if_pos (by simpa using hlit)])
        clear hlit
        go_wp2_with fail
        refine (join2_any _ out x.t _ (by first | exact World.alloc_heap_new w3 _ | exact heap_alloc_new w3 _) (by omega) (by omega)).mono ?_
        rintro e4 w9 ⟨rfl, h9⟩
        have hb9 := hb3.trans ((((Below.refl _ w3).alloc (Nat.le_refl _) _).trans (h9.mono (by simp))).mono hb3.size)
        have hsz : ((bs (out ++ x.t)).size : Int) = ((out ++ x.t).length : Int) := by rw [size_bs]
        obtain ⟨B, hB⟩ : ∃ B, bs (out ++ x.t) = B := ⟨_, rfl⟩
        rw [hB] at hsz ⊢
        have HSZ := Lib.hid hsz
        have HBB := Lib.hid hB
        clear hB hsz
        by_cases hm : most < (B.size : Int)
        · go_wp2_with fail
          have ho := HEX.out
          rw [HEXP.out, hnx.out, HPC.out, if_pos (by have := HSZ.out; omega)] at ho
          refine bodyPost_ret (v := .tuple #[.string ⟨#[]⟩, .int .i64 4]) (by simp [results, Tryd.results64, go_sem]) rfl ⟨by (rw [ho]; try rfl), hb2.trans ((hbl.trans (hb9.mono hbl.size)).mono (by omega))⟩
        · go_wp2_with fail
          go_roundg g'
          case measure => omega
          case rel => exact ⟨k + 1, out ++ x.t, by go_num, by omega, by rw [HBB.out], by have := HSZ.out; omega, by rw [HEXP.out, hnx.out, HPC.out, if_neg (by have := HSZ.out; omega)], hbl.trans (hb9.mono hbl.size)⟩
    · obtain rfl : k = L.length := by omega
      go_wp2_with fail
      have hx := HEXP.out
      rw [List.drop_length, expTo] at hx
      have ho := HEX.out
      rw [hx] at ho
      refine bodyPost_ret (v := .tuple #[.string (bs out), .int .i64 0]) (by simp [results, Tryd.results64, go_sem]) rfl ⟨by (rw [ho]; try rfl), hb2.trans (hbl.mono (by omega))⟩
end Go.Proofs.YtllklgalghmnfaaDoor
