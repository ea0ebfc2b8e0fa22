/- Lists of routes in memory; Check; the comparison that All hands to the sort; the sort of a short row. -/
import Derived.Test.YtefilalapkdegaaRouteIns
import Derived.Test.YtefilalapkdegaaRouteTop
import Derived.Test.YtefilalapkdegaaDirs
namespace Go.Proofs.Ytefilalapkdegaa
open Go.RowKit Str Mem
set_option linter.unusedVariables false
set_option linter.unusedSimpArgs false

/-- A route, as it lies. -/
structure RtV where
  a : Option Addr
  c : Nat
  l : List (List UInt8)
  kd : Int
  t : List UInt8
def RtV.cells (r : RtV) : List Value := [.slice r.a r.l.length r.c, .int .i64 r.kd, .string ⟨r.t.toArray⟩]
def RtV.err (r : RtV) : Int := Route.err r.l r.kd r.t
theorem rflat_length (L : List RtV) : (L.flatMap RtV.cells).length = L.length * 3 := by
  induction L with
  | nil => rfl
  | cons a t ih => rw [List.flatMap_cons, List.length_append, ih]; simp [RtV.cells]; omega
theorem rflat_get : ∀ (L : List RtV) (k j : Nat) (d : RtV), L[k]? = some d → j < 3 → (L.flatMap RtV.cells)[k * 3 + j]? = d.cells[j]?
  | [], k, j, d, h, _ => by simp at h
  | a :: t, 0, j, d, h, hj => by
    simp at h; subst h
    rw [List.flatMap_cons, List.getElem?_append_left (by simp [RtV.cells]; omega)]
    simp
  | a :: t, k + 1, j, d, h, hj => by
    have := rflat_get t k j d (by simpa using h) hj
    rw [List.flatMap_cons, List.getElem?_append_right (by simp [RtV.cells]; omega), ← this]
    congr 1
    simp [RtV.cells]; omega
/-- A list of routes that lies somewhere, each as a route must lie. -/
structure Rts (w : World) (a : Option Addr) (L : List RtV) : Prop where
  row : Rd w 3 a L.length (L.flatMap RtV.cells)
  each : ∀ r ∈ L, RtOk w r.a r.l.length r.c r.l r.t
theorem Rts.below {w w' : World} {a : Option Addr} {L : List RtV} (h : Rts w a L) (hb : Below w.heap.size w w') : Rts w' a L := ⟨h.row.below hb, fun r hr => (h.each r hr).below hb⟩
theorem rfield_addr (a : Addr) (k j : Nat) (hj : 0 < j) : (⟨(a.add k).block, (a.add k).off + j, none⟩ : Addr) = a.add (k + j) := by
  unfold Addr.add
  rw [if_neg (show k + j ≠ 0 by omega)]
  by_cases hk : k = 0 <;> simp [hk, Nat.add_assoc]
theorem Rts.fields {w : World} {a : Option Addr} {L : List RtV} (h : Rts w a L) {k : Nat} (hk : k < L.length) : ∃ (ad : Addr) (r : RtV), a = some ad ∧ ad.block < w.heap.size ∧ L[k]? = some r ∧ r ∈ L ∧
    w.cell? (ad.add (k * 3)) = some (.slice r.a r.l.length r.c) ∧ w.cell? ⟨(ad.add (k * 3)).block, (ad.add (k * 3)).off + 1, none⟩ = some (.int .i64 r.kd) ∧ w.cell? ⟨(ad.add (k * 3)).block, (ad.add (k * 3)).off + 2, none⟩ = some (.string ⟨r.t.toArray⟩) := by
  obtain ⟨ad, e, hb, hc⟩ := h.row.get (by omega)
  have hl : L[k]? = some L[k] := List.getElem?_eq_getElem hk
  refine ⟨ad, L[k], e, hb, hl, List.mem_of_getElem? hl, hc _ _ (by rw [show k * 3 = k * 3 + 0 by omega, rflat_get L k 0 _ hl (by omega)]; rfl), ?_, ?_⟩
  · rw [rfield_addr _ _ _ (by omega)]; exact hc _ _ (by rw [rflat_get L k 1 _ hl (by omega)]; rfl)
  · rw [rfield_addr _ _ _ (by omega)]; exact hc _ _ (by rw [rflat_get L k 2 _ hl (by omega)]; rfl)

/-- The first error of a list of routes, and where it is. -/
def firstBad (L : List RtV) : Nat → Int × Int
  | 0 => (0, 0)
  | k + 1 => if firstBad L k ≠ (0, 0) then firstBad L k else match L[k]? with | some r => if r.err = 0 then (0, 0) else (r.err, k) | none => (0, 0)
def checkR (L : List RtV) : Int × Int := if 32 < L.length then (5, 0) else firstBad L L.length
theorem firstBad_stays {L : List RtV} {k : Nat} (h : firstBad L k ≠ (0, 0)) : ∀ m, k ≤ m → firstBad L m = firstBad L k := by
  intro m hm
  induction m with
  | zero => rw [show k = 0 by omega]
  | succ m ih =>
    rcases Nat.lt_or_ge k (m + 1) with h1 | h1
    · rw [firstBad, ih (by omega), if_pos h]
    · rw [show k = m + 1 by omega]
theorem firstBad_hit {L : List RtV} {k : Nat} {r : RtV} (h0 : firstBad L k = (0, 0)) (hr : L[k]? = some r) (he : r.err ≠ 0) (hk : k < L.length) : firstBad L L.length = (r.err, (k : Int)) := by
  have h1 : firstBad L (k + 1) = (r.err, (k : Int)) := by rw [firstBad, if_neg (by rw [h0]; simp), hr]; simp [he]
  rw [firstBad_stays (k := k + 1) (by rw [h1]; intro e; injection e with e1; exact he e1) _ (by omega), h1]
theorem firstBad_next {L : List RtV} {k : Nat} {r : RtV} (h0 : firstBad L k = (0, 0)) (hr : L[k]? = some r) (he : r.err = 0) : firstBad L (k + 1) = (0, 0) := by
  rw [firstBad, if_neg (by rw [h0]; simp), hr]; simp [he]
theorem firstBad_all {L : List RtV} : ∀ k, k ≤ L.length → firstBad L k = (0, 0) → ∀ j r, j < k → L[j]? = some r → r.err = 0
  | 0, _, _, j, r, hj, _ => by omega
  | k + 1, hk, h, j, r, hj, hr => by
    have h0 : firstBad L k = (0, 0) := by
      rcases Decidable.em (firstBad L k = (0, 0)) with h1 | h1
      · exact h1
      · rw [firstBad_stays h1 (k + 1) (by omega)] at h; exact absurd h h1
    rcases Nat.lt_or_ge j k with h2 | h2
    · exact firstBad_all k (by omega) h0 j r h2 hr
    · obtain rfl : j = k := by omega
      rcases Decidable.em (r.err = 0) with h3 | h3
      · exact h3
      · rw [firstBad, if_neg (by rw [h0]; simp), hr] at h
        simp [h3] at h

def ChkI (w : World) (L : List RtV) (i : Value) (wr : World) : Prop := ∃ k : Nat, i = .int .i64 k ∧ k ≤ L.length ∧ firstBad L k = (0, 0) ∧ Below w.heap.size w wr

set_option maxRecDepth 20000 in
set_option maxHeartbeats 4000000 in
theorem check_any (a : Option Addr) (c : Nat) (L : List RtV) (w : World) (h : Rts w a L) (hl : L.length ≤ 100000) :
    Calls Try.prog 28 #[.slice a L.length c] w fun e w' => e = .returned (.tuple #[.int .i64 (checkR L).1, .int .i64 (checkR L).2]) ∧ Below w.heap.size w w' := by
  by_cases hfull : 32 < L.length
  · have Hx := Lib.hid (show checkR L = (5, 0) by unfold checkR; rw [if_pos hfull])
    have hf' : (32 : Int) < (L.length : Int) := by omega
    go_enter Try.func28, Try.ntmps28
    go_wp2
    go_ret2
    exact ⟨by rw [Hx.out]; rfl, Below.refl _ _⟩
  · have Hx := Lib.hid (show checkR L = firstBad L L.length by unfold checkR; rw [if_neg hfull])
    have hf' : ¬ (32 : Int) < (L.length : Int) := by omega
    go_enter Try.func28, Try.ntmps28
    go_wp2
    go_loopw [12, 4, 5, 6] (fun i _ _ _ wr => ChkI w L i wr) (fun i _ _ _ _ => L.length - (intOf i).toNat)
    case atStart => exact ⟨0, rfl, Nat.zero_le _, rfl, Below.refl _ _⟩
    case round =>
      obtain ⟨k, rfl, hk, h0, hbl⟩ := hrel
      have hsz := hbl.size
      by_cases hlt : k < L.length
      · obtain ⟨ad, r, rfl, hbb, hr, hmem, c0, c1, c2⟩ := (h.below hbl).fields hlt
        have hv := fun w' (hb : Below w.heap.size w w') => vroute_any r.a r.c r.l r.kd r.t w' ((h.each r hmem).below hb)
        unfold rtv at hv
        have hba := hbl.alloc hsz (.cells #[.slice r.a r.l.length r.c, .int .i64 r.kd, .string ⟨r.t.toArray⟩] 35)
        have hv0 := hv _ hba
        have i0 : (0 : Int) ≤ (k : Int) := by omega
        have i1 : (k : Int) < (L.length : Int) := by omega
        obtain ⟨e1, he1⟩ : ∃ e, r.err = e := ⟨_, rfl⟩
        have he2 : Route.err r.l r.kd r.t = e1 := he1
        rw [he2] at hv0
        have HR := Lib.hid (And.intro hr he1)
        have H0 := Lib.hid h0
        clear hr he1 he2 hv h0
        by_cases hz : e1 = 0
        · have hz1 : (e1 != 0) = false := by rw [hz]; rfl
          have HZ := Lib.hid hz
          clear hz
          go_wp2_with fail
          refine hv0.mono ?_
          rintro e w1 ⟨rfl, g1⟩
          go_wp2
          refine ⟨⟨k + 1, by go_num, by omega, firstBad_next H0.out HR.out.1 (by rw [HR.out.2, HZ.out]), hba.trans (g1.mono hba.size)⟩, by simp [intOf]; omega⟩
        · have hz1 : (e1 != 0) = true := by simpa using hz
          have Hy := Lib.hid (show checkR L = (e1, (k : Int)) by rw [Hx.out, firstBad_hit H0.out HR.out.1 (by rw [HR.out.2]; exact hz) hlt, HR.out.2])
          clear hz
          go_wp2_with fail
          refine hv0.mono ?_
          rintro e w1 ⟨rfl, g1⟩
          go_wp2
          go_ret2
          exact ⟨by rw [Hy.out]; rfl, hba.trans (g1.mono hba.size)⟩
      · obtain rfl : k = L.length := by omega
        have Hy := Lib.hid (show checkR L = (0, 0) by rw [Hx.out, h0])
        clear h0
        go_wp2
        go_ret2
        exact ⟨by rw [Hy.out]; rfl, hbl⟩

set_option maxRecDepth 20000 in
set_option maxHeartbeats 4000000 in
theorem stable_any (f : Nat) (lb : Array Value) (ef : ∀ args w, (callFunc f args).run Try.prog w = .ok (.enter f args) w) (lt : Int → Int → Bool) (M : List Int) (g cap : Nat) (rest : List Value) (w u : World) (hn : M.length < 20) (hc : M.length ≤ cap)
    (w0 : World) (hcmp : CmpOk f lb lt M g u w0) (hrow : w.heap[g]? = some (.cells (M.map iv ++ rest).toArray 3 (0, 0))) (hk : Kp g u w) (hg : g < u.heap.size) (hb : Below w0.heap.size w0 w) (hg0 : w0.heap.size ≤ g) :
    Calls Try.prog 37 #[.slice (some ⟨g, 0, none⟩) M.length cap, .func (.func f) #[] lb] w fun e w' =>
      (∃ v, e = .returned v) ∧ w'.heap[g]? = some (.cells ((Route.sorted lt M).map iv ++ rest).toArray 3 (0, 0)) ∧ Kp g u w' ∧ Below w0.heap.size w0 w' := by
  have hin : Calls Try.prog 60 #[.slice (some ⟨g, 0, none⟩) M.length cap, .int .i64 (M.length : Nat), .func (.func f) #[] lb] w fun e w' =>
      (∃ v, e = .returned v) ∧ w'.heap[g]? = some (.cells ((Route.sorted lt M).map iv ++ rest).toArray 3 (0, 0)) ∧ Kp g u w' ∧ Below w0.heap.size w0 w' := by
    have hi := ins_any f lb ef lt [] M [] g cap rest w u M.length 0 M.length (by simp) rfl (by simp) (by omega) hc w0 (by simpa using hcmp) (by simpa using hrow) hk hg hb hg0
    simp only [List.nil_append, List.append_nil] at hi
    have h20 : ¬ (20 : Int) ≤ (M.length : Int) := by omega
    have h20b : ¬ (20 : Int) < (M.length : Int) := by omega
    have h20c : (M.length : Int) ≤ 20 := by omega
    have h20d : (M.length : Int) < 20 := by omega
    clear hcmp hrow
    go_enter Try.func60, Try.ntmps60
    go_wp2
    go_loopw [7, 8] (fun a b wr => a = .int .i64 0 ∧ b = .int .i64 20 ∧ wr = w) (fun _ _ _ => 0)
    case atStart => exact ⟨rfl, rfl, rfl⟩
    case round =>
      obtain ⟨rfl, rfl, rfl⟩ := hrel
      go_wp2_with fail
      refine hi.mono ?_
      rintro e w1 ⟨⟨v, rfl⟩, h1, h2, h3⟩
      go_wp2
      go_loopw [6, 7, 8, 9] (fun a _ _ _ wr => a = .int .i64 20 ∧ wr = w1) (fun _ _ _ _ _ => 0)
      case atStart => exact ⟨rfl, rfl⟩
      case round =>
        obtain ⟨rfl, rfl⟩ := hrel
        go_wp2
        go_end0
        exact ⟨⟨_, rfl⟩, h1, h2, h3⟩
  go_enter Try.func37, Try.ntmps37
  go_wp2_with fail
  refine hin.mono ?_
  rintro e w1 ⟨⟨v, rfl⟩, h1, h2, h3⟩
  go_wp2
  go_end0
  exact ⟨⟨_, rfl⟩, h1, h2, h3⟩

def lAt (L : List RtV) (k : Nat) : List (List UInt8) := ((L[k]?).map RtV.l).getD []
def ltR (L : List RtV) (x y : Int) : Bool := decide (Route.better (lAt L x.toNat) (lAt L y.toNat) < 0)

set_option maxRecDepth 20000 in
set_option maxHeartbeats 4000000 in
theorem cmpAll_ok (a : Option Addr) (c : Nat) (L : List RtV) (X : List Int) (g bx : Nat) (u w0 : World) (h : Rts w0 a L) (hv : ∀ r ∈ L, r.err = 0) (hl : L.length ≤ 100000) (hX : ∀ x ∈ X, ∃ k : Nat, x = (k : Int) ∧ k < L.length)
    (hbx : Rd u 1 (some ⟨bx, 0, none⟩) 1 [.slice a L.length c]) (hbg : bx ≠ g) : CmpOk 38 #[.pointer (some ⟨bx, 0, none⟩)] (ltR L) X g u w0 := by
  intro x' hx y' hy wr hkp hbl
  obtain ⟨x, rfl, hxl⟩ := hX x' hx
  obtain ⟨y, rfl, hyl⟩ := hX y' hy
  have hbc : ∀ W, Kp g u W → W.cell? ⟨bx, 0, none⟩ = some (.slice a L.length c) := fun W hK => by
    obtain ⟨ad, e, _, hc⟩ := (hbx.kp hK (by rintro ad e; cases e; exact hbg)).get (by omega)
    cases e
    exact hc 0 _ rfl
  obtain ⟨ad, r, rfl, _, hr, hrm, _⟩ := (h.below hbl).fields hxl
  obtain ⟨ad2, r2, e2, _, hr2, hrm2, _⟩ := (h.below hbl).fields hyl
  cases e2
  have hS : ∀ W, Below w0.heap.size w0 W → Kp g u W → W.cell? ⟨bx, 0, none⟩ = some (.slice (some ad) L.length c) ∧ W.cell? (ad.add (x * 3)) = some (.slice r.a r.l.length r.c) ∧ W.cell? ⟨(ad.add (x * 3)).block, (ad.add (x * 3)).off + 1, none⟩ = some (.int .i64 r.kd) ∧ W.cell? ⟨(ad.add (x * 3)).block, (ad.add (x * 3)).off + 2, none⟩ = some (.string ⟨r.t.toArray⟩) ∧ W.cell? (ad.add (y * 3)) = some (.slice r2.a r2.l.length r2.c) ∧ W.cell? ⟨(ad.add (y * 3)).block, (ad.add (y * 3)).off + 1, none⟩ = some (.int .i64 r2.kd) ∧ W.cell? ⟨(ad.add (y * 3)).block, (ad.add (y * 3)).off + 2, none⟩ = some (.string ⟨r2.t.toArray⟩) := fun W hB hK => by
    obtain ⟨ad1, q1, e1, _, hq1, _, c0, c1, c2⟩ := (h.below hB).fields hxl
    cases e1
    rw [hr] at hq1
    cases hq1
    obtain ⟨ad3, q3, e3, _, hq3, _, c3, c4, c5⟩ := (h.below hB).fields hyl
    cases e3
    rw [hr2] at hq3
    cases hq3
    exact And.intro (hbc W hK) (And.intro c0 (And.intro c1 (And.intro c2 (And.intro c3 (And.intro c4 c5)))))
  have hcp0 := fun w' (hb : Below w0.heap.size w0 w') => compare_any r.a r2.a r.c r2.c r.l r2.l r.kd r2.kd r.t r2.t w' ((h.each r hrm).below hb) ((h.each r2 hrm2).below hb) (Route.fine_of (hv r hrm)) (Route.fine_of (hv r2 hrm2)) (Route.err_ok (hv r hrm)).1 (Route.err_ok (hv r2 hrm2)).1
  unfold rtv at hcp0
  have hcp := hcp0 wr.drew hbl.drew
  have HB := Lib.hid (show ltR L (x : Int) (y : Int) = decide (Route.better r.l r2.l < 0) by unfold ltR lAt; simp [hr, hr2])
  have i0 : (0 : Int) ≤ (x : Int) := by omega
  have i1 : (x : Int) < (L.length : Int) := by omega
  have i2 : (0 : Int) ≤ (y : Int) := by omega
  have i3 : (y : Int) < (L.length : Int) := by omega
  clear hr hr2 hcp0 hX hv hx hy hbc
  show Calls Try.prog 38 #[.int .i64 x, .int .i64 y, .pointer (some ⟨bx, 0, none⟩)] wr _
  go_enter Try.func38, Try.ntmps38
  go_wp2
  refine wp_region_noPanic ?_
  refine wp_region_held_drew (S := fun w' => w'.cell? ⟨bx, 0, none⟩ = some (.slice (some ad) L.length c) ∧ w'.cell? (ad.add (x * 3)) = some (.slice r.a r.l.length r.c) ∧ w'.cell? ⟨(ad.add (x * 3)).block, (ad.add (x * 3)).off + 1, none⟩ = some (.int .i64 r.kd) ∧ w'.cell? ⟨(ad.add (x * 3)).block, (ad.add (x * 3)).off + 2, none⟩ = some (.string ⟨r.t.toArray⟩) ∧ w'.cell? (ad.add (y * 3)) = some (.slice r2.a r2.l.length r2.c) ∧ w'.cell? ⟨(ad.add (y * 3)).block, (ad.add (y * 3)).off + 1, none⟩ = some (.int .i64 r2.kd) ∧ w'.cell? ⟨(ad.add (y * 3)).block, (ad.add (y * 3)).off + 2, none⟩ = some (.string ⟨r2.t.toArray⟩)) (by kernel_rfl) ?_ (fun hH => ?_)
  · exact hS _ hbl.drew hkp.drew
  refine Reg.take (i := 0) (u := ?b1_v0) rfl rfl rfl (by kernel_rfl) (by kernel_rfl) (by kernel_rfl) hH ?b1_y0 ?b1_r0
  case b1_y0 => (intro w hSw; (try dsimp only at hSw); go_simp; try (with_reducible rfl))
  case' b1_r0 => simp only [List.setIfInBounds_toArray, List.set_cons_zero, List.set_cons_succ]
  refine Reg.take (i := 1) (u := ?b1_v1) rfl rfl rfl (by kernel_rfl) (by kernel_rfl) (by kernel_rfl) hH ?b1_y1 ?b1_r1
  case b1_y1 => (intro w hSw; (try dsimp only at hSw); go_simp; try (with_reducible rfl))
  case' b1_r1 => simp only [List.setIfInBounds_toArray, List.set_cons_zero, List.set_cons_succ]
  refine Reg.take (i := 4) (u := ?b1_v4) rfl rfl rfl (by kernel_rfl) (by kernel_rfl) (by kernel_rfl) hH ?b1_y4 ?b1_r4
  case b1_y4 => (intro w hSw; (try dsimp only at hSw); go_simp; try (with_reducible rfl))
  case' b1_r4 => simp only [List.setIfInBounds_toArray, List.set_cons_zero, List.set_cons_succ]
  refine Reg.take (i := 5) (u := ?b1_v5) rfl rfl rfl (by kernel_rfl) (by kernel_rfl) (by kernel_rfl) hH ?b1_y5 ?b1_r5
  case b1_y5 => (intro w hSw; (try dsimp only at hSw); go_simp; try (with_reducible rfl))
  case' b1_r5 => simp only [List.setIfInBounds_toArray, List.set_cons_zero, List.set_cons_succ]
  refine Reg.take (i := 2) (u := ?b1_v2) rfl rfl rfl (by kernel_rfl) (by kernel_rfl) (by kernel_rfl) hH ?b1_y2 ?b1_r2
  case b1_y2 => (intro w hSw; (try dsimp only at hSw); go_simp; try (with_reducible rfl))
  case' b1_r2 => simp only [List.setIfInBounds_toArray, List.set_cons_zero, List.set_cons_succ]
  refine Reg.take (i := 6) (u := ?b1_v6) rfl rfl rfl (by kernel_rfl) (by kernel_rfl) (by kernel_rfl) hH ?b1_y6 ?b1_r6
  case b1_y6 => (intro w hSw; (try dsimp only at hSw); go_simp; try (with_reducible rfl))
  case' b1_r6 => simp only [List.setIfInBounds_toArray, List.set_cons_zero, List.set_cons_succ]
  refine Reg.take (i := 3) (u := ?b1_v3) rfl rfl rfl (by kernel_rfl) (by kernel_rfl) (by kernel_rfl) hH ?b1_y3 ?b1_r3
  case b1_y3 => (intro w hSw; (try dsimp only at hSw); go_simp; try (with_reducible rfl))
  case' b1_r3 => simp only [List.setIfInBounds_toArray, List.set_cons_zero, List.set_cons_succ]
  refine Reg.take (i := 7) (u := ?b1_v7) rfl rfl rfl (by kernel_rfl) (by kernel_rfl) (by kernel_rfl) hH ?b1_y7 ?b1_r7
  case b1_y7 => (intro w hSw; (try dsimp only at hSw); go_simp; try (with_reducible rfl))
  case' b1_r7 => simp only [List.setIfInBounds_toArray, List.set_cons_zero, List.set_cons_succ]
  refine Reg.only (i := 8) rfl (Reg.wanted_free rfl) (by kernel_rfl) (fun K hK => ?_)
  go_simp
  go_at_call 39; refine hcp.mono ?_; rintro e w1 ⟨rfl, g1⟩; go_simp
  refine hK.out _ _ ?_ (fun hH2 => ?_)
  · exact hS _ (hbl.drew.trans (g1.mono hbl.size)) (hkp.drew.below g1 (Nat.le_refl _))
  clear hK hH
  have hH := hH2; clear hH2
  try simp only [Act.put, List.setIfInBounds_toArray, List.set_cons_zero, List.set_cons_succ]
  refine Reg.take (i := 9) (u := ?b1_v9) rfl rfl rfl (by kernel_rfl) (by kernel_rfl) (by kernel_rfl) hH ?b1_y9 ?b1_r9
  case b1_y9 => (intro w hSw; (try dsimp only at hSw); go_simp; try (with_reducible rfl))
  case' b1_r9 => simp only [List.setIfInBounds_toArray, List.set_cons_zero, List.set_cons_succ]
  refine wpAnyH_done (by kernel_rfl) ?_ _
  refine NoPanic.normal ?_
  go_wp2
  go_ret
  exact ⟨_, rfl, by rw [HB.out], ⟨g1.os, g1.tape, g1.output, g1.size, g1.block⟩⟩

end Go.Proofs.Ytefilalapkdegaa
