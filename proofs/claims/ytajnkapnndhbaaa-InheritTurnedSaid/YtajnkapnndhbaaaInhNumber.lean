/- All, Number: of both; slices.Index. -/
import Derived.Test.YtajnkapnndhbaaaInhRules
namespace Go.Proofs.Ytajnkapnndhbaaa
open Go.RowKit Str Mem
set_option linter.unusedVariables false
set_option linter.unusedSimpArgs false

/-- The places of the first j directories. -/
def allTo (L : List DirV) (j : Nat) : List Inh.Spot := (List.range j).flatMap (Inh.own L)
theorem allTo_succ (L : List DirV) (j : Nat) : allTo L (j + 1) = allTo L j ++ Inh.own L j := by unfold allTo; rw [List.range_succ, List.flatMap_append]; simp
theorem allTo_length {L : List DirV} (hs : Small L) (j : Nat) : (allTo L j).length ≤ 80 * j := by
  have := gone_length hs (List.range j)
  rwa [List.length_range] at this

def AllI (w : World) (L : List DirV) (v i : Value) (wr : World) : Prop :=
  ∃ j : Nat, i = .int .i64 j ∧ j ≤ L.length ∧ Owns wr w.heap.size 24 2 v (allTo L j).length (scells (allTo L j)) ∧ Below w.heap.size w wr

set_option maxRecDepth 20000 in
set_option maxHeartbeats 2000000 in
theorem inhAll_any (a : Option Addr) (c : Nat) (L : List DirV) (w : World) (hD : Dirs w a L.length L) (hc : L.length ≤ c) (hs : Small L) :
    Calls Try.prog 17 #[.slice a L.length c] w fun e w' => SpotsPost (Inh.allR L) w e w' := by
  have hq := fun w h => check_any a c L w h hc hs
  have hL := hs.1
  obtain ⟨i0, hi, hz0, hz1, hz2⟩ := info_parts infoSpot
  unfold Inh.allR
  generalize (Inh.check L).2 = n2 at hq
  by_cases hv : (Inh.check L).1 = 0
  · rw [hv] at hq
    rw [if_pos hv]
    clear hv
    go_enter Try.func17, Try.ntmps17
    go_wp2_with (go_at_call 22; refine (hq _ hD).mono ?_; rintro e w1 ⟨rfl, h1⟩)
    go_loopw [6, 18] (fun v i wr => AllI w L v i wr) (fun _ i _ => L.length - (intOf i).toNat)
    case atStart => exact ⟨0, rfl, Nat.zero_le _, Owns.nil _ _ _ _, h1⟩
    case round =>
      obtain ⟨j, rfl, hj, hown, hbl⟩ := hrel
      have hsz := hbl.size
      have hlen := allTo_length hs j
      obtain ⟨T, hT⟩ : ∃ T, T = allTo L j := ⟨_, rfl⟩
      rw [← hT] at hown hlen
      by_cases hlt : j < L.length
      · have Hn := Lib.hid (show allTo L (j + 1) = T ++ Inh.own L j by rw [hT]; exact allTo_succ L j)
        have hol : (Inh.own L j).length ≤ 80 := by rw [Inh.own_length]; exact rn_small hs j
        have hspot := fun w' (h : Below wr.heap.size wr w') a2 h2 => spots_any a a2 c 1 L [j] w' ((hD.below hbl).below h) hs h2 (by simp; exact hlt) (by simp)
        obtain ⟨O, hO⟩ : ∃ O, O = Inh.own L j := ⟨_, rfl⟩
        simp only [List.flatMap_cons, List.flatMap_nil, List.append_nil] at hspot
        rw [← hO] at hspot hol Hn
        have hone : ∀ w : World, Ints (w.alloc (.cells #[.int .i64 j] 3)) (some ⟨w.heap.size, 0, none⟩) [j].length (nums [j]) := fun w => Rd.one w _ _
        clear hO hT
        go_wp2_with (first
          | (go_at_call 43; refine (hspot _ ((Below.refl _ _).alloc (Nat.le_refl _) _) _ (hone wr)).mono ?_; rintro e w3 ⟨v, rfl, ⟨a', c', rfl, h3, h4, h5⟩, h2⟩; have g2 := ((Below.refl wr.heap.size wr).alloc (Nat.le_refl _) (.cells #[.int .i64 j] 3)).trans (h2.mono (by simp)))
          | (at_builtin; go_must (refine wpList_append_owns _ rfl _ _ 28 rfl w.heap.size 24 i0 (.agg #[.int .i64 0, .int .i64 0]) 2 16 Try.underlying28 hi hz0 hz1 hz2 rfl (by decide) _ T.length (scells T) rfl (hown.below g2 (Nat.le_refl _)) a' O.length c' (scells O) rfl h5 (one_spot O) (by simp only [maxLen]; omega) (by omega) (by have := g2.size; omega) ?_); intro v' w4 hown' hgrow))
        go_roundw
        case rel => exact ⟨j + 1, by go_num, by omega, by rw [Hn.out, scells_append, List.length_append]; exact hown', (hbl.trans (g2.mono hsz)).grown hgrow (by have := g2.size; omega) (fun r e => (hown.lt r e).1)⟩
        case measure => simp [intOf]; omega
      · obtain rfl : j = L.length := by omega
        have HT := Lib.hid (show T = Inh.all L from hT)
        obtain ⟨a2, c3, rfl, q1, q2, q3⟩ := id hown.form
        clear hT
        go_wp2
        go_ret2
        rw [← HT.out]
        exact ⟨a2, c3, rfl, q3, q1, q2, hbl⟩
  · rw [if_neg hv]
    obtain ⟨n1, hn1⟩ : ∃ n, n = (Inh.check L).1 := ⟨_, rfl⟩
    rw [← hn1] at hq hv ⊢
    clear hn1
    go_enter Try.func17, Try.ntmps17
    go_wp2_with (go_at_call 22; refine (hq _ hD).mono ?_; rintro e w1 ⟨rfl, h1⟩)
    go_ret2
    exact SpotsPost.none _ h1

set_option maxRecDepth 20000 in
set_option maxHeartbeats 2000000 in
theorem refInhAll_any (a : Option Addr) (c : Nat) (L : List DirV) (w : World) (hD : Dirs w a L.length L) (hs : Small L) :
    Calls Try.prog 18 #[.slice a L.length c] w fun e w' => SpotsPost (Inh.allR L) w e w' := by
  have hq := fun w h => refCheck_any a c L w h hs
  have hL := hs.1
  obtain ⟨i0, hi, hz0, hz1, hz2⟩ := info_parts infoSpot
  unfold Inh.allR
  generalize (Inh.check L).2 = n2 at hq
  by_cases hv : (Inh.check L).1 = 0
  · rw [hv] at hq
    rw [if_pos hv]
    clear hv
    go_enter Try.func18, Try.ntmps18
    go_wp2_with (go_at_call 23; refine (hq _ hD).mono ?_; rintro e w1 ⟨rfl, h1⟩)
    go_loopw [6, 7] (fun v i wr => AllI w L v i wr) (fun _ i _ => L.length - (intOf i).toNat)
    case atStart => exact ⟨0, rfl, Nat.zero_le _, Owns.nil _ _ _ _, h1⟩
    case round =>
      obtain ⟨j, rfl, hj, hown, hbl⟩ := hrel
      have hsz := hbl.size
      have hlen := allTo_length hs j
      obtain ⟨T, hT⟩ : ∃ T, T = allTo L j := ⟨_, rfl⟩
      rw [← hT] at hown hlen
      by_cases hlt : j < L.length
      · have Hn := Lib.hid (show allTo L (j + 1) = T ++ Inh.own L j by rw [hT]; exact allTo_succ L j)
        have hol : (Inh.own L j).length ≤ 80 := by rw [Inh.own_length]; exact rn_small hs j
        have hspot := fun w' h => refOwn_any a c L j w' h hs hlt
        obtain ⟨O, hO⟩ : ∃ O, O = Inh.own L j := ⟨_, rfl⟩
        rw [← hO] at hspot hol Hn
        clear hO hT
        go_wp2_with (first
          | (go_at_call 44; refine (hspot _ (hD.below hbl)).mono ?_; rintro e w3 ⟨v, rfl, ⟨a', c', rfl, h3, h4, h5⟩, g2⟩)
          | (at_builtin; go_must (refine wpList_append_owns _ rfl _ _ 28 rfl w.heap.size 24 i0 (.agg #[.int .i64 0, .int .i64 0]) 2 16 Try.underlying28 hi hz0 hz1 hz2 rfl (by decide) _ T.length (scells T) rfl (hown.below g2 (Nat.le_refl _)) a' O.length c' (scells O) rfl h5 (one_spot O) (by simp only [maxLen]; omega) (by omega) (by have := g2.size; omega) ?_); intro v' w4 hown' hgrow))
        go_roundw
        case rel => exact ⟨j + 1, by go_num, by omega, by rw [Hn.out, scells_append, List.length_append]; exact hown', (hbl.trans (g2.mono hsz)).grown hgrow (by have := g2.size; omega) (fun r e => (hown.lt r e).1)⟩
        case measure => simp [intOf]; omega
      · obtain rfl : j = L.length := by omega
        have HT := Lib.hid (show T = Inh.all L from hT)
        obtain ⟨a2, c3, rfl, q1, q2, q3⟩ := id hown.form
        clear hT
        go_wp2
        go_ret2
        rw [← HT.out]
        exact ⟨a2, c3, rfl, q3, q1, q2, hbl⟩
  · rw [if_neg hv]
    obtain ⟨n1, hn1⟩ : ∃ n, n = (Inh.check L).1 := ⟨_, rfl⟩
    rw [← hn1] at hq hv ⊢
    clear hn1
    go_enter Try.func18, Try.ntmps18
    go_wp2_with (go_at_call 23; refine (hq _ hD).mono ?_; rintro e w1 ⟨rfl, h1⟩)
    go_ret2
    exact SpotsPost.none _ h1

/-- A place as a value. -/
def spv (d r : Int) : Value := .agg #[.int .i64 d, .int .i64 r]
def isAt (d r : Int) (s : Inh.Spot) : Bool := (d == (s.1 : Int)) && (r == (s.2 : Int))

def IndexSpotPost (l : List Inh.Spot) (d r : Int) (w : World) (e : Ending) (w' : World) : Prop :=
  ∃ n : Int, e = .returned (.int .i64 n) ∧ ((n = -1 ∧ ∀ s ∈ l, isAt d r s = false) ∨ ∃ k : Nat, n = k ∧ k < l.length ∧ (∀ j s, j < k → l[j]? = some s → isAt d r s = false) ∧ ∃ s, l[k]? = some s ∧ isAt d r s = true) ∧ Below w.heap.size w w'

def IndexSpotI (w : World) (l : List Inh.Spot) (d r : Int) (i : Value) (wr : World) : Prop :=
  ∃ k : Nat, i = .int .i64 k ∧ k ≤ l.length ∧ (∀ j s, j < k → l[j]? = some s → isAt d r s = false) ∧ Below w.heap.size w wr ∧ wr.cell? ⟨w.heap.size, 0, none⟩ = some (.int .i64 d) ∧ wr.cell? ⟨w.heap.size, 1, none⟩ = some (.int .i64 r)

set_option maxRecDepth 20000 in
set_option maxHeartbeats 2000000 in
theorem indexSpot_any (a : Option Addr) (c : Nat) (l : List Inh.Spot) (d r : Int) (w : World) (hR : Rd w 2 a l.length (scells l)) (hl : l.length ≤ 100000) :
    Calls Try.prog 45 #[.slice a l.length c, spv d r] w fun e w' => IndexSpotPost l d r w e w' := by
  unfold spv
  go_enter Try.func45, Try.ntmps45
  go_wp2
  have hb2 := box2_kept (Below.refl (w.alloc (Obj.cells #[.int .i64 d, .int .i64 r] 24)).heap.size (w.alloc (Obj.cells #[.int .i64 d, .int .i64 r] 24)))
  go_loopw [8] (fun i wr => IndexSpotI w l d r i wr) (fun i _ => l.length - (intOf i).toNat)
  case atStart => exact ⟨0, rfl, Nat.zero_le _, by omega, (Below.refl _ _).alloc (Nat.le_refl _) _, hb2.1, hb2.2.1⟩
  case round =>
    obtain ⟨k, rfl, hk, hall, hbl, hc0, hc1⟩ := hrel
    have hsz := hbl.size
    by_cases hlt : k < l.length
    · obtain ⟨ad, rfl, hbb, hcs⟩ := (hR.below hbl).get (by omega)
      have hls : l[k]? = some l[k] := List.getElem?_eq_getElem hlt
      obtain ⟨g0, g1⟩ := scells_get l k l[k] hls
      have s0 := hcs _ _ g0
      have s1 : wr.cell? ⟨(ad.add (k * 2)).block, (ad.add (k * 2)).off + 1, none⟩ = some (.int .i64 (l[k]).2) := by rw [field_addr _ _ _ (by omega)]; exact hcs _ _ g1
      obtain ⟨s, hs⟩ : ∃ s, s = l[k] := ⟨_, rfl⟩
      rw [← hs] at s0 s1 hls
      clear hs g0 g1 hcs
      by_cases e1 : d = (s.1 : Int)
      · by_cases e2 : r = (s.2 : Int)
        · have hm : isAt d r s = true := by unfold isAt; simp [e1, e2]
          go_wp2
          go_quiet (fail)
          go_wp2
          go_ret
          exact ⟨k, rfl, .inr ⟨k, rfl, hlt, hall, s, hls, hm⟩, below_drewN hbl _⟩
        · have hm : isAt d r s = false := by unfold isAt; simp [e2]
          go_wp2
          go_quiet (fail)
          go_wp2
          go_roundw
          case rel =>
            refine ⟨k + 1, by go_num, by omega, ?_, below_drewN hbl _, hc0, hc1⟩
            intro j t hj ht
            rcases Nat.lt_or_ge j k with h | h
            · exact hall j t h ht
            · obtain rfl : j = k := by omega
              rw [hls] at ht
              cases ht
              exact hm
          case measure => simp [intOf]; omega
      · have hm : isAt d r s = false := by unfold isAt; simp [e1]
        go_wp2
        go_quiet (fail)
        go_wp2
        go_roundw
        case rel =>
          refine ⟨k + 1, by go_num, by omega, ?_, below_drewN hbl _, hc0, hc1⟩
          intro j t hj ht
          rcases Nat.lt_or_ge j k with h | h
          · exact hall j t h ht
          · obtain rfl : j = k := by omega
            rw [hls] at ht
            cases ht
            exact hm
        case measure => simp [intOf]; omega
    · obtain rfl : k = l.length := by omega
      go_wp2
      go_ret
      refine ⟨-1, rfl, .inl ⟨rfl, fun s hs => ?_⟩, hbl⟩
      obtain ⟨j, hj, he⟩ := List.getElem_of_mem hs
      exact hall j s hj (by rw [List.getElem?_eq_getElem hj, he])

/-- The number of a place in a list, an error. -/
def numberOf (R : List Inh.Spot × Int) (d r : Int) : Int × Int := if R.2 = 0 then (match R.1.findIdx? (isAt d r) with | some k => ((k : Int), 0) | none => (0, 2)) else (0, R.2)
theorem number_none {l : List Inh.Spot} {d r : Int} (h : ∀ s ∈ l, isAt d r s = false) : numberOf (l, 0) d r = (0, 2) := by
  unfold numberOf
  simp only [if_true]
  rw [List.findIdx?_eq_none_iff.2 h]
theorem number_some {l : List Inh.Spot} {d r : Int} {k : Nat} {s : Inh.Spot} (h : ∀ j s, j < k → l[j]? = some s → isAt d r s = false) (hs : l[k]? = some s) (hm : isAt d r s = true) : numberOf (l, 0) d r = ((k : Int), 0) := by
  obtain ⟨hk, rfl⟩ := List.getElem?_eq_some_iff.1 hs
  unfold numberOf
  simp only [if_true]
  rw [List.findIdx?_eq_some_iff_getElem.2 ⟨hk, hm, fun j hj => by rw [h j _ hj (List.getElem?_eq_getElem (by omega))]; simp⟩]

theorem all_length {L : List DirV} (hs : Small L) : (Inh.allR L).1.length ≤ 1000 := by
  unfold Inh.allR
  split
  · have := allTo_length hs L.length
    have := hs.1
    show (allTo L L.length).length ≤ 1000
    omega
  · simp

set_option maxRecDepth 20000 in
set_option maxHeartbeats 2000000 in
theorem inhNumber_any (a : Option Addr) (c : Nat) (L : List DirV) (d r : Int) (w : World) (hD : Dirs w a L.length L) (hc : L.length ≤ c) (hs : Small L) :
    Calls Try.prog 19 #[.slice a L.length c, spv d r] w fun e w' => e = .returned (.tuple #[.int .i64 (numberOf (Inh.allR L) d r).1, .int .i64 (numberOf (Inh.allR L) d r).2]) ∧ Below w.heap.size w w' := by
  have hq := fun w h => inhAll_any a c L w h hc hs
  have hal := all_length hs
  obtain ⟨R, hR⟩ : ∃ R, R = Inh.allR L := ⟨_, rfl⟩
  rw [← hR] at hq hal ⊢
  clear hR
  obtain ⟨l, n⟩ := R
  unfold SpotsPost at hq
  simp only at hq hal ⊢
  by_cases hn : n = 0
  · subst hn
    have hN := number_none (l := l) (d := d) (r := r)
    have hS := fun k s => number_some (l := l) (d := d) (r := r) (k := k) (s := s)
    obtain ⟨res, hres⟩ : ∃ res, res = numberOf (l, 0) d r := ⟨_, rfl⟩
    rw [← hres] at hN hS ⊢
    have HN := Lib.hid hN
    have HS := Lib.hid hS
    clear hres hN hS
    unfold spv
    go_enter Try.func19, Try.ntmps19
    go_wp2_with (go_at_call 17; refine (hq _ (hD.alloc _)).mono ?_; rintro e w1 ⟨a', c', rfl, hr, _, _, h1⟩; obtain ⟨b0, b1, _⟩ := box2_kept h1; replace h1 := ((Below.refl w.heap.size w).alloc (Nat.le_refl _) (Obj.cells #[.int .i64 d, .int .i64 r] 24)).trans (h1.mono (by simp)))
    refine (indexSpot_any a' c' l d r _ hr (by omega)).mono ?_
    rintro e w2 ⟨n, rfl, (⟨rfl, hno⟩ | ⟨k, rfl, hk, hno, s, hs, hm⟩), h2⟩
    · have Hx := Lib.hid (HN.out hno)
      clear hno
      go_wp2
      go_ret2
      exact ⟨by rw [Hx.out]; rfl, h1.trans (h2.mono h1.size)⟩
    · have Hx := Lib.hid (HS.out k s hno hs hm)
      have hnn : ¬ (k : Int) < 0 := by omega
      clear hno hs hm
      go_wp2
      go_ret2
      exact ⟨by rw [Hx.out]; rfl, h1.trans (h2.mono h1.size)⟩
  · have e : numberOf (l, n) d r = (0, n) := by unfold numberOf; rw [if_neg hn]
    rw [e]
    unfold spv
    clear e
    go_enter Try.func19, Try.ntmps19
    go_wp2_with (go_at_call 17; refine (hq _ (hD.alloc _)).mono ?_; rintro e w1 ⟨a', c', rfl, hr, _, _, h1⟩; obtain ⟨b0, b1, _⟩ := box2_kept h1; replace h1 := ((Below.refl w.heap.size w).alloc (Nat.le_refl _) (Obj.cells #[.int .i64 d, .int .i64 r] 24)).trans (h1.mono (by simp)))
    go_ret2
    exact ⟨rfl, h1⟩

def NumberI (w : World) (l : List Inh.Spot) (d r : Int) (i : Value) (wr : World) : Prop :=
  ∃ k : Nat, i = .int .i64 k ∧ k ≤ l.length ∧ (∀ j s, j < k → l[j]? = some s → isAt d r s = false) ∧ Below w.heap.size w wr ∧ wr.cell? ⟨w.heap.size, 0, none⟩ = some (.int .i64 d) ∧ wr.cell? ⟨w.heap.size, 1, none⟩ = some (.int .i64 r)

set_option maxRecDepth 20000 in
set_option maxHeartbeats 2000000 in
theorem refInhNumber_any (a : Option Addr) (c : Nat) (L : List DirV) (d r : Int) (w : World) (hD : Dirs w a L.length L) (hs : Small L) :
    Calls Try.prog 20 #[.slice a L.length c, spv d r] w fun e w' => e = .returned (.tuple #[.int .i64 (numberOf (Inh.allR L) d r).1, .int .i64 (numberOf (Inh.allR L) d r).2]) ∧ Below w.heap.size w w' := by
  have hq := fun w h => refInhAll_any a c L w h hs
  have hal := all_length hs
  obtain ⟨R, hR⟩ : ∃ R, R = Inh.allR L := ⟨_, rfl⟩
  rw [← hR] at hq hal ⊢
  clear hR
  obtain ⟨l, n⟩ := R
  unfold SpotsPost at hq
  simp only at hq hal ⊢
  unfold spv
  by_cases hn : n = 0
  · subst hn
    have hN := number_none (l := l) (d := d) (r := r)
    have hS := fun k s => number_some (l := l) (d := d) (r := r) (k := k) (s := s)
    obtain ⟨res, hres⟩ : ∃ res, res = numberOf (l, 0) d r := ⟨_, rfl⟩
    rw [← hres] at hN hS ⊢
    have HN := Lib.hid hN
    have HS := Lib.hid hS
    clear hres hN hS
    go_enter Try.func20, Try.ntmps20
    go_wp2_with (go_at_call 18; refine (hq _ (hD.alloc _)).mono ?_; rintro e w1 ⟨a', c', rfl, hr, _, _, h1⟩; obtain ⟨b0, b1, _⟩ := box2_kept h1; replace h1 := ((Below.refl w.heap.size w).alloc (Nat.le_refl _) (Obj.cells #[.int .i64 d, .int .i64 r] 24)).trans (h1.mono (by simp)))
    go_loopw [8] (fun i wr => ∃ k : Nat, i = .int .i64 k ∧ k ≤ l.length ∧ (∀ j s, j < k → l[j]? = some s → isAt d r s = false) ∧ Below w.heap.size w wr ∧ wr.cell? ⟨w.heap.size, 0, none⟩ = some (.int .i64 d) ∧ wr.cell? ⟨w.heap.size, 1, none⟩ = some (.int .i64 r) ∧ Rd wr 2 a' l.length (scells l)) (fun i _ => l.length - (intOf i).toNat)
    case atStart => exact ⟨0, rfl, Nat.zero_le _, by omega, h1, b0, b1, hr⟩
    case round =>
      obtain ⟨k, rfl, hk, hall, hbl, hc0, hc1, hrr⟩ := hrel
      have hsz := hbl.size
      by_cases hlt : k < l.length
      · obtain ⟨ad, rfl, hbb, hcs⟩ := hrr.get (by omega)
        have hls : l[k]? = some l[k] := List.getElem?_eq_getElem hlt
        obtain ⟨g0, g1⟩ := scells_get l k l[k] hls
        have s0 := hcs _ _ g0
        have s1 : wr.cell? ⟨(ad.add (k * 2)).block, (ad.add (k * 2)).off + 1, none⟩ = some (.int .i64 (l[k]).2) := by rw [field_addr _ _ _ (by omega)]; exact hcs _ _ g1
        obtain ⟨s, hs'⟩ : ∃ s, s = l[k] := ⟨_, rfl⟩
        rw [← hs'] at s0 s1 hls
        clear hs' g0 g1 hcs
        by_cases e1 : (s.1 : Int) = d
        · by_cases e2 : (s.2 : Int) = r
          · have hm : isAt d r s = true := by unfold isAt; simp [e1, e2]
            have Hx := Lib.hid (HS.out k s hall hls hm)
            go_wp2
            go_quiet (fail)
            go_wp2
            go_ret2
            exact ⟨by rw [Hx.out]; rfl, below_drewN hbl _⟩
          · have hm : isAt d r s = false := by unfold isAt; simp [Ne.symm e2]
            go_wp2
            go_quiet (fail)
            go_wp2
            go_roundw
            case rel =>
              refine ⟨k + 1, by go_num, by omega, ?_, below_drewN hbl _, hc0, hc1, Rd.drewN hrr _⟩
              intro j t hj ht
              rcases Nat.lt_or_ge j k with h | h
              · exact hall j t h ht
              · obtain rfl : j = k := by omega
                rw [hls] at ht
                cases ht
                exact hm
            case measure => simp [intOf]; omega
        · have hm : isAt d r s = false := by unfold isAt; simp [Ne.symm e1]
          go_wp2
          go_quiet (fail)
          go_wp2
          go_roundw
          case rel =>
            refine ⟨k + 1, by go_num, by omega, ?_, below_drewN hbl _, hc0, hc1, Rd.drewN hrr _⟩
            intro j t hj ht
            rcases Nat.lt_or_ge j k with h | h
            · exact hall j t h ht
            · obtain rfl : j = k := by omega
              rw [hls] at ht
              cases ht
              exact hm
          case measure => simp [intOf]; omega
      · obtain rfl : k = l.length := by omega
        have Hx := Lib.hid (HN.out (by
          intro s hs
          obtain ⟨j, hj, he⟩ := List.getElem_of_mem hs
          exact hall j s hj (by rw [List.getElem?_eq_getElem hj, he])))
        go_wp2
        go_ret2
        exact ⟨by rw [Hx.out]; rfl, hbl⟩
  · have e : numberOf (l, n) d r = (0, n) := by unfold numberOf; rw [if_neg hn]
    rw [e]
    clear e
    go_enter Try.func20, Try.ntmps20
    go_wp2_with (go_at_call 18; refine (hq _ (hD.alloc _)).mono ?_; rintro e w1 ⟨a', c', rfl, hr, _, _, h1⟩; obtain ⟨b0, b1, _⟩ := box2_kept h1; replace h1 := ((Below.refl w.heap.size w).alloc (Nat.le_refl _) (Obj.cells #[.int .i64 d, .int .i64 r] 24)).trans (h1.mono (by simp)))
    go_ret2
    exact ⟨rfl, h1⟩

end Go.Proofs.Ytajnkapnndhbaaa
