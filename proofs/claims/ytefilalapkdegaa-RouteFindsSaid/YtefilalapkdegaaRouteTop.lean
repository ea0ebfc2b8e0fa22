/- Kinds of segments; which of two valid routes is better, and whether some path fits both: the program and the reference. -/
import Derived.Test.YtefilalapkdegaaRouteRRoute
import Derived.Test.YtefilalapkdegaaReg
namespace Go.Proofs.Ytefilalapkdegaa
open Go.RowKit Str Mem
set_option linter.unusedVariables false
set_option linter.unusedSimpArgs false

namespace Route
/-- What a valid route's segments are like. -/
def Fine (l : List Bs) : Prop := ∀ s ∈ l, s ≠ [] ∧ (s.head? = some 42 → s = [42])
theorem fine_of {l : List Bs} {kd : Int} {t : Bs} (h : err l kd t = 0) : Fine l := by
  intro s hs
  obtain ⟨i, hi, e⟩ := List.mem_iff_getElem.1 hs
  have hv := valid_at h hi
  rw [nth_get (List.getElem?_eq_getElem hi), e] at hv
  refine ⟨segOk_ne hv, fun h42 => (kind_3 hv).1 ?_⟩
  unfold kind; rw [if_pos h42]
theorem Fine.at {l : List Bs} (h : Fine l) {k : Nat} (hk : k < l.length) : nth l k ≠ [] ∧ ((nth l k).head? = some 42 → nth l k = [42]) := h _ (List.mem_of_getElem? (nth_some hk))
def atK (l : List Bs) (k : Nat) : Nat := if l.length ≤ k then 4 else kind (nth l k)
def rankP (n : Nat) : Nat := if n = 3 then 4 else if n = 4 then 3 else n
theorem rank_at (l : List Bs) (k : Nat) : rankP (atK l k) = place l[k]? := by
  unfold atK
  rcases Nat.lt_or_ge k l.length with h | h
  · rw [if_neg (by omega), place_some h]
    rcases kind_cases (nth l k) with e | e | e <;> rw [e] <;> rfl
  · rw [if_pos h, place_none h]; rfl
theorem atK_cases (l : List Bs) (k : Nat) : atK l k = 1 ∨ atK l k = 2 ∨ atK l k = 3 ∨ atK l k = 4 := by
  unfold atK
  split
  · simp
  · rcases kind_cases (nth l k) with e | e | e <;> simp [e]
theorem place_cases (o : Option Bs) : place o = 1 ∨ place o = 2 ∨ place o = 3 ∨ place o = 4 := by
  rcases o with _ | s
  · simp [place]
  · unfold place
    rcases kind_cases s with e | e | e <;> simp [e]
theorem atK_3 (l : List Bs) (k : Nat) : atK l k = 3 ↔ place l[k]? = 4 := by
  rw [← rank_at]; rcases atK_cases l k with e | e | e | e <;> rw [e] <;> simp [rankP]
theorem atK_4 (l : List Bs) (k : Nat) : atK l k = 4 ↔ place l[k]? = 3 := by
  rw [← rank_at]; rcases atK_cases l k with e | e | e | e <;> rw [e] <;> simp [rankP]
theorem atK_1 (l : List Bs) (k : Nat) : atK l k = 1 ↔ place l[k]? = 1 := by
  rw [← rank_at]; rcases atK_cases l k with e | e | e | e <;> rw [e] <;> simp [rankP]
theorem atK_eq (l m : List Bs) (k : Nat) : atK l k = atK m k ↔ place l[k]? = place m[k]? := by
  rw [← rank_at, ← rank_at]
  rcases atK_cases l k with e | e | e | e <;> rcases atK_cases m k with f | f | f | f <;> rw [e, f] <;> simp [rankP]
theorem place_lt {l : List Bs} {k : Nat} (h : place l[k]? ≠ 3) : k < l.length := by
  rcases Nat.lt_or_ge k l.length with h1 | h1
  · exact h1
  · exact absurd (place_none h1) h
end Route

theorem head_first {s : ByteArray} (h0 : 0 < s.size) : s.data.toList.head? = some s[0] := by
  rw [List.head?_eq_getElem?, List.getElem?_eq_getElem (by rw [← size_data]; exact h0)]; rfl

theorem kind_any (s : ByteArray) (h0 : 0 < s.size) (w : World) : Calls Try.prog 44 #[.string s] w fun e w' => e = .returned (.int .i64 (Route.kind s.data.toList)) ∧ w = w' := by
  have Hk := Lib.hid (show Route.kind s.data.toList = if s[0] = 42 then 3 else if s[0] = 123 then 2 else 1 by unfold Route.kind; rw [head_first h0]; simp)
  have h1 : ((s[0].toNat : Int) == 42) = (s[0] == 42) := eq_byte s[0] 42
  have h2 : ((s[0].toNat : Int) == 123) = (s[0] == 123) := eq_byte s[0] 123
  by_cases e1 : s[0] = 42
  · rw [e1] at h1
    have H1 := Lib.hid e1
    clear e1
    have h1' : ((s[0].toNat : Int) == 42) = true := by rw [H1.out]; rfl
    go_enter Try.func44, Try.ntmps44
    go_wp2
    go_ret
    exact ⟨by rw [Hk.out, if_pos H1.out]; rfl, rfl⟩
  · have H1 := Lib.hid e1
    have h1' : ((s[0].toNat : Int) == 42) = false := by rw [h1]; simpa using e1
    clear e1 h1
    by_cases e2 : s[0] = 123
    · have H2 := Lib.hid e2
      have h2' : ((s[0].toNat : Int) == 123) = true := by rw [h2]; simpa using e2
      clear e2 h2
      go_enter Try.func44, Try.ntmps44
      go_wp2
      go_ret
      exact ⟨by rw [Hk.out, if_neg H1.out, if_pos H2.out]; rfl, rfl⟩
    · have H2 := Lib.hid e2
      have h2' : ((s[0].toNat : Int) == 123) = false := by rw [h2]; simpa using e2
      clear e2 h2
      go_enter Try.func44, Try.ntmps44
      go_wp2
      go_ret
      exact ⟨by rw [Hk.out, if_neg H1.out, if_neg H2.out]; rfl, rfl⟩

theorem rkind_any (s : ByteArray) (h0 : 0 < s.size) (h42 : s.data.toList.head? = some 42 → s.data.toList = [42]) (w : World) : Calls Try.prog 80 #[.string s] w fun e w' => e = .returned (.int .i64 (Route.kind s.data.toList)) ∧ w = w' := by
  have Hk := Lib.hid (show Route.kind s.data.toList = if s[0] = 42 then 3 else if s[0] = 123 then 2 else 1 by unfold Route.kind; rw [head_first h0]; simp)
  have h2 : ((s[0].toNat : Int) == 123) = (s[0] == 123) := eq_byte s[0] 123
  rw [head_first h0] at h42
  by_cases e1 : s.data.toList = [42]
  · have H1 := Lib.hid (show s[0] = 42 by have := head_first h0; rw [e1] at this; simpa using this.symm)
    have h1' : (s.toList == [42]) = true := by rw [toList_data, e1]; rfl
    clear e1 h42 h2
    go_enter Try.func80, Try.ntmps80
    go_wp2
    go_ret
    exact ⟨by rw [Hk.out, if_pos H1.out]; rfl, rfl⟩
  · have H1 := Lib.hid (show s[0] ≠ 42 from fun e => e1 (h42 (by rw [e])))
    have h1' : (s.toList == [42]) = false := by rw [toList_data]; simpa using e1
    clear e1 h42
    by_cases e2 : s[0] = 123
    · have H2 := Lib.hid e2
      have h2' : ((s[0].toNat : Int) == 123) = true := by rw [h2]; simpa using e2
      clear e2 h2
      go_enter Try.func80, Try.ntmps80
      go_wp2
      go_ret
      exact ⟨by rw [Hk.out, if_neg H1.out, if_pos H2.out]; rfl, rfl⟩
    · have H2 := Lib.hid e2
      have h2' : ((s[0].toNat : Int) == 123) = false := by rw [h2]; simpa using e2
      clear e2 h2
      go_enter Try.func80, Try.ntmps80
      go_wp2
      go_ret
      exact ⟨by rw [Hk.out, if_neg H1.out, if_neg H2.out]; rfl, rfl⟩

theorem rank_any (k : Nat) (hk : k = 1 ∨ k = 2 ∨ k = 3 ∨ k = 4) (w : World) : Calls Try.prog 61 #[.int .i64 k] w fun e w' => e = .returned (.int .i64 (Route.rankP k)) ∧ w = w' := by
  rcases hk with rfl | rfl | rfl | rfl
  all_goals
    go_enter Try.func61, Try.ntmps61
    go_wp2
    go_ret
    exact ⟨rfl, rfl⟩

set_option maxHeartbeats 1000000 in
theorem at_any (a : Option Addr) (c : Nat) (l : List (List UInt8)) (kd : Int) (t : List UInt8) (k : Nat) (w : World) (h : RtOk w a l.length c l t) (hf : Route.Fine l) (hk : k ≤ 100000) :
    Calls Try.prog 62 #[rtv a l.length c kd t, .int .i64 k] w fun e w' => e = .returned (.int .i64 (Route.atK l k)) ∧ Below w.heap.size w w' := by
  unfold rtv
  have hb0 : Below w.heap.size w (w.alloc (.cells #[.slice a l.length c, .int .i64 kd, .string ⟨t.toArray⟩] 35)) := (Below.refl _ w).alloc (Nat.le_refl _) _
  by_cases hlt : k < l.length
  · have Hx := Lib.hid (show Route.atK l k = Route.kind (Route.nth l k) by unfold Route.atK; rw [if_neg (by omega)])
    obtain ⟨ad, rfl, hbb, hls, hcell, hsl⟩ := (h.below hb0).get hlt
    have hs0 : 0 < (bs (Route.nth l k)).size := by rw [size_bs]; exact List.length_pos_iff.2 (hf.at hlt).1
    have hkd := fun w => kind_any (bs (Route.nth l k)) hs0 w
    rw [data_bs] at hkd
    clear hs0 hls hf
    have i0 : (0 : Int) ≤ (k : Int) := by omega
    have i1 : (k : Int) < (l.length : Int) := by omega
    go_enter Try.func62, Try.ntmps62
    go_wp2_with (go_at_call 44; refine (hkd _).mono ?_; rintro e w1 ⟨rfl, rfl⟩)
    go_ret
    exact ⟨by rw [Hx.out]; rfl, hb0⟩
  · have Hx := Lib.hid (show Route.atK l k = 4 by unfold Route.atK; rw [if_pos (by omega)])
    have hge : (l.length : Int) ≤ (k : Int) := by omega
    go_enter Try.func62, Try.ntmps62
    go_wp2
    go_ret
    exact ⟨by rw [Hx.out]; rfl, hb0⟩

set_option maxHeartbeats 1000000 in
theorem place_any (a : Option Addr) (c : Nat) (l : List (List UInt8)) (kd : Int) (t : List UInt8) (k : Nat) (w : World) (h : RtOk w a l.length c l t) (hf : Route.Fine l) (hk : k ≤ 100000) :
    Calls Try.prog 83 #[rtv a l.length c kd t, .int .i64 k] w fun e w' => e = .returned (.int .i64 (Route.place l[k]?)) ∧ Below w.heap.size w w' := by
  unfold rtv
  have hb0 : Below w.heap.size w (w.alloc (.cells #[.slice a l.length c, .int .i64 kd, .string ⟨t.toArray⟩] 35)) := (Below.refl _ w).alloc (Nat.le_refl _) _
  by_cases hlt : k < l.length
  · have Hx := Lib.hid (Route.place_some (a := l) hlt)
    obtain ⟨ad, rfl, hbb, hls, hcell, hsl⟩ := (h.below hb0).get hlt
    have hs0 : 0 < (bs (Route.nth l k)).size := by rw [size_bs]; exact List.length_pos_iff.2 (hf.at hlt).1
    have hkd := fun w => rkind_any (bs (Route.nth l k)) hs0 (by rw [data_bs]; exact (hf.at hlt).2) w
    rw [data_bs] at hkd
    obtain ⟨q, hq⟩ : ∃ q, Route.kind (Route.nth l k) = q := ⟨_, rfl⟩
    have hc := Route.kind_cases (Route.nth l k)
    have HQ := Lib.hid hq
    rw [hq] at hkd hc
    clear hs0 hls hf hq
    have i0 : (0 : Int) ≤ (k : Int) := by omega
    have i1 : (k : Int) < (l.length : Int) := by omega
    rcases hc with rfl | rfl | rfl
    all_goals
      go_enter Try.func83, Try.ntmps83
      go_wp2_with (go_at_call 80; refine (hkd _).mono ?_; rintro e w1 ⟨rfl, rfl⟩)
      go_ret
      exact ⟨by rw [Hx.out, HQ.out]; rfl, hb0⟩
  · have Hx := Lib.hid (Route.place_none (a := l) (k := k) (by omega))
    have hge : (l.length : Int) ≤ (k : Int) := by omega
    go_enter Try.func83, Try.ntmps83
    go_wp2
    go_ret
    exact ⟨by rw [Hx.out]; rfl, hb0⟩

def CmpI (w : World) (l m : List (List UInt8)) (v1 v2 v3 u1 u2 u3 : Value) (i : Value) (wr : World) : Prop :=
  ∃ k : Nat, i = .int .i64 k ∧ k ≤ max l.length m.length ∧ Route.diffTo l m k = 0 ∧ Below w.heap.size w wr ∧ Rd wr 3 (some ⟨w.heap.size, 0, none⟩) 1 [v1, v2, v3] ∧ Rd wr 3 (some ⟨w.heap.size + 1, 0, none⟩) 1 [u1, u2, u3]

theorem box3_at (w : World) (T : TypeId) (x y z : Value) (N : Nat) (h : N = w.heap.size) : Rd (w.alloc (.cells #[x, y, z] T)) 3 (some ⟨N, 0, none⟩) 1 [x, y, z] := by subst h; exact box3_new w T x y z

/-- The two boxes. -/
theorem two_boxes (w : World) (T : TypeId) (x y z x' y' z' : Value) :
    Below w.heap.size w ((w.alloc (.cells #[x, y, z] T)).alloc (.cells #[x', y', z'] T)) ∧ Rd ((w.alloc (.cells #[x, y, z] T)).alloc (.cells #[x', y', z'] T)) 3 (some ⟨w.heap.size, 0, none⟩) 1 [x, y, z] ∧ Rd ((w.alloc (.cells #[x, y, z] T)).alloc (.cells #[x', y', z'] T)) 3 (some ⟨w.heap.size + 1, 0, none⟩) 1 [x', y', z'] :=
  ⟨((Below.refl _ w).alloc (Nat.le_refl _) _).alloc (by simp) _, (box3_new w T x y z).alloc _, box3_at _ T x' y' z' _ (by simp)⟩

set_option maxRecDepth 20000 in
set_option maxHeartbeats 4000000 in
theorem compare_any (a a2 : Option Addr) (c c2 : Nat) (l m : List (List UInt8)) (kd kd2 : Int) (t t2 : List UInt8) (w : World) (h : RtOk w a l.length c l t) (h2 : RtOk w a2 m.length c2 m t2) (hf : Route.Fine l) (hf2 : Route.Fine m) (hl : l.length ≤ 16) (hm : m.length ≤ 16) :
    Calls Try.prog 39 #[rtv a l.length c kd t, rtv a2 m.length c2 kd2 t2] w fun e w' => e = .returned (.int .i64 (Route.better l m)) ∧ Below w.heap.size w w' := by
  have hat := fun (k : Nat) (hk : k ≤ 16) w' (hb : Below w.heap.size w w') => at_any a c l kd t k w' (h.below hb) hf (by omega)
  have hat2 := fun (k : Nat) (hk : k ≤ 16) w' (hb : Below w.heap.size w w') => at_any a2 c2 m kd2 t2 k w' (h2.below hb) hf2 (by omega)
  unfold rtv at hat hat2 ⊢
  obtain ⟨hb0, hx0, hy0⟩ := two_boxes w 35 (.slice a l.length c) (.int .i64 kd) (.string ⟨t.toArray⟩) (.slice a2 m.length c2) (.int .i64 kd2) (.string ⟨t2.toArray⟩)
  obtain ⟨p0, p1, p2⟩ := box3 hx0
  obtain ⟨q0, q1, q2⟩ := box3 hy0
  have hcase : (l.length : Int) < (m.length : Int) ∨ (m.length : Int) ≤ (l.length : Int) := by omega
  rcases hcase with hlm | hlm
  · go_enter Try.func39, Try.ntmps39
    go_wp2
    go_loopw [15, 5, 6, 7] (fun i _ _ _ wr => CmpI w l m (.slice a l.length c) (.int .i64 kd) (.string ⟨t.toArray⟩) (.slice a2 m.length c2) (.int .i64 kd2) (.string ⟨t2.toArray⟩) i wr) (fun i _ _ _ _ => max l.length m.length - (intOf i).toNat)
    case atStart => exact ⟨0, rfl, Nat.zero_le _, rfl, hb0, hx0, hy0⟩
    case round =>
      clear p0 p1 p2 q0 q1 q2 hx0 hy0
      obtain ⟨k, rfl, hk, hd, hbl, hbx, hby⟩ := hrel
      obtain ⟨p0, p1, p2⟩ := box3 hbx
      obtain ⟨q0, q1, q2⟩ := box3 hby
      have hk16 : k ≤ 16 := by omega
      by_cases hlt : k < max l.length m.length
      · have hi : (k : Int) < (m.length : Int) := by omega
        have HD := Lib.hid (Route.diffTo_succ hd)
        have Hd := Lib.hid hd
        have hq := hat k hk16
        have hq2 := hat2 k hk16
        have hr1 := fun w => rank_any (Route.atK l k) (Route.atK_cases l k) w
        have hr2 := fun w => rank_any (Route.atK m k) (Route.atK_cases m k) w
        rw [Route.rank_at] at hr1 hr2
        obtain ⟨x1, hx1⟩ : ∃ x, x = Route.atK l k := ⟨_, rfl⟩
        obtain ⟨x2, hx2⟩ : ∃ x, x = Route.atK m k := ⟨_, rfl⟩
        rw [← hx1] at hq hr1
        rw [← hx2] at hq2 hr2
        obtain ⟨y1, hy1⟩ : ∃ x, Route.place l[k]? = x := ⟨_, rfl⟩
        obtain ⟨y2, hy2⟩ : ∃ x, Route.place m[k]? = x := ⟨_, rfl⟩
        have HY := Lib.hid (And.intro hy1 hy2)
        rw [hy1] at hr1
        rw [hy2] at hr2
        clear hx1 hx2 hy1 hy2
        clear hd hat hat2
        go_wp2
        refine wp_region_noPanic ?_
        refine wp_region_held_drew (S := fun w' => w'.cell? ⟨w.heap.size, 0, none⟩ = some (.slice a l.length c) ∧ w'.cell? ⟨w.heap.size, 1, none⟩ = some (.int .i64 kd) ∧ w'.cell? ⟨w.heap.size, 2, none⟩ = some (.string ⟨t.toArray⟩) ∧ w'.cell? ⟨w.heap.size + 1, 0, none⟩ = some (.slice a2 m.length c2) ∧ w'.cell? ⟨w.heap.size + 1, 1, none⟩ = some (.int .i64 kd2) ∧ w'.cell? ⟨w.heap.size + 1, 2, none⟩ = some (.string ⟨t2.toArray⟩)) (by kernel_rfl) ?_ (fun hH => ?_)
        · exact ⟨p0, p1, p2, q0, q1, q2⟩
        refine Reg.take (i := 0) (u := ?b1_v0) rfl rfl rfl (by kernel_rfl) (by kernel_rfl) (by kernel_rfl) hH ?b1_y0 ?b1_r0
        case b1_y0 => (intro w hSw; (try dsimp only at hSw); go_simp; try (with_reducible rfl))
        case' b1_r0 => simp only [List.setIfInBounds_toArray, List.set_cons_zero, List.set_cons_succ]
        refine Reg.take (i := 1) (u := ?b1_v1) rfl rfl rfl (by kernel_rfl) (by kernel_rfl) (by kernel_rfl) hH ?b1_y1 ?b1_r1
        case b1_y1 => (intro w hSw; (try dsimp only at hSw); go_simp; try (with_reducible rfl))
        case' b1_r1 => simp only [List.setIfInBounds_toArray, List.set_cons_zero, List.set_cons_succ]
        refine Reg.take (i := 4) (u := ?b1_v4) rfl rfl rfl (by kernel_rfl) (by kernel_rfl) (by kernel_rfl) hH ?b1_y4 ?b1_r4
        case b1_y4 => (intro w hSw; (try dsimp only at hSw); go_simp; try (with_reducible rfl))
        case' b1_r4 => simp only [List.setIfInBounds_toArray, List.set_cons_zero, List.set_cons_succ]
        refine Reg.take (i := 5) (u := ?b1_v5) rfl rfl rfl (by kernel_rfl) (by kernel_rfl) (by kernel_rfl) hH ?b1_y5 ?b1_r5
        case b1_y5 => (intro w hSw; (try dsimp only at hSw); go_simp; try (with_reducible rfl))
        case' b1_r5 => simp only [List.setIfInBounds_toArray, List.set_cons_zero, List.set_cons_succ]
        refine Reg.only (i := 2) rfl (Reg.wanted_free rfl) (by kernel_rfl) (fun K hK => ?_)
        go_simp
        go_at_call 62; refine (hq _ (hbl.drew)).mono ?_; rintro e w1 ⟨rfl, hw1⟩; go_simp
        refine hK.out _ _ ?_ (fun hH2 => ?_)
        · (have r1 := hbx.drew.below (hw1); have r2 := hby.drew.below (hw1); obtain ⟨p0, p1, p2⟩ := box3 r1; obtain ⟨q0, q1, q2⟩ := box3 r2; exact ⟨p0, p1, p2, q0, q1, q2⟩)
        clear hK hH
        have hH := hH2; clear hH2
        try simp only [Act.put, List.setIfInBounds_toArray, List.set_cons_zero, List.set_cons_succ]
        refine Reg.only (i := 3) rfl (Reg.wanted_free rfl) (by kernel_rfl) (fun K hK => ?_)
        go_simp
        go_at_call 61; refine (hr1 _).mono ?_; rintro e w1' ⟨rfl, rfl⟩; go_simp
        refine hK.out _ _ ?_ (fun hH2 => ?_)
        · (have r1 := hbx.drew.below (hw1); have r2 := hby.drew.below (hw1); obtain ⟨p0, p1, p2⟩ := box3 r1; obtain ⟨q0, q1, q2⟩ := box3 r2; exact ⟨p0, p1, p2, q0, q1, q2⟩)
        clear hK hH
        have hH := hH2; clear hH2
        try simp only [Act.put, List.setIfInBounds_toArray, List.set_cons_zero, List.set_cons_succ]
        refine Reg.only (i := 6) rfl (Reg.wanted_free rfl) (by kernel_rfl) (fun K hK => ?_)
        go_simp
        go_at_call 62; refine (hq2 _ (hbl.drew.trans (hw1.mono hbl.size))).mono ?_; rintro e w2 ⟨rfl, hw2⟩; go_simp
        refine hK.out _ _ ?_ (fun hH2 => ?_)
        · (have r1 := hbx.drew.below ((hw1.trans (hw2.mono hw1.size))); have r2 := hby.drew.below ((hw1.trans (hw2.mono hw1.size))); obtain ⟨p0, p1, p2⟩ := box3 r1; obtain ⟨q0, q1, q2⟩ := box3 r2; exact ⟨p0, p1, p2, q0, q1, q2⟩)
        clear hK hH
        have hH := hH2; clear hH2
        try simp only [Act.put, List.setIfInBounds_toArray, List.set_cons_zero, List.set_cons_succ]
        refine Reg.only (i := 7) rfl (Reg.wanted_free rfl) (by kernel_rfl) (fun K hK => ?_)
        go_simp
        go_at_call 61; refine (hr2 _).mono ?_; rintro e w2' ⟨rfl, rfl⟩; go_simp
        refine hK.out _ _ ?_ (fun hH2 => ?_)
        · (have r1 := hbx.drew.below ((hw1.trans (hw2.mono hw1.size))); have r2 := hby.drew.below ((hw1.trans (hw2.mono hw1.size))); obtain ⟨p0, p1, p2⟩ := box3 r1; obtain ⟨q0, q1, q2⟩ := box3 r2; exact ⟨p0, p1, p2, q0, q1, q2⟩)
        clear hK hH
        have hH := hH2; clear hH2
        try simp only [Act.put, List.setIfInBounds_toArray, List.set_cons_zero, List.set_cons_succ]
        refine Reg.take (i := 8) (u := ?b1_v8) rfl rfl rfl (by kernel_rfl) (by kernel_rfl) (by kernel_rfl) hH ?b1_y8 ?b1_r8
        case b1_y8 => (intro w hSw; (try dsimp only at hSw); go_simp; try (with_reducible rfl))
        case' b1_r8 => simp only [List.setIfInBounds_toArray, List.set_cons_zero, List.set_cons_succ]
        refine Reg.take (i := 9) (u := ?b1_v9) rfl rfl rfl (by kernel_rfl) (by kernel_rfl) (by kernel_rfl) hH ?b1_y9 ?b1_r9
        case b1_y9 => (intro w hSw; (try dsimp only at hSw); go_simp; try (with_reducible rfl))
        case' b1_r9 => simp only [List.setIfInBounds_toArray, List.set_cons_zero, List.set_cons_succ]
        refine wpAnyH_done (by kernel_rfl) ?_ _
        refine NoPanic.normal ?_
        rcases Nat.lt_trichotomy y1 y2 with ho | ho | ho
        case inl =>
          have Hx := Lib.hid (Route.better_at (v := -1) hlt Hd.out (by rw [HY.out.1, HY.out.2]; exact Route.sign_lt ho) (by decide))
          have ho' : (y1 : Int) < (y2 : Int) := by omega
          go_wp2
          go_ret
          exact ⟨by rw [Hx.out]; rfl, hbl.drew.trans ((hw1.trans (hw2.mono hw1.size)).mono hbl.size)⟩
        case inr.inr =>
          have Hx := Lib.hid (Route.better_at (v := 1) hlt Hd.out (by rw [HY.out.1, HY.out.2]; exact Route.sign_gt ho) (by decide))
          have ho' : (y2 : Int) < (y1 : Int) := by omega
          have ho2 : ¬ (y1 : Int) < (y2 : Int) := by omega
          go_wp2
          go_ret
          exact ⟨by rw [Hx.out]; rfl, hbl.drew.trans ((hw1.trans (hw2.mono hw1.size)).mono hbl.size)⟩
        case inr.inl =>
          subst ho
          go_wp2
          go_roundw
          case rel => exact ⟨k + 1, by go_num, by omega, by rw [HD.out, HY.out.1, HY.out.2, Route.sign_eq], hbl.drew.trans ((hw1.trans (hw2.mono hw1.size)).mono hbl.size), hbx.drew.below (hw1.trans (hw2.mono hw1.size)), hby.drew.below (hw1.trans (hw2.mono hw1.size))⟩
          case measure => simp [intOf]; omega
      · have hi : (m.length : Int) ≤ (k : Int) := by omega
        have HB := Lib.hid (show Route.better l m = 0 by unfold Route.better; rw [show max l.length m.length = k by omega]; exact hd)
        clear hd
        go_wp2
        go_ret
        exact ⟨by rw [HB.out]; rfl, hbl⟩
  · go_enter Try.func39, Try.ntmps39
    go_wp2
    go_loopw [15, 5, 6, 7] (fun i _ _ _ wr => CmpI w l m (.slice a l.length c) (.int .i64 kd) (.string ⟨t.toArray⟩) (.slice a2 m.length c2) (.int .i64 kd2) (.string ⟨t2.toArray⟩) i wr) (fun i _ _ _ _ => max l.length m.length - (intOf i).toNat)
    case atStart => exact ⟨0, rfl, Nat.zero_le _, rfl, hb0, hx0, hy0⟩
    case round =>
      clear p0 p1 p2 q0 q1 q2 hx0 hy0
      obtain ⟨k, rfl, hk, hd, hbl, hbx, hby⟩ := hrel
      obtain ⟨p0, p1, p2⟩ := box3 hbx
      obtain ⟨q0, q1, q2⟩ := box3 hby
      have hk16 : k ≤ 16 := by omega
      by_cases hlt : k < max l.length m.length
      · have hi : (k : Int) < (l.length : Int) := by omega
        have HD := Lib.hid (Route.diffTo_succ hd)
        have Hd := Lib.hid hd
        have hq := hat k hk16
        have hq2 := hat2 k hk16
        have hr1 := fun w => rank_any (Route.atK l k) (Route.atK_cases l k) w
        have hr2 := fun w => rank_any (Route.atK m k) (Route.atK_cases m k) w
        rw [Route.rank_at] at hr1 hr2
        obtain ⟨x1, hx1⟩ : ∃ x, x = Route.atK l k := ⟨_, rfl⟩
        obtain ⟨x2, hx2⟩ : ∃ x, x = Route.atK m k := ⟨_, rfl⟩
        rw [← hx1] at hq hr1
        rw [← hx2] at hq2 hr2
        obtain ⟨y1, hy1⟩ : ∃ x, Route.place l[k]? = x := ⟨_, rfl⟩
        obtain ⟨y2, hy2⟩ : ∃ x, Route.place m[k]? = x := ⟨_, rfl⟩
        have HY := Lib.hid (And.intro hy1 hy2)
        rw [hy1] at hr1
        rw [hy2] at hr2
        clear hx1 hx2 hy1 hy2
        clear hd hat hat2
        go_wp2
        refine wp_region_noPanic ?_
        refine wp_region_held_drew (S := fun w' => w'.cell? ⟨w.heap.size, 0, none⟩ = some (.slice a l.length c) ∧ w'.cell? ⟨w.heap.size, 1, none⟩ = some (.int .i64 kd) ∧ w'.cell? ⟨w.heap.size, 2, none⟩ = some (.string ⟨t.toArray⟩) ∧ w'.cell? ⟨w.heap.size + 1, 0, none⟩ = some (.slice a2 m.length c2) ∧ w'.cell? ⟨w.heap.size + 1, 1, none⟩ = some (.int .i64 kd2) ∧ w'.cell? ⟨w.heap.size + 1, 2, none⟩ = some (.string ⟨t2.toArray⟩)) (by kernel_rfl) ?_ (fun hH => ?_)
        · exact ⟨p0, p1, p2, q0, q1, q2⟩
        refine Reg.take (i := 0) (u := ?b2_v0) rfl rfl rfl (by kernel_rfl) (by kernel_rfl) (by kernel_rfl) hH ?b2_y0 ?b2_r0
        case b2_y0 => (intro w hSw; (try dsimp only at hSw); go_simp; try (with_reducible rfl))
        case' b2_r0 => simp only [List.setIfInBounds_toArray, List.set_cons_zero, List.set_cons_succ]
        refine Reg.take (i := 1) (u := ?b2_v1) rfl rfl rfl (by kernel_rfl) (by kernel_rfl) (by kernel_rfl) hH ?b2_y1 ?b2_r1
        case b2_y1 => (intro w hSw; (try dsimp only at hSw); go_simp; try (with_reducible rfl))
        case' b2_r1 => simp only [List.setIfInBounds_toArray, List.set_cons_zero, List.set_cons_succ]
        refine Reg.take (i := 4) (u := ?b2_v4) rfl rfl rfl (by kernel_rfl) (by kernel_rfl) (by kernel_rfl) hH ?b2_y4 ?b2_r4
        case b2_y4 => (intro w hSw; (try dsimp only at hSw); go_simp; try (with_reducible rfl))
        case' b2_r4 => simp only [List.setIfInBounds_toArray, List.set_cons_zero, List.set_cons_succ]
        refine Reg.take (i := 5) (u := ?b2_v5) rfl rfl rfl (by kernel_rfl) (by kernel_rfl) (by kernel_rfl) hH ?b2_y5 ?b2_r5
        case b2_y5 => (intro w hSw; (try dsimp only at hSw); go_simp; try (with_reducible rfl))
        case' b2_r5 => simp only [List.setIfInBounds_toArray, List.set_cons_zero, List.set_cons_succ]
        refine Reg.only (i := 2) rfl (Reg.wanted_free rfl) (by kernel_rfl) (fun K hK => ?_)
        go_simp
        go_at_call 62; refine (hq _ (hbl.drew)).mono ?_; rintro e w1 ⟨rfl, hw1⟩; go_simp
        refine hK.out _ _ ?_ (fun hH2 => ?_)
        · (have r1 := hbx.drew.below (hw1); have r2 := hby.drew.below (hw1); obtain ⟨p0, p1, p2⟩ := box3 r1; obtain ⟨q0, q1, q2⟩ := box3 r2; exact ⟨p0, p1, p2, q0, q1, q2⟩)
        clear hK hH
        have hH := hH2; clear hH2
        try simp only [Act.put, List.setIfInBounds_toArray, List.set_cons_zero, List.set_cons_succ]
        refine Reg.only (i := 3) rfl (Reg.wanted_free rfl) (by kernel_rfl) (fun K hK => ?_)
        go_simp
        go_at_call 61; refine (hr1 _).mono ?_; rintro e w1' ⟨rfl, rfl⟩; go_simp
        refine hK.out _ _ ?_ (fun hH2 => ?_)
        · (have r1 := hbx.drew.below (hw1); have r2 := hby.drew.below (hw1); obtain ⟨p0, p1, p2⟩ := box3 r1; obtain ⟨q0, q1, q2⟩ := box3 r2; exact ⟨p0, p1, p2, q0, q1, q2⟩)
        clear hK hH
        have hH := hH2; clear hH2
        try simp only [Act.put, List.setIfInBounds_toArray, List.set_cons_zero, List.set_cons_succ]
        refine Reg.only (i := 6) rfl (Reg.wanted_free rfl) (by kernel_rfl) (fun K hK => ?_)
        go_simp
        go_at_call 62; refine (hq2 _ (hbl.drew.trans (hw1.mono hbl.size))).mono ?_; rintro e w2 ⟨rfl, hw2⟩; go_simp
        refine hK.out _ _ ?_ (fun hH2 => ?_)
        · (have r1 := hbx.drew.below ((hw1.trans (hw2.mono hw1.size))); have r2 := hby.drew.below ((hw1.trans (hw2.mono hw1.size))); obtain ⟨p0, p1, p2⟩ := box3 r1; obtain ⟨q0, q1, q2⟩ := box3 r2; exact ⟨p0, p1, p2, q0, q1, q2⟩)
        clear hK hH
        have hH := hH2; clear hH2
        try simp only [Act.put, List.setIfInBounds_toArray, List.set_cons_zero, List.set_cons_succ]
        refine Reg.only (i := 7) rfl (Reg.wanted_free rfl) (by kernel_rfl) (fun K hK => ?_)
        go_simp
        go_at_call 61; refine (hr2 _).mono ?_; rintro e w2' ⟨rfl, rfl⟩; go_simp
        refine hK.out _ _ ?_ (fun hH2 => ?_)
        · (have r1 := hbx.drew.below ((hw1.trans (hw2.mono hw1.size))); have r2 := hby.drew.below ((hw1.trans (hw2.mono hw1.size))); obtain ⟨p0, p1, p2⟩ := box3 r1; obtain ⟨q0, q1, q2⟩ := box3 r2; exact ⟨p0, p1, p2, q0, q1, q2⟩)
        clear hK hH
        have hH := hH2; clear hH2
        try simp only [Act.put, List.setIfInBounds_toArray, List.set_cons_zero, List.set_cons_succ]
        refine Reg.take (i := 8) (u := ?b2_v8) rfl rfl rfl (by kernel_rfl) (by kernel_rfl) (by kernel_rfl) hH ?b2_y8 ?b2_r8
        case b2_y8 => (intro w hSw; (try dsimp only at hSw); go_simp; try (with_reducible rfl))
        case' b2_r8 => simp only [List.setIfInBounds_toArray, List.set_cons_zero, List.set_cons_succ]
        refine Reg.take (i := 9) (u := ?b2_v9) rfl rfl rfl (by kernel_rfl) (by kernel_rfl) (by kernel_rfl) hH ?b2_y9 ?b2_r9
        case b2_y9 => (intro w hSw; (try dsimp only at hSw); go_simp; try (with_reducible rfl))
        case' b2_r9 => simp only [List.setIfInBounds_toArray, List.set_cons_zero, List.set_cons_succ]
        refine wpAnyH_done (by kernel_rfl) ?_ _
        refine NoPanic.normal ?_
        rcases Nat.lt_trichotomy y1 y2 with ho | ho | ho
        case inl =>
          have Hx := Lib.hid (Route.better_at (v := -1) hlt Hd.out (by rw [HY.out.1, HY.out.2]; exact Route.sign_lt ho) (by decide))
          have ho' : (y1 : Int) < (y2 : Int) := by omega
          go_wp2
          go_ret
          exact ⟨by rw [Hx.out]; rfl, hbl.drew.trans ((hw1.trans (hw2.mono hw1.size)).mono hbl.size)⟩
        case inr.inr =>
          have Hx := Lib.hid (Route.better_at (v := 1) hlt Hd.out (by rw [HY.out.1, HY.out.2]; exact Route.sign_gt ho) (by decide))
          have ho' : (y2 : Int) < (y1 : Int) := by omega
          have ho2 : ¬ (y1 : Int) < (y2 : Int) := by omega
          go_wp2
          go_ret
          exact ⟨by rw [Hx.out]; rfl, hbl.drew.trans ((hw1.trans (hw2.mono hw1.size)).mono hbl.size)⟩
        case inr.inl =>
          subst ho
          go_wp2
          go_roundw
          case rel => exact ⟨k + 1, by go_num, by omega, by rw [HD.out, HY.out.1, HY.out.2, Route.sign_eq], hbl.drew.trans ((hw1.trans (hw2.mono hw1.size)).mono hbl.size), hbx.drew.below (hw1.trans (hw2.mono hw1.size)), hby.drew.below (hw1.trans (hw2.mono hw1.size))⟩
          case measure => simp [intOf]; omega
      · have hi : (l.length : Int) ≤ (k : Int) := by omega
        have HB := Lib.hid (show Route.better l m = 0 by unfold Route.better; rw [show max l.length m.length = k by omega]; exact hd)
        clear hd
        go_wp2
        go_ret
        exact ⟨by rw [HB.out]; rfl, hbl⟩

set_option maxRecDepth 20000 in
set_option maxHeartbeats 4000000 in
theorem rbetter_any (a a2 : Option Addr) (c c2 : Nat) (l m : List (List UInt8)) (kd kd2 : Int) (t t2 : List UInt8) (w : World) (h : RtOk w a l.length c l t) (h2 : RtOk w a2 m.length c2 m t2) (hf : Route.Fine l) (hf2 : Route.Fine m) (hl : l.length ≤ 16) (hm : m.length ≤ 16) :
    Calls Try.prog 53 #[rtv a l.length c kd t, rtv a2 m.length c2 kd2 t2] w fun e w' => e = .returned (.int .i64 (Route.better l m)) ∧ Below w.heap.size w w' := by
  have hat := fun (k : Nat) (hk : k ≤ 16) w' (hb : Below w.heap.size w w') => place_any a c l kd t k w' (h.below hb) hf (by omega)
  have hat2 := fun (k : Nat) (hk : k ≤ 16) w' (hb : Below w.heap.size w w') => place_any a2 c2 m kd2 t2 k w' (h2.below hb) hf2 (by omega)
  unfold rtv at hat hat2 ⊢
  obtain ⟨hb0, hx0, hy0⟩ := two_boxes w 35 (.slice a l.length c) (.int .i64 kd) (.string ⟨t.toArray⟩) (.slice a2 m.length c2) (.int .i64 kd2) (.string ⟨t2.toArray⟩)
  obtain ⟨p0, p1, p2⟩ := box3 hx0
  obtain ⟨q0, q1, q2⟩ := box3 hy0
  go_enter Try.func53, Try.ntmps53
  go_wp2
  go_loopw [5, 6, 7] (fun i _ _ wr => CmpI w l m (.slice a l.length c) (.int .i64 kd) (.string ⟨t.toArray⟩) (.slice a2 m.length c2) (.int .i64 kd2) (.string ⟨t2.toArray⟩) i wr) (fun i _ _ _ => max l.length m.length - (intOf i).toNat)
  case atStart => exact ⟨0, rfl, Nat.zero_le _, rfl, hb0, hx0, hy0⟩
  case round =>
    clear p0 p1 p2 q0 q1 q2 hx0 hy0
    obtain ⟨k, rfl, hk, hd, hbl, hbx, hby⟩ := hrel
    obtain ⟨p0, p1, p2⟩ := box3 hbx
    obtain ⟨q0, q1, q2⟩ := box3 hby
    have hk16 : k ≤ 16 := by omega
    by_cases hlt : k < max l.length m.length
    · rcases Nat.lt_or_ge k l.length with hi0 | hi0
      · have hi : (k : Int) < (l.length : Int) := by omega
        have HD := Lib.hid (Route.diffTo_succ hd)
        have Hd := Lib.hid hd
        have hq := hat k hk16
        have hq2 := hat2 k hk16
        obtain ⟨y1, hy1⟩ : ∃ x, Route.place l[k]? = x := ⟨_, rfl⟩
        obtain ⟨y2, hy2⟩ : ∃ x, Route.place m[k]? = x := ⟨_, rfl⟩
        have HY := Lib.hid (And.intro hy1 hy2)
        rw [hy1] at hq
        rw [hy2] at hq2
        clear hy1 hy2
        clear hd hat hat2
        go_wp2
        refine wp_region_noPanic ?_
        refine wp_region_held_drew (S := fun w' => w'.cell? ⟨w.heap.size, 0, none⟩ = some (.slice a l.length c) ∧ w'.cell? ⟨w.heap.size, 1, none⟩ = some (.int .i64 kd) ∧ w'.cell? ⟨w.heap.size, 2, none⟩ = some (.string ⟨t.toArray⟩) ∧ w'.cell? ⟨w.heap.size + 1, 0, none⟩ = some (.slice a2 m.length c2) ∧ w'.cell? ⟨w.heap.size + 1, 1, none⟩ = some (.int .i64 kd2) ∧ w'.cell? ⟨w.heap.size + 1, 2, none⟩ = some (.string ⟨t2.toArray⟩)) (by kernel_rfl) ?_ (fun hH => ?_)
        · exact ⟨p0, p1, p2, q0, q1, q2⟩
        refine Reg.take (i := 0) (u := ?b3_v0) rfl rfl rfl (by kernel_rfl) (by kernel_rfl) (by kernel_rfl) hH ?b3_y0 ?b3_r0
        case b3_y0 => (intro w hSw; (try dsimp only at hSw); go_simp; try (with_reducible rfl))
        case' b3_r0 => simp only [List.setIfInBounds_toArray, List.set_cons_zero, List.set_cons_succ]
        refine Reg.take (i := 1) (u := ?b3_v1) rfl rfl rfl (by kernel_rfl) (by kernel_rfl) (by kernel_rfl) hH ?b3_y1 ?b3_r1
        case b3_y1 => (intro w hSw; (try dsimp only at hSw); go_simp; try (with_reducible rfl))
        case' b3_r1 => simp only [List.setIfInBounds_toArray, List.set_cons_zero, List.set_cons_succ]
        refine Reg.take (i := 3) (u := ?b3_v3) rfl rfl rfl (by kernel_rfl) (by kernel_rfl) (by kernel_rfl) hH ?b3_y3 ?b3_r3
        case b3_y3 => (intro w hSw; (try dsimp only at hSw); go_simp; try (with_reducible rfl))
        case' b3_r3 => simp only [List.setIfInBounds_toArray, List.set_cons_zero, List.set_cons_succ]
        refine Reg.take (i := 4) (u := ?b3_v4) rfl rfl rfl (by kernel_rfl) (by kernel_rfl) (by kernel_rfl) hH ?b3_y4 ?b3_r4
        case b3_y4 => (intro w hSw; (try dsimp only at hSw); go_simp; try (with_reducible rfl))
        case' b3_r4 => simp only [List.setIfInBounds_toArray, List.set_cons_zero, List.set_cons_succ]
        refine Reg.only (i := 2) rfl (Reg.wanted_free rfl) (by kernel_rfl) (fun K hK => ?_)
        go_simp
        go_at_call 83; refine (hq _ (hbl.drew)).mono ?_; rintro e w1 ⟨rfl, hw1⟩; go_simp
        refine hK.out _ _ ?_ (fun hH2 => ?_)
        · (have r1 := hbx.drew.below (hw1); have r2 := hby.drew.below (hw1); obtain ⟨p0, p1, p2⟩ := box3 r1; obtain ⟨q0, q1, q2⟩ := box3 r2; exact ⟨p0, p1, p2, q0, q1, q2⟩)
        clear hK hH
        have hH := hH2; clear hH2
        try simp only [Act.put, List.setIfInBounds_toArray, List.set_cons_zero, List.set_cons_succ]
        refine Reg.only (i := 5) rfl (Reg.wanted_free rfl) (by kernel_rfl) (fun K hK => ?_)
        go_simp
        go_at_call 83; refine (hq2 _ (hbl.drew.trans (hw1.mono hbl.size))).mono ?_; rintro e w2 ⟨rfl, hw2⟩; go_simp
        refine hK.out _ _ ?_ (fun hH2 => ?_)
        · (have r1 := hbx.drew.below ((hw1.trans (hw2.mono hw1.size))); have r2 := hby.drew.below ((hw1.trans (hw2.mono hw1.size))); obtain ⟨p0, p1, p2⟩ := box3 r1; obtain ⟨q0, q1, q2⟩ := box3 r2; exact ⟨p0, p1, p2, q0, q1, q2⟩)
        clear hK hH
        have hH := hH2; clear hH2
        try simp only [Act.put, List.setIfInBounds_toArray, List.set_cons_zero, List.set_cons_succ]
        refine Reg.take (i := 6) (u := ?b3_v6) rfl rfl rfl (by kernel_rfl) (by kernel_rfl) (by kernel_rfl) hH ?b3_y6 ?b3_r6
        case b3_y6 => (intro w hSw; (try dsimp only at hSw); go_simp; try (with_reducible rfl))
        case' b3_r6 => simp only [List.setIfInBounds_toArray, List.set_cons_zero, List.set_cons_succ]
        refine Reg.take (i := 7) (u := ?b3_v7) rfl rfl rfl (by kernel_rfl) (by kernel_rfl) (by kernel_rfl) hH ?b3_y7 ?b3_r7
        case b3_y7 => (intro w hSw; (try dsimp only at hSw); go_simp; try (with_reducible rfl))
        case' b3_r7 => simp only [List.setIfInBounds_toArray, List.set_cons_zero, List.set_cons_succ]
        refine wpAnyH_done (by kernel_rfl) ?_ _
        refine NoPanic.normal ?_
        rcases Nat.lt_trichotomy y1 y2 with ho | ho | ho
        case inl =>
          have Hx := Lib.hid (Route.better_at (v := -1) hlt Hd.out (by rw [HY.out.1, HY.out.2]; exact Route.sign_lt ho) (by decide))
          have ho' : (y1 : Int) < (y2 : Int) := by omega
          go_wp2
          go_ret
          exact ⟨by rw [Hx.out]; rfl, hbl.drew.trans ((hw1.trans (hw2.mono hw1.size)).mono hbl.size)⟩
        case inr.inr =>
          have Hx := Lib.hid (Route.better_at (v := 1) hlt Hd.out (by rw [HY.out.1, HY.out.2]; exact Route.sign_gt ho) (by decide))
          have ho' : (y2 : Int) < (y1 : Int) := by omega
          have ho2 : ¬ (y1 : Int) < (y2 : Int) := by omega
          go_wp2
          go_ret
          exact ⟨by rw [Hx.out]; rfl, hbl.drew.trans ((hw1.trans (hw2.mono hw1.size)).mono hbl.size)⟩
        case inr.inl =>
          subst ho
          go_wp2
          go_roundw
          case rel => exact ⟨k + 1, by go_num, by omega, by rw [HD.out, HY.out.1, HY.out.2, Route.sign_eq], hbl.drew.trans ((hw1.trans (hw2.mono hw1.size)).mono hbl.size), hbx.drew.below (hw1.trans (hw2.mono hw1.size)), hby.drew.below (hw1.trans (hw2.mono hw1.size))⟩
          case measure => simp [intOf]; omega
      · have hi : (l.length : Int) ≤ (k : Int) := by omega
        have hi2 : (k : Int) < (m.length : Int) := by omega
        have HD := Lib.hid (Route.diffTo_succ hd)
        have Hd := Lib.hid hd
        have hq := hat k hk16
        have hq2 := hat2 k hk16
        obtain ⟨y1, hy1⟩ : ∃ x, Route.place l[k]? = x := ⟨_, rfl⟩
        obtain ⟨y2, hy2⟩ : ∃ x, Route.place m[k]? = x := ⟨_, rfl⟩
        have HY := Lib.hid (And.intro hy1 hy2)
        rw [hy1] at hq
        rw [hy2] at hq2
        clear hy1 hy2
        clear hd hat hat2
        go_wp2
        refine wp_region_noPanic ?_
        refine wp_region_held_drew (S := fun w' => w'.cell? ⟨w.heap.size, 0, none⟩ = some (.slice a l.length c) ∧ w'.cell? ⟨w.heap.size, 1, none⟩ = some (.int .i64 kd) ∧ w'.cell? ⟨w.heap.size, 2, none⟩ = some (.string ⟨t.toArray⟩) ∧ w'.cell? ⟨w.heap.size + 1, 0, none⟩ = some (.slice a2 m.length c2) ∧ w'.cell? ⟨w.heap.size + 1, 1, none⟩ = some (.int .i64 kd2) ∧ w'.cell? ⟨w.heap.size + 1, 2, none⟩ = some (.string ⟨t2.toArray⟩)) (by kernel_rfl) ?_ (fun hH => ?_)
        · exact ⟨p0, p1, p2, q0, q1, q2⟩
        refine Reg.take (i := 0) (u := ?b4_v0) rfl rfl rfl (by kernel_rfl) (by kernel_rfl) (by kernel_rfl) hH ?b4_y0 ?b4_r0
        case b4_y0 => (intro w hSw; (try dsimp only at hSw); go_simp; try (with_reducible rfl))
        case' b4_r0 => simp only [List.setIfInBounds_toArray, List.set_cons_zero, List.set_cons_succ]
        refine Reg.take (i := 1) (u := ?b4_v1) rfl rfl rfl (by kernel_rfl) (by kernel_rfl) (by kernel_rfl) hH ?b4_y1 ?b4_r1
        case b4_y1 => (intro w hSw; (try dsimp only at hSw); go_simp; try (with_reducible rfl))
        case' b4_r1 => simp only [List.setIfInBounds_toArray, List.set_cons_zero, List.set_cons_succ]
        refine Reg.take (i := 3) (u := ?b4_v3) rfl rfl rfl (by kernel_rfl) (by kernel_rfl) (by kernel_rfl) hH ?b4_y3 ?b4_r3
        case b4_y3 => (intro w hSw; (try dsimp only at hSw); go_simp; try (with_reducible rfl))
        case' b4_r3 => simp only [List.setIfInBounds_toArray, List.set_cons_zero, List.set_cons_succ]
        refine Reg.take (i := 4) (u := ?b4_v4) rfl rfl rfl (by kernel_rfl) (by kernel_rfl) (by kernel_rfl) hH ?b4_y4 ?b4_r4
        case b4_y4 => (intro w hSw; (try dsimp only at hSw); go_simp; try (with_reducible rfl))
        case' b4_r4 => simp only [List.setIfInBounds_toArray, List.set_cons_zero, List.set_cons_succ]
        refine Reg.only (i := 2) rfl (Reg.wanted_free rfl) (by kernel_rfl) (fun K hK => ?_)
        go_simp
        go_at_call 83; refine (hq _ (hbl.drew)).mono ?_; rintro e w1 ⟨rfl, hw1⟩; go_simp
        refine hK.out _ _ ?_ (fun hH2 => ?_)
        · (have r1 := hbx.drew.below (hw1); have r2 := hby.drew.below (hw1); obtain ⟨p0, p1, p2⟩ := box3 r1; obtain ⟨q0, q1, q2⟩ := box3 r2; exact ⟨p0, p1, p2, q0, q1, q2⟩)
        clear hK hH
        have hH := hH2; clear hH2
        try simp only [Act.put, List.setIfInBounds_toArray, List.set_cons_zero, List.set_cons_succ]
        refine Reg.only (i := 5) rfl (Reg.wanted_free rfl) (by kernel_rfl) (fun K hK => ?_)
        go_simp
        go_at_call 83; refine (hq2 _ (hbl.drew.trans (hw1.mono hbl.size))).mono ?_; rintro e w2 ⟨rfl, hw2⟩; go_simp
        refine hK.out _ _ ?_ (fun hH2 => ?_)
        · (have r1 := hbx.drew.below ((hw1.trans (hw2.mono hw1.size))); have r2 := hby.drew.below ((hw1.trans (hw2.mono hw1.size))); obtain ⟨p0, p1, p2⟩ := box3 r1; obtain ⟨q0, q1, q2⟩ := box3 r2; exact ⟨p0, p1, p2, q0, q1, q2⟩)
        clear hK hH
        have hH := hH2; clear hH2
        try simp only [Act.put, List.setIfInBounds_toArray, List.set_cons_zero, List.set_cons_succ]
        refine Reg.take (i := 6) (u := ?b4_v6) rfl rfl rfl (by kernel_rfl) (by kernel_rfl) (by kernel_rfl) hH ?b4_y6 ?b4_r6
        case b4_y6 => (intro w hSw; (try dsimp only at hSw); go_simp; try (with_reducible rfl))
        case' b4_r6 => simp only [List.setIfInBounds_toArray, List.set_cons_zero, List.set_cons_succ]
        refine Reg.take (i := 7) (u := ?b4_v7) rfl rfl rfl (by kernel_rfl) (by kernel_rfl) (by kernel_rfl) hH ?b4_y7 ?b4_r7
        case b4_y7 => (intro w hSw; (try dsimp only at hSw); go_simp; try (with_reducible rfl))
        case' b4_r7 => simp only [List.setIfInBounds_toArray, List.set_cons_zero, List.set_cons_succ]
        refine wpAnyH_done (by kernel_rfl) ?_ _
        refine NoPanic.normal ?_
        rcases Nat.lt_trichotomy y1 y2 with ho | ho | ho
        case inl =>
          have Hx := Lib.hid (Route.better_at (v := -1) hlt Hd.out (by rw [HY.out.1, HY.out.2]; exact Route.sign_lt ho) (by decide))
          have ho' : (y1 : Int) < (y2 : Int) := by omega
          go_wp2
          go_ret
          exact ⟨by rw [Hx.out]; rfl, hbl.drew.trans ((hw1.trans (hw2.mono hw1.size)).mono hbl.size)⟩
        case inr.inr =>
          have Hx := Lib.hid (Route.better_at (v := 1) hlt Hd.out (by rw [HY.out.1, HY.out.2]; exact Route.sign_gt ho) (by decide))
          have ho' : (y2 : Int) < (y1 : Int) := by omega
          have ho2 : ¬ (y1 : Int) < (y2 : Int) := by omega
          go_wp2
          go_ret
          exact ⟨by rw [Hx.out]; rfl, hbl.drew.trans ((hw1.trans (hw2.mono hw1.size)).mono hbl.size)⟩
        case inr.inl =>
          subst ho
          go_wp2
          go_roundw
          case rel => exact ⟨k + 1, by go_num, by omega, by rw [HD.out, HY.out.1, HY.out.2, Route.sign_eq], hbl.drew.trans ((hw1.trans (hw2.mono hw1.size)).mono hbl.size), hbx.drew.below (hw1.trans (hw2.mono hw1.size)), hby.drew.below (hw1.trans (hw2.mono hw1.size))⟩
          case measure => simp [intOf]; omega
    · have hi : (l.length : Int) ≤ (k : Int) := by omega
      have hi2 : (m.length : Int) ≤ (k : Int) := by omega
      have HB := Lib.hid (show Route.better l m = 0 by unfold Route.better; rw [show max l.length m.length = k by omega]; exact hd)
      clear hd
      go_wp2
      go_ret
      exact ⟨by rw [HB.out]; rfl, hbl⟩


end Go.Proofs.Ytefilalapkdegaa
namespace Go.Proofs.Ytefilalapkdegaa
open Go.RowKit Str Mem
set_option linter.unusedVariables false
set_option linter.unusedSimpArgs false

def BothI (w : World) (l m : List (List UInt8)) (v1 v2 v3 u1 u2 u3 : Value) (i : Value) (wr : World) : Prop :=
  ∃ k : Nat, i = .int .i64 k ∧ k ≤ l.length ∧ Route.bothTo l m k = none ∧ Below w.heap.size w wr ∧ Rd wr 3 (some ⟨w.heap.size, 0, none⟩) 1 [v1, v2, v3] ∧ Rd wr 3 (some ⟨w.heap.size + 1, 0, none⟩) 1 [u1, u2, u3]

set_option maxRecDepth 20000 in
set_option maxHeartbeats 4000000 in
theorem common_any (a a2 : Option Addr) (c c2 : Nat) (l m : List (List UInt8)) (kd kd2 : Int) (t t2 : List UInt8) (w : World) (h : RtOk w a l.length c l t) (h2 : RtOk w a2 m.length c2 m t2) (hf : Route.Fine l) (hf2 : Route.Fine m) (hl : l.length ≤ 16) (hm : m.length ≤ 16) :
    Calls Try.prog 47 #[rtv a l.length c kd t, rtv a2 m.length c2 kd2 t2] w fun e w' => e = .returned (.bool (Route.both l m)) ∧ Below w.heap.size w w' := by
  have hat := fun (k : Nat) (hk : k ≤ 16) w' (hb : Below w.heap.size w w') => at_any a c l kd t k w' (h.below hb) hf (by omega)
  have hat2 := fun (k : Nat) (hk : k ≤ 16) w' (hb : Below w.heap.size w w') => at_any a2 c2 m kd2 t2 k w' (h2.below hb) hf2 (by omega)
  unfold rtv at hat hat2 ⊢
  obtain ⟨hb0, hx0, hy0⟩ := two_boxes w 35 (.slice a l.length c) (.int .i64 kd) (.string ⟨t.toArray⟩) (.slice a2 m.length c2) (.int .i64 kd2) (.string ⟨t2.toArray⟩)
  obtain ⟨p0, p1, p2⟩ := box3 hx0
  obtain ⟨q0, q1, q2⟩ := box3 hy0
  go_enter Try.func47, Try.ntmps47
  go_wp2
  go_loopw [5, 6, 7] (fun i _ _ wr => BothI w l m (.slice a l.length c) (.int .i64 kd) (.string ⟨t.toArray⟩) (.slice a2 m.length c2) (.int .i64 kd2) (.string ⟨t2.toArray⟩) i wr) (fun i _ _ _ => l.length + 1 - (intOf i).toNat)
  case atStart => exact ⟨0, rfl, Nat.zero_le _, rfl, hb0, hx0, hy0⟩
  case round =>
    clear p0 p1 p2 q0 q1 q2 hx0 hy0
    obtain ⟨k, rfl, hk, hd, hbl, hbx, hby⟩ := hrel
    obtain ⟨p0, p1, p2⟩ := box3 hbx
    obtain ⟨q0, q1, q2⟩ := box3 hby
    have hk16 : k ≤ 16 := by omega
    have Hd := Lib.hid hd
    have hq := hat k hk16
    have hq2 := hat2 k hk16
    have hc1 := Route.atK_cases l k
    have hc2 := Route.atK_cases m k
    have HR := Lib.hid (And.intro (Route.rank_at l k) (Route.rank_at m k))
    obtain ⟨y1, hy1⟩ : ∃ x, Route.atK l k = x := ⟨_, rfl⟩
    obtain ⟨y2, hy2⟩ : ∃ x, Route.atK m k = x := ⟨_, rfl⟩
    have HY := Lib.hid (show Route.place l[k]? = Route.rankP y1 ∧ Route.place m[k]? = Route.rankP y2 by rw [← hy1, ← hy2]; exact ⟨HR.out.1.symm, HR.out.2.symm⟩)
    rw [hy1] at hq hc1
    rw [hy2] at hq2 hc2
    clear hy1 hy2 HR
    clear hd hat hat2
    go_wp2
    refine wp_region_noPanic ?_
    refine wp_region_held_drew (S := fun w' => w'.cell? ⟨w.heap.size, 0, none⟩ = some (.slice a l.length c) ∧ w'.cell? ⟨w.heap.size, 1, none⟩ = some (.int .i64 kd) ∧ w'.cell? ⟨w.heap.size, 2, none⟩ = some (.string ⟨t.toArray⟩) ∧ w'.cell? ⟨w.heap.size + 1, 0, none⟩ = some (.slice a2 m.length c2) ∧ w'.cell? ⟨w.heap.size + 1, 1, none⟩ = some (.int .i64 kd2) ∧ w'.cell? ⟨w.heap.size + 1, 2, none⟩ = some (.string ⟨t2.toArray⟩)) (by kernel_rfl) ?_ (fun hH => ?_)
    · exact ⟨p0, p1, p2, q0, q1, q2⟩
    refine Reg.take (i := 0) (u := ?b5_v0) rfl rfl rfl (by kernel_rfl) (by kernel_rfl) (by kernel_rfl) hH ?b5_y0 ?b5_r0
    case b5_y0 => (intro w hSw; (try dsimp only at hSw); go_simp; try (with_reducible rfl))
    case' b5_r0 => simp only [List.setIfInBounds_toArray, List.set_cons_zero, List.set_cons_succ]
    refine Reg.take (i := 1) (u := ?b5_v1) rfl rfl rfl (by kernel_rfl) (by kernel_rfl) (by kernel_rfl) hH ?b5_y1 ?b5_r1
    case b5_y1 => (intro w hSw; (try dsimp only at hSw); go_simp; try (with_reducible rfl))
    case' b5_r1 => simp only [List.setIfInBounds_toArray, List.set_cons_zero, List.set_cons_succ]
    refine Reg.take (i := 3) (u := ?b5_v3) rfl rfl rfl (by kernel_rfl) (by kernel_rfl) (by kernel_rfl) hH ?b5_y3 ?b5_r3
    case b5_y3 => (intro w hSw; (try dsimp only at hSw); go_simp; try (with_reducible rfl))
    case' b5_r3 => simp only [List.setIfInBounds_toArray, List.set_cons_zero, List.set_cons_succ]
    refine Reg.take (i := 4) (u := ?b5_v4) rfl rfl rfl (by kernel_rfl) (by kernel_rfl) (by kernel_rfl) hH ?b5_y4 ?b5_r4
    case b5_y4 => (intro w hSw; (try dsimp only at hSw); go_simp; try (with_reducible rfl))
    case' b5_r4 => simp only [List.setIfInBounds_toArray, List.set_cons_zero, List.set_cons_succ]
    refine Reg.only (i := 2) rfl (Reg.wanted_free rfl) (by kernel_rfl) (fun K hK => ?_)
    go_simp
    go_at_call 62; refine (hq _ (hbl.drew)).mono ?_; rintro e w1 ⟨rfl, hw1⟩; go_simp
    refine hK.out _ _ ?_ (fun hH2 => ?_)
    · (have r1 := hbx.drew.below (hw1); have r2 := hby.drew.below (hw1); obtain ⟨p0, p1, p2⟩ := box3 r1; obtain ⟨q0, q1, q2⟩ := box3 r2; exact ⟨p0, p1, p2, q0, q1, q2⟩)
    clear hK hH
    have hH := hH2; clear hH2
    try simp only [Act.put, List.setIfInBounds_toArray, List.set_cons_zero, List.set_cons_succ]
    refine Reg.only (i := 5) rfl (Reg.wanted_free rfl) (by kernel_rfl) (fun K hK => ?_)
    go_simp
    go_at_call 62; refine (hq2 _ (hbl.drew.trans (hw1.mono hbl.size))).mono ?_; rintro e w2 ⟨rfl, hw2⟩; go_simp
    refine hK.out _ _ ?_ (fun hH2 => ?_)
    · (have r1 := hbx.drew.below ((hw1.trans (hw2.mono hw1.size))); have r2 := hby.drew.below ((hw1.trans (hw2.mono hw1.size))); obtain ⟨p0, p1, p2⟩ := box3 r1; obtain ⟨q0, q1, q2⟩ := box3 r2; exact ⟨p0, p1, p2, q0, q1, q2⟩)
    clear hK hH
    have hH := hH2; clear hH2
    try simp only [Act.put, List.setIfInBounds_toArray, List.set_cons_zero, List.set_cons_succ]
    refine Reg.take (i := 6) (u := ?b5_v6) rfl rfl rfl (by kernel_rfl) (by kernel_rfl) (by kernel_rfl) hH ?b5_y6 ?b5_r6
    case b5_y6 => (intro w hSw; (try dsimp only at hSw); go_simp; try (with_reducible rfl))
    case' b5_r6 => simp only [List.setIfInBounds_toArray, List.set_cons_zero, List.set_cons_succ]
    refine Reg.take (i := 7) (u := ?b5_v7) rfl rfl rfl (by kernel_rfl) (by kernel_rfl) (by kernel_rfl) hH ?b5_y7 ?b5_r7
    case b5_y7 => (intro w hSw; (try dsimp only at hSw); go_simp; try (with_reducible rfl))
    case' b5_r7 => simp only [List.setIfInBounds_toArray, List.set_cons_zero, List.set_cons_succ]
    refine wpAnyH_done (by kernel_rfl) ?_ _
    refine NoPanic.normal ?_
    have hbw := hbl.drew.trans ((hw1.trans (hw2.mono hw1.size)).mono hbl.size)
    have hbx2 := hbx.drew.below (hw1.trans (hw2.mono hw1.size))
    have hby2 := hby.drew.below (hw1.trans (hw2.mono hw1.size))
    obtain ⟨p0, p1, p2⟩ := box3 hbx2
    obtain ⟨q0, q1, q2⟩ := box3 hby2
    have hgl := fun (hk : k < l.length) => (h.below hbw).get hk
    have hgm := fun (hk : k < m.length) => (h2.below hbw).get hk
    rcases hc1 with rfl | rfl | rfl | rfl <;> rcases hc2 with rfl | rfl | rfl | rfl
    case inl.inl =>
      have hkl : k < l.length := Route.place_lt (by rw [HY.out.1]; decide)
      have hkm : k < m.length := Route.place_lt (by rw [HY.out.2]; decide)
      obtain ⟨ad, rfl, _, hls, hcell, hsl⟩ := hgl hkl
      obtain ⟨ad2, rfl, _, hls2, hcell2, hsl2⟩ := hgm hkm
      obtain ⟨b, hb⟩ : ∃ b, (Route.nth l k == Route.nth m k) = b := ⟨_, rfl⟩
      have i1 : (k : Int) < (l.length : Int) := by omega
      have i2 : (k : Int) < (m.length : Int) := by omega
      clear hls hls2
      rcases b with _ | _
      · have Hx := Lib.hid (Route.both_at (v := false) Hd.out hk (by unfold Route.bothAt; rw [HY.out.1, HY.out.2]; simp [Route.rankP]; simpa using hb))
        go_wp2_with (go_quiet (fail))
        go_ret
        exact ⟨by rw [Hx.out]; rfl, below_dn hbw _⟩
      · have HN := Lib.hid (show Route.bothAt l m k = none by unfold Route.bothAt; rw [HY.out.1, HY.out.2]; simp [Route.rankP]; simpa using hb)
        go_wp2_with (go_quiet (fail))
        refine ⟨⟨k + 1, by go_num, by omega, by rw [Route.bothTo_succ Hd.out, HN.out], below_dn hbw _, hbx2.drewN _, hby2.drewN _⟩, by simp [intOf]; omega⟩
    all_goals clear hgl hgm
    all_goals first
      | (have Hx := Lib.hid (Route.both_at (v := true) Hd.out hk (by unfold Route.bothAt; rw [HY.out.1, HY.out.2]; rfl))
         go_wp2
         go_ret
         exact ⟨by rw [Hx.out]; rfl, hbw⟩)
      | (have Hx := Lib.hid (Route.both_at (v := false) Hd.out hk (by unfold Route.bothAt; rw [HY.out.1, HY.out.2]; rfl))
         go_wp2
         go_ret
         exact ⟨by rw [Hx.out]; rfl, hbw⟩)
      | (have HN := Lib.hid (show Route.bothAt l m k = none by unfold Route.bothAt; rw [HY.out.1, HY.out.2]; rfl)
         have hkl : k < l.length := Route.place_lt (by rw [HY.out.1]; decide)
         go_wp2_with (go_quiet (fail))
         refine ⟨⟨k + 1, by go_num, by omega, by rw [Route.bothTo_succ Hd.out, HN.out], below_dn hbw _, hbx2.drewN _, hby2.drewN _⟩, by simp [intOf]; omega⟩)

end Go.Proofs.Ytefilalapkdegaa
namespace Go.Proofs.Ytefilalapkdegaa
open Go.RowKit Str Mem
set_option linter.unusedVariables false
set_option linter.unusedSimpArgs false

theorem arr0 (v1 v2 v3 u1 u2 u3 : Value) (w : World) : (Instr.index 75 (.agg #[v1, v2, v3, u1, u2, u3]) (.int .i64 0)).run Try.prog w = .ok (.agg #[v1, v2, v3]) w := by kernel_rfl
theorem arr1 (v1 v2 v3 u1 u2 u3 : Value) (w : World) : (Instr.index 75 (.agg #[v1, v2, v3, u1, u2, u3]) (.int .i64 1)).run Try.prog w = .ok (.agg #[u1, u2, u3]) w := by kernel_rfl

def BetI (w : World) (l m : List (List UInt8)) (e1 e2 : Int) (v1 v2 v3 u1 u2 u3 : Value) (i : Value) (wr : World) : Prop :=
  ∃ k : Nat, i = .int .i64 k ∧ k ≤ 2 ∧ (1 ≤ k → e1 = 0) ∧ (2 ≤ k → e2 = 0) ∧ Below w.heap.size w wr ∧ Rd wr 3 (some ⟨w.heap.size, 0, none⟩) 1 [v1, v2, v3] ∧ Rd wr 3 (some ⟨w.heap.size + 1, 0, none⟩) 1 [u1, u2, u3]

set_option maxRecDepth 20000 in
set_option maxHeartbeats 4000000 in
theorem vBetter_any (a a2 : Option Addr) (c c2 : Nat) (l m : List (List UInt8)) (kd kd2 : Int) (t t2 : List UInt8) (w : World) (h : RtOk w a l.length c l t) (h2 : RtOk w a2 m.length c2 m t2) :
    Calls Try.prog 24 #[rtv a l.length c kd t, rtv a2 m.length c2 kd2 t2] w fun e w' => e = .returned (.tuple #[.int .i64 (Route.betterR (Route.err l kd t) (Route.err m kd2 t2) l m).1, .int .i64 (Route.betterR (Route.err l kd t) (Route.err m kd2 t2) l m).2]) ∧ Below w.heap.size w w' := by
  have hv1 := fun w' (hb : Below w.heap.size w w') => vroute_any a c l kd t w' (h.below hb)
  have hv2 := fun w' (hb : Below w.heap.size w w') => vroute_any a2 c2 m kd2 t2 w' (h2.below hb)
  have hcom := fun (he : Route.err l kd t = 0) (he2 : Route.err m kd2 t2 = 0) w' (hb : Below w.heap.size w w') => common_any a a2 c c2 l m kd kd2 t t2 w' (h.below hb) (h2.below hb) (Route.fine_of he) (Route.fine_of he2) (Route.err_ok he).1 (Route.err_ok he2).1
  have hcmp := fun (he : Route.err l kd t = 0) (he2 : Route.err m kd2 t2 = 0) w' (hb : Below w.heap.size w w') => compare_any a a2 c c2 l m kd kd2 t t2 w' (h.below hb) (h2.below hb) (Route.fine_of he) (Route.fine_of he2) (Route.err_ok he).1 (Route.err_ok he2).1
  unfold rtv at hv1 hv2 hcom hcmp ⊢
  obtain ⟨e1, he1⟩ : ∃ e, Route.err l kd t = e := ⟨_, rfl⟩
  obtain ⟨e2, he2⟩ : ∃ e, Route.err m kd2 t2 = e := ⟨_, rfl⟩
  obtain ⟨x, hx⟩ : ∃ x, Route.betterR e1 e2 l m = x := ⟨_, rfl⟩
  rw [he1] at hv1 hcom hcmp ⊢
  rw [he2] at hv2 hcom hcmp ⊢
  rw [hx]
  have HX := Lib.hid hx
  obtain ⟨hb0, hx0, hy0⟩ := two_boxes w 35 (.slice a l.length c) (.int .i64 kd) (.string ⟨t.toArray⟩) (.slice a2 m.length c2) (.int .i64 kd2) (.string ⟨t2.toArray⟩)
  obtain ⟨p0, p1, p2⟩ := box3 hx0
  obtain ⟨q0, q1, q2⟩ := box3 hy0
  clear he1 he2 hx h h2
  have hi0 := fun w => arr0 (.slice a l.length c) (.int .i64 kd) (.string ⟨t.toArray⟩) (.slice a2 m.length c2) (.int .i64 kd2) (.string ⟨t2.toArray⟩) w
  have hi1 := fun w => arr1 (.slice a l.length c) (.int .i64 kd) (.string ⟨t.toArray⟩) (.slice a2 m.length c2) (.int .i64 kd2) (.string ⟨t2.toArray⟩) w
  go_enter Try.func24, Try.ntmps24
  go_wp2
  go_loopw [12, 7, 8] (fun i _ _ wr => BetI w l m e1 e2 (.slice a l.length c) (.int .i64 kd) (.string ⟨t.toArray⟩) (.slice a2 m.length c2) (.int .i64 kd2) (.string ⟨t2.toArray⟩) i wr) (fun i _ _ _ => 2 - (intOf i).toNat)
  case atStart => exact ⟨0, rfl, by omega, by omega, by omega, hb0, hx0, hy0⟩
  case round =>
    clear p0 p1 p2 q0 q1 q2 hx0 hy0
    obtain ⟨k, rfl, hk, hk1, hk2, hbl, hbx, hby⟩ := hrel
    obtain ⟨p0, p1, p2⟩ := box3 hbx
    obtain ⟨q0, q1, q2⟩ := box3 hby
    have hk3 : k = 0 ∨ k = 1 ∨ k = 2 := by omega
    rcases hk3 with rfl | rfl | rfl
    · clear hk1 hk2 hcom hcmp
      have hba := hbl.alloc (by have := hbl.size; omega) (.cells #[.slice a l.length c, .int .i64 kd, .string ⟨t.toArray⟩] 35)
      have hxa := hbx.alloc (.cells #[.slice a l.length c, .int .i64 kd, .string ⟨t.toArray⟩] 35)
      have hya := hby.alloc (.cells #[.slice a l.length c, .int .i64 kd, .string ⟨t.toArray⟩] 35)
      have hq := hv1 _ hba
      by_cases h0 : e1 = 0
      · have H0 := Lib.hid h0
        have h0b : (e1 != 0) = false := by rw [h0]; rfl
        clear h0
        go_wp2_with fail
        refine hq.mono ?_
        rintro e w1 ⟨rfl, h1⟩
        go_wp2
        refine ⟨⟨1, rfl, by omega, fun _ => H0.out, by omega, hba.trans (h1.mono hba.size), hxa.below h1, hya.below h1⟩, by simp [intOf]⟩
      · have Hx := Lib.hid (show x = (0, e1) by rw [← HX.out]; unfold Route.betterR; rw [if_pos h0])
        have h0b : (e1 != 0) = true := by simpa using h0
        clear h0
        go_wp2_with fail
        refine hq.mono ?_
        rintro e w1 ⟨rfl, h1⟩
        go_wp2
        go_ret2
        exact ⟨by rw [Hx.out]; rfl, hba.trans (h1.mono hba.size)⟩
    · have z1 := hk1 (by omega); clear hk1 hk2 hcom hcmp
      have hba := hbl.alloc (by have := hbl.size; omega) (.cells #[.slice a2 m.length c2, .int .i64 kd2, .string ⟨t2.toArray⟩] 35)
      have hxa := hbx.alloc (.cells #[.slice a2 m.length c2, .int .i64 kd2, .string ⟨t2.toArray⟩] 35)
      have hya := hby.alloc (.cells #[.slice a2 m.length c2, .int .i64 kd2, .string ⟨t2.toArray⟩] 35)
      have hq := hv2 _ hba
      by_cases h0 : e2 = 0
      · have H0 := Lib.hid h0
        have h0b : (e2 != 0) = false := by rw [h0]; rfl
        clear h0
        go_wp2_with fail
        refine hq.mono ?_
        rintro e w1 ⟨rfl, h1⟩
        go_wp2
        refine ⟨⟨2, rfl, by omega, fun _ => z1, fun _ => H0.out, hba.trans (h1.mono hba.size), hxa.below h1, hya.below h1⟩, by simp [intOf]⟩
      · have Hx := Lib.hid (show x = (0, e2) by rw [← HX.out]; unfold Route.betterR; rw [if_neg (by simp [z1]), if_pos h0])
        have h0b : (e2 != 0) = true := by simpa using h0
        clear h0
        go_wp2_with fail
        refine hq.mono ?_
        rintro e w1 ⟨rfl, h1⟩
        go_wp2
        go_ret2
        exact ⟨by rw [Hx.out]; rfl, hba.trans (h1.mono hba.size)⟩
    · have z1 := hk1 (by omega)
      have z2 := hk2 (by omega)
      have hc1 := hcom z1 z2 _ hbl
      have hc2 := fun w' hb => hcmp z1 z2 w' hb
      have HZ := Lib.hid (And.intro z1 z2)
      obtain ⟨b, hb⟩ : ∃ b, Route.both l m = b := ⟨_, rfl⟩
      rw [hb] at hc1
      have HB := Lib.hid hb
      clear hk1 hk2 hcom hcmp z1 z2 hb
      rcases b with _ | _
      · have Hx := Lib.hid (show x = (0, 3) by rw [← HX.out]; unfold Route.betterR; rw [if_neg (by simp [HZ.out.1]), if_neg (by simp [HZ.out.2]), if_pos HB.out])
        go_wp2_with fail
        refine hc1.mono ?_
        rintro e w1 ⟨rfl, h1⟩
        go_wp2
        go_ret2
        exact ⟨by rw [Hx.out]; rfl, hbl.trans (h1.mono hbl.size)⟩
      · have Hx := Lib.hid (show x = (Route.better l m, 0) by rw [← HX.out]; unfold Route.betterR; rw [if_neg (by simp [HZ.out.1]), if_neg (by simp [HZ.out.2]), if_neg (by simp [HB.out])])
        go_wp2_with fail
        refine hc1.mono ?_
        rintro e w1 ⟨rfl, h1⟩
        have hb1 := hbl.trans (h1.mono hbl.size)
        obtain ⟨p0, p1, p2⟩ := box3 (hbx.below h1)
        obtain ⟨q0, q1, q2⟩ := box3 (hby.below h1)
        have hc3 := hc2 _ hb1
        go_wp2_with fail
        refine hc3.mono ?_
        rintro e w2 ⟨rfl, h2⟩
        go_wp2
        go_ret2
        exact ⟨by rw [Hx.out]; rfl, hb1.trans (h2.mono hb1.size)⟩

end Go.Proofs.Ytefilalapkdegaa
