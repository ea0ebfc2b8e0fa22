/- validate.Route: which routes are right. -/
import Derived.Test.YtefilalapkdegaaRouteSeg
import Derived.Test.YtefilalapkdegaaUnder
import Derived.Test.YtefilalapkdegaaNormal
namespace Go.Proofs.Ytefilalapkdegaa
open Go.RowKit Str Mem
set_option linter.unusedVariables false
set_option linter.unusedSimpArgs false

theorem isDirectory_any (s : ByteArray) (w : World) (hs : s.size ≤ maxLen) : Calls Try.prog 74 #[.string s] w fun e w' => e = .returned (.bool (Dots.directory s.data.toList)) ∧ Below w.heap.size w w' := by
  have hno := fun w => normal_any s w
  have hsu := fun w => hasSuffix_any s ⟨#[47]⟩ hs (by show 1 ≤ maxLen; simp [maxLen]) w
  rw [show (⟨#[47]⟩ : ByteArray).data.toList = [47] from rfl, suffix_slash] at hsu
  have e : Dots.directory s.data.toList = (Dots.normal s.data.toList && (s.data.toList == [47] || !Dots.isOpen s.data.toList)) := rfl
  rw [e]
  obtain ⟨b1, h1⟩ : ∃ b, b = Dots.normal s.data.toList := ⟨_, rfl⟩
  obtain ⟨b2, h2⟩ : ∃ b, b = Dots.isOpen s.data.toList := ⟨_, rfl⟩
  rw [← h1, ← h2]
  rw [← h1] at hno
  rw [← h2] at hsu
  clear e h1 h2
  rw [← toList_data]
  rcases b1 with _ | _ <;> rcases h0 : (s.toList == [47]) with _ | _ <;> rcases b2 with _ | _
  all_goals
    go_enter Try.func74, Try.ntmps74
    go_wp2_with (first
      | (go_at_call 35; refine (hno _).mono ?_; rintro e w1 ⟨rfl, hb⟩)
      | (go_at_call 59; refine (hsu _).mono ?_; rintro e w1 ⟨rfl, rfl⟩))
    go_ret
    exact ⟨rfl, hb⟩

/-- slices.Contains at texts. -/
def StrIdxPost (l : List (List UInt8)) (s : List UInt8) (w : World) (e : Ending) (w' : World) : Prop := ∃ n : Int, e = .returned (.int .i64 n) ∧ decide (0 ≤ n) = l.contains s ∧ w = w'
theorem contains_of {l : List (List UInt8)} {s : List UInt8} {k : Nat} (h : l[k]? = some s) : l.contains s = true := by simpa using List.mem_of_getElem? h
theorem contains_none {l : List (List UInt8)} {s : List UInt8} (h : ∀ (j : Nat) t, l[j]? = some t → t ≠ s) : l.contains s = false := by
  rw [← Bool.not_eq_true]
  intro hc
  have hm : s ∈ l := by simpa using hc
  obtain ⟨j, hj, e⟩ := List.getElem_of_mem hm
  exact h j s (by rw [List.getElem?_eq_getElem hj, e]) rfl
theorem strIndex_any (a : Option Addr) (c n : Nat) (l : List (List UInt8)) (s : List UInt8) (w : World) (h : Strs w a n l) (hl : n ≤ 100000) :
    Calls Try.prog 100 #[.slice a n c, .string ⟨s.toArray⟩] w fun e w' => StrIdxPost l s w e w' := by
  have hln := h.length
  go_enter Try.func100, Try.ntmps100
  go_wp2
  go_loop [8] (fun i => ∃ k : Nat, i = .int .i64 k ∧ k ≤ n ∧ ∀ j t, j < k → l[j]? = some t → t ≠ s) (fun i => n - (intOf i).toNat)
  case atStart => exact ⟨0, rfl, Nat.zero_le _, fun j t hj => by omega⟩
  case round =>
    obtain ⟨k, rfl, hk, hall⟩ := hrel
    by_cases hlt : k < n
    · obtain ⟨ad, t, rfl, _, hls, hc⟩ := h.get hlt
      have Hall := Lib.hid hall
      have Hls := Lib.hid hls
      clear hall hls
      rcases hb : (s == t) with _ | _
      · have hne : t ≠ s := fun e => by subst e; simp at hb
        have Hne := Lib.hid hne
        clear hne
        go_wp2
        go_round
        case rel =>
          refine ⟨k + 1, by go_num, by omega, fun j u hj hu => ?_⟩
          rcases Nat.lt_or_ge j k with h1 | h1
          · exact Hall.out j u h1 hu
          · obtain rfl : j = k := by omega
            rw [Hls.out] at hu; cases hu
            exact Hne.out
        case measure => simp [intOf]; omega
      · have he : s = t := by simpa using hb
        have Hx := Lib.hid (show l.contains s = true by rw [he]; exact contains_of Hls.out)
        clear he
        go_wp2
        go_ret
        exact ⟨_, rfl, by rw [Hx.out]; simp, rfl⟩
    · have Hx := Lib.hid (contains_none (l := l) (s := s) fun j t ht => hall j t (by have := (List.getElem?_eq_some_iff.1 ht).1; omega) ht)
      clear hall
      go_wp2
      go_ret
      exact ⟨_, rfl, by rw [Hx.out]; rfl, rfl⟩
theorem strContains_any (a : Option Addr) (c n : Nat) (l : List (List UInt8)) (s : List UInt8) (w : World) (h : Strs w a n l) (hl : n ≤ 100000) :
    Calls Try.prog 71 #[.slice a n c, .string ⟨s.toArray⟩] w fun e w' => e = .returned (.bool (l.contains s)) ∧ w = w' := by
  have hq := strIndex_any a c n l s w h hl
  go_enter Try.func71, Try.ntmps71
  go_wp2_with (go_at_call 100; refine hq.mono ?_; rintro e w1 ⟨n, rfl, hn, rfl⟩; have HN := Lib.hid hn; clear hn)
  go_ret
  exact ⟨ret_bool HN.out, rfl⟩

/-- A route as a value. -/
def rtv (a : Option Addr) (n c : Nat) (kd : Int) (t : List UInt8) : Value := .agg #[.slice a n c, .int .i64 kd, .string ⟨t.toArray⟩]
/-- A row of three cells, as a box. -/
theorem box3 {W : World} {N : Nat} {x y z : Value} (h : Rd W 3 (some ⟨N, 0, none⟩) 1 [x, y, z]) : W.cell? ⟨N, 0, none⟩ = some x ∧ W.cell? ⟨N, 1, none⟩ = some y ∧ W.cell? ⟨N, 2, none⟩ = some z := by
  obtain ⟨ad, e, hb, hc⟩ := h.get (by omega)
  cases e
  exact ⟨by simpa [add_flat] using hc 0 x rfl, by simpa [add_flat] using hc 1 y rfl, by simpa [add_flat] using hc 2 z rfl⟩
theorem box3_new (w : World) (T : TypeId) (x y z : Value) : Rd (w.alloc (.cells #[x, y, z] T)) 3 (some ⟨w.heap.size, 0, none⟩) 1 [x, y, z] :=
  ⟨rfl, fun _ => ⟨_, rfl, by simp, fun j u hu => by
    rw [add_flat, cell_of_row _ w.heap.size _ #[x, y, z] T (0, 0) (heap_alloc_new w _)]
    simpa using hu⟩⟩

theorem Strs.take {w : World} {a : Option Addr} {n : Nat} {l : List (List UInt8)} (h : Strs w a n l) {k : Nat} (hk : k ≤ n) : Strs w a k (l.take k) := by
  have := Rd.take h hk
  unfold Strs
  rw [List.map_take]
  simpa using this
/-- What is asked of a route's lengths. -/
structure RtOk (w : World) (a : Option Addr) (n c : Nat) (l : List (List UInt8)) (t : List UInt8) : Prop where
  strs : Strs w a n l
  cap : n ≤ c
  capM : c ≤ maxLen
  short : ∀ s ∈ l, s.length ≤ 100000
  text : t.length ≤ 100000
theorem RtOk.below {w w' : World} {a : Option Addr} {n c : Nat} {l : List (List UInt8)} {t : List UInt8} (h : RtOk w a n c l t) (hb : Below w.heap.size w w') : RtOk w' a n c l t := ⟨h.strs.below hb, h.cap, h.capM, h.short, h.text⟩
theorem RtOk.get {w : World} {a : Option Addr} {n c : Nat} {l : List (List UInt8)} {t : List UInt8} (h : RtOk w a n c l t) {k : Nat} (hk : k < n) : ∃ (ad : Addr), a = some ad ∧ ad.block < w.heap.size ∧ l[k]? = some (Route.nth l k) ∧ w.cell? (ad.add k) = some (.string ⟨(Route.nth l k).toArray⟩) ∧ (Route.nth l k).length ≤ 100000 := by
  obtain ⟨ad, s, e, hb, hls, hc⟩ := h.strs.get hk
  rw [Route.nth_get hls]
  exact ⟨ad, e, hb, hls, hc, h.short s (List.mem_of_getElem? hls)⟩

def VI1 (w : World) (l : List (List UInt8)) (v kd t : Value) (i : Value) (wr : World) : Prop :=
  ∃ k : Nat, i = .int .i64 k ∧ k ≤ l.length ∧ (∀ j, j < k → Route.okAt l j = true) ∧ Below w.heap.size w wr ∧ Rd wr 3 (some ⟨w.heap.size, 0, none⟩) 1 [v, kd, t]
def VI2 (w : World) (l : List (List UInt8)) (v kd t : Value) (i : Value) (wr : World) : Prop :=
  ∃ k : Nat, i = .int .i64 k ∧ k ≤ l.length ∧ (∀ j, j < k → Route.dupAt l j = false) ∧ Below w.heap.size w wr ∧ Rd wr 3 (some ⟨w.heap.size, 0, none⟩) 1 [v, kd, t]

set_option maxRecDepth 20000 in
set_option maxHeartbeats 4000000 in
theorem vroute_any (a : Option Addr) (c : Nat) (l : List (List UInt8)) (kd : Int) (t : List UInt8) (w : World) (h : RtOk w a l.length c l t) :
    Calls Try.prog 43 #[rtv a l.length c kd t] w fun e w' => e = .returned (.int .i64 (Route.err l kd t)) ∧ Below w.heap.size w w' := by
  unfold rtv
  have hcap := h.cap
  have hcm := h.capM
  have htl := h.text
  unfold maxLen at hcm
  by_cases hfull : 16 < l.length
  · have Hx := Lib.hid (Route.err_full (kd := kd) (t := t) hfull)
    have hf' : (16 : Int) < (l.length : Int) := by omega
    go_enter Try.func43, Try.ntmps43
    go_wp2
    go_ret
    exact ⟨by rw [Hx.out]; rfl, (Below.refl _ w).alloc (Nat.le_refl _) _⟩
  · have hf' : ¬ (16 : Int) < (l.length : Int) := by omega
    have hl16 : l.length ≤ 16 := by omega
    have hb0 : Below w.heap.size w (w.alloc (.cells #[.slice a l.length c, .int .i64 kd, .string ⟨t.toArray⟩] 35)) := (Below.refl _ w).alloc (Nat.le_refl _) _
    have hbox0 := box3_new w 35 (.slice a l.length c) (.int .i64 kd) (.string ⟨t.toArray⟩)
    go_enter Try.func43, Try.ntmps43
    go_wp2
    go_loopw [3, 4, 16] (fun _ _ i wr => VI1 w l (.slice a l.length c) (.int .i64 kd) (.string ⟨t.toArray⟩) i wr) (fun _ _ i _ => l.length - (intOf i).toNat)
    case atStart => exact ⟨0, rfl, Nat.zero_le _, fun j hj => by omega, hb0, hbox0⟩
    case round =>
      obtain ⟨k, rfl, hk, hall, hbl, hbx⟩ := hrel
      obtain ⟨c0, c1, c2⟩ := box3 hbx
      by_cases hlt : k < l.length
      · obtain ⟨ad, rfl, _, hls, hcell, hsl⟩ := (h.below hbl).get hlt
        have hseg := fun w => segment_any (bs (Route.nth l k)) (decide (k + 1 = l.length)) (by rw [size_bs]; exact hsl) w
        rw [data_bs] at hseg
        have hok : Route.okAt l k = Route.segOk (Route.nth l k) (decide (k + 1 = l.length)) := rfl
        rw [← hok] at hseg
        have hw1 : IntKind.i64.wrap ((l.length : Int) - 1) = (l.length : Int) - 1 := IntWalk.i64_in _ (by omega)
        have hbe : ((k : Int) == (l.length : Int) - 1) = decide (k + 1 = l.length) := by
          rw [Bool.eq_iff_iff]; simp; omega
        obtain ⟨b, hb⟩ : ∃ b, b = Route.okAt l k := ⟨_, rfl⟩
        rw [← hb] at hseg
        have HB := Lib.hid hb
        have Hall := Lib.hid hall
        clear hb hok hls hall
        rcases b with _ | _
        · have Hx := Lib.hid (Route.err_seg (kd := kd) (t := t) hl16 (Route.segsOk_bad hlt HB.out.symm))
          go_wp2_with (go_at_call 69; refine (hseg _).mono ?_; rintro e w1 ⟨rfl, h1⟩)
          go_ret
          exact ⟨by rw [Hx.out]; rfl, hbl.trans (h1.mono hbl.size)⟩
        · go_wp2_with (go_at_call 69; refine (hseg _).mono ?_; rintro e w1 ⟨rfl, h1⟩)
          go_roundw
          case rel =>
            refine ⟨k + 1, by go_num, by omega, fun j hj => ?_, hbl.trans (h1.mono hbl.size), hbx.below h1⟩
            rcases Nat.lt_or_ge j k with h2 | h2
            · exact Hall.out j h2
            · rw [show j = k by omega]; exact HB.out.symm
          case measure => simp [intOf]; omega
      · obtain rfl : k = l.length := by omega
        have HS := Lib.hid (Route.segsOk_good hall)
        clear hall
        go_wp2
        go_loopw [5, 6, 7, 8, 34] (fun _ _ _ _ i wr => VI2 w l (.slice a l.length c) (.int .i64 kd) (.string ⟨t.toArray⟩) i wr) (fun _ _ _ _ i _ => l.length - (intOf i).toNat)
        case atStart => exact ⟨0, rfl, Nat.zero_le _, fun j hj => by omega, hbl, hbx⟩
        case round =>
          clear c0 c1 c2 hbl hbx
          obtain ⟨k, rfl, hk, hall, hbl, hbx⟩ := hrel
          obtain ⟨c0, c1, c2⟩ := box3 hbx
          by_cases hlt : k < l.length
          · obtain ⟨ad, rfl, _, hls, hcell, hsl⟩ := (h.below hbl).get hlt
            have hpar := fun w => vparam_any (bs (Route.nth l k)) (by rw [size_bs]; exact hsl) w
            rw [data_bs] at hpar
            have hcon := fun w hS => strContains_any (some ad) c k (l.take k) (Route.nth l k) w hS (by omega)
            have hst := Strs.take (h.below hbl).strs (show k ≤ l.length by omega)
            have hdup : Route.dupAt l k = (Route.param (Route.nth l k) && (l.take k).contains (Route.nth l k)) := rfl
            obtain ⟨b1, hb1⟩ : ∃ b, b = Route.param (Route.nth l k) := ⟨_, rfl⟩
            obtain ⟨b2, hb2⟩ : ∃ b, b = (l.take k).contains (Route.nth l k) := ⟨_, rfl⟩
            obtain ⟨m, hm⟩ : ∃ m, m = cutS 125 (cutP 123 (Route.nth l k)) := ⟨_, rfl⟩
            rw [← hb1, ← hm] at hpar
            rw [← hb2] at hcon
            rw [← hb1, ← hb2] at hdup
            have HD := Lib.hid hdup
            have Hall := Lib.hid hall
            have hkc : (k : Int) ≤ (c : Int) := by omega
            have hkc' : k ≤ c := by omega
            clear hb1 hb2 hm hdup hls hall
            rcases b1 with _ | _ <;> rcases b2 with _ | _
            case true.true =>
              have Hx := Lib.hid (Route.err_dup (kd := kd) (t := t) hl16 HS.out (Route.dups_bad hlt HD.out))
              go_wp2_with (first
                | (go_at_call 70; refine (hpar _).mono ?_; rintro e w1 ⟨rfl, rfl⟩)
                | (go_at_call 71; refine (hcon _ hst).mono ?_; rintro e w1 ⟨rfl, rfl⟩))
              go_ret
              exact ⟨by rw [Hx.out]; rfl, hbl⟩
            all_goals
              go_wp2_with (first
                | (go_at_call 70; refine (hpar _).mono ?_; rintro e w1 ⟨rfl, rfl⟩)
                | (go_at_call 71; refine (hcon _ hst).mono ?_; rintro e w1 ⟨rfl, rfl⟩))
              go_roundw
              case rel =>
                refine ⟨k + 1, by go_num, by omega, fun j hj => ?_, hbl, hbx⟩
                rcases Nat.lt_or_ge j k with h2 | h2
                · exact Hall.out j h2
                · rw [show j = k by omega, HD.out]; rfl
              case measure => simp [intOf]; omega
          · obtain rfl : k = l.length := by omega
            have HT := Lib.hid (Route.err_tail (kd := kd) (t := t) hl16 HS.out (Route.dups_good hall))
            clear hall
            have hcf := fun w => containsFunc_any 73 #[] (enters_of Try.func73 (by kernel_rfl) rfl) Route.textBad textBad_big (bs t) w (textBad_pred w)
            rw [data_bs, Route.any_not Route.text_not] at hcf
            have hdir := fun w => isDirectory_any (bs t) w (by rw [size_bs]; unfold maxLen; omega)
            rw [data_bs] at hdir
            have h0 : Route.tailErr kd t = if kd < 1 ∨ 4 < kd then 10 else if 64 < t.length then 4 else if t.all Route.textByte = false then 3 else if kd = 3 ∧ Dots.directory t = false then 3 else 0 := rfl
            obtain ⟨b1, hb1⟩ : ∃ b, b = t.all Route.textByte := ⟨_, rfl⟩
            obtain ⟨b2, hb2⟩ : ∃ b, b = Dots.directory t := ⟨_, rfl⟩
            rw [← hb1] at hcf h0
            rw [← hb2] at hdir h0
            clear hb1 hb2
            by_cases k1 : kd < 1
            · rw [if_pos (.inl k1)] at h0
              have H0 := Lib.hid h0
              clear h0
              go_wp2
              go_ret
              exact ⟨by rw [HT.out, H0.out]; rfl, hbl⟩
            by_cases k2 : 4 < kd
            · rw [if_pos (.inr k2)] at h0
              have H0 := Lib.hid h0
              clear h0
              go_wp2
              go_ret
              exact ⟨by rw [HT.out, H0.out]; rfl, hbl⟩
            rw [if_neg (by omega)] at h0
            by_cases k3 : 64 < t.length
            · rw [if_pos k3] at h0
              have H0 := Lib.hid h0
              have k3' : (64 : Int) < (t.length : Int) := by omega
              clear h0
              go_wp2
              go_ret
              exact ⟨by rw [HT.out, H0.out]; rfl, hbl⟩
            rw [if_neg k3] at h0
            have k3' : ¬ (64 : Int) < (t.length : Int) := by omega
            rcases b1 with _ | _ <;> simp only [Bool.not_false, Bool.not_true] at hcf
            · rw [if_pos rfl] at h0
              have H0 := Lib.hid h0
              clear h0
              go_wp2_with (go_at_call 72; refine (hcf _).mono ?_; rintro e w1 ⟨rfl, h1⟩)
              go_ret
              exact ⟨by rw [HT.out, H0.out]; rfl, hbl.trans (h1.mono hbl.size)⟩
            · rw [if_neg (by simp)] at h0
              by_cases k4 : kd = 3
              · subst k4
                rcases b2 with _ | _
                · rw [if_pos ⟨rfl, rfl⟩] at h0
                  have H0 := Lib.hid h0
                  clear h0
                  go_wp2_with (first
                    | (go_at_call 72; refine (hcf _).mono ?_; rintro e w1 ⟨rfl, h1⟩; obtain ⟨c0, c1, c2⟩ := box3 (hbx.below h1))
                    | (go_at_call 74; refine (hdir _).mono ?_; rintro e w2 ⟨rfl, h2⟩))
                  go_ret
                  exact ⟨by rw [HT.out, H0.out]; rfl, (hbl.trans (h1.mono hbl.size)).trans (h2.mono (Nat.le_trans hbl.size h1.size))⟩
                · rw [if_neg (by simp)] at h0
                  have H0 := Lib.hid h0
                  clear h0
                  go_wp2_with (first
                    | (go_at_call 72; refine (hcf _).mono ?_; rintro e w1 ⟨rfl, h1⟩; obtain ⟨c0, c1, c2⟩ := box3 (hbx.below h1))
                    | (go_at_call 74; refine (hdir _).mono ?_; rintro e w2 ⟨rfl, h2⟩))
                  go_ret
                  exact ⟨by rw [HT.out, H0.out]; rfl, (hbl.trans (h1.mono hbl.size)).trans (h2.mono (Nat.le_trans hbl.size h1.size))⟩
              · rw [if_neg (fun e => k4 e.1)] at h0
                have H0 := Lib.hid h0
                have k4' : (kd == 3) = false := by rw [beq_eq_false_iff_ne]; exact k4
                clear h0
                go_wp2_with (go_at_call 72; refine (hcf _).mono ?_; rintro e w1 ⟨rfl, h1⟩; obtain ⟨c0, c1, c2⟩ := box3 (hbx.below h1))
                go_ret
                exact ⟨by rw [HT.out, H0.out]; rfl, hbl.trans (h1.mono hbl.size)⟩

end Go.Proofs.Ytefilalapkdegaa
