/- Which routes are valid, as the reference says it. -/
import Derived.Test.YtefilalapkdegaaRouteRef
namespace Go.Proofs.Ytefilalapkdegaa
open Go.RowKit Str Mem
set_option linter.unusedVariables false
set_option linter.unusedSimpArgs false

namespace Route
theorem dup_none {l : List Bs} {k : Nat} (hk : k < l.length) (h : ∀ m, m < k → (param (nth l k) && (nth l k == nth l m)) = false) : dupAt l k = false := by
  unfold dupAt
  rcases hp : param (nth l k) with _ | _
  · rfl
  · rw [Bool.true_and]
    rcases hc : (l.take k).contains (nth l k) with _ | _
    · rfl
    · exfalso
      have : nth l k ∈ l.take k := by simpa using hc
      obtain ⟨m, hm, e⟩ := List.mem_iff_getElem.1 this
      have hm' : m < k := by simp at hm; omega
      have e2 : nth l m = nth l k := by
        rw [← e, List.getElem_take]
        exact nth_get (List.getElem?_eq_getElem (by omega))
      have := h m hm'
      rw [hp, e2] at this
      simp at this
theorem dup_hit {l : List Bs} {k m : Nat} (hm : m < k) (hk : k < l.length) (hp : param (nth l k) = true) (he : (nth l k == nth l m) = true) : dupAt l k = true := by
  unfold dupAt
  rw [hp, Bool.true_and]
  have e : nth l k = nth l m := by simpa using he
  have hin : nth l k ∈ l.take k := by
    rw [e]
    refine List.mem_of_getElem? (i := m) ?_
    rw [List.getElem?_take_of_lt hm]
    exact nth_some (by omega)
  simpa using hin
end Route
def VI3 (w : World) (l : List (List UInt8)) (k : Nat) (v kd t : Value) (i : Value) (wr : World) : Prop :=
  ∃ j : Nat, i = .int .i64 j ∧ j ≤ k ∧ (∀ m, m < j → (Route.param (Route.nth l k) && (Route.nth l k == Route.nth l m)) = false) ∧ Below w.heap.size w wr ∧ Rd wr 3 (some ⟨w.heap.size, 0, none⟩) 1 [v, kd, t]

set_option maxRecDepth 20000 in
set_option maxHeartbeats 4000000 in
theorem rroute_any (a : Option Addr) (c : Nat) (l : List (List UInt8)) (kd : Int) (t : List UInt8) (w : World) (h : RtOk w a l.length c l t) :
    Calls Try.prog 50 #[rtv a l.length c kd t] w fun e w' => e = .returned (.int .i64 (Route.err l kd t)) ∧ Below w.heap.size w w' := by
  unfold rtv
  have hcap := h.cap
  have hcm := h.capM
  have htl := h.text
  unfold maxLen at hcm
  by_cases hfull : 16 < l.length
  · have Hx := Lib.hid (Route.err_full (kd := kd) (t := t) hfull)
    have hf' : (16 : Int) < (l.length : Int) := by omega
    go_enter Try.func50, Try.ntmps50
    go_wp2
    go_ret
    exact ⟨by rw [Hx.out]; rfl, (Below.refl _ w).alloc (Nat.le_refl _) _⟩
  · have hf' : ¬ (16 : Int) < (l.length : Int) := by omega
    have hl16 : l.length ≤ 16 := by omega
    have hb0 : Below w.heap.size w (w.alloc (.cells #[.slice a l.length c, .int .i64 kd, .string ⟨t.toArray⟩] 35)) := (Below.refl _ w).alloc (Nat.le_refl _) _
    have hbox0 := box3_new w 35 (.slice a l.length c) (.int .i64 kd) (.string ⟨t.toArray⟩)
    go_enter Try.func50, Try.ntmps50
    go_wp2
    go_loopw [4, 5, 6] (fun i _ _ wr => VI1 w l (.slice a l.length c) (.int .i64 kd) (.string ⟨t.toArray⟩) i wr) (fun i _ _ _ => l.length - (intOf i).toNat)
    case atStart => exact ⟨0, rfl, Nat.zero_le _, fun j hj => by omega, hb0, hbox0⟩
    case round =>
      obtain ⟨k, rfl, hk, hall, hbl, hbx⟩ := hrel
      obtain ⟨c0, c1, c2⟩ := box3 hbx
      by_cases hlt : k < l.length
      · obtain ⟨ad, rfl, _, hls, hcell, hsl⟩ := (h.below hbl).get hlt
        have hrp := fun w => rparam_any (bs (Route.nth l k)) (by rw [size_bs]; exact hsl) w
        have hrn := fun w => rname_any (bs (Route.nth l k)) (by rw [size_bs]; exact hsl) w
        rw [data_bs] at hrp hrn
        have hok : Route.okAt l k = (Route.rparam (Route.nth l k) || Route.nameOk (Route.nth l k) || ((Route.nth l k == [42]) && decide (k + 1 = l.length))) := Route.segOk_ref _ _
        have hw1 : IntKind.i64.wrap ((l.length : Int) - 1) = (l.length : Int) - 1 := IntWalk.i64_in _ (by omega)
        obtain ⟨b1, hb1⟩ : ∃ b, b = Route.rparam (Route.nth l k) := ⟨_, rfl⟩
        obtain ⟨b2, hb2⟩ : ∃ b, b = Route.nameOk (Route.nth l k) := ⟨_, rfl⟩
        obtain ⟨b3, hb3⟩ : ∃ b, (Route.nth l k == [42]) = b := ⟨_, rfl⟩
        obtain ⟨b4, hb4⟩ : ∃ b, ((k : Int) != (l.length : Int) - 1) = b := ⟨_, rfl⟩
        have hbe : decide (k + 1 = l.length) = !b4 := by
          rw [← hb4, Bool.eq_iff_iff]; simp; omega
        rw [← hb1] at hrp hok
        rw [← hb2] at hrn hok
        rw [hb3, hbe] at hok
        have Hall := Lib.hid hall
        clear hb1 hb2 hls hall hbe
        rcases b1 with _ | _ <;> rcases b2 with _ | _ <;> rcases b3 with _ | _ <;> rcases b4 with _ | _
        all_goals
          go_wp2_with (first
            | (go_at_call 75; refine (hrp _).mono ?_; rintro e w1 ⟨⟨m, rfl⟩, rfl⟩)
            | (go_at_call 76; refine (hrn _).mono ?_; rintro e w1 ⟨rfl, rfl⟩))
          first
            | (go_ret
               exact ⟨by rw [Route.err_seg hl16 (Route.segsOk_bad hlt (by rw [hok]; rfl))]; rfl, hbl⟩)
            | (refine ⟨⟨k + 1, by go_num, by omega, fun j hj => ?_, hbl, hbx⟩, by simp [intOf]; omega⟩
               rcases Nat.lt_or_ge j k with h2 | h2
               · exact Hall.out j h2
               · rw [show j = k by omega]; exact hok)
      · obtain rfl : k = l.length := by omega
        have HS := Lib.hid (Route.segsOk_good hall)
        clear hall
        go_wp2
        go_loopw [7, 8, 9, 10] (fun i _ _ _ wr => VI2 w l (.slice a l.length c) (.int .i64 kd) (.string ⟨t.toArray⟩) i wr) (fun i _ _ _ _ => l.length - (intOf i).toNat)
        case atStart => exact ⟨0, rfl, Nat.zero_le _, fun j hj => by omega, hbl, hbx⟩
        case round =>
          clear c0 c1 c2 hbl hbx
          obtain ⟨k, rfl, hk, hall, hbl, hbx⟩ := hrel
          obtain ⟨c0, c1, c2⟩ := box3 hbx
          by_cases hlt : k < l.length
          · go_wp2
            go_loopw [8, 9, 10] (fun i _ _ wr => VI3 w l k (.slice a l.length c) (.int .i64 kd) (.string ⟨t.toArray⟩) i wr) (fun i _ _ _ => k - (intOf i).toNat)
            case atStart => exact ⟨0, rfl, Nat.zero_le _, fun j hj => by omega, hbl, hbx⟩
            case round =>
              clear c0 c1 c2 hbl hbx
              obtain ⟨j, rfl, hj, hin, hbl, hbx⟩ := hrel
              obtain ⟨c0, c1, c2⟩ := box3 hbx
              by_cases hjl : j < k
              · obtain ⟨ad, rfl, _, hls, hcell, hsl⟩ := (h.below hbl).get hlt
                obtain ⟨ad2, e2, _, hls2, hcell2, hsl2⟩ := (h.below hbl).get (show j < l.length by omega)
                cases e2
                have hrp := fun w => rparam_any (bs (Route.nth l k)) (by rw [size_bs]; exact hsl) w
                rw [data_bs, Route.rparam_ok (Route.segsOk_at HS.out hlt)] at hrp
                have hjl' : (j : Int) < (l.length : Int) := by omega
                obtain ⟨b1, hb1⟩ : ∃ b, Route.param (Route.nth l k) = b := ⟨_, rfl⟩
                obtain ⟨b2, hb2⟩ : ∃ b, (Route.nth l k == Route.nth l j) = b := ⟨_, rfl⟩
                have HB1 := Lib.hid hb1
                rw [hb1] at hrp
                have Hall := Lib.hid hall
                have Hin := Lib.hid hin
                clear hb1 hls hls2 hall hin
                rcases b1 with _ | _ <;> rcases b2 with _ | _
                all_goals
                  go_wp2_with (first
                    | (go_at_call 75; refine (hrp _).mono ?_; rintro e w1 ⟨⟨m, rfl⟩, rfl⟩)
                    | (go_quiet (fail)))
                  first
                    | (go_ret
                       exact ⟨by rw [Route.err_dup hl16 HS.out (Route.dups_bad hlt (Route.dup_hit hjl hlt HB1.out hb2))]; rfl, below_dn hbl _⟩)
                    | (refine ⟨⟨j + 1, by go_num, by omega, fun m hm => ?_, below_dn hbl _, hbx.drewN _⟩, by simp [intOf]; omega⟩
                       rcases Nat.lt_or_ge m j with h2 | h2
                       · exact Hin.out m h2
                       · rw [show m = j by omega, HB1.out, hb2]; rfl)
              · obtain rfl : j = k := by omega
                have Hall := Lib.hid hall
                have Hin := Lib.hid hin
                clear hall hin
                go_wp2
                refine ⟨⟨j + 1, by go_num, by omega, fun m hm => ?_, hbl, hbx⟩, by simp [intOf]; omega⟩
                rcases Nat.lt_or_ge m j with h2 | h2
                · exact Hall.out m h2
                · rw [show m = j by omega]; exact Route.dup_none hlt Hin.out
          · obtain rfl : k = l.length := by omega
            have HT := Lib.hid (Route.err_tail (kd := kd) (t := t) hl16 HS.out (Route.dups_good hall))
            clear hall
            have hby := fun w => refBytes_any (bs t) 32 126 (by rw [size_bs]; exact htl) w
            rw [data_bs, Route.inside_text] at hby
            have hdir := fun w => rdirectory_any (bs t) w
            rw [data_bs] at hdir
            have h0 : Route.tailErr kd t = if kd < 1 ∨ 4 < kd then 10 else if 64 < t.length then 4 else if t.all Route.textByte = false then 3 else if kd = 3 ∧ Dots.directory t = false then 3 else 0 := rfl
            obtain ⟨b1, hb1⟩ : ∃ b, b = t.all Route.textByte := ⟨_, rfl⟩
            obtain ⟨b2, hb2⟩ : ∃ b, b = Dots.directory t := ⟨_, rfl⟩
            rw [← hb1] at hby h0
            rw [← hb2] at hdir h0
            clear hb1 hb2
            by_cases k1 : kd < 1
            · rw [if_pos (.inl k1)] at h0
              have H0 := Lib.hid h0
              clear h0
              go_wp2
              go_ret
              exact ⟨by rw [HT.out, H0.out]; rfl, hbl⟩
            by_cases k2 : 4 < kd
            · rw [if_pos (.inr k2)] at h0
              have H0 := Lib.hid h0
              clear h0
              go_wp2
              go_ret
              exact ⟨by rw [HT.out, H0.out]; rfl, hbl⟩
            rw [if_neg (by omega)] at h0
            by_cases k3 : 64 < t.length
            · rw [if_pos k3] at h0
              have H0 := Lib.hid h0
              have k3' : (64 : Int) < (t.length : Int) := by omega
              clear h0
              go_wp2
              go_ret
              exact ⟨by rw [HT.out, H0.out]; rfl, hbl⟩
            rw [if_neg k3] at h0
            have k3' : ¬ (64 : Int) < (t.length : Int) := by omega
            rcases b1 with _ | _
            · rw [if_pos rfl] at h0
              have H0 := Lib.hid h0
              clear h0
              go_wp2_with (go_at_call 77; refine (hby _).mono ?_; rintro e w1 ⟨rfl, rfl⟩)
              go_ret
              exact ⟨by rw [HT.out, H0.out]; rfl, hbl⟩
            · rw [if_neg (by simp)] at h0
              by_cases k4 : kd = 3
              · subst k4
                rcases b2 with _ | _
                · rw [if_pos ⟨rfl, rfl⟩] at h0
                  have H0 := Lib.hid h0
                  clear h0
                  go_wp2_with (first
                    | (go_at_call 77; refine (hby _).mono ?_; rintro e w1 ⟨rfl, rfl⟩)
                    | (go_at_call 78; refine (hdir _).mono ?_; rintro e w2 ⟨rfl, h2⟩))
                  go_ret
                  exact ⟨by rw [HT.out, H0.out]; rfl, hbl.trans (h2.mono hbl.size)⟩
                · rw [if_neg (by simp)] at h0
                  have H0 := Lib.hid h0
                  clear h0
                  go_wp2_with (first
                    | (go_at_call 77; refine (hby _).mono ?_; rintro e w1 ⟨rfl, rfl⟩)
                    | (go_at_call 78; refine (hdir _).mono ?_; rintro e w2 ⟨rfl, h2⟩))
                  go_ret
                  exact ⟨by rw [HT.out, H0.out]; rfl, hbl.trans (h2.mono hbl.size)⟩
              · rw [if_neg (fun e => k4 e.1)] at h0
                have H0 := Lib.hid h0
                have k4' : (kd == 3) = false := by rw [beq_eq_false_iff_ne]; exact k4
                clear h0
                go_wp2_with (go_at_call 77; refine (hby _).mono ?_; rintro e w1 ⟨rfl, rfl⟩)
                go_ret
                exact ⟨by rw [HT.out, H0.out]; rfl, hbl⟩

end Go.Proofs.Ytefilalapkdegaa
