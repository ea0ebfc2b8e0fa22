/- The reference's param, name, bytes, directory, Route. -/
import Derived.Test.YtefilalapkdegaaRouteValid
import Derived.Test.YtefilalapkdegaaRefNormal
import Derived.Deep.RegionWith
namespace Go.Proofs.Ytefilalapkdegaa.Route
def inside (lo hi : Int) (b : UInt8) : Bool := decide (lo ≤ (b.toNat : Int)) && decide ((b.toNat : Int) ≤ hi)
theorem inside_text (l : Bs) : l.all (inside 32 126) = l.all textByte := by
  congr 1; funext b
  exact byte_of (inside 32 126) textByte (by decide +kernel) b
theorem inside_alnum (b : UInt8) : (inside 48 57 b || inside 65 90 b || inside 97 122 b) = alnum1 b := byte_of (fun b => inside 48 57 b || inside 65 90 b || inside 97 122 b) alnum1 (by decide +kernel) b
def special (b : UInt8) : Bool := b == 47 || b == 123 || b == 125 || b == 42
theorem inside_name (b : UInt8) : (!special b && inside 33 126 b) = nameByte b := byte_of (fun b => !special b && inside 33 126 b) nameByte (by decide +kernel) b
def rparam (s : Bs) : Bool := param s && decide (1 ≤ (mid s).length) && decide ((mid s).length ≤ 16) && (mid s).all alnum1
theorem nameOk_split (s : Bs) : nameOk s = (!(s.any special) && (!(s == []) && !(s == [46]) && !(s == [46, 46]) && s.all (inside 33 126))) := by
  have e : s.all nameByte = (!(s.any special) && s.all (inside 33 126)) := by
    induction s with
    | nil => rfl
    | cons a t ih =>
      rw [List.all_cons, List.any_cons, List.all_cons, ih, ← inside_name]
      rcases special a with _ | _ <;> rcases inside 33 126 a with _ | _ <;> rcases t.any special with _ | _ <;> rcases t.all (inside 33 126) with _ | _ <;> rfl
  unfold nameOk Dots.dotted
  rw [e]
  rcases (s == []) with _ | _ <;> rcases (s == [46]) with _ | _ <;> rcases (s == [46, 46]) with _ | _ <;> rcases s.any special with _ | _ <;> rcases s.all (inside 33 126) with _ | _ <;> rfl
theorem nameOk_param {s : Bs} (h : param s = true) : nameOk s = false ∧ (s == [42]) = false := by
  unfold param at h
  simp at h
  rcases s with _ | ⟨c, t⟩
  · simp at h
  · have hc : c = 123 := by simpa using h.1.2
    subst hc
    constructor
    · rcases hn : nameOk (123 :: t) with _ | _
      · rfl
      · have := nameOk_head hn; simp [nameByte] at this
    · simp
theorem segOk_ref (s : Bs) (b : Bool) : segOk s b = (rparam s || nameOk s || ((s == [42]) && b)) := by
  unfold segOk rparam
  rcases hp : param s with _ | _
  · simp only [Bool.false_eq_true, if_false, Bool.false_and, Bool.false_or]
    rcases h42 : (s == [42]) with _ | _
    · simp
    · have : s = [42] := by simpa using h42
      subst this
      simp [nameOk, nameByte]
  · rw [(nameOk_param hp).1, (nameOk_param hp).2]
    simp
theorem rparam_ok {s : Bs} {b : Bool} (h : segOk s b = true) : rparam s = param s := by
  unfold segOk at h
  unfold rparam
  rcases hp : param s with _ | _
  · rfl
  · rw [hp, if_pos rfl] at h
    rw [Bool.true_and]; exact h
theorem mid_length (s : Bs) : (mid s).length = s.length - 2 := by unfold mid; simp; omega
end Go.Proofs.Ytefilalapkdegaa.Route

namespace Go.Proofs.Ytefilalapkdegaa
open Go.RowKit Str Mem
set_option linter.unusedVariables false
set_option linter.unusedSimpArgs false

theorem all_upto {s : ByteArray} {f : UInt8 → Bool} {k : Nat} (h : ∀ j (hj : j < s.size), j < k → f s[j] = true) (hk : s.size ≤ k) : s.data.toList.all f = true := by
  rw [List.all_eq_true]
  intro b hb
  obtain ⟨j, hj, rfl⟩ := List.getElem_of_mem hb
  have hj' : j < s.size := by rw [size_data]; exact hj
  exact h j hj' (by omega)
theorem all_bad {s : ByteArray} {f : UInt8 → Bool} {k : Nat} (hk : k < s.size) (h : f s[k] = false) : s.data.toList.all f = false := by
  rw [List.all_eq_false]
  exact ⟨s[k], by rw [get_data s k hk]; exact List.getElem_mem _, by rw [h]; simp⟩

theorem refBytes_any (s : ByteArray) (lo hi : Int) (hs : s.size ≤ 100000) (w : World) : Calls Try.prog 77 #[.string s, .int .u8 lo, .int .u8 hi] w fun e w' => e = .returned (.bool (s.data.toList.all (Route.inside lo hi))) ∧ w = w' := by
  obtain ⟨res, hres⟩ : ∃ r, r = s.data.toList.all (Route.inside lo hi) := ⟨_, rfl⟩
  rw [← hres]
  have HR := Lib.hid hres
  clear hres
  go_enter Try.func77, Try.ntmps77
  go_wp2
  go_loop [7] (fun i => ∃ k : Nat, i = .int .i64 k ∧ k ≤ s.size ∧ ∀ j (hj : j < s.size), j < k → Route.inside lo hi s[j] = true) (fun i => s.size - (intOf i).toNat)
  case atStart => exact ⟨0, rfl, Nat.zero_le _, fun j hj h => by omega⟩
  case round =>
    obtain ⟨k, rfl, hk, hall⟩ := hrel
    by_cases hlt : k < s.size
    · have hin : Route.inside lo hi s[k] = (decide (lo ≤ (s[k].toNat : Int)) && decide ((s[k].toNat : Int) ≤ hi)) := rfl
      have hbad := fun h => all_bad (f := Route.inside lo hi) hlt h
      have Hall := Lib.hid hall
      clear hall
      by_cases h1 : (s[k].toNat : Int) < lo
      · have Hx := Lib.hid (hbad (by rw [hin, decide_eq_false (by omega)]; rfl))
        clear hin hbad
        go_wp2
        go_ret
        exact ⟨ret_bool (HR.out.trans Hx.out).symm, rfl⟩
      · by_cases h2 : hi < (s[k].toNat : Int)
        · have Hx := Lib.hid (hbad (by rw [hin, decide_eq_false (show ¬ (s[k].toNat : Int) ≤ hi by omega)]; simp))
          clear hin hbad
          go_wp2
          go_ret
          exact ⟨ret_bool (HR.out.trans Hx.out).symm, rfl⟩
        · have Hx := Lib.hid (show Route.inside lo hi s[k] = true by rw [hin, decide_eq_true (show lo ≤ (s[k].toNat : Int) by omega), decide_eq_true (show (s[k].toNat : Int) ≤ hi by omega)]; rfl)
          clear hin hbad
          go_wp2
          go_round
          case rel =>
            refine ⟨k + 1, by go_num, by omega, fun j hj h => ?_⟩
            rcases Nat.lt_or_ge j k with h3 | h3
            · exact Hall.out j hj h3
            · obtain rfl : j = k := by omega
              exact Hx.out
          case measure => simp [intOf]; omega
    · have Hx := Lib.hid (all_upto hall (by omega))
      clear hall
      go_wp2
      go_ret
      exact ⟨ret_bool (HR.out.trans Hx.out).symm, rfl⟩

theorem one_byte (s : ByteArray) (k : Nat) (h : k < s.size) (f : UInt8 → Bool) : (s.extract k (k + 1)).data.toList.all f = f s[k] := by
  rw [extract_data, show k + 1 - k = 1 by omega, List.drop_eq_getElem_cons (by rw [← size_data]; exact h)]
  simp [get_data s k h]
theorem one_size (s : ByteArray) (k : Nat) (h : k < s.size) : (s.extract k (k + 1)).size = 1 := by
  rw [size_data, extract_data]; have := size_data s; simp; omega

/-- The loop over the name of a parameter. -/
theorem eq123 (b : UInt8) (c : UInt8) : ((b.toNat : Int) != (c.toNat : Int)) = !(b == c) := by
  rcases Classical.em (b = c) with e | e
  · subst e; simp
  · have : ¬ (b.toNat : Int) = (c.toNat : Int) := fun h => e (UInt8.toNat_inj.1 (by omega))
    rw [bne_iff_ne.2 this]
    simp [e]

set_option maxRecDepth 20000 in
set_option maxHeartbeats 1000000 in
theorem rparam_any (s : ByteArray) (hs : s.size ≤ 100000) (w : World) : Calls Try.prog 75 #[.string s] w fun e w' => (∃ m, e = .returned (.tuple #[.string m, .bool (Route.rparam s.data.toList)])) ∧ w = w' := by
  by_cases hlen : 3 ≤ s.size ∧ s.size ≤ 18
  · obtain ⟨l3, l18⟩ := hlen
    have i0 : 0 < s.size := by omega
    have iz : s.size - 1 < s.size := by omega
    have hw : IntKind.i64.wrap ((s.size : Int) - 1) = (s.size : Int) - 1 := IntWalk.i64_in _ (by omega)
    have l3' : ¬ (s.size : Int) < 3 := by omega
    have l18' : ¬ (18 : Int) < (s.size : Int) := by omega
    have z1 : (0 : Int) ≤ (s.size : Int) - 1 := by omega
    have z1' : (1 : Int) ≤ (s.size : Int) := by omega
    have z2 : (s.size : Int) - 1 < (s.size : Int) := by omega
    have hhead : (s.data.toList.head? == some 123) = (s[0] == 123) := by rw [head_data s i0]; rfl
    have hlast : (s.data.toList.getLast? == some 125) = (s[s.size - 1] == 125) := by
      rw [List.getLast?_eq_getElem?, ← size_data, get_opt s _ iz]; rfl
    have e1 := eq123 s[0] 123
    have e2 := eq123 s[s.size - 1] 125
    have hpar : Route.param s.data.toList = ((s[0] == 123) && (s[s.size - 1] == 125)) := by
      unfold Route.param
      rw [hhead, hlast, ← size_data, decide_eq_true (by omega)]; rfl
    have hmid : (s.extract 1 (s.size - 1)).data.toList = Route.mid s.data.toList := by
      rw [extract_data, show s.size - 1 - 1 = s.size - 2 by omega]
      unfold Route.mid
      rw [List.dropLast_eq_take, List.length_drop, ← size_data]
      congr 1
    have hml : (Route.mid s.data.toList).length = s.size - 2 := by rw [Route.mid_length, size_data]
    have hrp : Route.rparam s.data.toList = (((s[0] == 123) && (s[s.size - 1] == 125)) && (Route.mid s.data.toList).all Route.alnum1) := by
      unfold Route.rparam
      rw [hpar, hml, decide_eq_true (show 1 ≤ s.size - 2 by omega), decide_eq_true (show s.size - 2 ≤ 16 by omega)]
      simp
    rw [hrp]
    clear hrp hml hpar hhead hlast
    change _ = !(s[0] == 123) at e1
    obtain ⟨b1, hb1⟩ : ∃ b, b = (s[0] == 123) := ⟨_, rfl⟩
    obtain ⟨b2, hb2⟩ : ∃ b, b = (s[s.size - 1] == 125) := ⟨_, rfl⟩
    rw [← hb1] at e1 ⊢
    rw [← hb2] at e2 ⊢
    change ((s[0].toNat : Int) != 123) = !b1 at e1
    change ((s[s.size - 1].toNat : Int) != 125) = !b2 at e2
    clear hb1 hb2
    rcases b1 with _ | _
    · simp only [Bool.not_false] at e1
      clear hmid
      go_enter Try.func75, Try.ntmps75
      go_wp2
      go_ret2
      exact ⟨⟨_, rfl⟩, rfl⟩
    · rcases b2 with _ | _
      · simp only [Bool.not_false, Bool.not_true] at e1 e2
        clear hmid
        go_enter Try.func75, Try.ntmps75
        go_wp2
        go_ret2
        exact ⟨⟨_, rfl⟩, rfl⟩
      · simp only [Bool.not_true] at e1 e2
        obtain ⟨m, hm⟩ : ∃ m, m = s.extract 1 (s.size - 1) := ⟨_, rfl⟩
        rw [← hm] at hmid
        have hmsz : m.size = s.size - 2 := by rw [hm, size_data, extract_data]; have := size_data s; simp; omega
        rw [← hmid, Bool.and_self, Bool.true_and]
        obtain ⟨res, hres⟩ : ∃ r, r = m.data.toList.all Route.alnum1 := ⟨_, rfl⟩
        rw [← hres]
        have HR := Lib.hid hres
        clear hres
        have HM := Lib.hid hm
        have hm100 : m.size ≤ 16 := by omega
        clear hmid hm hmsz
        go_enter Try.func75, Try.ntmps75
        go_wp2
        rw [← HM.out]
        clear e1 e2 hw l3' l18'
        go_loop [4] (fun i => ∃ k : Nat, i = .int .i64 k ∧ k ≤ m.size ∧ ∀ j (hj : j < m.size), j < k → Route.alnum1 m[j] = true) (fun i => m.size - (intOf i).toNat)
        case atStart => exact ⟨0, rfl, Nat.zero_le _, fun j hj h => by omega⟩
        case round =>
          obtain ⟨k, rfl, hk, hall⟩ := hrel
          have Hall := Lib.hid hall
          clear hall
          by_cases hlt : k < m.size
          · have q1 := fun w => refBytes_any (m.extract k (k + 1)) 48 57 (by rw [one_size m k hlt]; omega) w
            have q2 := fun w => refBytes_any (m.extract k (k + 1)) 65 90 (by rw [one_size m k hlt]; omega) w
            have q3 := fun w => refBytes_any (m.extract k (k + 1)) 97 122 (by rw [one_size m k hlt]; omega) w
            rw [one_byte m k hlt] at q1 q2 q3
            have hal := Route.inside_alnum m[k]
            have hbad := fun h => all_bad (f := Route.alnum1) hlt h
            generalize Route.inside 48 57 m[k] = a1 at q1 hal
            generalize Route.inside 65 90 m[k] = a2 at q2 hal
            generalize Route.inside 97 122 m[k] = a3 at q3 hal
            have HA := Lib.hid hal
            have HB := Lib.hid hbad
            have hk1 : (k : Int) + 1 ≤ (m.size : Int) := by omega
            clear hal hbad
            rcases a1 with _ | _ <;> rcases a2 with _ | _ <;> rcases a3 with _ | _
            case false.false.false =>
              have Hx := Lib.hid (HB.out HA.out.symm)
              go_wp2_with (first
                | (go_at_call_of 77 (Value.int IntKind.u8 48); refine (q1 _).mono ?_; rintro e w1 ⟨rfl, rfl⟩)
                | (go_at_call_of 77 (Value.int IntKind.u8 65); refine (q2 _).mono ?_; rintro e w1 ⟨rfl, rfl⟩)
                | (go_at_call_of 77 (Value.int IntKind.u8 97); refine (q3 _).mono ?_; rintro e w1 ⟨rfl, rfl⟩))
              go_ret2
              exact ⟨⟨_, by rw [HR.out, Hx.out]; rfl⟩, rfl⟩
            all_goals
              go_wp2_with (first
                | (go_at_call_of 77 (Value.int IntKind.u8 48); refine (q1 _).mono ?_; rintro e w1 ⟨rfl, rfl⟩)
                | (go_at_call_of 77 (Value.int IntKind.u8 65); refine (q2 _).mono ?_; rintro e w1 ⟨rfl, rfl⟩)
                | (go_at_call_of 77 (Value.int IntKind.u8 97); refine (q3 _).mono ?_; rintro e w1 ⟨rfl, rfl⟩))
              go_round
              case rel =>
                refine ⟨k + 1, by go_num, by omega, fun j hj h => ?_⟩
                rcases Nat.lt_or_ge j k with h3 | h3
                · exact Hall.out j hj h3
                · obtain rfl : j = k := by omega
                  exact HA.out.symm
              case measure => simp [intOf]; omega
          · have Hx := Lib.hid (all_upto Hall.out (by omega))
            go_wp2
            go_ret2
            exact ⟨⟨_, by rw [HR.out, Hx.out]; rfl⟩, rfl⟩
  · have hr : Route.rparam s.data.toList = false := by
      unfold Route.rparam
      rw [Route.mid_length, ← size_data]
      rcases Nat.lt_or_ge s.size 3 with h | h
      · rw [decide_eq_false (show ¬ 1 ≤ s.size - 2 by omega)]; simp
      · rw [decide_eq_false (show ¬ s.size - 2 ≤ 16 by omega)]; simp
    have Hr := Lib.hid hr
    clear hr
    by_cases h3 : (s.size : Int) < 3
    · go_enter Try.func75, Try.ntmps75
      go_wp2
      go_ret2
      exact ⟨⟨_, by rw [Hr.out]; rfl⟩, rfl⟩
    · have h18 : (18 : Int) < (s.size : Int) := by omega
      go_enter Try.func75, Try.ntmps75
      go_wp2
      go_ret2
      exact ⟨⟨_, by rw [Hr.out]; rfl⟩, rfl⟩

theorem any_hit {s : ByteArray} {f : UInt8 → Bool} {k : Nat} (hk : k < s.size) (h : f s[k] = true) : s.data.toList.any f = true := by
  rw [List.any_eq_true]
  exact ⟨s[k], by rw [get_data s k hk]; exact List.getElem_mem _, h⟩
theorem any_miss {s : ByteArray} {f : UInt8 → Bool} {k : Nat} (h : ∀ j (hj : j < s.size), j < k → f s[j] = false) (hk : s.size ≤ k) : s.data.toList.any f = false := by
  rw [List.any_eq_false]
  intro b hb
  obtain ⟨j, hj, rfl⟩ := List.getElem_of_mem hb
  have hj' : j < s.size := by rw [size_data]; exact hj
  rw [show s.data.toList[j] = s[j] from rfl, h j hj' (by omega)]; simp

theorem eq_byte (b : UInt8) (c : UInt8) : ((b.toNat : Int) == (c.toNat : Int)) = (b == c) := by
  have := eq123 b c
  rcases h : ((b.toNat : Int) == (c.toNat : Int)) with _ | _ <;> rcases h2 : (b == c) with _ | _ <;> simp_all [bne]

set_option maxRecDepth 20000 in
set_option maxHeartbeats 1000000 in
theorem rname_any (s : ByteArray) (hs : s.size ≤ 100000) (w : World) : Calls Try.prog 76 #[.string s] w fun e w' => e = .returned (.bool (Route.nameOk s.data.toList)) ∧ w = w' := by
  have hq := fun w => refBytes_any s 33 126 hs w
  have hspl := Route.nameOk_split s.data.toList
  obtain ⟨b1, hb1⟩ : ∃ b, b = s.data.toList.all (Route.inside 33 126) := ⟨_, rfl⟩
  rw [← hb1] at hq hspl
  obtain ⟨b0, hb0⟩ : ∃ b, b = s.data.toList.any Route.special := ⟨_, rfl⟩
  rw [← hb0] at hspl
  rw [hspl, ← toList_data]
  have H0 := Lib.hid hb0
  clear hb1 hb0 hspl
  go_enter Try.func76, Try.ntmps76
  go_wp2
  go_loop [3] (fun i => ∃ k : Nat, i = .int .i64 k ∧ k ≤ s.size ∧ ∀ j (hj : j < s.size), j < k → Route.special s[j] = false) (fun i => s.size - (intOf i).toNat)
  case atStart => exact ⟨0, rfl, Nat.zero_le _, fun j hj h => by omega⟩
  case round =>
    obtain ⟨k, rfl, hk, hall⟩ := hrel
    have Hall := Lib.hid hall
    clear hall
    by_cases hlt : k < s.size
    · have e1 := eq_byte s[k] 47
      have e2 := eq_byte s[k] 123
      have e3 := eq_byte s[k] 125
      have e4 := eq_byte s[k] 42
      have hsp : Route.special s[k] = (s[k] == 47 || s[k] == 123 || s[k] == 125 || s[k] == 42) := rfl
      have hhit := fun h => any_hit (f := Route.special) hlt h
      generalize (s[k] == 47) = a1 at e1 hsp
      generalize (s[k] == 123) = a2 at e2 hsp
      generalize (s[k] == 125) = a3 at e3 hsp
      generalize (s[k] == 42) = a4 at e4 hsp
      change ((s[k].toNat : Int) == 47) = a1 at e1
      change ((s[k].toNat : Int) == 123) = a2 at e2
      change ((s[k].toNat : Int) == 125) = a3 at e3
      change ((s[k].toNat : Int) == 42) = a4 at e4
      have HS := Lib.hid hsp
      have HH := Lib.hid hhit
      clear hsp hhit
      by_cases hany : (a1 || a2 || a3 || a4) = true
      · have Hx := Lib.hid (H0.out.trans (HH.out (HS.out.trans hany)))
        have Hy := Lib.hid hany
        clear hany
        rcases a1 with _ | _ <;> rcases a2 with _ | _ <;> rcases a3 with _ | _ <;> rcases a4 with _ | _
        all_goals first
          | (exfalso; exact absurd Hy.out (by decide))
          | (go_wp2
             go_ret
             exact ⟨ret_bool (by rw [Hx.out]; rfl), rfl⟩)
      · have hn : (a1 || a2 || a3 || a4) = false := by simpa using hany
        have Hx := Lib.hid (HS.out.trans hn)
        rcases a1 with _ | _ <;> rcases a2 with _ | _ <;> rcases a3 with _ | _ <;> rcases a4 with _ | _ <;> simp at hn
        go_wp2
        go_round
        case rel =>
          refine ⟨k + 1, by go_num, by omega, fun j hj h => ?_⟩
          rcases Nat.lt_or_ge j k with h3 | h3
          · exact Hall.out j hj h3
          · obtain rfl : j = k := by omega
            exact Hx.out
        case measure => simp [intOf]; omega
    · have Hx := Lib.hid (H0.out.trans (any_miss Hall.out (by omega)))
      rcases h0 : (s.toList == []) with _ | _ <;> rcases h1 : (s.toList == [46]) with _ | _ <;> rcases h2 : (s.toList == [46, 46]) with _ | _
      all_goals
        go_wp2_with (go_at_call 77; refine (hq _).mono ?_; rintro e w1 ⟨rfl, rfl⟩)
        go_ret
        exact ⟨ret_bool (by first | rfl | (rw [Hx.out]; first | rfl | (simp [h0, h1, h2]; done) | (simp; intro _; exact ⟨⟨by simpa using h0, by simpa using h1⟩, by simpa using h2⟩))), rfl⟩

theorem last_is (s : ByteArray) (b : Bool) (h : Dots.isOpen s.data.toList = b) (hh : s.size - 1 < s.size) : (((s[s.size - 1]'hh).toNat : Int) != 47) = !b := by
  have e : s.data.toList.getLast? = some (s[s.size - 1]'hh) := by
    rw [List.getLast?_eq_getElem?, ← size_data, List.getElem?_eq_getElem (by rw [← size_data]; exact hh)]
    rfl
  unfold Dots.isOpen at h
  rw [e] at h
  rw [← h]
  exact eq123 _ 47

theorem rdirectory_any (s : ByteArray) (w : World) : Calls Try.prog 78 #[.string s] w fun e w' => e = .returned (.bool (Dots.directory s.data.toList)) ∧ Below w.heap.size w w' := by
  have hno := fun w => refNormal_any s w
  rcases hn : Dots.normal s.data.toList with _ | _
  · have e : Dots.directory s.data.toList = false := by unfold Dots.directory; rw [hn]; rfl
    rw [e]
    rw [hn] at hno
    clear hn
    go_enter Try.func78, Try.ntmps78
    go_wp2_with (go_at_call 52; refine (hno _).mono ?_; rintro e w1 ⟨rfl, hbl⟩)
    go_ret
    exact ⟨rfl, hbl⟩
  · have hsm := normal_small hn
    rw [← size_data] at hsm
    have e : Dots.directory s.data.toList = (s.data.toList == [47] || !Dots.isOpen s.data.toList) := by unfold Dots.directory; rw [hn]; rfl
    rw [e]
    rw [hn] at hno
    clear hn
    have hidx : s.size - 1 < s.size := by omega
    have hlast := last_is s _ rfl hidx
    obtain ⟨z, hz⟩ : ∃ z, z = Dots.isOpen s.data.toList := ⟨_, rfl⟩
    rw [← hz] at hlast ⊢
    clear hz
    rcases hr : (s.data.toList == [47]) with _ | _
    · rw [← toList_data] at hr
      rcases z with _ | _ <;> simp only [Bool.not_false, Bool.not_true] at hlast
      all_goals
        go_enter Try.func78, Try.ntmps78
        go_wp2_with (go_at_call 52; refine (hno _).mono ?_; rintro e w1 ⟨rfl, hbl⟩)
        go_ret
        exact ⟨rfl, hbl⟩
    · rw [← toList_data] at hr
      go_enter Try.func78, Try.ntmps78
      go_wp2_with (go_at_call 52; refine (hno _).mono ?_; rintro e w1 ⟨rfl, hbl⟩)
      go_ret
      exact ⟨rfl, hbl⟩

end Go.Proofs.Ytefilalapkdegaa
