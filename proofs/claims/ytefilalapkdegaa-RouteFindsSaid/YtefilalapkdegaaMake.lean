/- Lists of texts: a copy, whether two are the same; the path that segments make, the program's and the reference's. -/
import Derived.Test.YtefilalapkdegaaNames
import Derived.Test.YtefilalapkdegaaOwns
import Derived.Test.YtefilalapkdegaaSegments
import Derived.Deep.QuietTactic
import Derived.BigQuiet
namespace Go.Proofs.Ytefilalapkdegaa
open Go.RowKit Str Mem
set_option linter.unusedVariables false
set_option linter.unusedSimpArgs false

theorem Owns.fresh (w : World) (e : TypeId) (sz : Nat) : Owns (w.alloc (.cells #[] e)) w.heap.size e sz (.slice (some ⟨w.heap.size, 0, none⟩) 0 0) 0 [] :=
  ⟨by simp, .inr ⟨w.heap.size, 0, #[], rfl, Nat.le_refl _, heap_alloc_new w _, Nat.le_refl _, by simp [maxLen], by simp, by simp⟩⟩

theorem SlStr.of_owns {w : World} {base : Nat} {e : TypeId} {v : Value} {n : Nat} {l : List (List UInt8)} (h : Owns w base e 1 v n (l.map sv)) : SlStr w v l := by
  have hl : l.length = n := by have := h.1; simpa using this
  obtain ⟨a, c, h1, h2, h3, h4⟩ := h.form
  subst hl
  exact ⟨a, c, h1, h2, h3, h4⟩

theorem ownTexts_any (a : Option Addr) (c : Nat) (l : List (List UInt8)) (w : World) (hS : Strs w a l.length l) (hn : l.length ≤ 100000) :
    Calls Try.prog 49 #[.slice a l.length c] w fun e w' => ∃ v, e = .returned v ∧ SlStr w' v l ∧ Below w.heap.size w w' := by
  obtain ⟨i0, hi, hz0, hz1, hz2⟩ := info_parts infoStr
  go_enter Try.func49, Try.ntmps49
  go_wp2_with (at_builtin; go_must (refine wpList_append_owns _ rfl _ _ 33 rfl w.heap.size 9 i0 (.string ⟨#[]⟩) 1 16 Try.underlying33 hi hz0 hz1 hz2 rfl (by decide) _ 0 [] rfl (Owns.fresh w _ 1) a l.length c (l.map sv) rfl (Rd.alloc hS _) (by simp [sv, Value.oneCell']) (by simp only [maxLen]; omega) (by omega) (by simp) ?_); intro v' w3 hown hgrow)
  go_ret
  exact ⟨_, rfl, SlStr.of_owns (by simpa using hown), ((Below.refl _ w).alloc (Nat.le_refl _) _).grown hgrow (by simp) (by rintro k hk; change some w.heap.size = some k at hk; cases hk; exact Nat.le_refl _)⟩

theorem below_drewN {B : Nat} {a w : World} (h : Below B a w) (k : Nat) : Below B a (w.drewN k) := ⟨h.os, h.tape, h.output, h.size, h.block⟩

theorem same_take {l m : List (List UInt8)} {k : Nat} {s : List UInt8} (h : l.take k = m.take k) (hl : l[k]? = some s) (hm : m[k]? = some s) : l.take (k + 1) = m.take (k + 1) := by
  rw [List.take_add_one, List.take_add_one, h, hl, hm]

/-- SameTexts: whether two lists of texts are equal. -/
theorem sameTexts_any (a b : Option Addr) (c d : Nat) (l m : List (List UInt8)) (w : World) (hl : Strs w a l.length l) (hm : Strs w b m.length m) (hn : l.length ≤ maxLen) :
    Calls Try.prog 34 #[.slice a l.length c, .slice b m.length d] w fun e w' => e = .returned (.bool (l == m)) ∧ Below w.heap.size w w' := by
  unfold maxLen at hn
  by_cases hlm : l.length = m.length
  case neg =>
    have e : (l == m) = false := by rw [beq_eq_false_iff_ne]; intro e; exact hlm (by rw [e])
    have h1 : ((l.length : Int) == (m.length : Int)) = false := by rw [beq_eq_false_iff_ne]; omega
    rw [e]
    go_enter Try.func34, Try.ntmps34
    go_wp2
    go_ret
    exact ⟨rfl, Below.refl _ _⟩
  case pos =>
    have h1 : ((l.length : Int) == (m.length : Int)) = true := by rw [beq_iff_eq]; omega
    go_enter Try.func34, Try.ntmps34
    go_wp2
    go_loopw [5] (fun i wr => Below w.heap.size w wr ∧ ∃ k : Nat, k ≤ l.length ∧ i = .int .i64 k ∧ l.take k = m.take k) (fun i _ => l.length - (intOf i).toNat)
    case atStart => exact ⟨Below.refl _ _, 0, Nat.zero_le _, rfl, rfl⟩
    case round =>
      obtain ⟨hbl, k, hk, rfl, ht⟩ := hrel
      by_cases hlt : k < l.length
      · obtain ⟨ad, s, rfl, _, hls, hcell⟩ := (hl.below hbl).get hlt
        obtain ⟨ad2, s2, rfl, _, hms, hcell2⟩ := (hm.below hbl).get (hlm ▸ hlt)
        have hlt2 : k < m.length := hlm ▸ hlt
        by_cases hss : s = s2
        · subst hss
          have H := Lib.hid (same_take ht hls hms)
          clear ht hls hms
          go_wp2
          go_quiet (fail)
          go_wp2
          go_roundw
          case rel => exact ⟨below_drewN hbl _, k + 1, by omega, by go_num, H.out⟩
          case measure => simp [intOf]; omega
        · have hne : (l == m) = false := by
            rw [beq_eq_false_iff_ne]; intro e; subst e; rw [hls] at hms; exact hss (Option.some.inj hms)
          have H := Lib.hid hne
          have hb : (!s == s2) = true := by simpa using hss
          clear ht hls hms hne
          go_wp2
          go_quiet (fail)
          go_wp2
          go_ret
          exact ⟨ret_bool H.out.symm, below_drewN hbl _⟩
      · obtain rfl : k = l.length := by omega
        rw [List.take_length] at ht
        have H := Lib.hid ht
        clear ht
        go_wp2
        go_ret
        exact ⟨ret_bool (by have := H.out; rw [hlm, List.take_length] at this; simp [this]), hbl⟩

theorem all_take_succ {l : List (List UInt8)} {k : Nat} {s : List UInt8} (h : (l.take k).all Dots.name = true) (hl : l[k]? = some s) (hs : Dots.name s = true) : (l.take (k + 1)).all Dots.name = true := by
  rw [List.take_add_one, hl, List.all_append, h]
  simp [hs]

theorem make_bad {l : List (List UInt8)} {k : Nat} {s : List UInt8} (hl : l[k]? = some s) (hs : Dots.name s = false) (op : Bool) : Dots.make l op = ([], 3) := by
  have : l.all Dots.name = false := by
    rw [Bool.eq_false_iff]
    intro h
    rw [List.all_eq_true] at h
    have := h s (List.mem_of_getElem? hl)
    rw [hs] at this
    cases this
  unfold Dots.make
  rw [this]; rfl

theorem built_some (l : List (List UInt8)) (op : Bool) : Dots.built l (op && decide (l.length > 0)) = Dots.built l op := by
  rw [Dots.built_open, Dots.built_open]
  cases l <;> simp

theorem make_good {l : List (List UInt8)} (h : l.all Dots.name = true) (op : Bool) : Dots.make l op = Dots.limited (Dots.built l op) := by
  rw [← built_some l op]
  unfold Dots.make
  rw [h]
  cases l <;> simp

set_option maxHeartbeats 1000000 in
theorem refMake_any (a : Option Addr) (c : Nat) (l : List (List UInt8)) (op : Bool) (w : World) (hS : Strs w a l.length l) (hlen : (Dots.body l).length + 1 ≤ 140737488355327) (hn : l.length ≤ maxLen) :
    Calls Try.prog 23 #[.slice a l.length c, .bool op] w fun e w' => e = .returned (.tuple #[.string (bs (Dots.make l op).1), .int .i64 (Dots.make l op).2]) ∧ Below w.heap.size w w' := by
  have hn' := hn
  unfold maxLen at hn
  go_enter Try.func23, Try.ntmps23
  go_wp2
  go_loopw [6] (fun i wr => Below w.heap.size w wr ∧ ∃ k : Nat, k ≤ l.length ∧ i = .int .i64 k ∧ (l.take k).all Dots.name = true) (fun i _ => l.length - (intOf i).toNat)
  case atStart => exact ⟨Below.refl _ _, 0, Nat.zero_le _, rfl, rfl⟩
  case round =>
    obtain ⟨hbl, k, hk, rfl, ht⟩ := hrel
    by_cases hlt : k < l.length
    · obtain ⟨ad, s, rfl, _, hls, hcell⟩ := (hS.below hbl).get hlt
      have hle := body_take_le l (k + 1)
      rw [body_take_succ hls, List.length_append, List.length_cons] at hle
      have hnm := fun w => refName_any (bs s) w (by unfold maxLen; rw [size_bs]; omega)
      rw [data_bs] at hnm
      clear hle
      rcases hb : Dots.name s with _ | _
      · rw [hb] at hnm
        have H := Lib.hid (make_bad hls hb op)
        clear ht hls hb
        go_wp2_with (go_at_call 45; refine (hnm _).mono ?_; rintro e w1 ⟨rfl, rfl⟩)
        go_ret2
        exact ⟨by rw [H.out]; rfl, hbl⟩
      · rw [hb] at hnm
        have H := Lib.hid (all_take_succ ht hls hb)
        clear ht hls hb
        go_wp2_with (go_at_call 45; refine (hnm _).mono ?_; rintro e w1 ⟨rfl, rfl⟩)
        go_roundw
        case rel => exact ⟨hbl, k + 1, by omega, by go_num, H.out⟩
        case measure => simp [intOf]; omega
    · obtain rfl : k = l.length := by omega
      rw [List.take_length] at ht
      have Hm := Lib.hid (make_good ht op)
      have hlo : (Dots.built l op).length ≤ 140737488355327 := by
        rw [Dots.built_open]
        split
        · rw [List.length_append]; exact Nat.le_trans hlen (by decide)
        · omega
      have hbu : ∀ (wr : World), Below w.heap.size w wr → Calls Try.prog 46 #[.slice a l.length c, .bool op] wr fun e w' => e = .returned (.string (bs (Dots.built l op))) ∧ Below wr.heap.size wr w' := by
        intro wr hb
        exact put_any a c l op wr (hS.below hb) (by unfold maxLen; omega) hn'
      clear ht hS hlen
      obtain ⟨out, ho⟩ : ∃ out, out = Dots.built l op := ⟨_, rfl⟩
      rw [← ho] at hbu hlo Hm
      clear ho
      by_cases h128 : out.length ≤ 128
      · have Hl := Lib.hid (show Dots.limited out = (out, 0) by simp [Dots.limited, h128])
        have hs1 : (out.length : Int) ≤ 128 := by omega
        clear h128
        go_wp2_with (go_at_call 46; refine (hbu _ hbl).mono ?_; rintro e w1 ⟨rfl, hbl1⟩)
        go_ret2
        exact ⟨by rw [Hm.out, Hl.out]; rfl, hbl.trans (hbl1.mono hbl.size)⟩
      · have Hl := Lib.hid (show Dots.limited out = ([], 4) by simp [Dots.limited, h128])
        have hs1 : 128 < (out.length : Int) := by omega
        clear h128
        go_wp2_with (go_at_call 46; refine (hbu _ hbl).mono ?_; rintro e w1 ⟨rfl, hbl1⟩)
        go_ret2
        exact ⟨by rw [Hm.out, Hl.out]; rfl, hbl.trans (hbl1.mono hbl.size)⟩

end Go.Proofs.Ytefilalapkdegaa
