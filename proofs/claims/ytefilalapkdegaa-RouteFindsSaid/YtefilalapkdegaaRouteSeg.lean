/- Segments of routes: validate's param, alnum, segment; the closures that it hands to strings.ContainsFunc. -/
import Derived.Test.YtefilalapkdegaaStrCut
import Derived.Test.YtefilalapkdegaaRouteSort
namespace Go.Proofs.Ytefilalapkdegaa.Route
theorem param_eq (s : Bs) : ((s.head? == some 123) && ((cutP 123 s).getLast? == some 125) && decide (2 ≤ s.length)) = param s := by
  unfold param cutP
  rcases hh : (s.head? == some 123) with _ | _
  · simp
  · simp only [if_true, Bool.true_and, Bool.and_true]
    rcases s with _ | ⟨a, _ | ⟨b, t⟩⟩
    · simp at hh
    · simp
    · simp [List.getLast?_cons_cons]
theorem param_mid {s : Bs} (h : param s = true) : cutS 125 (cutP 123 s) = mid s := by
  have h2 := param_eq s
  rw [h] at h2
  simp only [Bool.and_eq_true] at h2
  unfold cutS
  rw [h2.1.2]
  unfold cutP mid
  rw [h2.1.1]
  rfl
def textBad (r : Nat) : Bool := decide (r < 32) || decide (126 < r)
def nameBad (r : Nat) : Bool := decide (r < 33) || decide (126 < r) || decide (r = 47 ∨ r = 123 ∨ r = 125 ∨ r = 42)
def alnumBad (r : Nat) : Bool := (decide (r < 97) || decide (122 < r)) && (decide (r < 65) || decide (90 < r)) && (decide (r < 48) || decide (57 < r))
theorem byte_of (f g : UInt8 → Bool) (h : ∀ n, n < 256 → f (UInt8.ofNat n) = g (UInt8.ofNat n)) (b : UInt8) : f b = g b := by
  have := h b.toNat b.toNat_lt
  rwa [UInt8.ofNat_toNat] at this
theorem text_not (b : UInt8) : textByte b = !textBad b.toNat := byte_of textByte (fun b => !textBad b.toNat) (by decide +kernel) b
theorem name_not (b : UInt8) : nameByte b = !nameBad b.toNat := byte_of nameByte (fun b => !nameBad b.toNat) (by decide +kernel) b
theorem alnum_not (b : UInt8) : alnum1 b = !alnumBad b.toNat := byte_of alnum1 (fun b => !alnumBad b.toNat) (by decide +kernel) b
theorem any_not {f : UInt8 → Bool} {p : Nat → Bool} (h : ∀ b, f b = !p b.toNat) (l : Bs) : (l.any fun b => p b.toNat) = !(l.all f) := by
  rw [List.not_all_eq_any_not]
  congr 1
  funext b
  rw [h]; simp
end Go.Proofs.Ytefilalapkdegaa.Route

namespace Go.Proofs.Ytefilalapkdegaa
open Go.RowKit Str Mem
set_option linter.unusedVariables false
set_option linter.unusedSimpArgs false

theorem vparam_any (s : ByteArray) (hs : s.size ≤ 100000) (w : World) :
    Calls Try.prog 70 #[.string s] w fun e w' => e = .returned (.tuple #[.string (bs (cutS 125 (cutP 123 s.data.toList))), .bool (Route.param s.data.toList)]) ∧ w = w' := by
  have h1 := fun w => cutPrefix_any s 123 (by unfold maxLen; omega) w
  have hl : (bs (cutP 123 s.data.toList)).size ≤ maxLen := by
    rw [size_bs]
    unfold cutP maxLen
    have := size_data s
    split
    · simp; omega
    · omega
  have h2 := fun w => cutSuffix_any (bs (cutP 123 s.data.toList)) 125 hl w
  rw [data_bs] at h2
  have hp := Route.param_eq s.data.toList
  rw [← size_data] at hp
  obtain ⟨m, hm⟩ : ∃ m, m = cutP 123 s.data.toList := ⟨_, rfl⟩
  rw [← hm] at h1 h2 hp ⊢
  obtain ⟨m2, hm2⟩ : ∃ m2, m2 = cutS 125 m := ⟨_, rfl⟩
  rw [← hm2] at h2 ⊢
  clear hm hm2 hl
  obtain ⟨b1, e1⟩ : ∃ b, b = (s.data.toList.head? == some 123) := ⟨_, rfl⟩
  rw [← e1] at h1 hp
  obtain ⟨b2, e2⟩ : ∃ b, b = (m.getLast? == some 125) := ⟨_, rfl⟩
  rw [← e2] at h2 hp
  have HP := Lib.hid hp
  clear e1 e2 hp
  rcases b1 with _ | _ <;> rcases b2 with _ | _
  all_goals
    go_enter Try.func70, Try.ntmps70
    go_wp2_with (first
      | (go_at_call 98; refine (h1 _).mono ?_; rintro e w1 ⟨rfl, rfl⟩)
      | (go_at_call 99; refine (h2 _).mono ?_; rintro e w1 ⟨rfl, rfl⟩))
    go_ret2
    exact ⟨by rw [← HP.out]; first | (simp; done) | (simp; omega), rfl⟩

theorem textBad_pred (w : World) : RunePred 73 #[] Route.textBad w := by
  intro W r _
  show Calls Try.prog 73 #[.int .i32 (r : Int)] W _
  have h32 : (decide (r < 32)) = decide ((r : Int) < 32) := decide_eq_decide.2 (by omega)
  have h126 : (decide (126 < r)) = decide ((126 : Int) < (r : Int)) := decide_eq_decide.2 (by omega)
  unfold Route.textBad
  rw [h32, h126]
  clear h32 h126
  by_cases h1 : (r : Int) < 32
  · go_enter Try.func73, Try.ntmps73
    go_wp2
    go_ret
    exact ⟨by simp [h1], 0, rfl⟩
  · by_cases h2 : (126 : Int) < (r : Int)
    all_goals
      go_enter Try.func73, Try.ntmps73
      go_wp2
      go_ret
      exact ⟨by simp [h1, h2], 0, rfl⟩

theorem textBad_big (r : Nat) (h : 128 ≤ r) : Route.textBad r = true := by unfold Route.textBad; simp; omega
theorem nameBad_big (r : Nat) (h : 128 ≤ r) : Route.nameBad r = true := by unfold Route.nameBad; simp; omega
theorem alnumBad_big (r : Nat) (h : 128 ≤ r) : Route.alnumBad r = true := by unfold Route.alnumBad; simp; omega

theorem alnumBad_pred (w : World) : RunePred 108 #[] Route.alnumBad w := by
  intro W r _
  show Calls Try.prog 108 #[.int .i32 (r : Int)] W _
  have d1 : (decide (r < 97)) = decide ((r : Int) < 97) := decide_eq_decide.2 (by omega)
  have d2 : (decide (122 < r)) = decide ((122 : Int) < (r : Int)) := decide_eq_decide.2 (by omega)
  have d3 : (decide (r < 65)) = decide ((r : Int) < 65) := decide_eq_decide.2 (by omega)
  have d4 : (decide (90 < r)) = decide ((90 : Int) < (r : Int)) := decide_eq_decide.2 (by omega)
  have d5 : (decide (r < 48)) = decide ((r : Int) < 48) := decide_eq_decide.2 (by omega)
  have d6 : (decide (57 < r)) = decide ((57 : Int) < (r : Int)) := decide_eq_decide.2 (by omega)
  unfold Route.alnumBad
  rw [d1, d2, d3, d4, d5, d6]
  clear d1 d2 d3 d4 d5 d6
  generalize hb1 : decide ((r : Int) < 97) = b1
  generalize hb2 : decide ((122 : Int) < (r : Int)) = b2
  generalize hb3 : decide ((r : Int) < 65) = b3
  generalize hb4 : decide ((90 : Int) < (r : Int)) = b4
  generalize hb5 : decide ((r : Int) < 48) = b5
  generalize hb6 : decide ((57 : Int) < (r : Int)) = b6
  rcases b1 with _ | _ <;> rcases b2 with _ | _ <;> rcases b3 with _ | _ <;> rcases b4 with _ | _ <;> rcases b5 with _ | _ <;> rcases b6 with _ | _
  all_goals first
    | (exfalso; simp at hb1 hb2 hb3 hb4 hb5 hb6; omega)
    | (go_enter Try.func108, Try.ntmps108
       go_wp2
       go_ret
       exact ⟨by simp, 0, rfl⟩)

theorem alnum_any (s : ByteArray) (w : World) : Calls Try.prog 95 #[.string s] w fun e w' => e = .returned (.bool (s.data.toList.all Route.alnum1)) ∧ Below w.heap.size w w' := by
  have hc := containsFunc_any 108 #[] (enters_of Try.func108 (by kernel_rfl) rfl) Route.alnumBad alnumBad_big s w (alnumBad_pred w)
  rw [Route.any_not Route.alnum_not] at hc
  obtain ⟨b, hb⟩ : ∃ b, b = s.data.toList.all Route.alnum1 := ⟨_, rfl⟩
  rw [← hb] at hc ⊢
  clear hb
  rcases b with _ | _ <;> simp only [Bool.not_false, Bool.not_true] at hc
  all_goals
    go_enter Try.func95, Try.ntmps95
    go_wp2_with (go_at_call 72; refine hc.mono ?_; rintro e w1 ⟨rfl, hb⟩)
    go_ret
    exact ⟨rfl, hb⟩

theorem strIndexByte_any (s : ByteArray) (c : Int) (w : World) : Calls Try.prog 115 #[.string s, .int .u8 c] w fun e w' => e = .returned (.int .i64 (Lib.indexByte s.data.toList c.toNat.toUInt8)) ∧ w = w' := by
  have h := fun w => indexByte_any s c w
  go_enter Try.func115, Try.ntmps115
  go_wp2_with (go_at_call 120; refine (h _).mono ?_; rintro e w1 ⟨rfl, rfl⟩)
  go_ret
  exact ⟨rfl, rfl⟩

theorem index_decide (l : List UInt8) (c : UInt8) : decide (0 ≤ Lib.indexByte l c) = l.contains c := by
  rcases index_cases c l with ⟨a, t, he, ha, hi⟩ | ⟨hn, hi⟩
  · rw [hi]
    have : l.contains c = true := by rw [he]; simp
    rw [this]; simp
  · rw [hi]
    have : l.contains c = false := by simpa using hn
    rw [this]; rfl

set_option maxRecDepth 20000 in
theorem containsRune_any (s : ByteArray) (r : Nat) (h : r < 128) (w : World) : Calls Try.prog 97 #[.string s, .int .i32 (r : Int)] w fun e w' => e = .returned (.bool (s.data.toList.contains (UInt8.ofNat r))) ∧ w = w' := by
  have hq := fun w => strIndexByte_any s (r : Int) w
  have hd := index_decide s.data.toList (UInt8.ofNat r)
  rw [show ((r : Int).toNat.toUInt8) = UInt8.ofNat r from rfl] at hq
  obtain ⟨n, hn⟩ : ∃ n, n = Lib.indexByte s.data.toList (UInt8.ofNat r) := ⟨_, rfl⟩
  rw [← hn] at hq hd
  have HD := Lib.hid hd
  clear hn hd
  have h0 : (0 : Int) ≤ (r : Int) := by omega
  have h1 : (r : Int) < 128 := by omega
  have h2 : IntKind.u8.wrap (r : Int) = (r : Int) := IntWalk.u8_in _ (by omega)
  have hI : ∀ w, Calls Try.prog 109 #[.string s, .int .i32 (r : Int)] w fun e w' => e = .returned (.int .i64 n) ∧ w = w' := by
    intro w
    go_enter Try.func109, Try.ntmps109
    go_wp2_with (go_at_call 115; refine (hq _).mono ?_; rintro e w1 ⟨rfl, rfl⟩)
    go_ret
    exact ⟨rfl, rfl⟩
  clear hq h2
  go_enter Try.func97, Try.ntmps97
  go_wp2_with (go_at_call 109; refine (hI _).mono ?_; rintro e w1 ⟨rfl, rfl⟩)
  go_ret
  exact ⟨ret_bool HD.out, rfl⟩

theorem special_is (r : Nat) (h : r < 128) : ([47, 123, 125, 42] : List UInt8).contains (UInt8.ofNat r) = decide (r = 47 ∨ r = 123 ∨ r = 125 ∨ r = 42) := by
  have : ∀ r, r < 128 → ([47, 123, 125, 42] : List UInt8).contains (UInt8.ofNat r) = decide (r = 47 ∨ r = 123 ∨ r = 125 ∨ r = 42) := by decide +kernel
  exact this r h

set_option maxRecDepth 20000 in
theorem nameBad_pred (w : World) : RunePred 96 #[] Route.nameBad w := by
  intro W r _
  show Calls Try.prog 96 #[.int .i32 (r : Int)] W _
  by_cases h1 : (r : Int) < 33
  · have e : Route.nameBad r = true := by unfold Route.nameBad; simp; omega
    rw [e]
    clear e
    go_enter Try.func96, Try.ntmps96
    go_wp2
    go_ret
    exact ⟨rfl, 0, rfl⟩
  · by_cases h2 : (126 : Int) < (r : Int)
    · have e : Route.nameBad r = true := by unfold Route.nameBad; simp; omega
      rw [e]
      clear e
      go_enter Try.func96, Try.ntmps96
      go_wp2
      go_ret
      exact ⟨rfl, 0, rfl⟩
    · have hc := fun w => containsRune_any ⟨#[47, 123, 125, 42]⟩ r (by omega) w
      rw [show (⟨#[47, 123, 125, 42]⟩ : ByteArray).data.toList = [47, 123, 125, 42] from rfl, special_is r (by omega)] at hc
      have e : Route.nameBad r = decide (r = 47 ∨ r = 123 ∨ r = 125 ∨ r = 42) := by
        unfold Route.nameBad
        rw [decide_eq_false (show ¬ r < 33 by omega), decide_eq_false (show ¬ 126 < r by omega)]
        rfl
      rw [e]
      obtain ⟨b, hb⟩ : ∃ b, b = decide (r = 47 ∨ r = 123 ∨ r = 125 ∨ r = 42) := ⟨_, rfl⟩
      rw [← hb] at hc ⊢
      clear hb e
      go_enter Try.func96, Try.ntmps96
      go_wp2_with (go_at_call 97; refine (hc _).mono ?_; rintro e w1 ⟨rfl, rfl⟩)
      go_ret
      exact ⟨rfl, 0, rfl⟩

theorem segment_any (s : ByteArray) (last : Bool) (hs : s.size ≤ 100000) (w : World) : Calls Try.prog 69 #[.string s, .bool last] w fun e w' => e = .returned (.bool (Route.segOk s.data.toList last)) ∧ Below w.heap.size w w' := by
  have hp := fun w => vparam_any s hs w
  unfold Route.segOk
  rcases hb : Route.param s.data.toList with _ | _
  · rw [hb] at hp
    rw [if_neg (by simp)]
    obtain ⟨m, hm⟩ : ∃ m, m = cutS 125 (cutP 123 s.data.toList) := ⟨_, rfl⟩
    rw [← hm] at hp
    clear hm hb
    rcases h42 : (s.data.toList == [42]) with _ | _
    · rw [if_neg (by simp)]
      have hc := fun w => containsFunc_any 96 #[] (enters_of Try.func96 (by kernel_rfl) rfl) Route.nameBad nameBad_big s w (nameBad_pred w)
      rw [Route.any_not Route.name_not] at hc
      have e : Route.nameOk s.data.toList = (!(s.data.toList == []) && !(s.data.toList == [46]) && !(s.data.toList == [46, 46]) && s.data.toList.all Route.nameByte) := by
        unfold Route.nameOk Dots.dotted
        rcases (s.data.toList == []) with _ | _ <;> rcases (s.data.toList == [46]) with _ | _ <;> rcases (s.data.toList == [46, 46]) with _ | _ <;> rfl
      rw [e]
      obtain ⟨b, hb⟩ : ∃ b, b = s.data.toList.all Route.nameByte := ⟨_, rfl⟩
      rw [← hb] at hc ⊢
      clear hb e
      rw [← toList_data] at h42 ⊢
      rcases h0 : (s.toList == []) with _ | _ <;> rcases h1 : (s.toList == [46]) with _ | _ <;> rcases h2 : (s.toList == [46, 46]) with _ | _ <;> rcases b with _ | _ <;> simp only [Bool.not_false, Bool.not_true] at hc
      all_goals
        go_enter Try.func69, Try.ntmps69
        go_wp2_with (first
          | (go_at_call 70; refine (hp _).mono ?_; rintro e w1 ⟨rfl, rfl⟩)
          | (go_at_call 72; refine (hc _).mono ?_; rintro e w1 ⟨rfl, hb⟩))
        go_ret
        first | exact ⟨rfl, hb⟩ | exact ⟨rfl, Below.refl _ _⟩
    · rw [if_pos rfl]
      rw [← toList_data] at h42
      go_enter Try.func69, Try.ntmps69
      go_wp2_with (go_at_call 70; refine (hp _).mono ?_; rintro e w1 ⟨rfl, rfl⟩)
      go_ret
      exact ⟨rfl, Below.refl _ _⟩
  · rw [hb] at hp
    rw [if_pos rfl]
    rw [Route.param_mid hb] at hp
    clear hb
    obtain ⟨m, hm⟩ : ∃ m, m = Route.mid s.data.toList := ⟨_, rfl⟩
    rw [← hm] at hp ⊢
    have hml : m.length ≤ 100000 := by
      rw [hm]; unfold Route.mid
      have := size_data s
      simp; omega
    clear hm
    have hc := fun w => alnum_any (bs m) w
    rw [data_bs] at hc
    obtain ⟨b, hb⟩ : ∃ b, b = m.all Route.alnum1 := ⟨_, rfl⟩
    rw [← hb] at hc ⊢
    clear hb
    by_cases g1 : (1 : Int) ≤ (m.length : Int)
    · by_cases g2 : (m.length : Int) ≤ 16
      all_goals
        go_enter Try.func69, Try.ntmps69
        go_wp2_with (first
          | (go_at_call 70; refine (hp _).mono ?_; rintro e w1 ⟨rfl, rfl⟩)
          | (go_at_call 95; refine (hc _).mono ?_; rintro e w1 ⟨rfl, hb⟩))
        go_ret
        first
          | exact ⟨ret_bool (by rw [decide_eq_true (show 1 ≤ m.length by omega), decide_eq_true (show m.length ≤ 16 by omega)]; simp), hb⟩
          | exact ⟨ret_bool (by rw [decide_eq_false (show ¬ m.length ≤ 16 by omega)]; simp), Below.refl _ _⟩
    · go_enter Try.func69, Try.ntmps69
      go_wp2_with (go_at_call 70; refine (hp _).mono ?_; rintro e w1 ⟨rfl, rfl⟩)
      go_ret
      exact ⟨ret_bool (by rw [decide_eq_false (show ¬ 1 ≤ m.length by omega)]; simp), Below.refl _ _⟩

end Go.Proofs.Ytefilalapkdegaa
