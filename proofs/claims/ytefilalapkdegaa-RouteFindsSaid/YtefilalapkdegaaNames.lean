/- What is a name; the reference's path of segments. -/
import Derived.Test.YtefilalapkdegaaUnder
import Derived.Test.YtefilalapkdegaaMem
import Derived.Test.YtefilalapkdegaaBodyTake
namespace Go.Proofs.Ytefilalapkdegaa
open Go.RowKit Str Mem
set_option linter.unusedVariables false
set_option linter.unusedSimpArgs false

theorem name_any (s : ByteArray) (w : World) : Calls Try.prog 64 #[.string s] w fun e w' => e = .returned (.bool (Dots.name s.data.toList)) ∧ w = w' := by
  go_enter Try.func64, Try.ntmps64
  go_wp2_with (first
    | (go_at_call 56; refine (dotted_any s _).mono ?_; rintro e w' ⟨rfl, rfl⟩)
    | (go_at_call 91; refine (contains1_any s 47 _).mono ?_; rintro e w' ⟨rfl, rfl⟩))
  all_goals go_ret
  all_goals exact ⟨ret_bool (by simp_all [Dots.name, toList_data]), rfl⟩

theorem refName_any (s : ByteArray) (w : World) (hs : s.size ≤ maxLen) : Calls Try.prog 45 #[.string s] w fun e w' => e = .returned (.bool (Dots.name s.data.toList)) ∧ w = w' := by
  unfold maxLen at hs
  go_enter Try.func45, Try.ntmps45
  go_wp2
  go_loopw [3] (fun i wr => wr = w ∧ ∃ k : Nat, k ≤ s.size ∧ i = .int .i64 k ∧ 47 ∉ s.data.toList.take k) (fun i _ => s.size - (intOf i).toNat)
  case atStart => exact ⟨rfl, 0, Nat.zero_le _, rfl, by simp⟩
  case round =>
    obtain ⟨rfl, k, hk, rfl, hno⟩ := hrel
    by_cases hlt : k < s.size
    · have hg := get_opt s k hlt
      by_cases hc : s[k] = 47
      · have hm : (Dots.name s.data.toList) = false := by
          have : (47 : UInt8) ∈ s.data.toList := by rw [← hc]; exact List.mem_of_getElem? hg
          simp [Dots.name, this]
        have H := Lib.hid hm
        clear hg hm
        have hc' : (s[k].toNat : Int) = 47 := by rw [hc]; rfl
        go_wp2
        go_ret
        exact ⟨ret_bool H.out.symm, rfl⟩
      · have hno' : (47 : UInt8) ∉ s.data.toList.take (k + 1) := by
          rw [List.take_add_one, hg]
          simp [hno, Ne.symm hc]
        have H := Lib.hid hno'
        clear hg hno' hno
        have hc' : ((s[k].toNat : Int) == 47) = false := by rw [beq_eq_false_iff_ne]; intro h; exact hc (UInt8.toNat_inj.1 (by simp; omega))
        go_wp2
        go_roundw
        case rel => exact ⟨trivial, k + 1, by omega, by go_num, H.out⟩
        case measure => simp [intOf]; omega
    · obtain rfl : k = s.size := by omega
      rw [size_data, List.take_length] at hno
      have H := Lib.hid hno
      clear hno
      go_wp2
      all_goals go_ret
      all_goals have hno := H.out
      all_goals exact ⟨ret_bool (by simp_all [Dots.name, Dots.dotted, toList_data, Bool.and_assoc]), rfl⟩

def PutI (w : World) (l : List (List UInt8)) (out i : Value) (wr : World) : Prop :=
  ∃ k : Nat, k ≤ l.length ∧ i = .int .i64 k ∧ out = .string (bs (Dots.body (l.take k))) ∧ Below w.heap.size w wr

theorem bs_append (a b : List UInt8) : bs a ++ bs b = bs (a ++ b) := eq_of_data (by rw [append_data])

/-- put: the path of segments. -/
theorem put_any (a : Option Addr) (c : Nat) (l : List (List UInt8)) (op : Bool) (w : World) (hS : Strs w a l.length l) (hlen : (Dots.body l).length + 1 ≤ maxLen) (hn : l.length ≤ maxLen) :
    Calls Try.prog 46 #[.slice a l.length c, .bool op] w fun e w' => e = .returned (.string (bs (Dots.built l op))) ∧ Below w.heap.size w w' := by
  unfold maxLen at hn hlen
  go_enter Try.func46, Try.ntmps46
  go_wp2
  go_loopw [5, 6] (fun s i wr => PutI w l s i wr) (fun _ i _ => l.length - (intOf i).toNat)
  case atStart => exact ⟨0, Nat.zero_le _, rfl, rfl, Below.refl _ _⟩
  case round =>
    obtain ⟨k, hk, rfl, rfl, hbl⟩ := hrel
    by_cases hlt : k < l.length
    · obtain ⟨ad, s, rfl, _, hls, hcell⟩ := (hS.below hbl).get hlt
      have hts := body_take_succ hls
      have hle := body_take_le l (k + 1)
      rw [hts, List.length_append, List.length_cons] at hle
      have Hts := Lib.hid hts
      clear hts hls
      go_wp2
      go_roundw
      case rel => exact ⟨k + 1, by omega, by go_num, by rw [Hts.out]; refine congrArg Value.string (eq_of_data ?_); rw [append_data, append_data, data_bs, data_bs]; simp, hbl⟩
      case measure => simp [intOf]; omega
    · obtain rfl : k = l.length := by omega
      rw [List.take_length]
      go_wp2
      all_goals go_ret
      all_goals refine ⟨ret_str ?_, hbl⟩
      all_goals refine eq_of_data ?_
      all_goals rw [data_bs]
      all_goals (first | rw [append_data, data_bs] | rw [data_bs])
      all_goals simp_all [Dots.built, toList_data]

end Go.Proofs.Ytefilalapkdegaa
