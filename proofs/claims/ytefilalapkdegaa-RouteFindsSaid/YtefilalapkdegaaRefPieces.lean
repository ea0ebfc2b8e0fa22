/- The reference's pieces, path, open, Normal. -/
import Derived.Test.YtefilalapkdegaaMake
namespace Go.Proofs.Ytefilalapkdegaa
open Go.RowKit Str Mem
set_option linter.unusedVariables false
set_option linter.unusedSimpArgs false

theorem refPath_any (s : ByteArray) (w : World) : Calls Try.prog 81 #[.string s] w fun e w' => e = .returned (.bool (Dots.isPath s.data.toList)) ∧ w = w' := by
  by_cases h : s.size = 0
  · have e : s = ⟨#[]⟩ := eq_of_data (List.eq_nil_of_length_eq_zero (by rw [← size_data]; exact h))
    subst e
    have hz : Dots.isPath (⟨#[]⟩ : ByteArray).data.toList = false := rfl
    rw [hz]
    go_enter Try.func81, Try.ntmps81
    go_wp2
    go_ret
    exact ⟨rfl, rfl⟩
  · have h0 : 0 < s.size := by omega
    have hd := head_data s h0
    have hne : ¬ s.toList = [] := by rw [toList_data]; intro e; rw [size_data, e] at h0; simp at h0
    have hb : Dots.isPath s.data.toList = ((s[0].toNat : Int) == 47) := by
      unfold Dots.isPath
      rw [hd, Bool.eq_iff_iff]
      simp only [beq_iff_eq, Option.some.injEq]
      constructor
      · intro e; rw [e]; rfl
      · intro e; exact UInt8.toNat_inj.1 (by simp; omega)
    rw [hb]
    clear hd hb
    go_enter Try.func81, Try.ntmps81
    go_wp2
    all_goals go_ret
    all_goals exact ⟨ret_bool (by simp_all), rfl⟩

theorem refOpen_any (s : ByteArray) (w : World) (h0 : 0 < s.size) (h : s.size ≤ maxLen) : Calls Try.prog 102 #[.string s] w fun e w' => e = .returned (.bool (Dots.isOpen s.data.toList)) ∧ w = w' := by
  unfold maxLen at h
  have hg : s.data.toList.getLast? = some (s[s.size - 1]) := by
    rw [List.getLast?_eq_getElem?, ← size_data, get_opt s (s.size - 1) (by omega)]
  have hb : Dots.isOpen s.data.toList = ((s[s.size - 1].toNat : Int) == 47) := by
    unfold Dots.isOpen
    rw [hg, Bool.eq_iff_iff]
    simp only [beq_iff_eq, Option.some.injEq]
    constructor
    · intro e; rw [e]; rfl
    · intro e; exact UInt8.toNat_inj.1 (by simp; omega)
  rw [hb]
  clear hg hb
  have e1 : (s.size : Int) - 1 = ((s.size - 1 : Nat) : Int) := by omega
  go_enter Try.func102, Try.ntmps102
  go_wp2
  all_goals go_ret
  all_goals exact ⟨ret_bool (by simp_all), rfl⟩

/-- What the reference's loop has: the pieces that are done, where the next begins, where it reads. -/
structure CutAt (p : List UInt8) (done : List (List UInt8)) (f i : Nat) : Prop where
  lo : 1 ≤ f
  mid : f ≤ i
  hi : i ≤ p.length + 1
  run : i ≤ p.length → Dots.split (p.drop 1) = done ++ Dots.split (p.drop f) ∧ 47 ∉ (p.drop f).take (i - f)
  fin : i = p.length + 1 → done = Dots.split (p.drop 1)
  few : done.length + 1 ≤ i

theorem CutAt.start {p : List UInt8} (h : 1 ≤ p.length) : CutAt p [] 1 1 := ⟨by omega, by omega, by omega, fun _ => ⟨by simp, by simp⟩, fun e => by omega, by simp⟩

theorem CutAt.skip {p : List UInt8} {done : List (List UInt8)} {f i : Nat} (h : CutAt p done f i) (hi : i < p.length) (hc : p[i] ≠ 47) : CutAt p done f (i + 1) := by
  obtain ⟨h1, h2⟩ := h.run (by omega)
  have hm := h.mid
  refine ⟨h.lo, by omega, by omega, fun _ => ⟨h1, ?_⟩, fun e => by omega, by have := h.few; omega⟩
  rw [show i + 1 - f = (i - f) + 1 by omega, List.take_add_one, List.getElem?_drop, show f + (i - f) = i by omega, List.getElem?_eq_getElem hi]
  simp [h2, Ne.symm hc]

theorem CutAt.cut {p : List UInt8} {done : List (List UInt8)} {f i : Nat} (h : CutAt p done f i) (hi : i < p.length) (hc : p[i] = 47) : CutAt p (done ++ [(p.drop f).take (i - f)]) (i + 1) (i + 1) := by
  obtain ⟨h1, h2⟩ := h.run (by omega)
  have hm := h.mid
  have hd : p.drop f = (p.drop f).take (i - f) ++ 47 :: p.drop (i + 1) := by
    conv => lhs; rw [← List.take_append_drop (i - f) (p.drop f)]
    rw [List.drop_drop, show f + (i - f) = i by omega, List.drop_eq_getElem_cons hi, hc]
  refine ⟨by have := h.lo; omega, by omega, by omega, fun _ => ⟨?_, by simp⟩, fun e => by omega, ?_⟩
  · rw [h1]
    conv => lhs; rw [hd]
    rw [Dots.split_cut _ _ h2]
    simp
  · have := h.few; simp; omega

theorem CutAt.last {p : List UInt8} {done : List (List UInt8)} {f : Nat} (h : CutAt p done f p.length) : CutAt p (done ++ [(p.drop f).take (p.length - f)]) (p.length + 1) (p.length + 1) := by
  obtain ⟨h1, h2⟩ := h.run (by omega)
  have hm := h.mid
  have hall : (p.drop f).take (p.length - f) = p.drop f := List.take_of_length_le (by simp)
  rw [hall] at h2 ⊢
  refine ⟨by have := h.lo; omega, by omega, by omega, fun e => by omega, fun _ => ?_, by have := h.few; simp; omega⟩
  rw [h1, Dots.split_whole _ h2]

def PieceI (w : World) (p : List UInt8) (v f i : Value) (wr : World) : Prop :=
  ∃ (done : List (List UInt8)) (fn k : Nat), f = .int .i64 fn ∧ i = .int .i64 k ∧ Owns wr w.heap.size 9 1 v done.length (done.map sv) ∧ Below w.heap.size w wr ∧ CutAt p done fn k ∧ fn ≤ k ∧ k ≤ p.length + 1 ∧ done.length + 1 ≤ k

theorem bs_extract (s : ByteArray) (a b : Nat) : s.extract a b = bs ((s.data.toList.drop a).take (b - a)) := eq_of_data (by rw [extract_data])

set_option maxRecDepth 8000 in
set_option maxHeartbeats 1000000 in
theorem refPieces_any (s : ByteArray) (w : World) (h0 : 1 ≤ s.size) (h1 : s.size ≤ 100000) :
    Calls Try.prog 82 #[.string s] w fun e w' => ∃ v, e = .returned v ∧ SlStr w' v (Dots.split (s.data.toList.drop 1)) ∧ Below w.heap.size w w' := by
  obtain ⟨i0, hi, hz0, hz1, hz2⟩ := info_parts infoStr
  go_enter Try.func82, Try.ntmps82
  go_wp2
  go_loopw [3, 4, 5] (fun v f i wr => PieceI w s.data.toList v f i wr) (fun _ _ i _ => s.size + 1 - (intOf i).toNat)
  case atStart => exact ⟨[], 1, 1, rfl, rfl, Owns.nil _ _ _ _, Below.refl _ _, CutAt.start (by rw [← size_data]; exact h0), by omega, by omega, by simp⟩
  case round =>
    obtain ⟨done, f, k, rfl, rfl, hown, hbl, H, hfk, hkl, hdk⟩ := hrel
    rw [← size_data] at hkl
    have hsz := hbl.size
    by_cases hk : k ≤ s.size
    · by_cases hlast : k = s.size
      · subst hlast
        have Hx := Lib.hid (bs_extract s f s.size)
        go_wp2_with (at_builtin; go_must (refine wpList_append_owns _ rfl _ _ 33 rfl w.heap.size 9 i0 (.string ⟨#[]⟩) 1 16 Try.underlying33 hi hz0 hz1 hz2 rfl (by decide) _ _ _ rfl (hown.alloc _) _ 1 1 [.string (s.extract f s.size)] rfl (Rd.one_at _ _ _ _ (by simp)) (by simp [Value.oneCell']) (by simp only [maxLen]; omega) (by omega) (by simp; omega) ?_); intro v' w3 hown' hgrow)
        go_roundw
        case rel =>
          have hl : s.size = s.data.toList.length := size_data s
          have H2 := CutAt.last (by rw [← hl]; exact H)
          rw [← hl] at H2
          exact ⟨done ++ [(s.data.toList.drop f).take (s.size - f)], s.size + 1, s.size + 1, by go_num, by go_num, by rw [List.map_append, List.length_append]; rw [Hx.out] at hown'; exact hown', (hbl.alloc hbl.size _).grown hgrow (by simp; omega) (by intro j hj; exact (hown.lt j hj).1), H2, Nat.le_refl _, by omega, by simp; omega⟩
        case measure => simp [intOf]
      · have hk2 : k < s.size := by omega
        have hlt : ¬ (k : Int) = (s.size : Int) := by omega
        have hl : s.size = s.data.toList.length := size_data s
        by_cases hc : s[k] = 47
        · have H2 := H.cut (by rw [← hl]; exact hk2) hc
          have Hx := Lib.hid (bs_extract s f k)
          have hc' : ((s[k].toNat : Int) == 47) = true := by rw [hc]; rfl
          clear hl
          go_wp2_with (at_builtin; go_must (refine wpList_append_owns _ rfl _ _ 33 rfl w.heap.size 9 i0 (.string ⟨#[]⟩) 1 16 Try.underlying33 hi hz0 hz1 hz2 rfl (by decide) _ _ _ rfl (hown.alloc _) _ 1 1 [.string (s.extract f k)] rfl (Rd.one_at _ _ _ _ (by simp)) (by simp [Value.oneCell']) (by simp only [maxLen]; omega) (by omega) (by simp; omega) ?_); intro v' w3 hown' hgrow)
          go_roundw
          case rel =>
            exact ⟨done ++ [(s.data.toList.drop f).take (k - f)], k + 1, k + 1, by go_num, by go_num, by rw [List.map_append, List.length_append]; rw [Hx.out] at hown'; exact hown', (hbl.alloc hbl.size _).grown hgrow (by simp; omega) (by intro j hj; exact (hown.lt j hj).1), H2, Nat.le_refl _, by rw [← size_data]; omega, by simp; omega⟩
          case measure => simp [intOf]; omega
        · have H2 := H.skip (by rw [← hl]; exact hk2) hc
          have hc' : ((s[k].toNat : Int) == 47) = false := by rw [beq_eq_false_iff_ne]; intro h; exact hc (UInt8.toNat_inj.1 (by simp; omega))
          clear hl
          go_wp2
          go_roundw
          case rel => exact ⟨done, f, k + 1, rfl, by go_num, hown, hbl, H2, by omega, by rw [← size_data]; omega, by omega⟩
          case measure => simp [intOf]; omega
    · obtain rfl : k = s.size + 1 := by omega
      have hd := H.fin (by rw [← size_data])
      have hsl := SlStr.of_owns hown
      rw [hd] at hsl
      clear hd
      go_wp2
      go_ret
      exact ⟨_, rfl, hsl, hbl⟩

end Go.Proofs.Ytefilalapkdegaa
