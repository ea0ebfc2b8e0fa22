/- template.text: the text of parts. -/
import Derived.Test.YtllklgalghmnfaaDoorTplWriteAll
namespace Go.Proofs.YtllklgalghmnfaaDoor
open Go.RowKit Str Mem Tp
set_option linter.unusedVariables false
set_option linter.unusedSimpArgs false

theorem nmOf_len (n : Nat) : (nmOf n).length ≤ 6 := by unfold nmOf; split <;> simp
theorem writeP_len (p : Part) (h : p.t.length ≤ 100000) : (writeP p).length ≤ 200000 := by
  have h1 := esc_len p.t
  have h2 := nmOf_len p.n.toNat
  unfold writeP
  split
  · simp
  · split
    · simp
    · split
      · simp only [List.length_append, List.length_cons, List.length_nil]; omega
      · omega
theorem textP_next (L : List Part) (k : Nat) (p : Part) (h : L[k]? = some p) : textP (L.take (k + 1)) = textP (L.take k) ++ writeP p := by
  rw [List.take_add_one, h, Option.toList_some]
  unfold textP
  rw [List.map_append, List.flatten_append]
  congr 1
  simp
theorem textP_len (L : List Part) (h : ∀ p ∈ L, p.t.length ≤ 100000) : (textP L).length ≤ L.length * 200000 := by
  induction L with
  | nil => simp [textP]
  | cons p L ih =>
    have h1 := writeP_len p (h p (by simp))
    have h2 := ih (fun q hq => h q (by simp [hq]))
    unfold textP at h2 ⊢
    rw [List.map_cons, List.flatten_cons, List.length_append, List.length_cons]
    omega

set_option maxRecDepth 100000 in
set_option maxHeartbeats 4000000 in
theorem text_any (a : Option Addr) (c : Nat) (L : List Part) (w : World) (hP : Parts w a L.length L) (hn : L.length ≤ 100000) (hf : ∀ p ∈ L, fitW p) (hN : Nm w) :
    Calls Tryd.prog 57 #[.slice a L.length c] w fun e w' => e = .returned (.string (bs (textP L))) ∧ Below w.heap.size w w' := by
  go_enter Tryd.func57, Tryd.ntmps57
  go_wp2_with fail
  go_loopg [3, 8] L.length (fun g s i wr => ∃ k : Nat, i = .int .i64 k ∧ k + g = L.length ∧ s = .string (bs (textP (L.take k))) ∧ Below w.heap.size w wr)
  case atStart => exact ⟨0, rfl, by omega, rfl, Below.refl _ _⟩
  case round =>
    obtain ⟨k, rfl, hk, rfl, hbl⟩ := hrel
    by_cases hlt : k < L.length
    · obtain ⟨g', rfl⟩ : ∃ g', gk = g' + 1 := ⟨gk - 1, by omega⟩
      obtain ⟨x, hx⟩ : ∃ x, L[k]? = some x := ⟨_, List.getElem?_eq_getElem hlt⟩
      have hfx := hf x (List.mem_of_getElem? hx)
      obtain ⟨ad, rfl, had, g0, g1, g2⟩ := Parts.get (L := L) (Rd.keep hP hbl.size (fun _ _ _ h => hbl.block _ h)) k x hx
      have hw := fun W h => write_any x hfx W h
      have hnx := Lib.hid (textP_next L k x hx)
      have hl1 := textP_len (L.take k) (fun p hp => (hf p (List.mem_of_mem_take hp)).1)
      have hl2 := writeP_len x hfx.1
      have hl3 : (L.take k).length ≤ k := List.length_take_le _ _
      have hNr := hN.below hbl hN.lt
      have hrow := World.alloc_heap_new wr (.cells #[.int .i64 x.k, .string (bs x.t), .int .i64 x.n] 59)
      have hba := (Below.refl wr.heap.size wr).alloc (Nat.le_refl _) (.cells #[.int .i64 x.k, .string (bs x.t), .int .i64 x.n] 59)
      have i0 : (0 : Int) ≤ (k : Int) := by omega
      have i1 : (k : Int) < (L.length : Int) := by omega
      unfold pv at hw
      have hadd : ¬ 9223372036854775807 < (textP (L.take k)).length + (writeP x).length := by omega
      obtain ⟨A, hA⟩ : ∃ A, A = bs (textP (L.take k)) := ⟨_, rfl⟩
      obtain ⟨B, hB⟩ : ∃ B, B = bs (writeP x) := ⟨_, rfl⟩
      have hadd2 : ¬ 9223372036854775807 < A.size + B.size := by rw [hA, hB, size_bs, size_bs]; exact hadd
      rw [← hA]
      rw [← hB] at hw
      have HF := Lib.hid hf
      have HFx := Lib.hid hfx
      have HA := Lib.hid hA
      have HB := Lib.hid hB
      clear hx hf hfx hadd hA hB
      go_wp2_with fail
      refine (hw _ (hNr.alloc _)).mono ?_
      rintro e w2 ⟨rfl, h2⟩
      go_wp2_with fail
      go_roundg g'
      case measure => omega
      case rel => exact ⟨k + 1, by go_num, by omega, by rw [hnx.out, HA.out, HB.out, ← bs_append], hbl.trans ((hba.trans (h2.mono (by simp))).mono hbl.size)⟩
    · obtain rfl : k = L.length := by omega
      go_wp2_with fail
      go_ret
      exact ⟨by rw [List.take_length]; rfl, hbl⟩
end Go.Proofs.YtllklgalghmnfaaDoor
