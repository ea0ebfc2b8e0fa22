/- at, asked, Find, Above: of both. -/
import Derived.Test.YtajnkapnndhbaaaInhRefDeep
namespace Go.Proofs.Ytajnkapnndhbaaa.Inh
open Mem
def asked (L : List DirV) (d : Int) : Int := if (check L).1 = 0 then (if d < 0 ∨ (L.length : Int) ≤ d then 2 else 0) else (check L).1
theorem asked_ok {L : List DirV} {d : Int} (h : asked L d = 0) : Valid L ∧ 0 ≤ d ∧ d < L.length := by
  unfold asked at h
  split at h
  · rename_i hv
    split at h
    · cases h
    · exact ⟨hv, by omega, by omega⟩
  · rename_i hv; exact absurd h hv
theorem asked_bad {L : List DirV} {d : Int} (h : (check L).1 ≠ 0) : asked L d = (check L).1 := by unfold asked; rw [if_neg h]
theorem asked_range {L : List DirV} {d : Int} (h : (check L).1 = 0) (hd : d < 0 ∨ (L.length : Int) ≤ d) : asked L d = 2 := by unfold asked; rw [if_pos h, if_pos hd]
theorem asked_in {L : List DirV} {d : Int} (h : (check L).1 = 0) (hd : ¬ (d < 0 ∨ (L.length : Int) ≤ d)) : asked L d = 0 := by unfold asked; rw [if_pos h, if_neg hd]
/-- A number of a directory, and whether there is one. -/
def some? (i : Int) : Int × Bool := (max 0 i, decide (0 ≤ i))
def findR (L : List DirV) (p : Bs) : (Int × Bool) × Int := if (check L).1 = 0 then (if Dots.normal p then (some? (find L p), 0) else ((0, false), 11)) else ((0, false), (check L).1)
def aboveR (L : List DirV) (d : Int) : (Int × Bool) × Int := if asked L d = 0 then (some? (above L d.toNat), 0) else ((0, false), asked L d)
end Go.Proofs.Ytajnkapnndhbaaa.Inh

namespace Go.Proofs.Ytajnkapnndhbaaa
open Go.RowKit Str Mem
set_option linter.unusedVariables false
set_option linter.unusedSimpArgs false

theorem check_any (a : Option Addr) (c : Nat) (L : List DirV) (w : World) (hD : Dirs w a L.length L) (hc : L.length ≤ c) (hs : Small L) :
    Calls Try.prog 22 #[.slice a L.length c] w fun e w' => e = .returned (.tuple #[.int .i64 (Inh.check L).1, .int .i64 (Inh.check L).2]) ∧ Below w.heap.size w w' := by
  by_cases h : 8 < L.length
  · exact check_long a c L w h (by have := hs.1; unfold maxLen; omega)
  · exact check_short a c L w hD hc (by omega) hs
theorem refCheck_any (a : Option Addr) (c : Nat) (L : List DirV) (w : World) (hD : Dirs w a L.length L) (hs : Small L) :
    Calls Try.prog 23 #[.slice a L.length c] w fun e w' => e = .returned (.tuple #[.int .i64 (Inh.check L).1, .int .i64 (Inh.check L).2]) ∧ Below w.heap.size w w' := by
  by_cases h : 8 < L.length
  · exact refCheck_long a c L w h (by have := hs.1; unfold maxLen; omega)
  · exact refCheck_short a c L w hD (by omega) hs

/-- What 'at' returns. -/
def placeOf (a : Option Addr) (c : Nat) (L : List DirV) (d : Int) : Value := if Inh.asked L d = 0 then .agg #[.slice a L.length c, .int .i64 d] else .agg #[.slice none 0 0, .int .i64 0]

theorem box2_kept {w w1 : World} {x y : Value} {t : TypeId} (h : Below (w.alloc (Obj.cells #[x, y] t)).heap.size (w.alloc (Obj.cells #[x, y] t)) w1) :
    w1.cell? ⟨w.heap.size, 0, none⟩ = some x ∧ w1.cell? ⟨w.heap.size, 1, none⟩ = some y ∧ w1.frozen? ⟨w.heap.size, 0, none⟩ = false ∧ w1.frozen? ⟨w.heap.size, 1, none⟩ = false ∧ w.heap.size < w1.heap.size := by
  have hb : w1.heap[w.heap.size]? = some (Obj.cells #[x, y] t) := by
    rw [h.block w.heap.size (by simp)]
    exact heap_alloc_new w _
  refine ⟨?_, ?_, frozen_of_row _ _ _ _ t hb, frozen_of_row _ _ _ _ t hb, by have := h.size; simp at this; omega⟩ <;> rw [cell_of_row _ w.heap.size _ #[x, y] t (0, 0) hb] <;> rfl

theorem at_any (a : Option Addr) (c : Nat) (L : List DirV) (d : Int) (w : World) (hD : Dirs w a L.length L) (hc : L.length ≤ c) (hs : Small L) :
    Calls Try.prog 39 #[.slice a L.length c, .int .i64 d] w fun e w' => e = .returned (.tuple #[placeOf a c L d, .int .i64 (Inh.asked L d)]) ∧ Below w.heap.size w w' := by
  have hq := fun w h => check_any a c L w h hc hs
  have hL := hs.1
  unfold placeOf
  by_cases hv : (Inh.check L).1 = 0
  · rw [hv] at hq
    by_cases hd : d < 0
    · rw [Inh.asked_range hv (.inl hd), if_neg (by decide)]
      generalize (Inh.check L).2 = n2 at hq
      clear hv
      go_enter Try.func39, Try.ntmps39
      go_wp2_with (go_at_call 22; refine (hq _ (hD.alloc _)).mono ?_; rintro e w1 ⟨rfl, h1⟩; obtain ⟨b0, b1, f0, f1, hlt⟩ := box2_kept h1)
      refine bodyPost_ret (v := .tuple #[.agg #[.slice none 0 0, .int .i64 0], .int .i64 2]) (by rw [results_cell_tmp rfl]; go_simp) rfl ?_
      exact ⟨rfl, ((((Below.refl _ w).alloc (Nat.le_refl _) _).trans (h1.mono (by simp))).setCell (Nat.le_refl _) _).setCell (Nat.le_refl _) _⟩
    by_cases hd2 : (L.length : Int) ≤ d
    · rw [Inh.asked_range hv (.inr hd2), if_neg (by decide)]
      generalize (Inh.check L).2 = n2 at hq
      clear hv
      go_enter Try.func39, Try.ntmps39
      go_wp2_with (go_at_call 22; refine (hq _ (hD.alloc _)).mono ?_; rintro e w1 ⟨rfl, h1⟩; obtain ⟨b0, b1, f0, f1, hlt⟩ := box2_kept h1)
      refine bodyPost_ret (v := .tuple #[.agg #[.slice none 0 0, .int .i64 0], .int .i64 2]) (by rw [results_cell_tmp rfl]; go_simp) rfl ?_
      exact ⟨rfl, ((((Below.refl _ w).alloc (Nat.le_refl _) _).trans (h1.mono (by simp))).setCell (Nat.le_refl _) _).setCell (Nat.le_refl _) _⟩
    · rw [Inh.asked_in hv (by omega), if_pos rfl]
      generalize (Inh.check L).2 = n2 at hq
      clear hv
      go_enter Try.func39, Try.ntmps39
      go_wp2_with (go_at_call 22; refine (hq _ (hD.alloc _)).mono ?_; rintro e w1 ⟨rfl, h1⟩; obtain ⟨b0, b1, f0, f1, hlt⟩ := box2_kept h1)
      refine bodyPost_ret (v := .tuple #[.agg #[.slice a L.length c, .int .i64 d], .int .i64 0]) (by rw [results_cell_tmp rfl]; go_simp) rfl ?_
      exact ⟨rfl, ((((Below.refl _ w).alloc (Nat.le_refl _) _).trans (h1.mono (by simp))).setCell (Nat.le_refl _) _).setCell (Nat.le_refl _) _⟩
  · rw [Inh.asked_bad hv, if_neg hv]
    generalize (Inh.check L).2 = n2 at hq
    obtain ⟨n1, hn1⟩ : ∃ n, n = (Inh.check L).1 := ⟨_, rfl⟩
    rw [← hn1] at hq hv ⊢
    clear hn1
    go_enter Try.func39, Try.ntmps39
    go_wp2_with (go_at_call 22; refine (hq _ (hD.alloc _)).mono ?_; rintro e w1 ⟨rfl, h1⟩; obtain ⟨b0, b1, f0, f1, hlt⟩ := box2_kept h1)
    refine bodyPost_ret (v := .tuple #[.agg #[.slice none 0 0, .int .i64 0], .int .i64 n1]) (by rw [results_cell_tmp rfl]; go_simp) rfl ?_
    exact ⟨rfl, ((((Below.refl _ w).alloc (Nat.le_refl _) _).trans (h1.mono (by simp))).setCell (Nat.le_refl _) _).setCell (Nat.le_refl _) _⟩

/-- What 'deepest' of the reference is at -1 and at a directory. -/
theorem refFindDeep_any (a : Option Addr) (c : Nat) (L : List DirV) (p : List UInt8) (w : World) (hD : Dirs w a L.length L) (hs : Small L) (hp : p.length ≤ 200) :
    Calls Try.prog 54 #[.slice a L.length c, .string ⟨p.toArray⟩, .int .i64 (-1)] w fun e w' => e = .returned (.int .i64 (Inh.find L p)) ∧ Below w.heap.size w w' := by
  have := refDeepest_any a c L p (-1) w hD hs hp
  rwa [refFind_is] at this
theorem refAboveDeep_any (a : Option Addr) (c : Nat) (L : List DirV) (j : Nat) (d : DirV) (w : World) (hD : Dirs w a L.length L) (hs : Small L) (hj : L[j]? = some d) :
    Calls Try.prog 54 #[.slice a L.length c, .string ⟨d.path.toArray⟩, .int .i64 j] w fun e w' => e = .returned (.int .i64 (Inh.above L j)) ∧ Below w.heap.size w w' := by
  have := refDeepest_any a c L d.path j w hD hs (hs.2 d (List.mem_of_getElem? hj)).2
  rw [← Inh.pathOf_get hj] at this ⊢
  rwa [refAbove_is] at this

theorem asked_any (a : Option Addr) (c : Nat) (L : List DirV) (d : Int) (w : World) (hD : Dirs w a L.length L) (hs : Small L) :
    Calls Try.prog 41 #[.slice a L.length c, .int .i64 d] w fun e w' => e = .returned (.int .i64 (Inh.asked L d)) ∧ Below w.heap.size w w' := by
  have hq := fun w h => refCheck_any a c L w h hs
  have hL := hs.1
  by_cases hv : (Inh.check L).1 = 0
  · rw [hv] at hq
    by_cases hd : d < 0
    · rw [Inh.asked_range hv (.inl hd)]
      generalize (Inh.check L).2 = n2 at hq
      clear hv
      go_enter Try.func41, Try.ntmps41
      go_wp2_with (go_at_call 23; refine (hq _ hD).mono ?_; rintro e w1 ⟨rfl, h1⟩)
      go_ret
      exact ⟨rfl, h1⟩
    by_cases hd2 : (L.length : Int) ≤ d
    · rw [Inh.asked_range hv (.inr hd2)]
      generalize (Inh.check L).2 = n2 at hq
      clear hv
      go_enter Try.func41, Try.ntmps41
      go_wp2_with (go_at_call 23; refine (hq _ hD).mono ?_; rintro e w1 ⟨rfl, h1⟩)
      go_ret
      exact ⟨rfl, h1⟩
    · rw [Inh.asked_in hv (by omega)]
      generalize (Inh.check L).2 = n2 at hq
      clear hv
      go_enter Try.func41, Try.ntmps41
      go_wp2_with (go_at_call 23; refine (hq _ hD).mono ?_; rintro e w1 ⟨rfl, h1⟩)
      go_ret
      exact ⟨rfl, h1⟩
  · rw [Inh.asked_bad hv]
    generalize (Inh.check L).2 = n2 at hq
    obtain ⟨n1, hn1⟩ : ∃ n, n = (Inh.check L).1 := ⟨_, rfl⟩
    rw [← hn1] at hq hv ⊢
    clear hn1
    go_enter Try.func41, Try.ntmps41
    go_wp2_with (go_at_call 23; refine (hq _ hD).mono ?_; rintro e w1 ⟨rfl, h1⟩)
    go_ret
    exact ⟨rfl, h1⟩

end Go.Proofs.Ytajnkapnndhbaaa
