/- Set, Rules, All: of both. -/
import Derived.Test.YtajnkapnndhbaaaInhRefSet
namespace Go.Proofs.Ytajnkapnndhbaaa.Inh
open Mem
def setR (L : List DirV) (d : Int) : List Spot × Int := if asked L d = 0 then (set L d, 0) else ([], asked L d)
def rulesR (L : List DirV) (p : Bs) : List Spot × Int := if (findR L p).2 = 0 then (if (findR L p).1.2 then (set L (findR L p).1.1, 0) else ([], 0)) else ([], (findR L p).2)
def allR (L : List DirV) : List Spot × Int := if (check L).1 = 0 then (all L, 0) else ([], (check L).1)
theorem findR_some {L : List DirV} {p : Bs} (h : (findR L p).2 = 0) (h2 : (findR L p).1.2 = true) : Valid L ∧ ∃ j : Nat, (findR L p).1.1 = j ∧ j < L.length ∧ find L p = j := by
  unfold findR at h h2 ⊢
  by_cases hc : (check L).1 = 0
  · rw [if_pos hc] at h h2 ⊢
    rcases hn : Dots.normal p with _ | _
    · rw [hn] at h; simp at h
    · rw [hn] at h2
      simp only [if_true] at h2 ⊢
      unfold some? at h2 ⊢
      simp only [decide_eq_true_eq] at h2
      have hr := find_range L p
      exact ⟨hc, (find L p).toNat, by simp; omega, by omega, by omega⟩
  · rw [if_neg hc] at h; exact absurd h hc
end Go.Proofs.Ytajnkapnndhbaaa.Inh

namespace Go.Proofs.Ytajnkapnndhbaaa
open Go.RowKit Str Mem
set_option linter.unusedVariables false
set_option linter.unusedSimpArgs false

/-- A list of places and an error. -/
def SpotsPost (R : List Inh.Spot × Int) (w : World) (e : Ending) (w' : World) : Prop :=
  ∃ a c, e = .returned (.tuple #[.slice a R.1.length c, .int .i64 R.2]) ∧ Rd w' 2 a R.1.length (scells R.1) ∧ R.1.length ≤ c ∧ c ≤ maxLen ∧ Below w.heap.size w w'
theorem SpotsPost.none (n : Int) {w w' : World} (h : Below w.heap.size w w') : SpotsPost ([], n) w (.returned (.tuple #[.slice none 0 0, .int .i64 n])) w' :=
  ⟨Option.none, 0, rfl, Rd.nil _ _ _, Nat.le_refl _, by simp [maxLen], h⟩

theorem inhSet_any (a : Option Addr) (c : Nat) (L : List DirV) (d : Int) (w : World) (hD : Dirs w a L.length L) (hc : L.length ≤ c) (hs : Small L) :
    Calls Try.prog 12 #[.slice a L.length c, .int .i64 d] w fun e w' => SpotsPost (Inh.setR L d) w e w' := by
  have hq := fun w h => at_any a c L d w h hc hs
  unfold Inh.setR
  by_cases hv : Inh.asked L d = 0
  · obtain ⟨hval, hd0, hdL⟩ := Inh.asked_ok hv
    obtain ⟨j, rfl⟩ : ∃ j : Nat, d = j := ⟨d.toNat, by omega⟩
    unfold placeOf at hq
    rw [if_pos hv, hv] at hq
    rw [if_pos hv]
    have hset := fun w h => set_any a c L j w hval h hs (by omega)
    clear hv
    obtain ⟨S, hS⟩ : ∃ S, S = Inh.set L j := ⟨_, rfl⟩
    rw [← hS] at hset ⊢
    clear hS
    go_enter Try.func12, Try.ntmps12
    go_wp2_with (first
      | (go_at_call 39; refine (hq _ hD).mono ?_; rintro e w1 ⟨rfl, h1⟩; have g1 := h1.alloc h1.size (.cells #[.slice a L.length c, .int .i64 j] 64))
      | (go_at_call 40; refine (hset _ (hD.below g1)).mono ?_; rintro e w3 ⟨v, rfl, ⟨a', c', rfl, h3, h4, h5⟩, h2⟩))
    go_ret2
    exact ⟨a', c', rfl, h5, h3, h4, g1.trans (h2.mono g1.size)⟩
  · unfold placeOf at hq
    rw [if_neg hv] at hq
    rw [if_neg hv]
    obtain ⟨n, hn⟩ : ∃ n, n = Inh.asked L d := ⟨_, rfl⟩
    rw [← hn] at hq hv ⊢
    clear hn
    go_enter Try.func12, Try.ntmps12
    go_wp2_with (go_at_call 39; refine (hq _ hD).mono ?_; rintro e w1 ⟨rfl, h1⟩)
    go_ret2
    exact SpotsPost.none _ (h1.alloc h1.size _)

theorem refInhSet_any (a : Option Addr) (c : Nat) (L : List DirV) (d : Int) (w : World) (hD : Dirs w a L.length L) (hs : Small L) :
    Calls Try.prog 13 #[.slice a L.length c, .int .i64 d] w fun e w' => SpotsPost (Inh.setR L d) w e w' := by
  have hq := fun w h => asked_any a c L d w h hs
  unfold Inh.setR
  by_cases hv : Inh.asked L d = 0
  · obtain ⟨hval, hd0, hdL⟩ := Inh.asked_ok hv
    have hset := fun w h => refSet_any a c L hval hs (Inh.up L d) d (by omega) hdL (Nat.le_refl _) w h
    rw [hv] at hq
    rw [if_pos hv]
    clear hv
    unfold SetPost at hset
    obtain ⟨S, hS⟩ : ∃ S, S = Inh.set L d := ⟨_, rfl⟩
    rw [← hS] at hset ⊢
    clear hS
    go_enter Try.func13, Try.ntmps13
    go_wp2_with (first
      | (go_at_call 41; refine (hq _ hD).mono ?_; rintro e w1 ⟨rfl, h1⟩)
      | (go_at_call 42; refine (hset _ (hD.below h1)).mono ?_; rintro e w3 ⟨v, rfl, ho, h2⟩; obtain ⟨a', c', rfl, h3, h4, h5⟩ := id ho.form))
    go_ret2
    exact ⟨a', c', rfl, h5, h3, h4, h1.trans (h2.mono h1.size)⟩
  · rw [if_neg hv]
    obtain ⟨n, hn⟩ : ∃ n, n = Inh.asked L d := ⟨_, rfl⟩
    rw [← hn] at hq hv ⊢
    clear hn
    go_enter Try.func13, Try.ntmps13
    go_wp2_with (go_at_call 41; refine (hq _ hD).mono ?_; rintro e w1 ⟨rfl, h1⟩)
    go_ret2
    exact SpotsPost.none _ h1

theorem inhRules_any (a : Option Addr) (c : Nat) (L : List DirV) (p : List UInt8) (w : World) (hD : Dirs w a L.length L) (hc : L.length ≤ c) (hs : Small L) (hp : p.length ≤ 200) :
    Calls Try.prog 14 #[.slice a L.length c, .string ⟨p.toArray⟩] w fun e w' => SpotsPost (Inh.rulesR L p) w e w' := by
  have hq := fun w h => inhFind_any a c L w p h hc hs hp
  have hsm := Inh.findR_some (L := L) (p := p)
  unfold Inh.rulesR
  obtain ⟨F, hF⟩ : ∃ F, F = Inh.findR L p := ⟨_, rfl⟩
  rw [← hF] at hq hsm ⊢
  clear hF
  obtain ⟨⟨i, b⟩, n⟩ := F
  unfold tri at hq
  simp only at hq hsm ⊢
  by_cases hn : n = 0
  · subst hn
    rw [if_pos rfl]
    rcases b with _ | _
    · rw [if_neg (by simp)]
      clear hsm
      go_enter Try.func14, Try.ntmps14
      go_wp2_with (go_at_call 24; refine (hq _ hD).mono ?_; rintro e w1 ⟨rfl, h1⟩)
      go_ret2
      exact SpotsPost.none _ h1
    · obtain ⟨hval, j, rfl, hjL, _⟩ := hsm rfl rfl
      rw [if_pos rfl]
      have hset := fun w h => set_any a c L j w hval h hs hjL
      obtain ⟨S, hS⟩ : ∃ S, S = Inh.set L j := ⟨_, rfl⟩
      rw [← hS] at hset ⊢
      clear hS hsm
      go_enter Try.func14, Try.ntmps14
      go_wp2_with (first
        | (go_at_call 24; refine (hq _ hD).mono ?_; rintro e w1 ⟨rfl, h1⟩)
        | (go_at_call 40; refine (hset _ (hD.below h1)).mono ?_; rintro e w3 ⟨v, rfl, ⟨a', c', rfl, h3, h4, h5⟩, h2⟩))
      go_ret2
      exact ⟨a', c', rfl, h5, h3, h4, h1.trans (h2.mono h1.size)⟩
  · rw [if_neg hn]
    clear hsm
    go_enter Try.func14, Try.ntmps14
    go_wp2_with (go_at_call 24; refine (hq _ hD).mono ?_; rintro e w1 ⟨rfl, h1⟩)
    go_ret2
    exact SpotsPost.none _ h1

theorem refInhRules_any (a : Option Addr) (c : Nat) (L : List DirV) (p : List UInt8) (w : World) (hD : Dirs w a L.length L) (hs : Small L) (hp : p.length ≤ 200) :
    Calls Try.prog 15 #[.slice a L.length c, .string ⟨p.toArray⟩] w fun e w' => SpotsPost (Inh.rulesR L p) w e w' := by
  have hq := fun w h => refInhFind_any a c L w p h hs hp
  have hsm := Inh.findR_some (L := L) (p := p)
  unfold Inh.rulesR
  obtain ⟨F, hF⟩ : ∃ F, F = Inh.findR L p := ⟨_, rfl⟩
  rw [← hF] at hq hsm ⊢
  clear hF
  obtain ⟨⟨i, b⟩, n⟩ := F
  unfold tri at hq
  simp only at hq hsm ⊢
  by_cases hn : n = 0
  · subst hn
    rw [if_pos rfl]
    rcases b with _ | _
    · rw [if_neg (by simp)]
      clear hsm
      go_enter Try.func15, Try.ntmps15
      go_wp2_with (go_at_call 25; refine (hq _ hD).mono ?_; rintro e w1 ⟨rfl, h1⟩)
      go_ret2
      exact SpotsPost.none _ h1
    · obtain ⟨hval, j, rfl, hjL, _⟩ := hsm rfl rfl
      rw [if_pos rfl]
      have hset := fun w h => refSet_any a c L hval hs (Inh.up L j) j (by omega) (by omega) (Nat.le_refl _) w h
      unfold SetPost at hset
      obtain ⟨S, hS⟩ : ∃ S, S = Inh.set L j := ⟨_, rfl⟩
      rw [← hS] at hset ⊢
      clear hS hsm
      go_enter Try.func15, Try.ntmps15
      go_wp2_with (first
        | (go_at_call 25; refine (hq _ hD).mono ?_; rintro e w1 ⟨rfl, h1⟩)
        | (go_at_call 42; refine (hset _ (hD.below h1)).mono ?_; rintro e w3 ⟨v, rfl, ho, h2⟩; obtain ⟨a', c', rfl, h3, h4, h5⟩ := id ho.form))
      go_ret2
      exact ⟨a', c', rfl, h5, h3, h4, h1.trans (h2.mono h1.size)⟩
  · rw [if_neg hn]
    clear hsm
    go_enter Try.func15, Try.ntmps15
    go_wp2_with (go_at_call 25; refine (hq _ hD).mono ?_; rintro e w1 ⟨rfl, h1⟩)
    go_ret2
    exact SpotsPost.none _ h1

end Go.Proofs.Ytajnkapnndhbaaa
