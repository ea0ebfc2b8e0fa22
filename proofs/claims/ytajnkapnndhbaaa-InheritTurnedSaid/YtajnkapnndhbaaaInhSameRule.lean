/- SameRule: of a rule and a copy of it. -/
import Derived.Test.YtajnkapnndhbaaaInhOwnRule
namespace Go.Proofs.Ytajnkapnndhbaaa
open Go.RowKit Str Mem
set_option linter.unusedVariables false
set_option linter.unusedSimpArgs false

theorem two_rows (w : World) (x y : Array Value) (t u : TypeId) :
    ((w.alloc (.cells x t)).alloc (.cells y u)).heap[w.heap.size]? = some (.cells x t) ∧ ((w.alloc (.cells x t)).alloc (.cells y u)).heap[w.heap.size + 1]? = some (.cells y u) := by
  have e1 := heap_alloc_new w (.cells x t)
  have e2 := heap_alloc_new (w.alloc (.cells x t)) (.cells y u)
  have a1 := Below.heap_alloc (w.alloc (.cells x t)) (.cells y u) w.heap.size (by simp)
  rw [World.size_alloc] at e2
  exact ⟨a1.trans e1, e2⟩

theorem cond_get {w : World} {r : RuleV} {n k : Nat} (h : Rd w 5 r.ca n (r.conds.flatMap CondV.cells)) (hn : n = r.conds.length) (hk : k < n) : ∃ (ad : Addr) (x : CondV), r.ca = some ad ∧ ad.block < w.heap.size ∧ r.conds[k]? = some x ∧
    w.cell? (ad.add (k * 5)) = some (.string ⟨x.test.toArray⟩) ∧ w.cell? ⟨(ad.add (k * 5)).block, (ad.add (k * 5)).off + 1, none⟩ = some (.bool x.no) ∧ w.cell? ⟨(ad.add (k * 5)).block, (ad.add (k * 5)).off + 2, none⟩ = some (.string ⟨x.pat.toArray⟩) ∧ w.cell? ⟨(ad.add (k * 5)).block, (ad.add (k * 5)).off + 3, none⟩ = some (.bool x.nc) ∧ w.cell? ⟨(ad.add (k * 5)).block, (ad.add (k * 5)).off + 4, none⟩ = some (.bool x.or) := by
  obtain ⟨ad, e, hb, hc⟩ := h.get (by omega)
  have hl : r.conds[k]? = some r.conds[k] := List.getElem?_eq_getElem (by omega)
  have g := fun j hj => flatM_get CondV.cells 5 CondV.cells_length r.conds k j _ hl hj
  refine ⟨ad, r.conds[k], e, hb, hl, hc _ _ ?_, ?_, ?_, ?_, ?_⟩
  · have := g 0 (by omega); rw [Nat.add_zero] at this; rw [this]; rfl
  · rw [field_addr _ _ _ (by omega)]; exact hc _ _ ((g 1 (by omega)).trans rfl)
  · rw [field_addr _ _ _ (by omega)]; exact hc _ _ ((g 2 (by omega)).trans rfl)
  · rw [field_addr _ _ _ (by omega)]; exact hc _ _ ((g 3 (by omega)).trans rfl)
  · rw [field_addr _ _ _ (by omega)]; exact hc _ _ ((g 4 (by omega)).trans rfl)

set_option maxRecDepth 20000 in
set_option maxHeartbeats 8000000 in
theorem sameRule_any (r : RuleV) (a : Option Addr) (c : Nat) (w : World) (hc : CondsAt w r) (hc2 : CondsAt w (r.at' a c)) (hn : r.conds.length ≤ 1048576) :
    Calls Try.prog 60 #[r.value, (r.at' a c).value] w fun e w' => e = .returned (.bool true) ∧ Below w.heap.size w w' := by
  obtain ⟨n, hne⟩ : ∃ n, n = r.conds.length := ⟨_, rfl⟩
  have hr : Rd w 5 r.ca n (r.conds.flatMap CondV.cells) := by rw [hne]; exact hc
  have hs : Rd w 5 a n (r.conds.flatMap CondV.cells) := by rw [hne]; exact hc2
  unfold RuleV.value RuleV.cells RuleV.list sv RuleV.at'
  dsimp only
  rw [← hne] at hn ⊢
  have Hne := Lib.hid hne
  clear hne hc hc2
  obtain ⟨W, hW, f1, f2, hb⟩ : ∃ W, (w.alloc (.cells #[Value.string ⟨r.pat.toArray⟩, Value.bool r.nc, Value.slice r.ca n r.cc, Value.string ⟨r.tgt.toArray⟩, Value.bool r.f1, Value.bool r.f2, Value.bool r.f3, Value.bool r.f4, Value.bool r.f5, Value.bool r.f6, Value.bool r.f7, Value.bool r.f8, Value.int .i64 r.sk, Value.int .i64 r.rd] 89)).alloc (.cells #[Value.string ⟨r.pat.toArray⟩, Value.bool r.nc, Value.slice a n c, Value.string ⟨r.tgt.toArray⟩, Value.bool r.f1, Value.bool r.f2, Value.bool r.f3, Value.bool r.f4, Value.bool r.f5, Value.bool r.f6, Value.bool r.f7, Value.bool r.f8, Value.int .i64 r.sk, Value.int .i64 r.rd] 89) = W ∧ W.cell? ⟨w.heap.size, 2, none⟩ = some (.slice r.ca n r.cc) ∧ W.cell? ⟨w.heap.size + 1, 2, none⟩ = some (.slice a n c) ∧ Below w.heap.size w W := by
    obtain ⟨k1, k2⟩ := two_rows w #[Value.string ⟨r.pat.toArray⟩, Value.bool r.nc, Value.slice r.ca n r.cc, Value.string ⟨r.tgt.toArray⟩, Value.bool r.f1, Value.bool r.f2, Value.bool r.f3, Value.bool r.f4, Value.bool r.f5, Value.bool r.f6, Value.bool r.f7, Value.bool r.f8, Value.int .i64 r.sk, Value.int .i64 r.rd] #[Value.string ⟨r.pat.toArray⟩, Value.bool r.nc, Value.slice a n c, Value.string ⟨r.tgt.toArray⟩, Value.bool r.f1, Value.bool r.f2, Value.bool r.f3, Value.bool r.f4, Value.bool r.f5, Value.bool r.f6, Value.bool r.f7, Value.bool r.f8, Value.int .i64 r.sk, Value.int .i64 r.rd] 89 89
    exact ⟨_, rfl, by rw [cell_of_row _ _ _ _ _ (0, 0) k1]; rfl, by rw [cell_of_row _ _ _ _ _ (0, 0) k2]; rfl, ((Below.refl _ w).alloc (Nat.le_refl _) _).alloc (by simp) _⟩
  have hr2 := hr.below hb
  have hs2 := hs.below hb
  have HW := Lib.hid hW
  clear hW
  go_enter Try.func60, Try.ntmps60
  go_wp2
  rw [HW.out]
  clear HW
  go_loopw [5] (fun i wr => ∃ k : Nat, i = .int .i64 k ∧ k ≤ n ∧ ∃ m, wr = W.drewN m) (fun i _ => n - (intOf i).toNat)
  case atStart => exact ⟨0, rfl, Nat.zero_le _, 0, rfl⟩
  case round =>
    obtain ⟨k, rfl, hk, m, rfl⟩ := hrel
    by_cases hlt : k < n
    · obtain ⟨ad, x, e1, _, hx, x0, x1, x2, x3, x4⟩ := cond_get hr2 Hne.out hlt
      obtain ⟨bd, y, e2, _, hy, y0, y1, y2, y3, y4⟩ := cond_get (r := r.at' a c) hs2 Hne.out hlt
      rw [show (r.at' a c).conds = r.conds from rfl, hx] at hy
      cases hy
      rw [e1] at f1
      rw [show (r.at' a c).ca = a from rfl] at e2
      rw [e2] at f2
      clear hx
      go_wp2
      go_quiet (fail)
      go_wp2
      go_roundw
      case rel => exact ⟨k + 1, by go_num, by omega, m + nq, by simp [World.drewN, Nat.add_assoc]⟩
      case measure => simp [intOf]; omega
    · obtain rfl : k = n := by omega
      go_wp2
      go_ret
      exact ⟨rfl, below_drewN hb _⟩

end Go.Proofs.Ytajnkapnndhbaaa
