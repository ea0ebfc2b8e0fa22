/- The law's examples: its directories. -/
import Derived.Test.YtajnkapnndhbaaaInhNumber
namespace Go.Proofs.Ytajnkapnndhbaaa
open Go.RowKit Str Mem
set_option linter.unusedVariables false
set_option linter.unusedSimpArgs false

/-- The chapter's directories, whatever the addresses of their rules. -/
def exDirs (r1 r2 r3 : Option Addr) : List DirV := [⟨[47], 0, r1, 2, 2⟩, ⟨[47, 97], 1, r2, 1, 1⟩, ⟨[47, 97, 47, 98], 2, r3, 2, 2⟩]

def DirsPost (w : World) (e : Ending) (w' : World) : Prop :=
  ∃ a c r1 r2 r3, e = .returned (.slice a 3 c) ∧ Dirs w' a 3 (exDirs r1 r2 r3) ∧ 3 ≤ c ∧ Below w.heap.size w w'

theorem dirs_row (w : World) (r1 r2 r3 : Option Addr) (N : Nat) (hN : N = w.heap.size) : Dirs (w.alloc (.cells #[.string ⟨#[47]⟩, .int .i64 0, .slice r1 2 2, .string ⟨#[47, 97]⟩, .int .i64 1, .slice r2 1 1, .string ⟨#[47, 97, 47, 98]⟩, .int .i64 2, .slice r3 2 2] 55)) (some ⟨N, 0, none⟩) 3 (exDirs r1 r2 r3) := by
  subst hN
  refine ⟨rfl, fun _ => ⟨_, rfl, by simp, fun j u hu => ?_⟩⟩
  rw [add_flat, cell_of_row _ w.heap.size _ _ _ (0, 0) (heap_alloc_new w _)]
  rw [Nat.zero_add]
  rw [← hu, ← Array.getElem?_toList]
  rfl

theorem infoRule : ∃ (i : TypeInfo) (z : Value), Try.prog.info? 89 = some i ∧ i.zero = some z ∧ (i.bytes : Int) ≤ 1000 := by
  have h : (Try.prog.info? 89).map (fun i => (i.zero.isSome, decide ((i.bytes : Int) ≤ 1000))) = some (true, true) := by kernel_rfl
  obtain ⟨i, hi, hx⟩ := Option.map_eq_some_iff.1 h
  simp only [Prod.mk.injEq, decide_eq_true_eq] at hx
  obtain ⟨z, hz⟩ := Option.isSome_iff_exists.1 hx.1
  exact ⟨i, z, hi, hz, hx.2⟩

/-- make([]Rule, n), whatever it holds. -/
theorem makeRules : ∃ row : Nat → Array Value, ∀ (n : Nat) (w : World), n ≤ 1000 → (Instr.makeSlice 53 (.int .i64 n) (.int .i64 n)).run Try.prog w = .ok (.slice (some ⟨w.heap.size, 0, none⟩) n n) (w.alloc (.cells (row n) 89)) := by
  obtain ⟨i, z, hi, hz, hb⟩ := infoRule
  refine ⟨fun n => madeCells z.cells (n * i.size), fun n w hn => ?_⟩
  have hm : (i.bytes : Int) * (n : Int) ≤ 1000 * 1000 := Int.mul_le_mul hb (by omega) (by omega) (by omega)
  have := run_make (P := Try.prog) w 53 89 i z Try.underlying53 hi hz .i64 .i64 n n (by omega) (Int.le_refl _) (by omega) (by omega)
  simpa using this

set_option maxRecDepth 20000 in
set_option maxHeartbeats 2000000 in
theorem dirs_any (w : World) : Calls Try.prog 31 #[] w fun e w' => DirsPost w e w' := by
  obtain ⟨row, hrow⟩ := makeRules
  have h2 : ∀ w, (Instr.makeSlice 53 (.int .i64 2) (.int .i64 2)).run Try.prog w = .ok (.slice (some ⟨w.heap.size, 0, none⟩) 2 2) (w.alloc (.cells (row 2) 89)) := fun w => hrow 2 w (by decide)
  have h1 : ∀ w, (Instr.makeSlice 53 (.int .i64 1) (.int .i64 1)).run Try.prog w = .ok (.slice (some ⟨w.heap.size, 0, none⟩) 1 1) (w.alloc (.cells (row 1) 89)) := fun w => hrow 1 w (by decide)
  clear hrow
  go_enter Try.func31, Try.ntmps31
  go_wp2
  go_region_with (fail)
  all_goals go_wp2
  all_goals go_ret
  all_goals refine ⟨_, 3, _, _, _, rfl, Rd.drew (dirs_row _ _ _ _ _ (by simp)), Nat.le_refl _, ?_⟩
  all_goals exact ((((((Below.refl _ w).alloc (Nat.le_refl _) _).alloc (by simp) _).alloc (by simp; omega) _).alloc (by simp; omega) _)).drew

theorem exSmall (r1 r2 r3 : Option Addr) : Small (exDirs r1 r2 r3) := by
  refine ⟨by simp [exDirs], ?_⟩
  intro d hd
  simp [exDirs] at hd
  rcases hd with rfl | rfl | rfl <;> simp

def SpotsI3 (w : World) (l m : List Inh.Spot) (i : Value) (wr : World) : Prop :=
  ∃ k : Nat, i = .int .i64 k ∧ k ≤ l.length ∧ (∀ j, j < k → l[j]? = m[j]?) ∧ ∃ n, wr = w.drewN n

set_option maxHeartbeats 1000000 in
theorem sameSpots_any (a b : Option Addr) (c d : Nat) (l : List Inh.Spot) (w : World) (hl : Rd w 2 a l.length (scells l)) (hm : Rd w 2 b l.length (scells l)) (hn : l.length ≤ 100000) :
    Calls Try.prog 16 #[.slice a l.length c, .slice b l.length d] w fun e w' => e = .returned (.bool true) ∧ Below w.heap.size w w' := by
  go_enter Try.func16, Try.ntmps16
  go_wp2
  go_loopw [5] (fun i wr => SpotsI3 w l l i wr) (fun i _ => l.length - (intOf i).toNat)
  case atStart => exact ⟨0, rfl, Nat.zero_le _, by omega, 0, rfl⟩
  case round =>
    obtain ⟨k, rfl, hk, _, n, rfl⟩ := hrel
    by_cases hlt : k < l.length
    · obtain ⟨ad, rfl, hbb, hcs⟩ := hl.get (by omega)
      obtain ⟨bd, rfl, hbb2, hcs2⟩ := hm.get (by omega)
      have hls : l[k]? = some l[k] := List.getElem?_eq_getElem hlt
      obtain ⟨g0, g1⟩ := scells_get l k l[k] hls
      have s0 := hcs _ _ g0
      have s1 : w.cell? ⟨(ad.add (k * 2)).block, (ad.add (k * 2)).off + 1, none⟩ = some (.int .i64 (l[k]).2) := by rw [field_addr _ _ _ (by omega)]; exact hcs _ _ g1
      have t0 := hcs2 _ _ g0
      have t1 : w.cell? ⟨(bd.add (k * 2)).block, (bd.add (k * 2)).off + 1, none⟩ = some (.int .i64 (l[k]).2) := by rw [field_addr _ _ _ (by omega)]; exact hcs2 _ _ g1
      obtain ⟨s, hs⟩ : ∃ s, s = l[k] := ⟨_, rfl⟩
      rw [← hs] at s0 s1 t0 t1
      clear hs g0 g1 hcs hcs2 hls
      go_wp2
      go_quiet (fail)
      go_wp2
      go_roundw
      case rel => exact ⟨k + 1, by go_num, by omega, fun _ _ => rfl, n + nq, by simp [World.drewN, Nat.add_assoc]⟩
      case measure => simp [intOf]; omega
    · obtain rfl : k = l.length := by omega
      go_wp2
      go_ret
      exact ⟨rfl, below_drewN (Below.refl _ _) _⟩

theorem sameInts_any (a b : Option Addr) (c d : Nat) (l : List Int) (w : World) (hl : Ints w a l.length l) (hm : Ints w b l.length l) (hn : l.length ≤ 100000) :
    Calls Try.prog 30 #[.slice a l.length c, .slice b l.length d] w fun e w' => e = .returned (.bool true) ∧ Below w.heap.size w w' := by
  go_enter Try.func30, Try.ntmps30
  go_wp2
  go_loopw [5] (fun i wr => ∃ k : Nat, i = .int .i64 k ∧ k ≤ l.length ∧ ∃ n, wr = w.drewN n) (fun i _ => l.length - (intOf i).toNat)
  case atStart => exact ⟨0, rfl, Nat.zero_le _, 0, rfl⟩
  case round =>
    obtain ⟨k, rfl, hk, n, rfl⟩ := hrel
    by_cases hlt : k < l.length
    · obtain ⟨ad, x, rfl, _, hx, s0⟩ := hl.get hlt
      obtain ⟨bd, y, rfl, _, hy, t0⟩ := hm.get hlt
      rw [hx] at hy
      cases hy
      clear hx
      go_wp2
      go_quiet (fail)
      go_wp2
      go_roundw
      case rel => exact ⟨k + 1, by go_num, by omega, n + nq, by simp [World.drewN, Nat.add_assoc]⟩
      case measure => simp [intOf]; omega
    · obtain rfl : k = l.length := by omega
      go_wp2
      go_ret
      exact ⟨rfl, below_drewN (Below.refl _ _) _⟩

end Go.Proofs.Ytajnkapnndhbaaa
