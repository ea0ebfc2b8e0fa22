/- line.New, line.begun, line.Rest, and the reference's New, Rest. -/
import Derived.Test.YteppipkokeaijaaLineSeq
import Derived.Test.YteppipkokeaijaaLineCheck
import Derived.Laws.IdiomStrings
namespace Go.Proofs.Yteppipkokeaijaa
open Go.RowKit Str Mem
set_option linter.unusedVariables false
set_option linter.unusedSimpArgs false

/-- What New returns: the limit, the error. -/
def newR (lim : Int) : Int × Int := if lim < 1 ∨ 1536 < lim then (0, 2) else (lim, 0)
theorem bs_nil : bs [] = ⟨#[]⟩ := rfl

theorem new_any (lim : Int) (w : World) :
    Calls Try.prog 10 #[.int .i64 lim] w fun e w' => e = .returned (.tuple #[linesV (newR lim).1 [] false, .int .i64 (newR lim).2]) ∧ Below w.heap.size w w' := by
  go_enter Try.func10, Try.ntmps10
  by_cases hbad : lim < 1 ∨ 1536 < lim
  · have HN := Lib.hid (show newR lim = (0, 2) from by unfold newR; rw [if_pos hbad])
    rcases hbad with h | h
    · go_wp2
      refine bodyPost_ret (v := .tuple #[.agg #[.int .i64 0, .string ⟨#[]⟩, .bool false], .int .i64 2]) (by simp [results, Try.results10, go_sem]) rfl ⟨?_, ?_⟩
      · rw [HN.out]; rfl
      · exact (Below.refl _ w).alloc (Nat.le_refl _) _
    · have h1 : ¬ lim < 1 := by omega
      go_wp2
      refine bodyPost_ret (v := .tuple #[.agg #[.int .i64 0, .string ⟨#[]⟩, .bool false], .int .i64 2]) (by simp [results, Try.results10, go_sem]) rfl ⟨?_, ?_⟩
      · rw [HN.out]; rfl
      · exact (Below.refl _ w).alloc (Nat.le_refl _) _
  · have HN := Lib.hid (show newR lim = (lim, 0) from by unfold newR; rw [if_neg hbad])
    have h1 : ¬ lim < 1 := by omega
    have h2 : ¬ (1536 : Int) < lim := by omega
    go_wp2
    refine bodyPost_ret (v := .tuple #[.agg #[.int .i64 lim, .string ⟨#[]⟩, .bool false], .int .i64 0]) (by simp [results, Try.results10, go_sem]) rfl ⟨?_, ?_⟩
    · rw [HN.out]; rfl
    · exact (Below.refl _ w).alloc (Nat.le_refl _) _

theorem refNew_any (lim : Int) (w : World) :
    Calls Try.prog 17 #[.int .i64 lim] w fun e w' => e = .returned (.tuple #[linesV (newR lim).1 [] false, .int .i64 (newR lim).2]) ∧ Below w.heap.size w w' := by
  go_enter Try.func17, Try.ntmps17
  by_cases hbad : lim < 1 ∨ 1536 < lim
  · have HN := Lib.hid (show newR lim = (0, 2) from by unfold newR; rw [if_pos hbad])
    rcases hbad with h | h
    · go_wp2
      refine bodyPost_ret (v := .tuple #[.agg #[.int .i64 0, .string ⟨#[]⟩, .bool false], .int .i64 2]) (by simp [results, Try.results17, go_sem]) rfl ⟨?_, ?_⟩
      · rw [HN.out]; rfl
      · exact (Below.refl _ w).alloc (Nat.le_refl _) _
    · have h1 : ¬ lim < 1 := by omega
      go_wp2
      refine bodyPost_ret (v := .tuple #[.agg #[.int .i64 0, .string ⟨#[]⟩, .bool false], .int .i64 2]) (by simp [results, Try.results17, go_sem]) rfl ⟨?_, ?_⟩
      · rw [HN.out]; rfl
      · exact (Below.refl _ w).alloc (Nat.le_refl _) _
  · have HN := Lib.hid (show newR lim = (lim, 0) from by unfold newR; rw [if_neg hbad])
    have h1 : ¬ lim < 1 := by omega
    have h2 : ¬ (1536 : Int) < lim := by omega
    go_wp2
    refine bodyPost_ret (v := .tuple #[.agg #[.int .i64 lim, .string ⟨#[]⟩, .bool false], .int .i64 0]) (by simp [results, Try.results17, go_sem]) rfl ⟨?_, ?_⟩
    · rw [HN.out]; rfl
    · exact (Below.refl _ w).alloc (Nat.le_refl _) _


/-- What begun returns: a machine of its own. -/
def BegunPost (lim : Int) (T chunk : List UInt8) (lg : Bool) (er : Int) (w : World) (e : Ending) (w' : World) : Prop :=
  ∃ mb v, e = .returned (.tuple #[.pointer (some ⟨mb, 0, none⟩), .int .i64 er]) ∧ Below w.heap.size w w' ∧ w.heap.size ≤ mb ∧
      (∀ n : Nat, lim = n → MState w' mb n T lg v) ∧ ∃ b, w.heap.size ≤ b ∧ b ≠ mb ∧ BSl w' mb b v chunk
/-- What a splitter is refused for. -/
def refuse (lim : Int) (T : List UInt8) (lg : Bool) : Int := if Ln.check lim T lg = 0 ∧ lg = true then 9 else Ln.check lim T lg

theorem begun_any (lim : Int) (T chunk : List UInt8) (lg : Bool) (w : World) (hT : T.length ≤ maxLen) (hc : chunk.length ≤ 1000000) :
    Calls Try.prog 32 #[linesV lim T lg, .string (bs chunk)] w fun e w' => BegunPost lim T chunk lg (refuse lim T lg) w e w' := by
  have hq := fun W => check_any lim T lg W hT
  have hcv := fun W => run_bytes_of_string (P := Try.prog) W 9 60 5 (bs chunk) Try.underlying9 Try.underlying60 Try.underlying5
  unfold refuse
  obtain ⟨K, hK⟩ : ∃ K, Ln.check lim T lg = K := ⟨_, rfl⟩
  rw [hK] at hq ⊢
  have HK := Lib.hid hK
  clear hK
  unfold linesV
  unfold linesV at hq
  go_enter Try.func32, Try.ntmps32
  go_wp2_with fail
  refine (hq _).mono ?_
  rintro e w1 ⟨rfl, hb1⟩
  have hbl : Below w.heap.size w w1 := ((Below.refl _ w).alloc (Nat.le_refl _) _).trans (hb1.mono (by simp))
  have hrow : w1.heap[w.heap.size]? = some (.cells [.int .i64 lim, .string (bs T), .bool lg].toArray 25 (0, 0)) := (hb1.block w.heap.size (by simp)).trans (World.alloc_heap_new w _)
  have c0 := cell_list hrow 0
  have c1 := cell_list hrow 1
  have c2 := cell_list hrow 2
  simp only [List.getElem?_cons_zero, List.getElem?_cons_succ] at c0 c1 c2
  have hsw : w.heap.size < w1.heap.size := lt_of_cells hrow
  clear hb1 hq
  have hfin : ∀ (er : Int) (W : World) (C : Nat), er = (if K = 0 ∧ lg = true then 9 else K) → W = (w1.drew.alloc (.cells (bytesRow (bs chunk) C) 5 ((bytesRow (bs chunk) C).size, (bytesRow (bs chunk) C).size + 1))).alloc (.cells #[.int .i64 lim, .string (bs T), .bool lg, .slice (some ⟨w1.heap.size, 0, none⟩) (bs chunk).size C] 62) → chunk.length ≤ C → C ≤ maxLen →
      BegunPost lim T chunk lg (if K = 0 ∧ lg = true then 9 else K) w (.returned (.tuple #[.pointer (some ⟨w1.heap.size + 1, 0, none⟩), .int .i64 er])) W := by
    intro er W C her hW hC1 hC2
    have e1 := World.alloc_heap_new (w1.drew.alloc (.cells (bytesRow (bs chunk) C) 5 ((bytesRow (bs chunk) C).size, (bytesRow (bs chunk) C).size + 1))) (.cells #[.int .i64 lim, .string (bs T), .bool lg, .slice (some ⟨w1.heap.size, 0, none⟩) (bs chunk).size C] 62)
    have e2 := (Below.heap_alloc (w1.drew.alloc (.cells (bytesRow (bs chunk) C) 5 ((bytesRow (bs chunk) C).size, (bytesRow (bs chunk) C).size + 1))) (.cells #[.int .i64 lim, .string (bs T), .bool lg, .slice (some ⟨w1.heap.size, 0, none⟩) (bs chunk).size C] 62) w1.heap.size (by simp)).trans (World.alloc_heap_new w1.drew _)
    simp only [World.size_alloc] at e1
    refine ⟨w1.heap.size + 1, .slice (some ⟨w1.heap.size, 0, none⟩) (bs chunk).size C, by rw [her], ?_, by omega, ?_, w1.heap.size, by omega, by omega, ?_⟩
    · rw [hW]
      exact ((hbl.drew).alloc (by simp; omega) _).alloc (by simp; omega) _
    · intro n hn
      rw [hn] at e1 hW
      rw [hW]
      exact e1
    · refine ⟨0, C, rfl, hC1, hC2, by omega, by rw [hW]; simp; omega, fun i hi => ?_⟩
      rw [← hW] at e2
      rw [Lib.cell_of_heap e2, Nat.zero_add]
      exact bytesRow_at (bs chunk) C i hi
  obtain ⟨C, hC⟩ : ∃ C, grownCap w1 (bs chunk).size 0 5 = C := ⟨_, rfl⟩
  have hC1 : chunk.length ≤ C := by rw [← hC]; exact grownCap_ge w1 _ _ _
  have hC2 : C ≤ maxLen := by rw [← hC]; exact grownCap_le_maxLen w1 _ _ _ (by rw [size_bs]; unfold maxLen; omega)
  have hcw := hcv w1
  rw [hC] at hcw
  clear hcv
  have HF := Lib.hid hfin
  clear hfin
  by_cases hK0 : K = 0
  · subst hK0
    rcases lg with _ | _
    · go_wp2
      go_ret2
      exact HF.out 0 _ C (by simp) rfl hC1 hC2
    · go_wp2
      go_ret2
      exact HF.out 9 _ C (by simp) rfl hC1 hC2
  · have hKb : (K == 0) = false := by simpa using hK0
    go_wp2
    go_ret2
    have h9 := HF.out K _ C (by rw [if_neg (fun h => hK0 h.1)]) rfl hC1 hC2
    rw [if_neg (fun h => hK0 h.1)] at h9
    exact h9
end Go.Proofs.Yteppipkokeaijaa
