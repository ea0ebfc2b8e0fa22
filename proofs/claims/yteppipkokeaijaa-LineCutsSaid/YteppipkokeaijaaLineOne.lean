/- line.One: one line of a chunk, and the splitter that is left. -/
import Derived.Test.YteppipkokeaijaaLineFeed
import Derived.Lib.BufferRead
namespace Go.Proofs.Yteppipkokeaijaa
open Go.RowKit Str Mem
set_option linter.unusedVariables false
set_option linter.unusedSimpArgs false

def set2 (W : World) (g : Nat) (x0 x1 : Value) : World := (W.setCell ⟨g, 0, none⟩ x0).setCell ⟨g, 1, none⟩ x1
theorem set2_row {W : World} {g Ty : Nat} {o0 o1 : Value} (h : W.heap[g]? = some (.cells [o0, o1].toArray Ty (0, 0))) (x0 x1 : Value) : (set2 W g x0 x1).heap[g]? = some (.cells [x0, x1].toArray Ty (0, 0)) :=
  set_list (set_list h 0 x0) 1 x1
theorem set2_below {W a : World} {B g : Nat} (h : Below B a W) (hg : B ≤ g) (x0 x1 : Value) : Below B a (set2 W g x0 x1) := (h.setCell (p := ⟨g, 0, none⟩) hg x0).setCell (p := ⟨g, 1, none⟩) hg x1
theorem set2_other {W : World} {g k : Nat} (h : k ≠ g) (x0 x1 : Value) : (set2 W g x0 x1).heap[k]? = W.heap[k]? :=
  (Below.heap_setCell _ ⟨g, 1, none⟩ _ k h).trans (Below.heap_setCell _ ⟨g, 0, none⟩ _ k h)

theorem drewHeap (X : World) : X.drew.heap = X.heap := rfl
theorem s23_other {W : World} {g k : Nat} (h1 : k ≠ g) (h2 : k ≠ g + 1) (a b c d e : Value) : (set2 (set3 W g a b c) (g + 1) d e).drew.heap[k]? = W.heap[k]? := by
  rw [drewHeap, set2_other h2, set3_other h1]
theorem s23_size (W : World) (g : Nat) (a b c d e : Value) : (set2 (set3 W g a b c) (g + 1) d e).drew.heap.size = W.heap.size := by
  rw [drewHeap]
  unfold set2; simp only [World.setCell, Array.size_modify]; rw [set3_size]
theorem s3_other {W : World} {g k : Nat} (h1 : k ≠ g) (a b c : Value) : (set3 W g a b c).drew.heap[k]? = W.heap[k]? := by rw [drewHeap, set3_other h1]
theorem s3_size (W : World) (g : Nat) (a b c : Value) : (set3 W g a b c).drew.heap.size = W.heap.size := by rw [drewHeap, set3_size]
theorem convNil (W : World) (p : Option Addr) (c : Nat) : (convert 60 9 (.slice p 0 c)).run Try.prog W = .ok (.string ⟨#[]⟩) W := by
  rw [run_convert_bytes_string W _ _ _ p 0 c Try.underlying60 Try.underlying5 Try.underlying9]
  cases p <;> simp [Conv.bytesToString, loadCells]
  all_goals rfl
theorem one_none_rest {lim : Nat} : ∀ (c T : List UInt8), (Ln.one lim T c).line = none → (Ln.one lim T c).rest = []
  | [], T, _ => rfl
  | b :: r, T, h => by
    unfold Ln.one at h ⊢
    split
    · rename_i hb; rw [if_pos hb] at h; cases h
    · rename_i hb
      rw [if_neg hb] at h
      split
      · rfl
      · rename_i hl; rw [if_neg hl] at h; exact one_none_rest r _ h
/-- What One returns. -/
def OneVal (lim : Int) (T chunk : List UInt8) (lg : Bool) : Value :=
  if refuse lim T lg = 0 then .tuple #[linesV lim (Ln.one lim.toNat T chunk).next.1 (Ln.one lim.toNat T chunk).next.2, lineV ((Ln.one lim.toNat T chunk).line.getD ([], false)), .string (bs (Ln.one lim.toNat T chunk).rest), .bool (Ln.one lim.toNat T chunk).line.isSome, .int .i64 0]
  else .tuple #[linesV 0 [] false, lineV ([], false), .string ⟨#[]⟩, .bool false, .int .i64 (refuse lim T lg)]

set_option maxRecDepth 20000 in
set_option maxHeartbeats 1000000 in
theorem one_any (lim : Int) (T chunk : List UInt8) (lg : Bool) (w : World) (hT : T.length ≤ maxLen) (hc : chunk.length ≤ 1000000) :
    Calls Try.prog 15 #[linesV lim T lg, .string (bs chunk)] w fun e w' => e = .returned (OneVal lim T chunk lg) ∧ Below w.heap.size w w' := by
  have hbg := fun W => begun_any lim T chunk lg W hT hc
  have hcz := fun (W : World) (p : Option Addr) (c : Nat) => convNil W p c
  obtain ⟨V, hV⟩ : ∃ V, OneVal lim T chunk lg = V := ⟨_, rfl⟩
  rw [hV]
  have HV := Lib.hid hV
  clear hV
  unfold linesV
  unfold linesV at hbg
  obtain ⟨K, hK⟩ : ∃ K, refuse lim T lg = K := ⟨_, rfl⟩
  rw [hK] at hbg
  have HK := Lib.hid hK
  clear hK
  go_enter Try.func15, Try.ntmps15
  go_wp2_with fail
  refine (hbg _).mono ?_
  rintro e w1 ⟨mb, v, rfl, hb1, hmb, hM, b, hb, hbm, hS⟩
  have hbl : Below w.heap.size w w1 := ((((Below.refl _ w).alloc (Nat.le_refl _) _).alloc (by simp) _).alloc (by simp; omega) _).trans (hb1.mono (by simp; omega))
  have hrow : w1.heap[w.heap.size + 1]? = some (.cells [.int .i64 0, .string ⟨#[]⟩, .bool false].toArray 25 (0, 0)) := by
    have := World.alloc_heap_new (w.alloc (.cells #[.int .i64 lim, .string (bs T), .bool lg] 25)) (.cells #[.int .i64 0, .string ⟨#[]⟩, .bool false] 25)
    rw [World.size_alloc] at this
    exact (hb1.block _ (by simp)).trans ((Below.heap_alloc _ _ _ (by simp)).trans this)
  have hrx : w1.heap[w.heap.size + 1 + 1]? = some (.cells [.string ⟨#[]⟩, .bool false].toArray 36 (0, 0)) := by
    have := World.alloc_heap_new ((w.alloc (.cells #[.int .i64 lim, .string (bs T), .bool lg] 25)).alloc (.cells #[.int .i64 0, .string ⟨#[]⟩, .bool false] 25)) (.cells #[.string ⟨#[]⟩, .bool false] 36)
    rw [World.size_alloc, World.size_alloc] at this
    exact (hb1.block _ (by simp)).trans this
  simp only [World.size_alloc] at hmb hb
  clear hb1 hbg
  have hfin : ∀ (W : World) (a0 a1 a2 x0 x1 y0 y1 y2 z0 z1 : Value) (st : Value) (ok : Bool) (er : Int), W.heap[w.heap.size + 1]? = some (.cells [a0, a1, a2].toArray 25 (0, 0)) → W.heap[w.heap.size + 1 + 1]? = some (.cells [x0, x1].toArray 36 (0, 0)) → Below w.heap.size w W →
      ∃ W', W' = set2 (set3 W (w.heap.size + 1) y0 y1 y2) (w.heap.size + 1 + 1) z0 z1 ∧ W'.cell? ⟨w.heap.size + 1, 0, none⟩ = some y0 ∧ W'.cell? ⟨w.heap.size + 1, 1, none⟩ = some y1 ∧ W'.cell? ⟨w.heap.size + 1, 2, none⟩ = some y2 ∧ W'.cell? ⟨w.heap.size + 1 + 1, 0, none⟩ = some z0 ∧ W'.cell? ⟨w.heap.size + 1 + 1, 1, none⟩ = some z1 ∧ Below w.heap.size w W' := by
    intro W a0 a1 a2 x0 x1 y0 y1 y2 z0 z1 st ok er h1 h2 h3
    have r1 := set3_row h1 y0 y1 y2
    have r2 := (set2_other (W := set3 W (w.heap.size + 1) y0 y1 y2) (g := w.heap.size + 1 + 1) (k := w.heap.size + 1) (by omega) z0 z1).trans r1
    have r3 := set2_row ((set3_other (W := W) (g := w.heap.size + 1) (k := w.heap.size + 1 + 1) (by omega) y0 y1 y2).trans h2) z0 z1
    refine ⟨_, rfl, ?_, ?_, ?_, ?_, ?_, set2_below (set3_below h3 (by omega) _ _ _) (by omega) _ _⟩
    · rw [cell_list r2]; rfl
    · rw [cell_list r2]; rfl
    · rw [cell_list r2]; rfl
    · rw [cell_list r3]; rfl
    · rw [cell_list r3]; rfl
  by_cases hK0 : K = 0
  · subst hK0
    obtain ⟨nl, rfl, hn1, hn2, hTn, hT10, rfl⟩ := refuse_ok HK.out
    have hM := hM nl rfl
    have hnx := next_b hM hS hc hTn hn2
    have hmN := hM.lt
    go_wp2_with fail
    refine hnx.mono ?_
    rintro e w2 (⟨x, v2, ho, rfl, hm2, hs2, hg2⟩ | ⟨a, c, ho, rfl, hm2, hg2⟩)
    · have hrow2 := (hg2.block _ (lt_of_cells hrow) (by simp; omega)).trans hrow
      have hrx2 := (hg2.block _ (lt_of_cells hrx) (by simp; omega)).trans hrx
      unfold lineV
      go_wp2_with fail
      have hg3 := World.grownBy_alloc w2 (.cells #[.string (bs x.1), .bool x.2] 36) none
      have hx3 := World.alloc_heap_new w2 (.cells #[.string (bs x.1), .bool x.2] 36)
      have hrow3 := (hg3.block _ (lt_of_cells hrow2) (by simp)).trans hrow2
      have hrx3 := (hg3.block _ (lt_of_cells hrx2) (by simp)).trans hrx2
      have hm3 := hm2.kept hg3 (by simp)
      have hbl3 : Below w.heap.size w (w2.alloc (.cells #[.string (bs x.1), .bool x.2] 36)) := (hbl.grown hg2 hbl.size (fun r e => by cases e; omega)).alloc (by have := hbl.size; have := hg2.size; omega) _
      have hxne : w2.heap.size ≠ w.heap.size + 1 ∧ w2.heap.size ≠ w.heap.size + 1 + 1 := by have := lt_of_cells hrx2; omega
      have hcv : ∀ W' : World, (w2.alloc (.cells #[.string (bs x.1), .bool x.2] 36)).heap.size ≤ W'.heap.size → W'.heap[b]? = (w2.alloc (.cells #[.string (bs x.1), .bool x.2] 36)).heap[b]? → (convert 60 9 v2).run Try.prog W' = .ok (.string (bs (Ln.one nl T chunk).rest)) W' := fun W' h1 h2 => by
        obtain ⟨o, c, rfl, _, _, _, _, h6⟩ := (hs2.kept hg3 (.inl rfl)).keep h1 h2
        exact convBytes _ o c _ _ h6
      obtain ⟨W3, hW3⟩ : ∃ W3, W3 = w2.alloc (.cells #[.string (bs x.1), .bool x.2] 36) := ⟨_, rfl⟩
      rw [← hW3] at hrow3 hrx3 hm3 hbl3 hx3 hcv ⊢
      have c0 := cell_list hrow3 0
      have c1 := cell_list hrow3 1
      have c2 := cell_list hrow3 2
      have f0 := frozen_list hrow3
      have d0 := cell_list hrx3 0
      have d1 := cell_list hrx3 1
      have g0 := frozen_list hrx3
      have e0 := cell_list hx3 0
      have e1 := cell_list hx3 1
      have q0 := hm3.cell0
      have q1 := hm3.cell1
      have q2 := hm3.cell2
      have q3 := hm3.cell3
      simp only [List.getElem?_cons_zero, List.getElem?_cons_succ] at c0 c1 c2 d0 d1 e0 e1
      have hcv0 := hcv W3.drew (Nat.le_refl _) rfl
      have hcv1 := hcv (set3 W3 (w.heap.size + 1) (.int .i64 (nl : Int)) (.string (bs [])) (.bool false)).drew (by rw [s3_size]; exact Nat.le_refl _) (s3_other (by omega) _ _ _)
      have hcv2 := hcv (set2 (set3 W3 (w.heap.size + 1) (.int .i64 (nl : Int)) (.string (bs [])) (.bool false)) (w.heap.size + 1 + 1) (.string (bs x.1)) (.bool x.2)).drew (by rw [s23_size]; exact Nat.le_refl _) (s23_other (by omega) (by omega) _ _ _ _ _)
      unfold set2 set3 at hcv2
      unfold set3 at hcv1
      have n1 : ¬ mb = w.heap.size + 1 := by omega
      have n2 : ¬ mb = w.heap.size + 1 + 1 := by omega
      have n3 : ¬ w2.heap.size = w.heap.size + 1 := hxne.1
      have n4 : ¬ w2.heap.size = w.heap.size + 1 + 1 := hxne.2
      clear hW3 hg3 hm3
      have HF := Lib.hid hfin
      clear hfin hcz hcv
      go_wp2_with fail
      go_region
      go_wp2_with fail
      obtain ⟨Wf, hWf, z0, z1, z2, y0, y1, hbf⟩ := HF.out W3 _ _ _ _ _ (.int .i64 (nl : Int)) (.string (bs [])) (.bool false) (.string (bs x.1)) (.bool x.2) (.bool false) false 0 hrow3 hrx3 hbl3
      have hbg : Below w.heap.size w Wf.drew := hbf.drew
      have z0 : Wf.drew.cell? ⟨w.heap.size + 1, 0, none⟩ = _ := z0
      have z1 : Wf.drew.cell? ⟨w.heap.size + 1, 1, none⟩ = _ := z1
      have z2 : Wf.drew.cell? ⟨w.heap.size + 1, 2, none⟩ = _ := z2
      have y0 : Wf.drew.cell? ⟨w.heap.size + 1 + 1, 0, none⟩ = _ := y0
      have y1 : Wf.drew.cell? ⟨w.heap.size + 1 + 1, 1, none⟩ = _ := y1
      unfold set2 set3 at hWf
      rw [← hWf]
      clear hWf c0 c1 c2 d0 d1 f0 g0 e0 e1 q0 q1 q2 q3 hcv0 hcv1 hcv2
      obtain ⟨Wg, hWg⟩ : ∃ Wg, Wg = Wf.drew := ⟨_, rfl⟩
      rw [← hWg] at z0 z1 z2 y0 y1 hbg ⊢
      refine bodyPost_ret (v := .tuple #[.agg #[.int .i64 (nl : Int), .string (bs []), .bool false], .agg #[.string (bs x.1), .bool x.2], .string (bs (Ln.one nl T chunk).rest), .bool true, .int .i64 0]) (by simp [results, Try.results15, go_sem, z0, z1, z2, y0, y1]) rfl ⟨?_, hbg⟩
      rw [← HV.out]
      unfold OneVal
      rw [if_pos HK.out, Int.toNat_natCast, ho]
      rw [(Ln.one_shorter chunk T x ho).2]
      rfl
    · have hrow2 := (hg2.block _ (lt_of_cells hrow) (by simp; omega)).trans hrow
      have hrx2 := (hg2.block _ (lt_of_cells hrx) (by simp; omega)).trans hrx
      unfold lineV
      go_wp2_with fail
      have hg3 := World.grownBy_alloc w2 (.cells #[.string (bs ([] : List UInt8)), .bool false] 36) none
      have hx3 := World.alloc_heap_new w2 (.cells #[.string (bs ([] : List UInt8)), .bool false] 36)
      have hrow3 := (hg3.block _ (lt_of_cells hrow2) (by simp)).trans hrow2
      have hrx3 := (hg3.block _ (lt_of_cells hrx2) (by simp)).trans hrx2
      have hm3 := hm2.kept hg3 (by simp)
      have hbl3 : Below w.heap.size w (w2.alloc (.cells #[.string (bs ([] : List UInt8)), .bool false] 36)) := (hbl.grown hg2 hbl.size (fun r e => by cases e; omega)).alloc (by have := hbl.size; have := hg2.size; omega) _
      have hxne : w2.heap.size ≠ w.heap.size + 1 ∧ w2.heap.size ≠ w.heap.size + 1 + 1 := by have := lt_of_cells hrx2; omega
      have hcv : ∀ W' : World, (w2.alloc (.cells #[.string (bs ([] : List UInt8)), .bool false] 36)).heap.size ≤ W'.heap.size → W'.heap[b]? = (w2.alloc (.cells #[.string (bs ([] : List UInt8)), .bool false] 36)).heap[b]? → (convert 60 9 (.slice a 0 c)).run Try.prog W' = .ok (.string ⟨#[]⟩) W' := fun W' h1 h2 => hcz W' a c
      obtain ⟨W3, hW3⟩ : ∃ W3, W3 = w2.alloc (.cells #[.string (bs ([] : List UInt8)), .bool false] 36) := ⟨_, rfl⟩
      rw [← hW3] at hrow3 hrx3 hm3 hbl3 hx3 hcv ⊢
      have c0 := cell_list hrow3 0
      have c1 := cell_list hrow3 1
      have c2 := cell_list hrow3 2
      have f0 := frozen_list hrow3
      have d0 := cell_list hrx3 0
      have d1 := cell_list hrx3 1
      have g0 := frozen_list hrx3
      have e0 := cell_list hx3 0
      have e1 := cell_list hx3 1
      have q0 := hm3.cell0
      have q1 := hm3.cell1
      have q2 := hm3.cell2
      have q3 := hm3.cell3
      simp only [List.getElem?_cons_zero, List.getElem?_cons_succ] at c0 c1 c2 d0 d1 e0 e1
      have hcv0 := hcv W3.drew (Nat.le_refl _) rfl
      have hcv1 := hcv (set3 W3 (w.heap.size + 1) (.int .i64 (nl : Int)) (.string (bs (Ln.one nl T chunk).next.1)) (.bool (Ln.one nl T chunk).next.2)).drew (by rw [s3_size]; exact Nat.le_refl _) (s3_other (by omega) _ _ _)
      have hcv2 := hcv (set2 (set3 W3 (w.heap.size + 1) (.int .i64 (nl : Int)) (.string (bs (Ln.one nl T chunk).next.1)) (.bool (Ln.one nl T chunk).next.2)) (w.heap.size + 1 + 1) (.string (bs ([] : List UInt8))) (.bool false)).drew (by rw [s23_size]; exact Nat.le_refl _) (s23_other (by omega) (by omega) _ _ _ _ _)
      unfold set2 set3 at hcv2
      unfold set3 at hcv1
      have n1 : ¬ mb = w.heap.size + 1 := by omega
      have n2 : ¬ mb = w.heap.size + 1 + 1 := by omega
      have n3 : ¬ w2.heap.size = w.heap.size + 1 := hxne.1
      have n4 : ¬ w2.heap.size = w.heap.size + 1 + 1 := hxne.2
      clear hW3 hg3 hm3
      have HF := Lib.hid hfin
      clear hfin hcz hcv
      go_wp2_with fail
      go_region
      go_wp2_with fail
      obtain ⟨Wf, hWf, z0, z1, z2, y0, y1, hbf⟩ := HF.out W3 _ _ _ _ _ (.int .i64 (nl : Int)) (.string (bs (Ln.one nl T chunk).next.1)) (.bool (Ln.one nl T chunk).next.2) (.string (bs ([] : List UInt8))) (.bool false) (.bool false) false 0 hrow3 hrx3 hbl3
      have hbg : Below w.heap.size w Wf.drew := hbf.drew
      have z0 : Wf.drew.cell? ⟨w.heap.size + 1, 0, none⟩ = _ := z0
      have z1 : Wf.drew.cell? ⟨w.heap.size + 1, 1, none⟩ = _ := z1
      have z2 : Wf.drew.cell? ⟨w.heap.size + 1, 2, none⟩ = _ := z2
      have y0 : Wf.drew.cell? ⟨w.heap.size + 1 + 1, 0, none⟩ = _ := y0
      have y1 : Wf.drew.cell? ⟨w.heap.size + 1 + 1, 1, none⟩ = _ := y1
      unfold set2 set3 at hWf
      rw [← hWf]
      clear hWf c0 c1 c2 d0 d1 f0 g0 e0 e1 q0 q1 q2 q3 hcv0 hcv1 hcv2
      obtain ⟨Wg, hWg⟩ : ∃ Wg, Wg = Wf.drew := ⟨_, rfl⟩
      rw [← hWg] at z0 z1 z2 y0 y1 hbg ⊢
      refine bodyPost_ret (v := .tuple #[.agg #[.int .i64 (nl : Int), .string (bs (Ln.one nl T chunk).next.1), .bool (Ln.one nl T chunk).next.2], .agg #[.string (bs ([] : List UInt8)), .bool false], .string ⟨#[]⟩, .bool false, .int .i64 0]) (by simp [results, Try.results15, go_sem, z0, z1, z2, y0, y1]) rfl ⟨?_, hbg⟩
      rw [← HV.out]
      unfold OneVal
      rw [if_pos HK.out, Int.toNat_natCast, ho]
      rw [one_none_rest chunk T ho]
      rfl
  · have hKb : (K != 0) = true := by simpa using hK0
    have c0 := cell_list hrow 0
    have c1 := cell_list hrow 1
    have c2 := cell_list hrow 2
    have f0 := frozen_list hrow
    have d0 := cell_list hrx 0
    have d1 := cell_list hrx 1
    have g0 := frozen_list hrx
    simp only [List.getElem?_cons_zero, List.getElem?_cons_succ] at c0 c1 c2 d0 d1
    have HF := Lib.hid hfin
    clear hfin
    go_wp2_with fail
    obtain ⟨Wf, hWf, z0, z1, z2, y0, y1, hbf⟩ := HF.out w1 _ _ _ _ _ (.int .i64 0) (.string ⟨#[]⟩) (.bool false) (.string ⟨#[]⟩) (.bool false) (.bool false) false 0 hrow hrx hbl
    unfold set2 set3 at hWf
    rw [← hWf]
    clear hWf c0 c1 c2 d0 d1 f0 g0
    refine bodyPost_ret (v := .tuple #[.agg #[.int .i64 0, .string ⟨#[]⟩, .bool false], .agg #[.string ⟨#[]⟩, .bool false], .string ⟨#[]⟩, .bool false, .int .i64 K]) (by simp [results, Try.results15, go_sem, z0, z1, z2, y0, y1]) rfl ⟨?_, hbf⟩
    rw [← HV.out]
    unfold OneVal
    rw [HK.out, if_neg hK0]
    rfl
end Go.Proofs.Yteppipkokeaijaa
