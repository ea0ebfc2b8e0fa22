/- line.Feed: the lines of a chunk, and the splitter that is left. -/
import Derived.Test.YteppipkokeaijaaLineNew
import Derived.Test.YteppipkokeaijaaLineLaws
import Derived.Test.YteppipkokeaijaaOwnsMore
import Derived.Maps.AppendAt
import Derived.Deep.DeepMust
namespace Go.Proofs.Yteppipkokeaijaa
open Go.RowKit Str Go.Shelf Mem
attribute [local go_sem] Oper.semAt_some Seq.wide_fn Seq.wide_round_fn Seq.wide_depth Seq.wide_round_depth
set_option linter.unusedVariables false
set_option linter.unusedSimpArgs false

def lineCells (L : List (List UInt8 × Bool)) : List Value := L.flatMap fun x => [.string (bs x.1), .bool x.2]
theorem lineCells_length (L : List (List UInt8 × Bool)) : (lineCells L).length = L.length * 2 := by
  induction L with
  | nil => rfl
  | cons x L ih => simp only [lineCells, List.flatMap_cons, List.length_append, List.length_cons, List.length_nil] at ih ⊢; omega
theorem lineCells_append (L M : List (List UInt8 × Bool)) : lineCells (L ++ M) = lineCells L ++ lineCells M := by simp [lineCells]
theorem lineCells_one (L : List (List UInt8 × Bool)) : ∀ u ∈ lineCells L, u.oneCell' = true := by
  intro u hu
  obtain ⟨x, _, h⟩ := List.mem_flatMap.1 hu
  simp at h
  rcases h with rfl | rfl <;> rfl
theorem infoLine : (Try.prog.info? 36).map (fun i => (i.zero, i.size, i.bytes)) = some (some (.agg #[.string ⟨#[]⟩, .bool false]), 2, 24) := by kernel_rfl

/-- A slice of lines that the call made. -/
def OwnLines (w : World) (base : Nat) (v : Value) (L : List (List UInt8 × Bool)) : Prop := Owns w base 36 2 v L.length (lineCells L)

theorem ownsSetOld {w : World} {base sz n : Nat} {e : TypeId} {v : Value} {xs : List Value} (h : Owns w base e sz v n xs) {p : Addr} (hp : p.block < base) (x : Value) : Owns (w.setCell p x) base e sz v n xs := by
  refine ⟨h.1, ?_⟩
  rcases h.2 with hn | ⟨g, cap, cur, rfl, hb, hg, rest⟩
  · exact .inl hn
  · exact .inr ⟨g, cap, cur, rfl, hb, (Below.heap_setCell w p x g (by omega)).trans hg, rest⟩
/-- What the append leaves. -/
theorem line_append {W w1 : World} {b base : Nat} {v v' : Value} {k m : Nat} {xs ys : List Value} {tmp : Obj} (hv : Boxed W b 30 v) (hrow : W.ownsRow base 36 2 v k xs) (hbb : b < base) (hsz : base ≤ W.heap.size)
    (hown' : w1.ownsRow base 36 2 v' m ys) (hgrow : (W.alloc tmp).grownBy w1 v.ownBlock) :
    Boxed w1 b 30 v ∧ Boxed (w1.setCell ⟨b, 0, none⟩ v') b 30 v' ∧ (w1.setCell ⟨b, 0, none⟩ v').ownsRow base 36 2 v' m ys ∧ KeepsOthers W (w1.setCell ⟨b, 0, none⟩ v') ∧ (W.grownBy w1 v.ownBlock) := by
  have hg : W.grownBy w1 v.ownBlock := by
    have h1 := World.grownBy_alloc W tmp v.ownBlock
    exact ⟨hgrow.os.trans h1.os, hgrow.tape.trans h1.tape, hgrow.output.trans h1.output, Nat.le_trans h1.size hgrow.size, fun j hj hne => (hgrow.block j (Nat.lt_of_lt_of_le hj h1.size) hne).trans (h1.block j hj hne)⟩
  have hne : some b ≠ v.ownBlock := by
    intro e
    have := (hrow.lt b e.symm).1
    omega
  have hv1 := hv.kept hg hne
  have hne' : v'.ownBlock = none ∨ v'.ownBlock ≠ some b := by
    rcases hx : v'.ownBlock with _ | j
    · exact .inl rfl
    · refine .inr fun e => ?_
      cases e
      have := (hown'.lt b hx).1
      omega
  refine ⟨hv1, hv1.set v', hown'.kept (grownBy_setCell' w1 b v') hne', ?_, hg⟩
  refine (KeepsOthers.of_grownBy hg fun j o ej hj => ?_).trans (KeepsOthers.setCell _ _ _)
  rcases hrow.2 with ⟨rfl, _⟩ | ⟨g, cap, cur, rfl, _, hgb, _⟩
  · simp [Value.ownBlock] at ej
  · obtain rfl : g = j := by simpa [Value.ownBlock] using ej
    rw [hgb] at hj; cases hj; rfl

/-- Between two rounds: the lines so far; the rest of the memory. -/
def FeedI (w : World) (N : Nat) (L : List (List UInt8 × Bool)) (k : Nat) (W : World) : Prop :=
  (∃ v, Boxed W N 30 v ∧ W.ownsRow (N + 2) 36 2 v (L.take k).length (lineCells (L.take k))) ∧ Below w.heap.size w W ∧ N + 2 ≤ W.heap.size ∧
    W.heap[w.heap.size + 1]? = some (.cells [.int .i64 0, .string ⟨#[]⟩, .bool false].toArray 25 (0, 0))

theorem feedI_stable {w : World} {N mb : Nat} {L : List (List UInt8 × Bool)} {B k : Nat} (hw : w.heap.size ≤ N) (hB : N + 2 ≤ B) (hm1 : w.heap.size + 2 ≤ mb) (hm2 : mb < N) : Seq.Stable (· = mb) B (FeedI w N L k) := by
  rintro X Y row ⟨⟨v, hv, hr⟩, h2, h3, h4⟩ hg hrow
  refine ⟨⟨v, Seq.stable_boxed (own := (· = mb)) (B := B) (by omega) (by omega) X Y row hv hg hrow, hr.kept hg ?_⟩, Seq.stable_below (own := (· = mb)) (B := B) (by intro r e; omega) (by omega) X Y row h2 hg hrow, Nat.le_trans h3 hg.size, (hg.block _ (by omega) ?_).trans h4⟩
  · rcases hr.2 with ⟨rfl, _⟩ | ⟨g, cap, cur, rfl, hbg, hgb, _⟩
    · exact .inl rfl
    · refine .inr fun e' => ?_
      rcases hrow g (by simpa [Value.ownBlock] using e'.symm) with h | ⟨_, o, ho', hc⟩
      · omega
      · rw [hgb] at ho'; cases ho'; cases hc
  · intro e
    rcases hrow _ e.symm with h | ⟨h, _⟩ <;> omega

def set3 (W : World) (g : Nat) (x0 x1 x2 : Value) : World := ((W.setCell ⟨g, 0, none⟩ x0).setCell ⟨g, 1, none⟩ x1).setCell ⟨g, 2, none⟩ x2
theorem set3_row {W : World} {g Ty : Nat} {o0 o1 o2 : Value} (h : W.heap[g]? = some (.cells [o0, o1, o2].toArray Ty (0, 0))) (x0 x1 x2 : Value) : (set3 W g x0 x1 x2).heap[g]? = some (.cells [x0, x1, x2].toArray Ty (0, 0)) :=
  set_list (set_list (set_list h 0 x0) 1 x1) 2 x2
theorem set3_below {W a : World} {B g : Nat} (h : Below B a W) (hg : B ≤ g) (x0 x1 x2 : Value) : Below B a (set3 W g x0 x1 x2) := ((h.setCell (p := ⟨g, 0, none⟩) hg x0).setCell (p := ⟨g, 1, none⟩) hg x1).setCell (p := ⟨g, 2, none⟩) hg x2
theorem set3_other {W : World} {g k : Nat} (h : k ≠ g) (x0 x1 x2 : Value) : (set3 W g x0 x1 x2).heap[k]? = W.heap[k]? :=
  (Below.heap_setCell _ ⟨g, 2, none⟩ _ k h).trans ((Below.heap_setCell _ ⟨g, 1, none⟩ _ k h).trans (Below.heap_setCell _ ⟨g, 0, none⟩ _ k h))
theorem set3_size (W : World) (g : Nat) (x0 x1 x2 : Value) : (set3 W g x0 x1 x2).heap.size = W.heap.size := by simp [set3, World.setCell]

theorem refuse_ok {lim : Int} {T : List UInt8} {lg : Bool} (h : refuse lim T lg = 0) : ∃ n : Nat, lim = n ∧ 1 ≤ n ∧ n ≤ 1536 ∧ T.length ≤ n ∧ T.contains 10 = false ∧ lg = false := by
  unfold refuse at h
  split at h
  · cases h
  · rename_i h9
    unfold Ln.check Ln.most at h
    split at h
    · cases h
    · split at h
      · cases h
      · split at h
        · cases h
        · rename_i h1 h2 h3
          refine ⟨lim.toNat, by omega, by omega, by omega, by omega, ?_, ?_⟩
          · rcases hc : T.contains 10 with _ | _
            · rfl
            · exact absurd (.inl hc) h3
          · rcases lg with _ | _
            · rfl
            · exfalso
              apply h9
              refine ⟨?_, rfl⟩
              unfold Ln.check Ln.most
              rw [if_neg h1, if_neg h2, if_neg h3]

/-- What Feed returns. -/
def FeedPost (lim : Int) (T chunk : List UInt8) (lg : Bool) (w : World) (e : Ending) (w' : World) : Prop :=
  Below w.heap.size w w' ∧ if refuse lim T lg = 0 then ∃ v, e = .returned (.tuple #[linesV lim (Ln.feed lim.toNat T chunk).1.1 (Ln.feed lim.toNat T chunk).1.2, v, .int .i64 0]) ∧ OwnLines w' w.heap.size v (Ln.feed lim.toNat T chunk).2
    else e = .returned (.tuple #[linesV 0 [] false, .slice none 0 0, .int .i64 (refuse lim T lg)])

set_option maxRecDepth 20000 in
set_option maxHeartbeats 1000000 in
theorem feed_bad (lim : Int) (T chunk : List UInt8) (lg : Bool) (w : World) (hT : T.length ≤ maxLen) (hc : chunk.length ≤ 1000000) (hK0 : refuse lim T lg ≠ 0) :
    Calls Try.prog 12 #[linesV lim T lg, .string (bs chunk)] w fun e w' => FeedPost lim T chunk lg w e w' := by
  have hbg := fun W => begun_any lim T chunk lg W hT hc
  have HK0 := Lib.hid hK0
  obtain ⟨K, hK⟩ : ∃ K, refuse lim T lg = K := ⟨_, rfl⟩
  rw [hK] at hbg hK0
  have hKb : (K != 0) = true := by simpa using hK0
  have HK := Lib.hid hK
  clear hK hK0
  obtain ⟨P, hP⟩ : ∃ P, P = FeedPost lim T chunk lg w := ⟨_, rfl⟩
  have HP := Lib.hid hP
  rw [← hP]
  clear hP
  unfold linesV
  unfold linesV at hbg
  go_enter Try.func12, Try.ntmps12
  go_wp2_with fail
  refine (hbg _).mono ?_
  rintro e w1 ⟨mb, v, rfl, hb1, hmb, hM, b, hb, hbm, hS⟩
  have hbl : Below w.heap.size w w1 := (((Below.refl _ w).alloc (Nat.le_refl _) _).alloc (by simp) _).trans (hb1.mono (by simp; omega))
  have hrow : w1.heap[w.heap.size + 1]? = some (.cells [.int .i64 0, .string ⟨#[]⟩, .bool false].toArray 25 (0, 0)) := by
    have := World.alloc_heap_new (w.alloc (.cells #[.int .i64 lim, .string (bs T), .bool lg] 25)) (.cells #[.int .i64 0, .string ⟨#[]⟩, .bool false] 25)
    rw [World.size_alloc] at this
    exact (hb1.block _ (by simp)).trans this
  simp only [World.size_alloc] at hmb hb
  clear hb1 hbg
  have hw1 : w.heap.size + 2 ≤ w1.heap.size := by
    obtain ⟨_, _, _, _, _, _, h5, _⟩ := hS
    omega
  have c0 := cell_list hrow 0
  have c1 := cell_list hrow 1
  have c2 := cell_list hrow 2
  have f0 := frozen_list hrow
  simp only [List.getElem?_cons_zero, List.getElem?_cons_succ] at c0 c1 c2
  go_wp2_with fail
  obtain ⟨W, hW⟩ : ∃ W, W = set3 w1 (w.heap.size + 1) (.int .i64 0) (.string ⟨#[]⟩) (.bool false) := ⟨_, rfl⟩
  have hr2 := set3_row hrow (.int .i64 0) (.string ⟨#[]⟩) (.bool false)
  have hb2 := set3_below hbl (show w.heap.size ≤ w.heap.size + 1 by omega) (.int .i64 0) (.string ⟨#[]⟩) (.bool false)
  rw [← hW] at hr2 hb2
  unfold set3 at hW
  rw [← hW]
  clear hW c0 c1 c2 f0 hrow
  have z0 := cell_list hr2 0
  have z1 := cell_list hr2 1
  have z2 := cell_list hr2 2
  simp only [List.getElem?_cons_zero, List.getElem?_cons_succ] at z0 z1 z2
  refine bodyPost_ret (v := .tuple #[.agg #[.int .i64 0, .string ⟨#[]⟩, .bool false], .slice none 0 0, .int .i64 K]) (by simp [results, Try.results12, go_sem, z0, z1, z2]) rfl ?_
  rw [HP.out]
  refine ⟨hb2, ?_⟩
  rw [if_neg HK0.out, HK.out]
  rfl

set_option maxRecDepth 20000 in
set_option maxHeartbeats 1000000 in
theorem feed_good (lim : Int) (T chunk : List UInt8) (lg : Bool) (w : World) (hT : T.length ≤ maxLen) (hc : chunk.length ≤ 1000000) (hK0 : refuse lim T lg = 0) :
    Calls Try.prog 12 #[linesV lim T lg, .string (bs chunk)] w fun e w' => FeedPost lim T chunk lg w e w' := by
  obtain ⟨i0, hi, hz0, hz1, hz2⟩ := info_parts infoLine
  have hbg := fun W => begun_any lim T chunk lg W hT hc
  have HK0 := Lib.hid hK0
  rw [hK0] at hbg
  clear hK0
  obtain ⟨P, hP⟩ : ∃ P, P = FeedPost lim T chunk lg w := ⟨_, rfl⟩
  have HP := Lib.hid hP
  rw [← hP]
  clear hP
  unfold linesV
  unfold linesV at hbg
  refine (callsIn_wide (n := 5)).1 ?_
  refine callsIn_of_wp_marks Try.func12 rfl trivial ?_ rfl
  simp only [Try.ntmps12, List.size_toArray, List.length_cons, List.length_nil, Nat.reduceAdd, Nat.reduceSub, Array.replicate_succ, Array.replicate_zero, List.push_toArray, List.append_toArray, List.nil_append, List.cons_append]
  gi_wp2_with fail
  refine (callsIn_wide.2 (hbg _)).mono ?_
  rintro e w1 ⟨mb, v, rfl, hb1, hmb, hM, b, hb, hbm, hS⟩
  have hbl : Below w.heap.size w w1 := (((Below.refl _ w).alloc (Nat.le_refl _) _).alloc (by simp) _).trans (hb1.mono (by simp; omega))
  have hrow : w1.heap[w.heap.size + 1]? = some (.cells [.int .i64 0, .string ⟨#[]⟩, .bool false].toArray 25 (0, 0)) := by
    have := World.alloc_heap_new (w.alloc (.cells #[.int .i64 lim, .string (bs T), .bool lg] 25)) (.cells #[.int .i64 0, .string ⟨#[]⟩, .bool false] 25)
    rw [World.size_alloc] at this
    exact (hb1.block _ (by simp)).trans this
  simp only [World.size_alloc] at hmb hb
  clear hb1 hbg
  have hw1 : w.heap.size + 2 ≤ w1.heap.size := by
    obtain ⟨_, _, _, _, _, _, h5, _⟩ := hS
    omega
  obtain ⟨nl, rfl, hn1, hn2, hTn, hT10, rfl⟩ := refuse_ok HK0.out
  have hM := hM nl rfl
  gi_wp2_with fail
  refine (callsIn_wide.2 (lines_any mb _)).mono ?_
  rintro e w2 ⟨rfl, hw2⟩
  rw [World.size_alloc]
  obtain ⟨N, hN⟩ : ∃ N, N = w1.heap.size := ⟨_, rfl⟩
  have hwm : mb < w1.heap.size := hM.lt
  have hwb : b < w1.heap.size := by obtain ⟨_, _, _, _, _, _, h5, _⟩ := hS; exact h5
  have bO := (Boxed.new w1 30 (.slice none 0 0)).alloc (.cells #[.pointer (some ⟨mb, 0, none⟩)] 54)
  have bX := Boxed.new (w1.alloc (.cells #[.slice none 0 0] 30)) 54 (.pointer (some ⟨mb, 0, none⟩))
  rw [World.size_alloc] at bX
  have hg1 : w1.grownBy ((w1.alloc (.cells #[.slice none 0 0] 30)).alloc (.cells #[.pointer (some ⟨mb, 0, none⟩)] 54)) none := by
    have h := ((Below.refl _ w1).alloc (Nat.le_refl _) (.cells #[.slice none 0 0] 30)).alloc (by simp) (.cells #[.pointer (some ⟨mb, 0, none⟩)] 54)
    exact ⟨h.os, h.tape, h.output, h.size, fun k hk _ => h.block k hk⟩
  have hM2 := hM.kept hg1 (by simp)
  have hS2 := hS.kept hg1 (.inl rfl)
  have hrow2 := (hg1.block _ (by omega) (by simp)).trans hrow
  have hbl2 : Below w.heap.size w ((w1.alloc (.cells #[.slice none 0 0] 30)).alloc (.cells #[.pointer (some ⟨mb, 0, none⟩)] 54)) := (hbl.alloc (by omega) _).alloc (by simp; omega) _
  rw [hw2] at bO bX hM2 hS2 hrow2 hbl2
  have hs2 : w2.heap.size = w1.heap.size + 2 := by rw [← hw2]; simp
  clear hg1 hw2
  have hNw : w.heap.size + 2 ≤ N := by rw [hN]; exact hw1
  rw [← hN] at hwm hwb bO bX hs2 ⊢
  clear hN hw1 hbl hrow hS hM 
  obtain ⟨L, hL⟩ : ∃ L, L = (Ln.feed nl T chunk).2 := ⟨_, rfl⟩
  have hseq := lines_seq 4 mb b (N + 1) nl N T chunk v w2 hn2 hTn hc (by omega) (by omega) (by omega) (by omega) hbm bX hM2 hS2
  rw [← hL] at hseq
  have hLn : L.length ≤ 1000000 := by rw [hL]; exact Nat.le_trans (Ln.feed_count chunk T) hc
  have HL := Lib.hid hL
  clear hL
  gi_wp2_with fail
  refine Seq.wpIn_seqF (gf := 42) (lb := #[.pointer (some ⟨N + 1, 0, none⟩)]) rfl (enters_of Try.func42 (by kernel_rfl) rfl)
    hseq (fun W l o hl hf => by obtain ⟨a, c, hf⟩ := hf; exact ⟨a, c, hf.kept (grownBy_putObj' W l o) (by simp; omega)⟩) (fun a b c => KeepOld.trans a b c) (KeepOld.putObj (Nat.le_refl _)) (fun W W' hW hg => KeepOld.grown W W' hW hg) (fun r e => by subst e; omega) (Below.refl _ _) (fun _ => rfl)
    (FeedI w N L) (fun _ _ _ => False) ?sI ?sX ⟨⟨_, bO, World.ownsRow_nil _ _ _ _⟩, hbl2, by omega, hrow2⟩ ?round ?done ?stop
  case sI => exact fun k => feedI_stable (by omega) (by omega) (by omega) (by omega)
  case sX => exact fun c k => Seq.stable_pure _
  case round =>
    rintro l k W hk _ hl hlW
    obtain ⟨x, hx⟩ : ∃ x, L.getD k ([], false) = x := ⟨_, rfl⟩
    have HX := Lib.hid (show L.take (k + 1) = L.take k ++ [x] from by
      rw [List.take_add_one, List.getElem?_eq_getElem hk]
      rw [← hx, List.getD_eq_getElem?_getD, List.getElem?_eq_getElem hk]
      rfl)
    unfold lineArgs lineV
    rw [hx]
    clear hx
    gi_wp2_with fail
    refine ⟨World.grownBy_alloc _ _ _, ?_⟩
    rintro W2 ⟨⟨v2, hv2, hrowo⟩, hbl3, hsz3, hres⟩ hg2
    have hxr : W2.heap[W.heap.size]? = some (.cells [.string (bs x.1), .bool x.2].toArray 36 (0, 0)) := (hg2.block _ (by simp) (by simp; omega)).trans (World.alloc_heap_new W _)
    have hxlt : W.heap.size < W2.heap.size := lt_of_cells hxr
    have x0 := cell_list hxr 0
    have x1 := cell_list hxr 1
    simp only [List.getElem?_cons_zero, List.getElem?_cons_succ] at x0 x1
    have hc9 := hv2.cell
    have hf9 := hv2.frozen
    have hkl : (L.take k).length = k := by rw [List.length_take]; omega
    gi_wp2_with (gi_at_builtin; go_must (refine wpListIn_append_own _ rfl _ _ 30 rfl (N + 2) 36 i0 (.agg #[.string ⟨#[]⟩, .bool false]) 2 24 Try.underlying30 hi hz0 hz1 hz2 rfl (by decide) _ _ _ rfl (hrowo.alloc _) ⟨W2.heap.size, 0, none⟩ 1 1 [.string (bs x.1), .bool x.2] rfl rfl (cell_two_new _ _ _ _) (by simp [Value.oneCell']) (by simp only [maxLen]; omega) (by omega) (by simp; omega) ?_); intro v' w3 hown' hgrow _; obtain ⟨g', cap', rfl⟩ := ownsRow_succ hown'; have hv1 := (line_append hv2 hrowo (by omega) hsz3 hown' hgrow).1; have hc1 := hv1.cell; have hf1 := hv1.frozen)
    obtain ⟨_, h2, h3, h4, h5⟩ := line_append hv2 hrowo (by omega) hsz3 hown' hgrow
    have e : ∀ j, v2.ownBlock = some j → N + 2 ≤ j := fun j hj => (hrowo.lt j hj).1
    simp only [hkl] at h2 h3 h4
    have hsz5 := h5.size
    refine ⟨h4.from _, ⟨by simp [World.setCell]; exact hsz5, fun i hi hio => ?_⟩, ⟨⟨_, h2, ?_⟩, (hbl3.grown h5 hbl3.size (fun j hj => by have := e j hj; omega)).setCell (p := ⟨N, 0, none⟩) (by show w.heap.size ≤ N; omega) _, by simp [World.setCell]; omega, ?_⟩⟩
    · refine (Below.heap_setCell w3 ⟨N, 0, none⟩ _ _ (by simpa using hio)).trans (h5.block _ (by omega) ?_)
      intro e'
      have := e _ e'.symm
      omega
    · rw [HX.out, List.length_append, lineCells_append, hkl]
      exact h3
    · refine (Below.heap_setCell w3 ⟨N, 0, none⟩ _ _ (by simp; omega)).trans ((h5.block _ (by omega) ?_).trans hres)
      intro e'
      have := e _ e'.symm
      omega
  case done =>
    rintro D W hD ⟨⟨v3, hv3, hrow3⟩, hbl3, hsz3, hres⟩ ⟨a, c, hMf⟩ hKd
    have hc9 := hv3.cell
    have q0 := hMf.cell0
    have q1 := hMf.cell1
    have q2 := hMf.cell2
    have r0 := cell_list hres 0
    have r1 := cell_list hres 1
    have r2 := cell_list hres 2
    have fr := frozen_list hres
    simp only [List.getElem?_cons_zero, List.getElem?_cons_succ] at r0 r1 r2
    gi_wp2_with fail
    gi_region
    gi_wp2_with fail
    obtain ⟨S1, hS1⟩ : ∃ S1, S1 = (Ln.feed nl T chunk).1 := ⟨_, rfl⟩
    rw [← hS1]
    have HS1 := Lib.hid hS1
    clear hS1
    obtain ⟨Wf, hWf⟩ : ∃ Wf, Wf = (set3 W (w.heap.size + 1) (.int .i64 (nl : Int)) (.string (bs S1.1)) (.bool S1.2)).drew := ⟨_, rfl⟩
    have hDn : D ≠ w.heap.size + 1 := by omega
    have hKf : Wf.heap[D]? = some (.deferred (some [])) := by rw [hWf]; exact (set3_other hDn _ _ _).trans hKd
    have hrf : Wf.heap[w.heap.size + 1]? = some (.cells [.int .i64 (nl : Int), .string (bs S1.1), .bool S1.2].toArray 25 (0, 0)) := by rw [hWf]; exact set3_row hres (.int .i64 (nl : Int)) (.string (bs S1.1)) (.bool S1.2)
    have hbf : Below w.heap.size w Wf := by rw [hWf]; exact (set3_below hbl3 (by omega) _ _ _).drew
    have hof : OwnLines Wf w.heap.size v3 L := by
      have h0 : Owns W (N + 2) 36 2 v3 L.length (lineCells L) := by
        have := Owns.of_own hrow3
        rw [List.take_length] at this
        exact this
      rw [hWf]
      unfold set3
      have q : ∀ (V : World) (j : Nat) (u : Value), Mem.Owns V (N + 2) 36 2 v3 L.length (lineCells L) → Mem.Owns (V.setCell ⟨w.heap.size + 1, j, none⟩ u) (N + 2) 36 2 v3 L.length (lineCells L) := fun V j u h => ownsSetOld h (by show w.heap.size + 1 < N + 2; omega) u
      exact Mem.Owns.mono (q _ _ _ (q _ _ _ (q _ _ _ h0))) (by omega)
    unfold set3 at hWf
    rw [← hWf]
    clear hWf q0 q1 q2 r0 r1 r2 fr hc9
    have hg := grownBy_putObj' Wf D (.deferred none)
    refine ⟨by simp, .inl ⟨_, _, rfl, run_takeDeferred hKf, ?_⟩⟩
    have hr4 := (hg.block (w.heap.size + 1) (lt_of_cells hrf) (by simp; omega)).trans hrf
    have z0 := cell_list hr4 0
    have z1 := cell_list hr4 1
    have z2 := cell_list hr4 2
    simp only [List.getElem?_cons_zero, List.getElem?_cons_succ] at z0 z1 z2
    refine ⟨.tuple #[.agg #[.int .i64 (nl : Int), .string (bs S1.1), .bool S1.2], v3, .int .i64 0], by simp [results, Try.results12, go_sem, z0, z1, z2], ?_⟩
    rw [HP.out]
    refine ⟨hbf.grown hg hbf.size (fun r e => by cases e; omega), ?_⟩
    rw [if_pos HK0.out, Int.toNat_natCast, ← HS1.out, ← HL.out]
    exact ⟨v3, rfl, owns_putObj hof _ hKf rfl⟩
  case stop =>
    rintro D c k W hD hk h
    exact h.elim

theorem feed_any (lim : Int) (T chunk : List UInt8) (lg : Bool) (w : World) (hT : T.length ≤ maxLen) (hc : chunk.length ≤ 1000000) :
    Calls Try.prog 12 #[linesV lim T lg, .string (bs chunk)] w fun e w' => FeedPost lim T chunk lg w e w' := by
  by_cases h : refuse lim T lg = 0
  · exact feed_good lim T chunk lg w hT hc h
  · exact feed_bad lim T chunk lg w hT hc h
end Go.Proofs.Yteppipkokeaijaa
