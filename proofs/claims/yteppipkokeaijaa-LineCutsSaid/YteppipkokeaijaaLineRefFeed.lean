/- The reference's Feed; Rest, both. -/
import Derived.Test.YteppipkokeaijaaLineRefOne
namespace Go.Proofs.Yteppipkokeaijaa
open Go.RowKit Str Mem
set_option linter.unusedVariables false
set_option linter.unusedSimpArgs false

theorem Rd.pair_at (w : World) (t : TypeId) (x y : Value) (N : Nat) (h : N = w.heap.size) : Rd (w.alloc (.cells #[x, y] t)) 2 (some ⟨N, 0, none⟩) 1 [x, y] := by
  subst h
  refine ⟨rfl, fun _ => ⟨_, rfl, by simp, fun j u hu => ?_⟩⟩
  rw [add_flat, cell_of_row _ w.heap.size _ #[x, y] t (0, 0) (heap_alloc_new w _)]
  rcases j with _ | _ | j
  · simpa using hu
  · simpa using hu
  · simp at hu

/-- Between two rounds of the reference's Feed. -/
structure RFm (w W : World) (lim : Int) (U : List UInt8) (lg : Bool) (v : Value) (L : List (List UInt8 × Bool)) : Prop where
  rl : W.heap[w.heap.size]? = some (.cells [.int .i64 lim, .string (bs U), .bool lg].toArray 25 (0, 0))
  rr : W.heap[w.heap.size + 1]? = some (.cells [.int .i64 0, .string ⟨#[]⟩, .bool false].toArray 25 (0, 0))
  bl : Below w.heap.size w W
  sz : w.heap.size + 2 ≤ W.heap.size
  ow : Owns W (w.heap.size + 2) 36 2 v L.length (lineCells L)

theorem RFm.rows {w W w2 : World} {lim : Int} {U : List UInt8} {lg : Bool} {v : Value} {L : List (List UInt8 × Bool)} (h : RFm w W lim U lg v L) (h2 : Below W.heap.size W w2) (A B : Obj) :
    ((w2.alloc A).alloc B).heap[w.heap.size]? = some (.cells [.int .i64 lim, .string (bs U), .bool lg].toArray 25 (0, 0)) ∧ ((w2.alloc A).alloc B).heap[w.heap.size + 1]? = some (.cells [.int .i64 0, .string ⟨#[]⟩, .bool false].toArray 25 (0, 0)) ∧
    Below w.heap.size w ((w2.alloc A).alloc B) ∧ Owns ((w2.alloc A).alloc B) (w.heap.size + 2) 36 2 v L.length (lineCells L) := by
  have := h.sz
  have := h2.size
  refine ⟨?_, ?_, ?_, (((h.ow.below h2 (Nat.le_refl _)).alloc _).alloc _)⟩
  · exact (Below.heap_alloc _ _ _ (by simp; omega)).trans ((Below.heap_alloc _ _ _ (by omega)).trans ((h2.block _ (by omega)).trans h.rl))
  · exact (Below.heap_alloc _ _ _ (by simp; omega)).trans ((Below.heap_alloc _ _ _ (by omega)).trans ((h2.block _ (by omega)).trans h.rr))
  · exact ((h.bl.trans (h2.mono h.bl.size)).alloc (by omega) _).alloc (by simp; omega) _
/-- What a round leaves. -/
theorem RFm.step {w W w2 w4 : World} {lim : Int} {U : List UInt8} {lg lg' : Bool} {v v' : Value} {L : List (List UInt8 × Bool)} {x : List UInt8 × Bool} {x0 x1 x2 y0 y1 : Value} {C : Obj} (h : RFm w W lim U lg v L) (h2 : Below W.heap.size W w2)
    (hown : Owns w4 (w.heap.size + 2) 36 2 v' (L.length + 1) (lineCells L ++ [.string (bs x.1), .bool x.2]))
    (hg : (((w2.alloc (.cells #[x0, x1, x2] 25)).alloc (.cells #[y0, y1] 36)).alloc C).grownBy w4 v.ownBlock) :
    w4.heap[w2.heap.size]? = some (.cells [x0, x1, x2].toArray 25 (0, 0)) ∧ w4.heap[w.heap.size]? = some (.cells [.int .i64 lim, .string (bs U), .bool lg].toArray 25 (0, 0)) ∧
    RFm w (set3 w4 w.heap.size (.int .i64 lim) (.string (bs [])) (.bool lg')) lim [] lg' v' (L ++ [x]) := by
  have s1 := h.sz
  have s2 := h2.size
  have hs := hg.size
  simp only [World.size_alloc] at hs
  have hk : ∀ k, v.ownBlock = some k → w.heap.size + 2 ≤ k ∧ k < W.heap.size := h.ow.lt
  have hother : ∀ j, j < w.heap.size + 2 ∨ W.heap.size ≤ j → j < w2.heap.size + 3 → w4.heap[j]? = (((w2.alloc (.cells #[x0, x1, x2] 25)).alloc (.cells #[y0, y1] 36)).alloc C).heap[j]? := fun j hj hlt =>
    hg.block j (by simp only [World.size_alloc]; omega) (fun e => by have := hk j e.symm; omega)
  obtain ⟨r1, r2, r3, r4⟩ := h.rows h2 (.cells #[x0, x1, x2] 25) (.cells #[y0, y1] 36)
  have q1 : w4.heap[w.heap.size]? = _ := (hother _ (by omega) (by omega)).trans ((Below.heap_alloc _ C _ (by simp; omega)).trans r1)
  have q2 : w4.heap[w.heap.size + 1]? = _ := (hother _ (by omega) (by omega)).trans ((Below.heap_alloc _ C _ (by simp; omega)).trans r2)
  refine ⟨?_, q1, ?_⟩
  · exact (hother _ (by omega) (by omega)).trans ((Below.heap_alloc _ C _ (by simp; omega)).trans ((Below.heap_alloc _ _ _ (by simp)).trans (World.alloc_heap_new w2 _)))
  · refine ⟨set3_row q1 _ _ _, (set3_other (by omega) _ _ _).trans q2, ?_, ?_, ?_⟩
    · refine set3_below ?_ (Nat.le_refl _) _ _ _
      refine (r3.alloc (by have := r3.size; omega) C).grown hg (by simp; omega) (fun k e => ?_)
      have := hk k e
      omega
    · rw [set3_size]; omega
    · rw [lineCells_append, List.length_append]
      have e : lineCells [x] = [.string (bs x.1), .bool x.2] := by simp [lineCells]
      rw [e]
      exact ownsSetOld (ownsSetOld (ownsSetOld hown (by simp) _) (by simp) _) (by simp) _

def RefFI (w : World) (lim : Nat) (T chunk : List UInt8) (g : Nat) (s1 s7 : Value) (W : World) : Prop :=
  ∃ (U c : List UInt8) (L : List (List UInt8 × Bool)), s1 = .string (bs c) ∧ c.length ≤ g ∧ c.length ≤ chunk.length ∧ L.length + c.length ≤ chunk.length ∧ U.length ≤ lim ∧ U.contains 10 = false ∧ Ln.feed lim T chunk = ((Ln.feed lim U c).1, L ++ (Ln.feed lim U c).2) ∧ RFm w W lim U false s7 L

theorem refuse_nl {lim : Nat} {U : List UInt8} (h1 : 1 ≤ lim) (h2 : lim ≤ 1536) (hU : U.length ≤ lim) (h : U.contains 10 = false) : refuse (lim : Int) U false = 0 := by
  have e : Ln.check (lim : Int) U false = 0 := by
    unfold Ln.check Ln.most
    rw [if_neg (by omega), if_neg (by omega), if_neg (by rw [h]; simp)]
  unfold refuse
  rw [e]; simp

set_option maxRecDepth 20000 in
set_option maxHeartbeats 1000000 in
theorem refFeed_good (lim : Int) (T chunk : List UInt8) (lg : Bool) (w : World) (hT : T.length ≤ maxLen) (hc : chunk.length ≤ 1000000) (hK0 : refuse lim T lg = 0) :
    Calls Try.prog 20 #[linesV lim T lg, .string (bs chunk)] w fun e w' => FeedPost lim T chunk lg w e w' := by
  obtain ⟨i0, hi, hz0, hz1, hz2⟩ := info_parts infoLine
  obtain ⟨nl, rfl, hn1, hn2, hTn, hT10, rfl⟩ := refuse_ok hK0
  have HK0 := Lib.hid hK0
  clear hK0
  obtain ⟨P, hP⟩ : ∃ P, P = FeedPost nl T chunk false w := ⟨_, rfl⟩
  have HP := Lib.hid hP
  rw [← hP]
  clear hP
  unfold linesV
  go_enter Try.func20, Try.ntmps20
  go_wp2_with fail
  obtain ⟨W0, hW0⟩ : ∃ W0, W0 = (w.alloc (.cells #[.int .i64 (nl : Int), .string (bs T), .bool false] 25)).alloc (.cells #[.int .i64 0, .string ⟨#[]⟩, .bool false] 25) := ⟨_, rfl⟩
  have hm : RFm w W0 nl T false (.slice none 0 0) [] := by
    rw [hW0]
    refine ⟨?_, ?_, ((Below.refl _ w).alloc (Nat.le_refl _) _).alloc (by simp) _, by simp, Owns.nil _ _ _ _⟩
    · exact (Below.heap_alloc _ _ _ (by simp)).trans (World.alloc_heap_new w _)
    · have := World.alloc_heap_new (w.alloc (.cells #[.int .i64 (nl : Int), .string (bs T), .bool false] 25)) (.cells #[.int .i64 0, .string ⟨#[]⟩, .bool false] 25)
      rwa [World.size_alloc] at this
  rw [← hW0]
  clear hW0
  go_loopg [1, 7] chunk.length (fun g s1 s7 W => RefFI w nl T chunk g s1 s7 W)
  case atStart => exact ⟨T, chunk, [], rfl, Nat.le_refl _, Nat.le_refl _, by simp, hTn, hT10, by simp, hm⟩
  case round =>
    obtain ⟨U, c, L, rfl, hg, hcc, hLc, hUn, hU10, hfd, hrm⟩ := hrel
    have HM := Lib.hid hrm
    have HU := Lib.hid hU10
    have HF := Lib.hid hfd
    have l0 := cell_list hrm.rl 0
    have l1 := cell_list hrm.rl 1
    have l2 := cell_list hrm.rl 2
    have hf := frozen_list hrm.rl
    simp only [List.getElem?_cons_zero, List.getElem?_cons_succ] at l0 l1 l2
    have hq := fun W => refOne_any (nl : Int) U c false W (by unfold maxLen; omega) (by omega)
    have hov : OneVal (nl : Int) U c false = .tuple #[linesV nl (Ln.one nl U c).next.1 (Ln.one nl U c).next.2, lineV ((Ln.one nl U c).line.getD ([], false)), .string (bs (Ln.one nl U c).rest), .bool (Ln.one nl U c).line.isSome, .int .i64 0] := by
      unfold OneVal
      rw [if_pos (refuse_nl hn1 hn2 hUn hU10)]
      rfl
    rw [hov] at hq
    have hfo := Ln.feed_one (lim := nl) c U
    clear hov hrm hU10 hfd hm
    rcases ho : (Ln.one nl U c).line with _ | x
    · rw [ho] at hq hfo
      unfold linesV lineV at hq
      have HO := Lib.hid hfo
      clear hfo ho
      go_wp2_with fail
      refine (hq _).mono ?_
      rintro e w2 ⟨rfl, h2⟩
      clear hq
      obtain ⟨r1, r2, r3, r4⟩ := HM.out.rows h2 (.cells #[.int .i64 (nl : Int), .string (bs (Ln.one nl U c).next.1), .bool (Ln.one nl U c).next.2] 25) (.cells #[.string (bs ([] : List UInt8)), .bool false] 36)
      have k0 := cell_list r2 0
      have k1 := cell_list r2 1
      have k2 := cell_list r2 2
      have kf := frozen_list r2
      simp only [List.getElem?_cons_zero, List.getElem?_cons_succ] at k0 k1 k2
      simp only [Option.getD_none]
      go_wp2_with fail
      obtain ⟨W, hW⟩ : ∃ W, W = set3 ((w2.alloc (.cells #[.int .i64 (nl : Int), .string (bs (Ln.one nl U c).next.1), .bool (Ln.one nl U c).next.2] 25)).alloc (.cells #[.string (bs ([] : List UInt8)), .bool false] 36)) (w.heap.size + 1) (.int .i64 (nl : Int)) (.string (bs (Ln.one nl U c).next.1)) (.bool (Ln.one nl U c).next.2) := ⟨_, rfl⟩
      have hr2 := set3_row r2 (.int .i64 (nl : Int)) (.string (bs (Ln.one nl U c).next.1)) (.bool (Ln.one nl U c).next.2)
      have hb2 := set3_below r3 (show w.heap.size ≤ w.heap.size + 1 by omega) (.int .i64 (nl : Int)) (.string (bs (Ln.one nl U c).next.1)) (.bool (Ln.one nl U c).next.2)
      have ho2 : Owns (set3 _ (w.heap.size + 1) (.int .i64 (nl : Int)) (.string (bs (Ln.one nl U c).next.1)) (.bool (Ln.one nl U c).next.2)) (w.heap.size + 2) 36 2 u7 L.length (lineCells L) := ownsSetOld (ownsSetOld (ownsSetOld r4 (by simp) _) (by simp) _) (by simp) _
      rw [← hW] at hr2 hb2 ho2
      unfold set3 at hW
      rw [← hW]
      clear hW k0 k1 k2 kf l0 l1 l2 hf
      have z0 := cell_list hr2 0
      have z1 := cell_list hr2 1
      have z2 := cell_list hr2 2
      simp only [List.getElem?_cons_zero, List.getElem?_cons_succ] at z0 z1 z2
      refine bodyPost_ret (v := .tuple #[.agg #[.int .i64 (nl : Int), .string (bs (Ln.one nl U c).next.1), .bool (Ln.one nl U c).next.2], u7, .int .i64 0]) (by simp [results, Try.results20, go_sem, z0, z1, z2]) rfl ?_
      rw [HP.out]
      refine ⟨hb2, ?_⟩
      rw [if_pos HK0.out, Int.toNat_natCast, HF.out, HO.out]
      exact ⟨u7, rfl, (by rw [List.append_nil]; exact ho2.mono (by omega))⟩
    · rw [ho] at hq hfo
      obtain ⟨hsh, hnx⟩ := Ln.one_shorter c U x ho
      obtain ⟨g', rfl⟩ : ∃ g', gk = g' + 1 := ⟨gk - 1, by omega⟩
      rw [hnx] at hq
      unfold linesV lineV at hq
      have HO := Lib.hid hfo
      have HS := Lib.hid hsh
      clear hfo ho hnx hsh
      go_wp2_with fail
      refine (hq _).mono ?_
      rintro e w2 ⟨rfl, h2⟩
      clear hq
      obtain ⟨r1, r2, r3, r4⟩ := HM.out.rows h2 (.cells #[.int .i64 (nl : Int), .string (bs ([] : List UInt8)), .bool false] 25) (.cells #[.string (bs x.1), .bool x.2] 36)
      have hsz2 : w.heap.size + 2 ≤ w2.heap.size := Nat.le_trans HM.out.sz h2.size
      simp only [Option.getD_some]
      go_wp2_with (at_builtin; go_must (refine wpList_append_owns _ rfl _ _ 30 rfl (w.heap.size + 2) 36 i0 (.agg #[.string ⟨#[]⟩, .bool false]) 2 24 Try.underlying30 hi hz0 hz1 hz2 rfl (by decide) _ _ _ rfl (r4.alloc _) _ 1 1 [.string (bs x.1), .bool x.2] rfl (Rd.pair_at _ _ _ _ _ (by simp)) (by simp [Value.oneCell']) (by simp only [maxLen]; omega) (by omega) (by simp; omega) ?_); intro v' w4 hown' hgrow; obtain ⟨q0, q1, q2⟩ := HM.out.step (lg' := false) h2 hown' hgrow; have p0 := cell_list q0 0; have p1 := cell_list q0 1; have p2 := cell_list q0 2; have o0 := cell_list q1 0; have o1 := cell_list q1 1; have o2 := cell_list q1 2; have of := frozen_list q1; have Q2 := Lib.hid q2; clear q2 hown' hgrow; simp only [List.getElem?_cons_zero, List.getElem?_cons_succ] at p0 p1 p2 o0 o1 o2)
      go_roundg g'
      case measure => omega
      case rel =>
        refine ⟨[], (Ln.one nl U c).rest, L ++ [x], rfl, ?_, ?_, ?_, by simp, rfl, ?_, Q2.out⟩
        · have := HS.out; omega
        · have := HS.out; omega
        · have := HS.out; simp only [List.length_append, List.length_cons, List.length_nil]; omega
        · rw [HF.out, HO.out]; simp

set_option maxRecDepth 20000 in
set_option maxHeartbeats 1000000 in
theorem refFeed_bad (lim : Int) (T chunk : List UInt8) (lg : Bool) (w : World) (hT : T.length ≤ maxLen) (hc : chunk.length ≤ 1000000) (hK0 : refuse lim T lg ≠ 0) :
    Calls Try.prog 20 #[linesV lim T lg, .string (bs chunk)] w fun e w' => FeedPost lim T chunk lg w e w' := by
  have hq := fun W => refOne_any lim T chunk lg W hT hc
  have hov : OneVal lim T chunk lg = .tuple #[linesV 0 [] false, lineV ([], false), .string ⟨#[]⟩, .bool false, .int .i64 (refuse lim T lg)] := by unfold OneVal; rw [if_neg hK0]
  rw [hov] at hq
  clear hov
  have HK0 := Lib.hid hK0
  obtain ⟨K, hK⟩ : ∃ K, refuse lim T lg = K := ⟨_, rfl⟩
  rw [hK] at hq hK0
  have hKb : (K != 0) = true := by simpa using hK0
  have HK := Lib.hid hK
  clear hK hK0
  obtain ⟨P, hP⟩ : ∃ P, P = FeedPost lim T chunk lg w := ⟨_, rfl⟩
  have HP := Lib.hid hP
  rw [← hP]
  clear hP
  unfold linesV
  unfold linesV lineV at hq
  go_enter Try.func20, Try.ntmps20
  go_wp2_with fail
  obtain ⟨W0, hW0⟩ : ∃ W0, W0 = (w.alloc (.cells #[.int .i64 lim, .string (bs T), .bool lg] 25)).alloc (.cells #[.int .i64 0, .string ⟨#[]⟩, .bool false] 25) := ⟨_, rfl⟩
  have hm : RFm w W0 lim T lg (.slice none 0 0) [] := by
    rw [hW0]
    refine ⟨?_, ?_, ((Below.refl _ w).alloc (Nat.le_refl _) _).alloc (by simp) _, by simp, Owns.nil _ _ _ _⟩
    · exact (Below.heap_alloc _ _ _ (by simp)).trans (World.alloc_heap_new w _)
    · have := World.alloc_heap_new (w.alloc (.cells #[.int .i64 lim, .string (bs T), .bool lg] 25)) (.cells #[.int .i64 0, .string ⟨#[]⟩, .bool false] 25)
      rwa [World.size_alloc] at this
  rw [← hW0]
  clear hW0
  have HM := Lib.hid hm
  clear hm
  go_loopg [1, 7] 0 (fun g s1 s7 W => s1 = .string (bs chunk) ∧ W = W0)
  case atStart => exact ⟨rfl, rfl⟩
  case round =>
    obtain ⟨rfl, rfl⟩ := hrel
    have hrm := HM.out
    have l0 := cell_list hrm.rl 0
    have l1 := cell_list hrm.rl 1
    have l2 := cell_list hrm.rl 2
    simp only [List.getElem?_cons_zero, List.getElem?_cons_succ] at l0 l1 l2
    clear hrm
    go_wp2_with fail
    refine (hq _).mono ?_
    rintro e w2 ⟨rfl, h2⟩
    clear hq
    obtain ⟨r1, r2, r3, r4⟩ := HM.out.rows h2 (.cells #[.int .i64 0, .string (bs ([] : List UInt8)), .bool false] 25) (.cells #[.string (bs ([] : List UInt8)), .bool false] 36)
    have k0 := cell_list r2 0
    have k1 := cell_list r2 1
    have k2 := cell_list r2 2
    have kf := frozen_list r2
    simp only [List.getElem?_cons_zero, List.getElem?_cons_succ] at k0 k1 k2
    go_wp2_with fail
    obtain ⟨W, hW⟩ : ∃ W, W = set3 ((w2.alloc (.cells #[.int .i64 0, .string (bs ([] : List UInt8)), .bool false] 25)).alloc (.cells #[.string (bs ([] : List UInt8)), .bool false] 36)) (w.heap.size + 1) (.int .i64 0) (.string ⟨#[]⟩) (.bool false) := ⟨_, rfl⟩
    have hr2 := set3_row r2 (.int .i64 0) (.string ⟨#[]⟩) (.bool false)
    have hb2 := set3_below r3 (show w.heap.size ≤ w.heap.size + 1 by omega) (.int .i64 0) (.string ⟨#[]⟩) (.bool false)
    rw [← hW] at hr2 hb2
    unfold set3 at hW
    rw [← hW]
    clear hW k0 k1 k2 kf l0 l1 l2
    have z0 := cell_list hr2 0
    have z1 := cell_list hr2 1
    have z2 := cell_list hr2 2
    simp only [List.getElem?_cons_zero, List.getElem?_cons_succ] at z0 z1 z2
    refine bodyPost_ret (v := .tuple #[.agg #[.int .i64 0, .string ⟨#[]⟩, .bool false], .slice none 0 0, .int .i64 K]) (by simp [results, Try.results20, go_sem, z0, z1, z2]) rfl ?_
    rw [HP.out]
    refine ⟨hb2, ?_⟩
    rw [if_neg HK0.out, HK.out]
    rfl
theorem refFeed_any (lim : Int) (T chunk : List UInt8) (lg : Bool) (w : World) (hT : T.length ≤ maxLen) (hc : chunk.length ≤ 1000000) :
    Calls Try.prog 20 #[linesV lim T lg, .string (bs chunk)] w fun e w' => FeedPost lim T chunk lg w e w' := by
  by_cases h : refuse lim T lg = 0
  · exact refFeed_good lim T chunk lg w hT hc h
  · exact refFeed_bad lim T chunk lg w hT hc h

def restR (lim : Int) (T : List UInt8) (lg : Bool) : List UInt8 := if Ln.check lim T lg = 0 then T else []
theorem rest_any (lim : Int) (T : List UInt8) (lg : Bool) (w : World) (hT : T.length ≤ maxLen) :
    Calls Try.prog 22 #[linesV lim T lg] w fun e w' => e = .returned (.tuple #[.string (bs (restR lim T lg)), .int .i64 (Ln.check lim T lg)]) ∧ Below w.heap.size w w' := by
  have hck := fun W => check_any lim T lg W hT
  unfold restR
  unfold linesV
  unfold linesV at hck
  obtain ⟨K, hK⟩ : ∃ K, Ln.check lim T lg = K := ⟨_, rfl⟩
  rw [hK] at hck ⊢
  clear hK
  go_enter Try.func22, Try.ntmps22
  go_wp2_with fail
  refine (hck _).mono ?_
  rintro e w1 ⟨rfl, hb1⟩
  have hbl : Below w.heap.size w w1 := ((Below.refl _ w).alloc (Nat.le_refl _) _).trans (hb1.mono (by simp))
  have hrl : w1.heap[w.heap.size]? = some (.cells [.int .i64 lim, .string (bs T), .bool lg].toArray 25 (0, 0)) := by
    have := World.alloc_heap_new w (.cells #[.int .i64 lim, .string (bs T), .bool lg] 25)
    exact (hb1.block _ (by simp)).trans this
  have l1 := cell_list hrl 1
  simp only [List.getElem?_cons_zero, List.getElem?_cons_succ] at l1
  clear hb1 hck
  by_cases hK0 : K = 0
  · subst hK0
    go_wp2_with fail
    go_ret2
    exact ⟨rfl, hbl⟩
  · have hKb : (K != 0) = true := by simpa using hK0
    go_wp2_with fail
    go_ret2
    first | exact ⟨rfl, hbl⟩ | exact ⟨by rw [if_neg hK0]; rfl, hbl⟩
theorem refRest_any (lim : Int) (T : List UInt8) (lg : Bool) (w : World) (hT : T.length ≤ maxLen) :
    Calls Try.prog 23 #[linesV lim T lg] w fun e w' => e = .returned (.tuple #[.string (bs (restR lim T lg)), .int .i64 (Ln.check lim T lg)]) ∧ Below w.heap.size w w' := by
  have hck := fun W => refCheck_any lim T lg W hT
  unfold restR
  unfold linesV
  unfold linesV at hck
  obtain ⟨K, hK⟩ : ∃ K, Ln.check lim T lg = K := ⟨_, rfl⟩
  rw [hK] at hck ⊢
  clear hK
  go_enter Try.func23, Try.ntmps23
  go_wp2_with fail
  refine (hck _).mono ?_
  rintro e w1 ⟨rfl, hb1⟩
  have hbl : Below w.heap.size w w1 := ((Below.refl _ w).alloc (Nat.le_refl _) _).trans (hb1.mono (by simp))
  have hrl : w1.heap[w.heap.size]? = some (.cells [.int .i64 lim, .string (bs T), .bool lg].toArray 25 (0, 0)) := by
    have := World.alloc_heap_new w (.cells #[.int .i64 lim, .string (bs T), .bool lg] 25)
    exact (hb1.block _ (by simp)).trans this
  have l1 := cell_list hrl 1
  simp only [List.getElem?_cons_zero, List.getElem?_cons_succ] at l1
  clear hb1 hck
  by_cases hK0 : K = 0
  · subst hK0
    go_wp2_with fail
    go_ret2
    exact ⟨rfl, hbl⟩
  · have hKb : (K != 0) = true := by simpa using hK0
    go_wp2_with fail
    go_ret2
    first | exact ⟨rfl, hbl⟩ | exact ⟨by rw [if_neg hK0]; rfl, hbl⟩
end Go.Proofs.Yteppipkokeaijaa
