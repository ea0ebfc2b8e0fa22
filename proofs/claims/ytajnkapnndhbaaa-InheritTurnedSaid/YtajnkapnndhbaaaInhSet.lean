/- The rule set of a directory: the program's. -/
import Derived.Test.YtajnkapnndhbaaaInhChain
import Derived.Test.YtajnkapnndhbaaaOwnsMore
import Derived.Test.YtajnkapnndhbaaaReg
namespace Go.Proofs.Ytajnkapnndhbaaa
open Go.RowKit Str Go.Shelf Mem
attribute [local go_sem] Oper.semAt_some Seq.wide_fn Seq.wide_round_fn Seq.wide_depth Seq.wide_round_depth
set_option linter.unusedVariables false
set_option linter.unusedSimpArgs false

/-- What the two boxes hold: the directories before, those behind. -/
structure Both (w : World) (a : Option Addr) (c : Nat) (L : List DirV) (b z : List Nat) (W : World) : Prop where
  tree : Boxed W w.heap.size 62 (.slice a L.length c)
  lists : ∃ v5 v6, Boxed W (w.heap.size + 1) 44 v5 ∧ Boxed W (w.heap.size + 2) 44 v6 ∧ Owns W (w.heap.size + 5) 3 1 v5 b.length ((nums b).map iv) ∧ Owns W (w.heap.size + 5) 3 1 v6 z.length ((nums z).map iv) ∧ (∀ j, v5.ownBlock = some j → v6.ownBlock ≠ some j)
  below : Below w.heap.size w W
  size : w.heap.size + 5 ≤ W.heap.size

theorem both_stable {w : World} {a : Option Addr} {c : Nat} {L : List DirV} {b z : List Nat} {B : Nat} (hB : w.heap.size + 4 < B) : Seq.Stable (· = w.heap.size + 4) B (Both w a c L b z) := by
  rintro X Y row ⟨h1, ⟨v5, v6, h2, h3, h4, h5, h6⟩, h7, h8⟩ hg hr
  exact ⟨Seq.stable_boxed (own := (· = w.heap.size + 4)) (B := B) (by omega) (by omega) X Y row h1 hg hr,
    ⟨v5, v6, Seq.stable_boxed (own := (· = w.heap.size + 4)) (B := B) (by omega) (by omega) X Y row h2 hg hr, Seq.stable_boxed (own := (· = w.heap.size + 4)) (B := B) (by omega) (by omega) X Y row h3 hg hr,
      owns_stable (own := (· = w.heap.size + 4)) (B := B) (by intro r e; omega) X Y row h4 hg hr, owns_stable (own := (· = w.heap.size + 4)) (B := B) (by intro r e; omega) X Y row h5 hg hr, h6⟩,
    Seq.stable_below (own := (· = w.heap.size + 4)) (B := B) (by intro r e; omega) (by omega) X Y row h7 hg hr, Nat.le_trans h8 hg.size⟩

theorem grown_over {W w1 : World} {tmp : Obj} {row : Option Nat} (h : (W.alloc tmp).grownBy w1 row) (hr : ∀ r, row = some r → W.heap.size ≤ r) : W.grownBy w1 none := by
  have h1 := World.grownBy_alloc W tmp none
  exact ⟨h.os.trans h1.os, h.tape.trans h1.tape, h.output.trans h1.output, Nat.le_trans h1.size h.size, fun j hj _ => (h.block j (Nat.lt_of_lt_of_le hj h1.size) (fun e => by have := hr j e.symm; omega)).trans (h1.block j hj (by simp))⟩
theorem grown_over' {W w1 : World} {tmp : Obj} {row : Option Nat} (h : (W.alloc tmp).grownBy w1 row) : W.grownBy w1 row := by
  have h1 := World.grownBy_alloc W tmp row
  exact ⟨h.os.trans h1.os, h.tape.trans h1.tape, h.output.trans h1.output, Nat.le_trans h1.size h.size, fun j hj hne => (h.block j (Nat.lt_of_lt_of_le hj h1.size) hne).trans (h1.block j hj hne)⟩

/-- What the body leaves that writes one of the two boxes. -/
def Left (w : World) (a : Option Addr) (c : Nat) (L : List DirV) (b z : List Nat) (W W' : World) : Prop :=
  KeepsFrom (w.heap.size + 5) W W' ∧ (∀ j, j < w.heap.size + 5 → j ≠ w.heap.size + 1 → j ≠ w.heap.size + 2 → W'.heap[j]? = W.heap[j]?) ∧ W.heap.size ≤ W'.heap.size ∧ Both w a c L b z W'

theorem both_behind {w W w3 : World} {a : Option Addr} {c : Nat} {L : List DirV} {b z : List Nat} {x : Nat} {v5 v6 v6' : Value} {tmp : Obj} {row : Option Nat}
    (ht : Boxed W w.heap.size 62 (.slice a L.length c)) (h5 : Boxed W (w.heap.size + 1) 44 v5) (h6 : Boxed W (w.heap.size + 2) 44 v6) (o5 : Owns W (w.heap.size + 5) 3 1 v5 b.length ((nums b).map iv))
    (hbl : Below w.heap.size w W) (hsz : w.heap.size + 5 ≤ W.heap.size) (o6 : Owns w3 W.heap.size 3 1 v6' (1 + z.length) ([.int .i64 x] ++ (nums z).map iv)) (hg0 : (W.alloc tmp).grownBy w3 row) (hr : ∀ r, row = some r → W.heap.size ≤ r) :
    Boxed w3 (w.heap.size + 2) 44 v6 ∧ Left w a c L b (x :: z) W (w3.setCell ⟨w.heap.size + 2, 0, none⟩ v6') := by
  have hg := grown_over hg0 hr
  have k6 := h6.kept hg (by simp)
  have k5 := h5.kept hg (by simp)
  have kt := ht.kept hg (by simp)
  have l5 := k5.lt
  have ko5 := o5.kept hg (fun k _ => by simp)
  have hs := hg.size
  refine ⟨k6, ?_, ?_, ?_, ?_, ⟨v5, v6', ?_, ?_, ?_, ?_, ?_⟩, ?_, ?_⟩
  · exact ((KeepsOthers.of_grownBy hg fun j o ej hj => by cases ej).trans (KeepsOthers.setCell _ _ _)).from _
  · intro j hj h1 h2
    exact (Below.heap_setCell w3 ⟨w.heap.size + 2, 0, none⟩ v6' j h2).trans (hg.block j (by omega) (by simp))
  · simp [World.setCell]; omega
  · exact Eq.trans (Below.heap_setCell w3 ⟨w.heap.size + 2, 0, none⟩ v6' _ (by show w.heap.size ≠ w.heap.size + 2; omega)) kt
  · exact Eq.trans (Below.heap_setCell w3 ⟨w.heap.size + 2, 0, none⟩ v6' _ (by show w.heap.size + 1 ≠ w.heap.size + 2; omega)) k5
  · exact k6.set v6'
  · refine ko5.kept (grownBy_setCell' w3 (w.heap.size + 2) v6') fun k hk e => ?_
    cases e
    have := (ko5.lt _ hk).1
    omega
  · have o6' := o6.mono (base' := w.heap.size + 5) hsz
    have := o6'.kept (grownBy_setCell' w3 (w.heap.size + 2) v6') (fun k hk e => by cases e; have := (o6'.lt _ hk).1; omega)
    rw [Nat.add_comm 1 z.length] at this
    exact this
  · intro j hj e
    have h1 := (o5.lt j hj).2
    have h2 := (o6.lt j e).1
    omega
  · exact ((hbl.grown hg hbl.size (fun r e => by cases e)).setCell (p := ⟨w.heap.size + 2, 0, none⟩) (by show w.heap.size ≤ w.heap.size + 2; omega) _)
  · simp [World.setCell]; omega

theorem nums_snoc (b : List Nat) (x : Nat) : nums (b ++ [x]) = nums b ++ [(x : Int)] := by unfold nums; simp

theorem both_before {w W w3 : World} {a : Option Addr} {c : Nat} {L : List DirV} {b z : List Nat} {x : Nat} {v5 v6 v5' : Value} {tmp : Obj}
    (ht : Boxed W w.heap.size 62 (.slice a L.length c)) (h5 : Boxed W (w.heap.size + 1) 44 v5) (h6 : Boxed W (w.heap.size + 2) 44 v6) (o5 : Owns W (w.heap.size + 5) 3 1 v5 b.length ((nums b).map iv)) (o6 : Owns W (w.heap.size + 5) 3 1 v6 z.length ((nums z).map iv)) (hd : ∀ j, v5.ownBlock = some j → v6.ownBlock ≠ some j)
    (hbl : Below w.heap.size w W) (hsz : w.heap.size + 5 ≤ W.heap.size) (o5' : Owns w3 (w.heap.size + 5) 3 1 v5' (b.length + 1) ((nums b).map iv ++ [.int .i64 x])) (hg0 : (W.alloc tmp).grownBy w3 v5.ownBlock) (hl : ∀ j, v5'.ownBlock = some j → v5.ownBlock = some j ∨ (W.alloc tmp).heap.size ≤ j) :
    Boxed w3 (w.heap.size + 1) 44 v5 ∧ Left w a c L (b ++ [x]) z W (w3.setCell ⟨w.heap.size + 1, 0, none⟩ v5') := by
  have hg := grown_over' hg0
  have e5 : ∀ j, v5.ownBlock = some j → w.heap.size + 5 ≤ j := fun j hj => (o5.lt j hj).1
  have k5 := h5.kept hg (fun e => by have := e5 _ e.symm; omega)
  have k6 := h6.kept hg (fun e => by have := e5 _ e.symm; omega)
  have kt := ht.kept hg (fun e => by have := e5 _ e.symm; omega)
  have ko6 := o6.kept hg (fun k hk e => hd k e hk)
  have hs := hg.size
  refine ⟨k5, ?_, ?_, ?_, ?_, ⟨v5', v6, ?_, ?_, ?_, ?_, ?_⟩, ?_, ?_⟩
  · refine ((KeepsOthers.of_grownBy hg fun j o ej hj => ?_).trans (KeepsOthers.setCell _ _ _)).from _
    rcases o5.2 with ⟨rfl, _⟩ | ⟨g, cap, cur, rfl, _, hgb, _⟩
    · simp [Value.ownBlock] at ej
    · obtain rfl : g = j := by simpa [Value.ownBlock] using ej
      rw [hgb] at hj; cases hj; rfl
  · intro j hj h1 h2
    exact (Below.heap_setCell w3 ⟨w.heap.size + 1, 0, none⟩ v5' j h1).trans (hg.block j (by omega) (fun e => by have := e5 _ e.symm; omega))
  · simp [World.setCell]; omega
  · exact Eq.trans (Below.heap_setCell w3 ⟨w.heap.size + 1, 0, none⟩ v5' _ (by show w.heap.size ≠ w.heap.size + 1; omega)) kt
  · exact k5.set v5'
  · exact Eq.trans (Below.heap_setCell w3 ⟨w.heap.size + 1, 0, none⟩ v5' _ (by show w.heap.size + 2 ≠ w.heap.size + 1; omega)) k6
  · have := o5'.kept (grownBy_setCell' w3 (w.heap.size + 1) v5') (fun k hk e => by cases e; have := (o5'.lt _ hk).1; omega)
    rw [nums_snoc, List.map_append, List.length_append]
    exact this
  · refine ko6.kept (grownBy_setCell' w3 (w.heap.size + 1) v5') fun k hk e => ?_
    cases e
    have := (ko6.lt _ hk).1
    omega
  · intro j hj e
    rcases hl j hj with h | h
    · exact hd j h e
    · have := (o6.lt j e).2
      simp at h
      omega
  · exact ((hbl.grown hg hbl.size (fun r e => by have := e5 _ e; omega)).setCell (p := ⟨w.heap.size + 1, 0, none⟩) (by show w.heap.size ≤ w.heap.size + 1; omega) _)
  · simp [World.setCell]; omega

theorem Left.keeps {w W W' : World} {a : Option Addr} {c : Nat} {L : List DirV} {b z : List Nat} (h : Left w a c L b z W W') (hdb : ∀ ad : Addr, a = some ad → ad.block < w.heap.size) : KeepsUp a (w.heap.size + 4) (w.heap.size + 3) W W' := by
  refine ⟨?_, h.2.2.1⟩
  rintro j (rfl | rfl | ⟨ad, e, rfl⟩)
  · exact h.2.1 _ (by omega) (by omega) (by omega)
  · exact h.2.1 _ (by omega) (by omega) (by omega)
  · have := hdb ad e
    exact h.2.1 _ (by omega) (by omega) (by omega)

theorem chain_mem {L : List DirV} (h : Inh.Valid L) : ∀ (n : Nat) (d : Int), d < L.length → Inh.up L d ≤ n → ∀ x ∈ Inh.chain L d, x < L.length
  | n, d, hd, hn => by
    by_cases hneg : d < 0
    · rw [Inh.chain_neg L hneg]; simp
    · obtain ⟨k, rfl⟩ : ∃ k : Nat, d = k := ⟨d.toNat, by omega⟩
      have hk : k < L.length := by omega
      have hu := Inh.up_less h hk
      cases n with
      | zero => omega
      | succ n =>
        rw [Inh.chain_step h hk]
        intro x hx
        rcases List.mem_cons.1 hx with rfl | hx
        · exact hk
        · exact chain_mem h n _ (Inh.above_range L k).2 (by omega) x hx

theorem order_mem {L : List DirV} : ∀ (C b z : List Nat) (p : Nat → Prop), (∀ x ∈ C, p x) → (∀ x ∈ b, p x) → (∀ x ∈ z, p x) → (∀ x ∈ (Inh.orderTo L C (b, z)).1, p x) ∧ (∀ x ∈ (Inh.orderTo L C (b, z)).2, p x)
  | [], b, z, p, _, h2, h3 => ⟨h2, h3⟩
  | d :: t, b, z, p, h1, h2, h3 => by
    unfold Inh.orderTo
    have hd := h1 d (by simp)
    have ht := fun x hx => h1 x (List.mem_cons_of_mem d hx)
    have hb : ∀ x ∈ b ++ [d], p x := by
      intro x hx
      rcases List.mem_append.1 hx with h | h
      · exact h2 x h
      · simp at h; subst h; exact hd
    have hz : ∀ x ∈ d :: z, p x := by
      intro x hx
      rcases List.mem_cons.1 hx with rfl | h
      · exact hd
      · exact h3 x h
    split
    · exact order_mem t b (d :: z) p ht h2 hz
    · split
      · exact order_mem t (b ++ [d]) z p ht hb h3
      · exact ⟨hb, h3⟩

def SetI (w : World) (a : Option Addr) (c : Nat) (L : List DirV) (C : List Nat) (k : Nat) (W : World) : Prop :=
  ∃ b z, Inh.orderTo L C ([], []) = Inh.orderTo L (C.drop k) (b, z) ∧ b.length ≤ k ∧ z.length ≤ k ∧ Both w a c L b z W
def SetX (w : World) (a : Option Addr) (c : Nat) (L : List DirV) (C : List Nat) (cd : Code) (k : Nat) (W : World) : Prop :=
  cd = .exit 0 ∧ ∃ b z, Inh.orderTo L C ([], []) = (b, z) ∧ b.length ≤ 140 ∧ z.length ≤ 140 ∧ Both w a c L b z W

theorem setI_stable {w : World} {a : Option Addr} {c : Nat} {L : List DirV} {C : List Nat} {B k : Nat} (hB : w.heap.size + 4 < B) : Seq.Stable (· = w.heap.size + 4) B (SetI w a c L C k) := by
  rintro X Y row ⟨b, z, h0, h1, h2, h3⟩ hg hr
  exact ⟨b, z, h0, h1, h2, both_stable hB X Y row h3 hg hr⟩
theorem setX_stable {w : World} {a : Option Addr} {c : Nat} {L : List DirV} {C : List Nat} {cd : Code} {B k : Nat} (hB : w.heap.size + 4 < B) : Seq.Stable (· = w.heap.size + 4) B (SetX w a c L C cd k) := by
  rintro X Y row ⟨hc, b, z, h0, h1, h2, h3⟩ hg hr
  exact ⟨hc, b, z, h0, h1, h2, both_stable hB X Y row h3 hg hr⟩

/-- Three new boxes, those of the iterator: how they stand. -/
theorem set_start (w : World) (a : Option Addr) (c : Nat) (L : List DirV) (d : Int) :
    let W := ((((w.alloc (.cells #[.slice a L.length c] 62)).alloc (.cells #[.slice none 0 0] 44)).alloc (.cells #[.slice none 0 0] 44)).alloc (.cells #[.slice a L.length c] 62)).alloc (.cells #[.int .i64 d] 3)
    Both w a c L [] [] W ∧ Boxed W (w.heap.size + 3) 62 (.slice a L.length c) ∧ Boxed W (w.heap.size + 4) 3 (.int .i64 d) ∧ W.heap.size = w.heap.size + 5 := by
  intro W
  have b0 := ((((Boxed.new w 62 (.slice a L.length c)).alloc (.cells #[.slice none 0 0] 44)).alloc (.cells #[.slice none 0 0] 44)).alloc (.cells #[.slice a L.length c] 62)).alloc (.cells #[.int .i64 d] 3)
  have b1 := (((Boxed.new (w.alloc (.cells #[.slice a L.length c] 62)) 44 (.slice none 0 0)).alloc (.cells #[.slice none 0 0] 44)).alloc (.cells #[.slice a L.length c] 62)).alloc (.cells #[.int .i64 d] 3)
  have b2 := ((Boxed.new ((w.alloc (.cells #[.slice a L.length c] 62)).alloc (.cells #[.slice none 0 0] 44)) 44 (.slice none 0 0)).alloc (.cells #[.slice a L.length c] 62)).alloc (.cells #[.int .i64 d] 3)
  have b3 := (Boxed.new (((w.alloc (.cells #[.slice a L.length c] 62)).alloc (.cells #[.slice none 0 0] 44)).alloc (.cells #[.slice none 0 0] 44)) 62 (.slice a L.length c)).alloc (.cells #[.int .i64 d] 3)
  have b4 := Boxed.new ((((w.alloc (.cells #[.slice a L.length c] 62)).alloc (.cells #[.slice none 0 0] 44)).alloc (.cells #[.slice none 0 0] 44)).alloc (.cells #[.slice a L.length c] 62)) 3 (.int .i64 d)
  simp only [World.size_alloc] at b1 b2 b3 b4
  have hs : W.heap.size = w.heap.size + 5 := by show (World.alloc _ _).heap.size = _; simp
  refine ⟨⟨b0, ⟨_, _, b1, b2, Owns.nil _ _ _ _, Owns.nil _ _ _ _, fun j h => by cases h⟩, ?_, by rw [hs]; exact Nat.le_refl _⟩, b3, b4, hs⟩
  exact (((((Below.refl _ w).alloc (Nat.le_refl _) _).alloc (by simp) _).alloc (by simp; omega) _).alloc (by simp; omega) _).alloc (by simp; omega) _

/-- A new row of one element, as an owned slice. -/
theorem Owns.lit (W : World) (t : TypeId) (v : Value) : Owns (W.alloc (.cells #[v] t)) W.heap.size t 1 (.slice (some ⟨W.heap.size, 0, none⟩) 1 1) 1 [v] :=
  ⟨rfl, .inr ⟨W.heap.size, 1, #[v], rfl, Nat.le_refl _, heap_alloc_new W _, Nat.le_refl _, by simp [maxLen], by simp, rfl⟩⟩
theorem one_iv (l : List Int) : ∀ u ∈ l.map iv, u.oneCell' = true := by
  intro u hu
  obtain ⟨s, _, rfl⟩ := List.mem_map.1 hu
  rfl
theorem drop_nth {C : List Nat} {k : Nat} (h : k < C.length) : C.drop k = nthOf C k :: C.drop (k + 1) := by
  rw [List.drop_eq_getElem_cons h]
  simp [nthOf, List.getD, h]
theorem nth_mem {C : List Nat} {k : Nat} (h : k < C.length) : nthOf C k ∈ C := by
  unfold nthOf
  rw [List.getD_eq_getElem?_getD, List.getElem?_eq_getElem h]
  exact List.getElem_mem _

theorem Rd.putObj {w : World} {sz n D : Nat} {a : Option Addr} {cs : List Value} {o : Obj} (h : Rd w sz a n cs) (hsz : 0 < sz) (o' : Obj) (hD : w.heap[D]? = some o) (ho : o.isCells = false) : Rd (w.putObj D o') sz a n cs := by
  refine h.keep (by simp [World.putObj]) fun ad e hn hlt => World.putObj_heap_other ?_
  intro e2
  obtain ⟨ad', e', _, hc⟩ := h.get hn
  rw [e] at e'; cases e'
  have hl : 0 < cs.length := by rw [h.len]; exact Nat.mul_pos hn hsz
  have hx := hc 0 cs[0] (List.getElem?_eq_getElem hl)
  have hb : (ad.add 0).block = D := by rw [add_block]; exact e2
  have hD' : w.heap[(ad.add 0).block]? = some o := by rw [hb]; exact hD
  unfold World.cell? at hx
  rw [hD'] at hx
  cases o <;> simp_all [Obj.isCells]

theorem order_next (L : List DirV) (d : Nat) (t b z : List Nat) : Inh.orderTo L (d :: t) (b, z) = if Inh.modeOf L d = 1 then Inh.orderTo L t (b, d :: z) else if Inh.modeOf L d = 2 then Inh.orderTo L t (b ++ [d], z) else (b ++ [d], z) := rfl
theorem nums_append (b z : List Nat) : nums (b ++ z) = nums b ++ nums z := by unfold nums; simp
set_option maxRecDepth 20000 in
set_option maxHeartbeats 2000000 in
theorem set_any (a : Option Addr) (c : Nat) (L : List DirV) (d : Nat) (w : World) (hv : Inh.Valid L) (hD : Dirs w a L.length L) (hs : Small L) (hd : d < L.length) :
    Calls Try.prog 40 #[.slice a L.length c, .int .i64 d] w fun e w' => ∃ v, e = .returned v ∧ SlSpots w' v (Inh.set L d) ∧ Below w.heap.size w w' := by
  obtain ⟨i0, hi, hz0, hz1, hz2⟩ := info_parts infoInt
  have hclen : (Inh.chain L d).length ≤ 129 := Inh.chain_length hv 129 d (by omega) (by unfold Inh.up; rw [if_neg (by omega)]; have := (Inh.valid_dir hv hd).2.1; simp; omega)
  have hset : Inh.set L d = ((Inh.orderTo L (Inh.chain L d) ([], [])).1 ++ (Inh.orderTo L (Inh.chain L d) ([], [])).2).flatMap (Inh.own L) := by
    rw [Inh.order_set]; simp [Inh.set]
  rw [hset]
  have hmem := chain_mem hv 129 d (by omega) (by unfold Inh.up; rw [if_neg (by omega)]; have := (Inh.valid_dir hv hd).2.1; simp; omega)
  obtain ⟨hboth, hbt, hbd, hsz⟩ := set_start w a c L d
  have hdb : ∀ ad : Addr, a = some ad → ad.block < w.heap.size := by
    intro ad e
    obtain ⟨ad', e', hlt, _⟩ := Rd.get hD (by omega)
    rw [e] at e'; cases e'; exact hlt
  have hseq := up_seq 4 (w.heap.size + 4) (w.heap.size + 3) a c L d hv hs hd (by omega) (fun ad e => by have := hdb ad e; omega) _ hbd hbt (hD.below hboth.below)
  have hkeep : ∀ j, upKeep a (w.heap.size + 4) (w.heap.size + 3) j → j < w.heap.size + 5 := by
    rintro j (rfl | rfl | ⟨ad, e, rfl⟩)
    · omega
    · omega
    · have := hdb ad e; omega
  have hup := fun w => up_any a c L.length d w
  obtain ⟨C, hC⟩ : ∃ C, C = Inh.chain L d := ⟨_, rfl⟩
  rw [← hC] at hseq hclen hmem ⊢
  clear hC hset
  refine (callsIn_wide (n := 5)).1 ?_
  refine callsIn_of_wp_marks Try.func40 rfl trivial ?_ rfl
  simp only [Try.ntmps40, List.size_toArray, List.length_cons, List.length_nil, Nat.reduceAdd, Nat.reduceSub, Array.replicate_succ, Array.replicate_zero, List.push_toArray, List.append_toArray, List.nil_append, List.cons_append]
  gi_wp2_with (gi_at_call 57; refine (callsIn_wide.2 (hup _)).mono ?_; rintro e w2 ⟨rfl, rfl⟩)
  refine Seq.wpIn_seq (gf := 72) (lb := #[.pointer (some ⟨w.heap.size + 4, 0, none⟩), .pointer (some ⟨w.heap.size + 3, 0, none⟩)]) rfl (enters_of Try.func72 (by kernel_rfl) rfl)
    hseq (fun a b c => KeepsUp.trans a b c) (KeepsUp.putObj (fun j hj => by rw [hsz]; exact hkeep j hj)) (fun W W' hW hg => KeepsUp.grown hkeep W W' (by rw [hsz] at hW; exact hW) hg) (fun r e => by subst e; rw [hsz]; omega) (Below.refl _ _) (fun _ => rfl)
    (SetI w a c L C) (SetX w a c L C) ?sI ?sX ⟨[], [], rfl, Nat.zero_le _, Nat.zero_le _, hboth⟩ ?round ?done ?stop
  case sI => exact fun k => setI_stable (by rw [hsz]; omega)
  case sX => exact fun c k => setX_stable (by rw [hsz]; omega)
  case round =>
    rintro l k W hk _ hl
    rw [hsz]
    unfold upArgs
    gi_wp2
    refine ⟨World.grownBy.refl _ _, ?_⟩
    rintro W2 ⟨b, z, hord, hb, hz, ⟨ht, ⟨v5, v6, h5, h6, o5, o6, hdis⟩, hbl, hsz2⟩⟩ hg2
    have hx := hmem _ (nth_mem hk)
    rw [drop_nth hk] at hord
    obtain ⟨x, hxe⟩ : ∃ x, x = nthOf C k := ⟨_, rfl⟩
    rw [← hxe] at hx hord ⊢
    clear hxe
    obtain ⟨ad, dd, rfl, hbb, hls, c0, c1, c2⟩ := (hD.below hbl).fields hx
    have hm := Inh.modeOf_get hls
    have ct := ht.cell
    have c5 := h5.cell
    have c6 : W2.cell? ⟨w.heap.size + 1 + 1, 0, none⟩ = some v6 := h6.cell
    have f5 := h5.frozen
    have f6 : W2.frozen? ⟨w.heap.size + 1 + 1, 0, none⟩ = false := h6.frozen
    have hs6 : w.heap.size + 1 + 1 < W2.heap.size := by omega
    have hs5 : w.heap.size + 1 < W2.heap.size := by omega
    obtain ⟨a5, cc5, rfl, _, _, hr5⟩ := id o5.form
    obtain ⟨a6, cc6, rfl, _, _, hr6⟩ := id o6.form
    rw [order_next, hm] at hord
    have hxL : (x : Int) < (L.length : Int) := by omega
    by_cases m1 : dd.mode = 1
    · rw [if_pos m1] at hord
      have Ho := Lib.hid hord
      clear hord hm hls
      gi_wp2_with (gi_at_builtin; go_must (refine wpListIn_append_lies _ rfl _ _ 44 rfl W2.heap.size 3 i0 (.int .i64 0) 1 8 Try.underlying44 hi hz0 hz1 hz2 rfl (by decide) _ 1 [.int .i64 x] rfl (Owns.lit W2 _ _) a6 z.length cc6 ((nums z).map iv) rfl (hr6.alloc _) (one_iv _) (by simp only [maxLen]; omega) (by omega) (by simp) ?_); intro v' w1 hown' hgrow _; obtain ⟨av, cv, rfl, _⟩ := id hown'.form; obtain ⟨k6, hleft⟩ := both_behind ht h5 h6 o5 hbl hsz2 hown' hgrow (by intro r e; cases e; exact Nat.le_refl _); have k6c : w1.cell? ⟨w.heap.size + 1 + 1, 0, none⟩ = _ := k6.cell; have k6f : w1.frozen? ⟨w.heap.size + 1 + 1, 0, none⟩ = false := k6.frozen)
      exact ⟨hleft.1, hleft.keeps hdb, b, x :: z, Ho.out, by omega, by simp; omega, hleft.2.2.2⟩
    · rw [if_neg m1] at hord
      by_cases m2 : dd.mode = 2
      · rw [if_pos m2] at hord
        have Ho := Lib.hid hord
        clear hord hm hls
        gi_wp2_with (gi_at_builtin; go_must (refine wpListIn_append_lies _ rfl _ _ 44 rfl (w.heap.size + 5) 3 i0 (.int .i64 0) 1 8 Try.underlying44 hi hz0 hz1 hz2 rfl (by decide) _ b.length ((nums b).map iv) rfl (o5.alloc _) _ 1 1 [.int .i64 x] rfl (Rd.one_at _ _ _ _ (by simp)) (by simp [Value.oneCell']) (by simp only [maxLen]; omega) (by omega) (by simp; omega) ?_); intro v' w1 hown' hgrow hlies; obtain ⟨av, cv, rfl, _⟩ := id hown'.form; obtain ⟨k5, hleft⟩ := both_before ht h5 h6 o5 o6 hdis hbl hsz2 hown' hgrow hlies; have k5c := k5.cell; have k5f := k5.frozen)
        exact ⟨hleft.1, hleft.keeps hdb, b ++ [x], z, Ho.out, by simp; omega, by omega, hleft.2.2.2⟩
      · rw [if_neg m2] at hord
        have Ho := Lib.hid hord
        clear hord hm hls
        gi_wp2_with (gi_at_builtin; go_must (refine wpListIn_append_lies _ rfl _ _ 44 rfl (w.heap.size + 5) 3 i0 (.int .i64 0) 1 8 Try.underlying44 hi hz0 hz1 hz2 rfl (by decide) _ b.length ((nums b).map iv) rfl (o5.alloc _) _ 1 1 [.int .i64 x] rfl (Rd.one_at _ _ _ _ (by simp)) (by simp [Value.oneCell']) (by simp only [maxLen]; omega) (by omega) (by simp; omega) ?_); intro v' w1 hown' hgrow hlies; obtain ⟨av, cv, rfl, _⟩ := id hown'.form; obtain ⟨k5, hleft⟩ := both_before ht h5 h6 o5 o6 hdis hbl hsz2 hown' hgrow hlies; have k5c := k5.cell; have k5f := k5.frozen)
        exact ⟨hleft.1, rfl, b ++ [x], z, Ho.out, by simp; omega, by omega, hleft.2.2.2⟩
  case done =>
    rintro D W hDn ⟨b, z, hord, hb, hz, ⟨ht, ⟨v5, v6, h5, h6, o5, o6, hdis⟩, hbl, hsz2⟩⟩ hK
    have ct := ht.cell
    have c5 := h5.cell
    have c6 : W.cell? ⟨w.heap.size + 1 + 1, 0, none⟩ = some v6 := h6.cell
    rw [List.drop_length] at hord
    have hord' : Inh.orderTo L C ([], []) = (b, z) := hord
    clear hord
    have hord := hord'
    clear hord'
    obtain ⟨a5, cc5, rfl, _, _, hr5⟩ := id o5.form
    obtain ⟨a6, cc6, rfl, _, _, hr6⟩ := id o6.form
    have hall : ∀ x ∈ b ++ z, x < L.length := by
      have := order_mem (L := L) C [] [] (· < L.length) hmem (by simp) (by simp)
      rw [hord] at this
      intro x hx
      rcases List.mem_append.1 hx with h | h
      · exact this.1 x h
      · exact this.2 x h
    obtain ⟨R, hR⟩ : ∃ R, R = (b ++ z).flatMap (Inh.own L) := ⟨_, rfl⟩
    have HR := Lib.hid (show R = ((Inh.orderTo L C ([], [])).1 ++ (Inh.orderTo L C ([], [])).2).flatMap (Inh.own L) by rw [hR, hord])
    clear hord
    gi_wp2
    refine wpIn_wide.2 ?_
    refine wp_region_noPanic ?_
    refine wp_region_held_drew (S := fun w' => w'.cell? ⟨w.heap.size, 0, none⟩ = some (.slice a L.length c) ∧ w'.cell? ⟨w.heap.size + 1, 0, none⟩ = some (.slice a5 b.length cc5) ∧ w'.cell? ⟨w.heap.size + 1 + 1, 0, none⟩ = some (.slice a6 z.length cc6)) (by kernel_rfl) ?_ (fun hH => ?_)
    · exact ⟨ct, c5, c6⟩
    refine Reg.take (i := 0) (u := ?b1_v0) rfl rfl rfl (by kernel_rfl) (by kernel_rfl) (by kernel_rfl) hH ?b1_y0 ?b1_r0
    case b1_y0 => (intro w hSw; (try dsimp only at hSw); go_simp; try (with_reducible rfl))
    case' b1_r0 => simp only [List.setIfInBounds_toArray, List.set_cons_zero, List.set_cons_succ]
    refine Reg.take (i := 1) (u := ?b1_v1) rfl rfl rfl (by kernel_rfl) (by kernel_rfl) (by kernel_rfl) hH ?b1_y1 ?b1_r1
    case b1_y1 => (intro w hSw; (try dsimp only at hSw); go_simp; try (with_reducible rfl))
    case' b1_r1 => simp only [List.setIfInBounds_toArray, List.set_cons_zero, List.set_cons_succ]
    refine Reg.take (i := 2) (u := ?b1_v2) rfl rfl rfl (by kernel_rfl) (by kernel_rfl) (by kernel_rfl) hH ?b1_y2 ?b1_r2
    case b1_y2 => (intro w hSw; (try dsimp only at hSw); go_simp; try (with_reducible rfl))
    case' b1_r2 => simp only [List.setIfInBounds_toArray, List.set_cons_zero, List.set_cons_succ]
    refine Reg.only (i := 3) rfl (Reg.wanted_free rfl) (by kernel_rfl) (fun K hK => ?_)
    refine wp_append_owns (o := _) _ _ _ 44 rfl (w.heap.size + 5) 3 i0 (.int .i64 0) 1 8 Try.underlying44 hi hz0 hz1 hz2 rfl (by decide) _ b.length ((nums b).map iv) rfl o5.drew a6 z.length cc6 ((nums z).map iv) rfl hr6.drew (one_iv _) (by simp only [maxLen]; omega) (by omega) (by show _ ≤ W.heap.size; omega) ?_
    intro v' w3 hown' hgrow
    have hg : W.grownBy w3 (Value.slice a5 b.length cc5).ownBlock := ⟨hgrow.os, hgrow.tape, hgrow.output, hgrow.size, hgrow.block⟩
    have e5 : ∀ j, (Value.slice a5 b.length cc5).ownBlock = some j → w.heap.size + 5 ≤ j := fun j hj => (o5.lt j hj).1
    have kt := (ht.kept hg (fun e => by have := e5 _ e.symm; omega)).cell
    have k5 := (h5.kept hg (fun e => by have := e5 _ e.symm; omega)).cell
    have k6 : w3.cell? ⟨w.heap.size + 1 + 1, 0, none⟩ = _ := (h6.kept hg (fun e => by have := e5 _ e.symm; omega)).cell
    obtain ⟨av, cv, rfl, hv1, hv2, hrv⟩ := id hown'.form
    have hb3 := hbl.grown hg hbl.size (fun r e => by have := e5 _ e; omega)
    refine hK.out _ _ ?_ (fun hH2 => ?_)
    · exact ⟨kt, k5, k6⟩
    clear hK hH
    have hH := hH2; clear hH2
    try simp only [Act.put, List.setIfInBounds_toArray, List.set_cons_zero, List.set_cons_succ]
    have hN : Ints w3 av (b ++ z).length (nums (b ++ z)) := by unfold Ints; rw [nums_append, List.map_append, List.length_append]; exact hrv
    have hsp := spots_any a av c cv L (b ++ z) w3 (hD.below hb3) hs hN hall (by simp; omega)
    rw [List.length_append, ← hR] at hsp
    clear hR
    refine Reg.only (i := 4) rfl (Reg.wanted_free rfl) (by kernel_rfl) (fun K hK => ?_)
    go_simp
    go_at_call 43; refine hsp.mono ?_; rintro e w4 ⟨v, rfl, hsv, h4⟩; obtain ⟨aS, cS, rfl, s1, s2, s3⟩ := id hsv; go_simp
    refine hK.out _ _ ?_ (fun hH2 => ?_)
    · exact ⟨(World.cell?_of_block (w := w3) (a := ⟨w.heap.size, 0, none⟩) (h4.block _ (by have := hg.size; show w.heap.size < _; omega))).trans kt, (World.cell?_of_block (w := w3) (a := ⟨w.heap.size + 1, 0, none⟩) (h4.block _ (by have := hg.size; show w.heap.size + 1 < _; omega))).trans k5, (World.cell?_of_block (w := w3) (a := ⟨w.heap.size + 1 + 1, 0, none⟩) (h4.block _ (by have := hg.size; show w.heap.size + 1 + 1 < _; omega))).trans k6⟩
    clear hK hH
    have hH := hH2; clear hH2
    try simp only [Act.put, List.setIfInBounds_toArray, List.set_cons_zero, List.set_cons_succ]
    refine Reg.take (i := 5) (u := ?b1_v5) rfl rfl rfl (by kernel_rfl) (by kernel_rfl) (by kernel_rfl) hH ?b1_y5 ?b1_r5
    case b1_y5 => (intro w hSw; (try dsimp only at hSw); go_simp; try (with_reducible rfl))
    case' b1_r5 => simp only [List.setIfInBounds_toArray, List.set_cons_zero, List.set_cons_succ]
    refine wpAnyH_done (by kernel_rfl) ?_ _
    refine NoPanic.normal ?_
    gi_wp2
    have hD3 : w3.heap[D]? = some (.deferred (some [])) := by
      refine (hg.block D (Array.getElem?_eq_some_iff.1 hK).1 ?_).trans hK
      intro e
      rcases o5.2 with ⟨h0, _⟩ | ⟨g, cap, cur, h0, _, hgb, _⟩
      · rw [h0] at e; simp [Value.ownBlock] at e
      · rw [h0] at e
        simp [Value.ownBlock] at e
        subst e
        rw [hgb] at hK; cases hK
    have hD4 : w4.heap[D]? = some (.deferred (some [])) := (h4.block D (Array.getElem?_eq_some_iff.1 hD3).1).trans hD3
    have hb4 := hb3.trans (h4.mono hb3.size)
    refine ⟨by simp, .inl ⟨_, _, rfl, run_takeDeferred hD4, ?_⟩⟩
    refine ⟨_, results_tmp rfl _ _ _, .slice aS R.length cS, rfl, ?_, hb4.grown (grownBy_putObj' _ _ _) hb4.size (fun r e => by cases e; rw [hsz] at hDn; omega)⟩
    rw [← HR.out]
    exact ⟨aS, cS, rfl, s1, s2, Rd.putObj s3 (by omega) _ hD4 rfl⟩
  case stop =>
    rintro D cd k W hDn hk ⟨rfl, b, z, hord, hb, hz, ⟨ht, ⟨v5, v6, h5, h6, o5, o6, hdis⟩, hbl, hsz2⟩⟩ hK
    have ct := ht.cell
    have c5 := h5.cell
    have c6 : W.cell? ⟨w.heap.size + 1 + 1, 0, none⟩ = some v6 := h6.cell
    obtain ⟨a5, cc5, rfl, _, _, hr5⟩ := id o5.form
    obtain ⟨a6, cc6, rfl, _, _, hr6⟩ := id o6.form
    have hall : ∀ x ∈ b ++ z, x < L.length := by
      have := order_mem (L := L) C [] [] (· < L.length) hmem (by simp) (by simp)
      rw [hord] at this
      intro x hx
      rcases List.mem_append.1 hx with h | h
      · exact this.1 x h
      · exact this.2 x h
    obtain ⟨R, hR⟩ : ∃ R, R = (b ++ z).flatMap (Inh.own L) := ⟨_, rfl⟩
    have HR := Lib.hid (show R = ((Inh.orderTo L C ([], [])).1 ++ (Inh.orderTo L C ([], [])).2).flatMap (Inh.own L) by rw [hR, hord])
    clear hord
    gi_wp2
    refine wpIn_wide.2 ?_
    refine wp_region_noPanic ?_
    refine wp_region_held_drew (S := fun w' => w'.cell? ⟨w.heap.size, 0, none⟩ = some (.slice a L.length c) ∧ w'.cell? ⟨w.heap.size + 1, 0, none⟩ = some (.slice a5 b.length cc5) ∧ w'.cell? ⟨w.heap.size + 1 + 1, 0, none⟩ = some (.slice a6 z.length cc6)) (by kernel_rfl) ?_ (fun hH => ?_)
    · exact ⟨ct, c5, c6⟩
    refine Reg.take (i := 0) (u := ?b2_v0) rfl rfl rfl (by kernel_rfl) (by kernel_rfl) (by kernel_rfl) hH ?b2_y0 ?b2_r0
    case b2_y0 => (intro w hSw; (try dsimp only at hSw); go_simp; try (with_reducible rfl))
    case' b2_r0 => simp only [List.setIfInBounds_toArray, List.set_cons_zero, List.set_cons_succ]
    refine Reg.take (i := 1) (u := ?b2_v1) rfl rfl rfl (by kernel_rfl) (by kernel_rfl) (by kernel_rfl) hH ?b2_y1 ?b2_r1
    case b2_y1 => (intro w hSw; (try dsimp only at hSw); go_simp; try (with_reducible rfl))
    case' b2_r1 => simp only [List.setIfInBounds_toArray, List.set_cons_zero, List.set_cons_succ]
    refine Reg.take (i := 2) (u := ?b2_v2) rfl rfl rfl (by kernel_rfl) (by kernel_rfl) (by kernel_rfl) hH ?b2_y2 ?b2_r2
    case b2_y2 => (intro w hSw; (try dsimp only at hSw); go_simp; try (with_reducible rfl))
    case' b2_r2 => simp only [List.setIfInBounds_toArray, List.set_cons_zero, List.set_cons_succ]
    refine Reg.only (i := 3) rfl (Reg.wanted_free rfl) (by kernel_rfl) (fun K hK => ?_)
    refine wp_append_owns (o := _) _ _ _ 44 rfl (w.heap.size + 5) 3 i0 (.int .i64 0) 1 8 Try.underlying44 hi hz0 hz1 hz2 rfl (by decide) _ b.length ((nums b).map iv) rfl o5.drew a6 z.length cc6 ((nums z).map iv) rfl hr6.drew (one_iv _) (by simp only [maxLen]; omega) (by omega) (by show _ ≤ W.heap.size; omega) ?_
    intro v' w3 hown' hgrow
    have hg : W.grownBy w3 (Value.slice a5 b.length cc5).ownBlock := ⟨hgrow.os, hgrow.tape, hgrow.output, hgrow.size, hgrow.block⟩
    have e5 : ∀ j, (Value.slice a5 b.length cc5).ownBlock = some j → w.heap.size + 5 ≤ j := fun j hj => (o5.lt j hj).1
    have kt := (ht.kept hg (fun e => by have := e5 _ e.symm; omega)).cell
    have k5 := (h5.kept hg (fun e => by have := e5 _ e.symm; omega)).cell
    have k6 : w3.cell? ⟨w.heap.size + 1 + 1, 0, none⟩ = _ := (h6.kept hg (fun e => by have := e5 _ e.symm; omega)).cell
    obtain ⟨av, cv, rfl, hv1, hv2, hrv⟩ := id hown'.form
    have hb3 := hbl.grown hg hbl.size (fun r e => by have := e5 _ e; omega)
    refine hK.out _ _ ?_ (fun hH2 => ?_)
    · exact ⟨kt, k5, k6⟩
    clear hK hH
    have hH := hH2; clear hH2
    try simp only [Act.put, List.setIfInBounds_toArray, List.set_cons_zero, List.set_cons_succ]
    have hN : Ints w3 av (b ++ z).length (nums (b ++ z)) := by unfold Ints; rw [nums_append, List.map_append, List.length_append]; exact hrv
    have hsp := spots_any a av c cv L (b ++ z) w3 (hD.below hb3) hs hN hall (by simp; omega)
    rw [List.length_append, ← hR] at hsp
    clear hR
    refine Reg.only (i := 4) rfl (Reg.wanted_free rfl) (by kernel_rfl) (fun K hK => ?_)
    go_simp
    go_at_call 43; refine hsp.mono ?_; rintro e w4 ⟨v, rfl, hsv, h4⟩; obtain ⟨aS, cS, rfl, s1, s2, s3⟩ := id hsv; go_simp
    refine hK.out _ _ ?_ (fun hH2 => ?_)
    · exact ⟨(World.cell?_of_block (w := w3) (a := ⟨w.heap.size, 0, none⟩) (h4.block _ (by have := hg.size; show w.heap.size < _; omega))).trans kt, (World.cell?_of_block (w := w3) (a := ⟨w.heap.size + 1, 0, none⟩) (h4.block _ (by have := hg.size; show w.heap.size + 1 < _; omega))).trans k5, (World.cell?_of_block (w := w3) (a := ⟨w.heap.size + 1 + 1, 0, none⟩) (h4.block _ (by have := hg.size; show w.heap.size + 1 + 1 < _; omega))).trans k6⟩
    clear hK hH
    have hH := hH2; clear hH2
    try simp only [Act.put, List.setIfInBounds_toArray, List.set_cons_zero, List.set_cons_succ]
    refine Reg.take (i := 5) (u := ?b2_v5) rfl rfl rfl (by kernel_rfl) (by kernel_rfl) (by kernel_rfl) hH ?b2_y5 ?b2_r5
    case b2_y5 => (intro w hSw; (try dsimp only at hSw); go_simp; try (with_reducible rfl))
    case' b2_r5 => simp only [List.setIfInBounds_toArray, List.set_cons_zero, List.set_cons_succ]
    refine wpAnyH_done (by kernel_rfl) ?_ _
    refine NoPanic.normal ?_
    gi_wp2
    have hD3 : w3.heap[D]? = some (.deferred (some [])) := by
      refine (hg.block D (Array.getElem?_eq_some_iff.1 hK).1 ?_).trans hK
      intro e
      rcases o5.2 with ⟨h0, _⟩ | ⟨g, cap, cur, h0, _, hgb, _⟩
      · rw [h0] at e; simp [Value.ownBlock] at e
      · rw [h0] at e
        simp [Value.ownBlock] at e
        subst e
        rw [hgb] at hK; cases hK
    have hD4 : w4.heap[D]? = some (.deferred (some [])) := (h4.block D (Array.getElem?_eq_some_iff.1 hD3).1).trans hD3
    have hb4 := hb3.trans (h4.mono hb3.size)
    refine ⟨by simp, .inl ⟨_, _, rfl, run_takeDeferred hD4, ?_⟩⟩
    refine ⟨_, results_tmp rfl _ _ _, .slice aS R.length cS, rfl, ?_, hb4.grown (grownBy_putObj' _ _ _) hb4.size (fun r e => by cases e; rw [hsz] at hDn; omega)⟩
    rw [← HR.out]
    exact ⟨aS, cS, rfl, s1, s2, Rd.putObj s3 (by omega) _ hD4 rfl⟩

end Go.Proofs.Ytajnkapnndhbaaa
