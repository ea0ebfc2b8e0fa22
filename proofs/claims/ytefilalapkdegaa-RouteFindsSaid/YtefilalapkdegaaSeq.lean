/- A range over a function whose iterator keeps a state of its own in memory: what the iterator owes, what the loop owes, and the law that joins them. -/
import Derived.RangeFuncNested
import Derived.RangeFuncBound
import Derived.RangeFuncCalls
import Derived.RangeFuncLeaves
namespace Go.Proofs.Ytefilalapkdegaa.Seq
open Go.RowKit

variable {P : Program}

theorem wide_fn (f : FuncId) : Fence.wide.fn f = True := by simp [Fence.wide]
theorem wide_depth : Fence.wide.depth = none := rfl
theorem wide_round_depth (l : Nat) : (Fence.wide.inRound l).depth = none := rfl
theorem wide_round_fn (l : Nat) (f : FuncId) : (Fence.wide.inRound l).fn f = True := by simp [Fence.wide, Fence.inRound]

/-- The iterator's own steps: new blocks, and a turn of one of its own boxes. -/
def StepsBy (own : Nat → Prop) (J : Nat → World → Prop) : Prop :=
  ∀ k X Y row, J k X → X.grownBy Y row → (∀ r, row = some r → own r) → J k Y

/-- What the iterator owes: N rounds, at the arguments encs k, to whatever loop body keeps Kp. -/
def SeqN (P : Program) (n gf : Nat) (lb : Array Value) (encs : Nat → Array Value) (N : Nat) (own : Nat → Prop) (Kp : World → World → Prop) (w : World) : Prop :=
  ∀ (l : Nat) (J Jx : Nat → World → Prop) (W : World), Below w.heap.size w W → StepsBy own J → StepsBy own Jx →
    (∀ k W1, k < N → J k W1 → YieldAt Fence.wide (n - 1) P l (encs k) W1 fun e W' =>
      (e = .returned (.bool true) ∧ J (k + 1) W' ∧ Kp W1 W') ∨ (e = .returned (.bool false) ∧ Jx k W')) →
    J 0 W →
    CallsIn Fence.wide n P gf (#[.func (.yield l) #[] #[]] ++ lb) W fun e W' => (∃ v, e = .returned v) ∧ (J N W' ∨ ∃ k, k < N ∧ Jx k W')

/-- The loop's invariant abides the iterator's steps, and the loop's book-keeping. -/
def Stable (own : Nat → Prop) (B : Nat) (I : World → Prop) : Prop :=
  ∀ X Y row, I X → X.grownBy Y row → (∀ r, row = some r → own r ∨ (B ≤ r ∧ ∃ o : Obj, X.heap[r]? = some o ∧ o.isCells = false)) → I Y

theorem Stable.alloc {own : Nat → Prop} {B : Nat} {I : World → Prop} (h : Stable own B I) {W : World} (o : Obj) (hi : I W) : I (W.alloc o) :=
  h W _ none hi (World.grownBy_alloc W o none) (fun r e => by cases e)
theorem Stable.putObj {own : Nat → Prop} {B : Nat} {I : World → Prop} (h : Stable own B I) {W : World} {l : Nat} {o : Obj} (o' : Obj) (hi : I W) (hB : B ≤ l) (hl : W.heap[l]? = some o) (ho : o.isCells = false) : I (W.putObj l o') :=
  h W _ (some l) hi (grownBy_putObj' W l o') (fun r e => by cases e; exact .inr ⟨hB, o, hl, ho⟩)

/-- How a round's body may be left. -/
def bodyEnd (B : Nat) (Kp : World → World → Prop) (I : Nat → World → Prop) (Ix : Code → Nat → World → Prop) (k : Nat) (W : World) : Exit → Act → World → Prop
  | .normal, _, W' => KeepsFrom B W W' ∧ Kp W W' ∧ I (k + 1) W'
  | .ret, _, W' => KeepsFrom B W W' ∧ Ix .ret k W'
  | .exit id, _, W' => KeepsFrom B W W' ∧ Ix (.exit id) k W'
  | .goto t, _, W' => KeepsFrom B W W' ∧ Ix (.goto t) k W'
  | .panic _, _, _ => False
  | .outgrown, _, _ => False

theorem wpIn_seq {n : Nat} {g : Operand} {ps : Array Tmp} {assign body : Code} {Q : Exit → Act → World → Prop} {a : Act} {w : World}
    {gf : Nat} {lb : Array Value} (hg : a.eval g = .func (.func gf) #[] lb) (eg : ∀ args w, (callFunc gf args).run P w = .ok (.enter gf args) w)
    {encs : Nat → Array Value} {N : Nat} {own : Nat → Prop} {Kp : World → World → Prop} {w0 : World} (hseq : SeqN P (n - 1) gf lb encs N own Kp w0)
    (hKt : ∀ A B C : World, Kp A B → Kp B C → Kp A C)
    (hKb : ∀ (W : World) (l : Nat) (o o' : Obj), w.heap.size ≤ l → W.heap[l]? = some o → o.isCells = false → Kp W (W.putObj l o'))
    (hKg : ∀ (W W' : World), w.heap.size ≤ W.heap.size → W.grownBy W' none → Kp W W')
    (hown : ∀ r, own r → r < w.heap.size) (hb0 : Below w0.heap.size w0 w) (hps : ∀ k, (encs k).size = ps.size)
    (I : Nat → World → Prop) (Ix : Code → Nat → World → Prop) (hI : ∀ k, Stable own w.heap.size (I k)) (hIx : ∀ c k, Stable own w.heap.size (Ix c k)) (h0 : I 0 w)
    (hround : ∀ (l k : Nat) (W : World), k < N → I k W → w.heap.size ≤ l →
      assign.wpIn (Fence.wide.inRound l) (n - 1 - 1) P (Exit.then (fun a' W' => W.grownBy W' none ∧
          ∀ W2, I k W2 → W'.grownBy W2 (some l) → body.wpIn (Fence.wide.inRound l) (n - 1 - 1) P (bodyEnd w.heap.size Kp I Ix k W2) a' W2) (fun _ _ _ => False))
        { tmps := (ps.zip (encs k)).foldl (fun t (p, v) => t.setIfInBounds p v) a.tmps, defers := [] } W)
    (hdone : ∀ (D : Nat) (W : World), w.heap.size ≤ D → I N W → W.heap[D]? = some (.deferred (some [])) → Q .normal { a with defers := { target := .collected D, args := #[] } :: a.defers } W)
    (hstop : ∀ (D : Nat) (c : Code) (k : Nat) (W : World), w.heap.size ≤ D → k < N → Ix c k W → W.heap[D]? = some (.deferred (some [])) → c.wpIn Fence.wide n P Q { a with defers := { target := .collected D, args := #[] } :: a.defers } W) :
    (Code.rangeFunc g ps assign body).wpIn Fence.wide n P Q a w := by
  refine wpIn_rangeFunc ?_
  intro fn hfn
  have hro : Fence.wide.round = none := rfl
  rw [hro]
  obtain ⟨rec, hrec⟩ : ∃ rec : LoopState → Option Code → Loop, rec = fun st pe => { state := st, pending := pe, fn, tmps := a.tmps, params := ps, assign, body, defers := w.heap.size } := ⟨_, rfl⟩
  obtain ⟨W1, hW1⟩ : ∃ W1, (w.alloc (.deferred (some []))).alloc (.loop (rec .ready none)) = W1 := ⟨_, rfl⟩
  have hL1 : W1.heap[w.heap.size + 1]? = some (.loop (rec .ready none)) := by
    rw [← hW1]; have := World.alloc_heap_new (w.alloc (.deferred (some []))) (.loop (rec .ready none)); rwa [World.size_alloc] at this
  have hK1 : W1.heap[w.heap.size]? = some (.deferred (some [])) := by
    rw [← hW1]; exact (Below.heap_alloc _ _ _ (by simp)).trans (World.alloc_heap_new w _)
  have hI1 : I 0 W1 := by rw [← hW1]; exact (hI 0).alloc _ ((hI 0).alloc _ h0)
  have hb1 : Below w0.heap.size w0 W1 := by
    rw [← hW1]; exact hb0.trans ((((Below.refl _ w).alloc (Nat.le_refl _) _).alloc (by simp) _).mono hb0.size)
  refine ⟨w.heap.size + 1, [{ target := .collected w.heap.size, args := #[] }], W1, { target := .fn (.func gf) lb, args := #[.func (.yield (w.heap.size + 1)) #[] #[]] }, W1, gf,
    #[.func (.yield (w.heap.size + 1)) #[] #[]] ++ lb, W1, ?_, ?_, ?_, ?_, (fun h => by cases h), ?_⟩
  · rw [← hW1, hrec]; exact run_enterLoop_outer _ _ _ _ _
  · simp only [resolve, hg]
    simp [go_sem]
  · intro f' hf'; trivial
  · simp [invoke, go_sem, eg]
  · have hother : ∀ {X Y : World} {row : Option Nat} {j : Nat} {o : Obj}, w.heap.size ≤ j → X.grownBy Y row → (∀ r, row = some r → own r) → X.heap[j]? = some o → Y.heap[j]? = some o :=
      fun hj hgr hr hx => (hgr.block _ (Array.getElem?_eq_some_iff.1 hx).1 (fun e => by have := hown _ (hr _ e.symm); omega)).trans hx
    refine (hseq (w.heap.size + 1)
      (fun k W => I k W ∧ W.heap[w.heap.size + 1]? = some (.loop (rec .ready none)) ∧ W.heap[w.heap.size]? = some (.deferred (some [])))
      (fun k W => ∃ c, Ix c k W ∧ W.heap[w.heap.size + 1]? = some (.loop (rec .done (some c))) ∧ W.heap[w.heap.size]? = some (.deferred (some [])))
      W1 hb1
      (fun k X Y row hs hgr hr => ⟨hI k X Y row hs.1 hgr (fun r e => .inl (hr r e)), hother (by omega) hgr hr hs.2.1, hother (by omega) hgr hr hs.2.2⟩)
      (fun k X Y row hs hgr hr => by
        obtain ⟨c, hc, hl, hk⟩ := hs
        exact ⟨c, hIx c k X Y row hc hgr (fun r e => .inl (hr r e)), hother (by omega) hgr hr hl, hother (by omega) hgr hr hk⟩)
      ?_ ⟨hI1, hL1, hK1⟩).mono ?_
    · -- one round
      rintro k W hkN ⟨hi, hl, hk⟩
      have hlt : w.heap.size + 1 < W.heap.size := (Array.getElem?_eq_some_iff.1 hl).1
      have hy := run_yield (P := P) (args := encs k) hl (by rw [hrec]; exact hps k)
      rw [hrec] at hy
      refine ⟨fn, _, assign, body, hy, roundIn_of_wpIn hfn (wpIn_mono (hround _ k W hkN hi (by omega)) ?_)⟩
      clear hy
      rintro e a' Wa hp
      cases e with
      | normal =>
        obtain ⟨hga, hgo⟩ := hp
        have hla := (hga.block _ hlt (by simp)).trans hl
        have hka := (hga.block _ (by omega) (by simp)).trans hk
        have hia : I k Wa := hI k _ _ none hi hga (fun r e => by cases e)
        refine ⟨_, run_beginRound hla (by rw [hrec]), ?_⟩
        have hlta : w.heap.size + 1 < Wa.heap.size := (Array.getElem?_eq_some_iff.1 hla).1
        have hl2 : (Wa.putObj (w.heap.size + 1) (.loop { rec .ready none with state := .busy })).heap[w.heap.size + 1]? = some (.loop { rec .ready none with state := .busy }) := World.putObj_heap_same hlta
        have hk2 : (Wa.putObj (w.heap.size + 1) (.loop { rec .ready none with state := .busy })).heap[w.heap.size]? = some (.deferred (some [])) := (World.putObj_heap_other (by omega)).trans hka
        have hw2 : Kp Wa (Wa.putObj (w.heap.size + 1) (.loop { rec .ready none with state := .busy })) := hKb _ _ _ _ (by omega) hla rfl
        have hwa : Kp W Wa := hKg _ _ (by omega) hga
        refine wpIn_mono (hgo _ ((hI k).putObj _ hia (by omega) hla rfl) (grownBy_putObj' _ _ _)) ?_
        have fin : ∀ (jump : Option Code) (W3 : World), KeepsFrom w.heap.size (Wa.putObj (w.heap.size + 1) (.loop { rec .ready none with state := .busy })) W3 →
            (Instr.endRound (w.heap.size + 1) jump).run P W3 = .ok (.bool jump.isNone) (W3.putObj (w.heap.size + 1) (.loop (rec (if jump.isNone then .ready else .done) jump))) ∧
            W3.heap[w.heap.size + 1]? = some (.loop { rec .ready none with state := .busy }) ∧
            (W3.putObj (w.heap.size + 1) (.loop (rec (if jump.isNone then .ready else .done) jump))).heap[w.heap.size + 1]? = some (.loop (rec (if jump.isNone then .ready else .done) jump)) ∧
            (W3.putObj (w.heap.size + 1) (.loop (rec (if jump.isNone then .ready else .done) jump))).heap[w.heap.size]? = some (.deferred (some [])) := fun jump W3 hk3 => by
          have hl3 := hk3.same _ _ (by omega) hl2 rfl
          have := run_endRound (P := P) jump hl3
          rw [hrec] at this ⊢
          exact ⟨this, by rw [hrec] at hl3; exact hl3, World.putObj_heap_same (Array.getElem?_eq_some_iff.1 hl3).1, (World.putObj_heap_other (by omega)).trans (hk3.same _ _ (Nat.le_refl _) hk2 rfl)⟩
        rintro e a3 W3 hp
        cases e with
        | normal =>
          obtain ⟨hk3, hkp3, hi3⟩ := hp
          obtain ⟨hr, hl3, hl4, hk4⟩ := fin none W3 hk3
          exact ⟨_, _, hr, .inl ⟨rfl, ⟨(hI _).putObj _ hi3 (by omega) hl3 rfl, hl4, hk4⟩, hKt _ _ _ hwa (hKt _ _ _ (hKt _ _ _ hw2 hkp3) (hKb _ _ _ _ (by omega) hl3 rfl))⟩⟩
        | ret =>
          obtain ⟨hk3, hi3⟩ := hp
          obtain ⟨hr, hl3, hl4, hk4⟩ := fin (some .ret) W3 hk3
          exact ⟨_, _, hr, .inr ⟨rfl, .ret, (hIx _ _).putObj _ hi3 (by omega) hl3 rfl, hl4, hk4⟩⟩
        | exit id =>
          obtain ⟨hk3, hi3⟩ := hp
          obtain ⟨hr, hl3, hl4, hk4⟩ := fin (some (.exit id)) W3 hk3
          exact ⟨_, _, hr, .inr ⟨rfl, .exit id, (hIx _ _).putObj _ hi3 (by omega) hl3 rfl, hl4, hk4⟩⟩
        | goto t =>
          obtain ⟨hk3, hi3⟩ := hp
          obtain ⟨hr, hl3, hl4, hk4⟩ := fin (some (.goto t)) W3 hk3
          exact ⟨_, _, hr, .inr ⟨rfl, .goto t, (hIx _ _).putObj _ hi3 (by omega) hl3 rfl, hl4, hk4⟩⟩
        | panic ch => exact hp.elim
        | outgrown => exact hp.elim
      | ret => exact hp
      | exit id => exact hp
      | goto t => exact hp
      | panic ch => exact hp
      | outgrown => exact hp
    · -- behind the iterator
      rintro e W2 ⟨⟨v, rfl⟩, (⟨hi, hl, hk⟩ | ⟨k, hkN, c, hi, hl, hk⟩)⟩
      · exact ⟨none, _, by have := run_endLoop (P := P) hl (by rw [hrec]; simp); rw [hrec] at this; exact this, hdone _ _ (Nat.le_refl _) ((hI _).putObj _ hi (by omega) hl rfl) ((World.putObj_heap_other (by omega)).trans hk)⟩
      · exact ⟨some c, _, by have := run_endLoop (P := P) hl (by rw [hrec]; simp); rw [hrec] at this; exact this, hstop _ c k _ (Nat.le_refl _) hkN ((hIx _ _).putObj _ hi (by omega) hl rfl) ((World.putObj_heap_other (by omega)).trans hk)⟩

/-! ### What abides -/
theorem stable_boxed {own : Nat → Prop} {B b t : Nat} {v : Value} (ho : ¬ own b) (hb : b < B) : Stable own B (fun W => Boxed W b t v) :=
  fun X Y row hx hg hr => Boxed.kept hx hg (fun e => by
    rcases hr b e.symm with h | ⟨h, _⟩
    · exact ho h
    · omega)
theorem stable_below {own : Nat → Prop} {B : Nat} {w : World} (ho : ∀ r, own r → w.heap.size ≤ r) (hB : w.heap.size ≤ B) : Stable own B (fun W => Below w.heap.size w W) :=
  fun X Y row hx hg hr => hx.grown hg hx.size (fun r e => by
    rcases hr r e with h | ⟨h, _⟩
    · exact ho r h
    · omega)
theorem Stable.and {own : Nat → Prop} {B : Nat} {I J : World → Prop} (h : Stable own B I) (k : Stable own B J) : Stable own B (fun W => I W ∧ J W) :=
  fun X Y row hx hg hr => ⟨h X Y row hx.1 hg hr, k X Y row hx.2 hg hr⟩
theorem stable_pure {own : Nat → Prop} {B : Nat} (p : Prop) : Stable own B (fun _ => p) := fun _ _ _ hx _ _ => hx

end Go.Proofs.Ytefilalapkdegaa.Seq
