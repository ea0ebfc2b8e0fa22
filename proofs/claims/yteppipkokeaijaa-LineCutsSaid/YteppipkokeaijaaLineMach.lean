/- line.machine: what it is in memory; next. -/
import Derived.Test.YteppipkokeaijaaLineMade
import Derived.Defers
import Derived.Laws.BytesArg
import Derived.Lib.SlBytesRow
import Derived.Lib.SlFresh
namespace Go.Proofs.Yteppipkokeaijaa
open Go.RowKit Str Mem
set_option linter.unusedVariables false
set_option linter.unusedSimpArgs false

/-- Block mb is a machine. -/
def MState (w : World) (mb lim : Nat) (T : List UInt8) (lg : Bool) (v : Value) : Prop :=
  w.heap[mb]? = some (.cells #[.int .i64 (lim : Int), .string (bs T), .bool lg, v] 62 (0, 0))
/-- A slice of bytes, in block b, not in block mb, that reads as R. -/
def BSl (w : World) (mb b : Nat) (v : Value) (R : List UInt8) : Prop :=
  ∃ o c, v = .slice (some ⟨b, o, none⟩) R.length c ∧ R.length ≤ c ∧ c ≤ maxLen ∧ b ≠ mb ∧ b < w.heap.size ∧ ∀ i (h : i < R.length), w.cell? ⟨b, o + i, none⟩ = some (.int .u8 (R[i].toNat : Int))

section
variable {w w' : World} {mb b lim : Nat} {T R : List UInt8} {lg : Bool} {v : Value}
theorem MState.lt (h : MState w mb lim T lg v) : mb < w.heap.size := (Array.getElem?_eq_some_iff.1 h).1
theorem MState.cell0 (h : MState w mb lim T lg v) : w.cell? ⟨mb, 0, none⟩ = some (.int .i64 (lim : Int)) := by rw [Lib.cell_of_heap h]; rfl
theorem MState.cell1 (h : MState w mb lim T lg v) : w.cell? ⟨mb, 1, none⟩ = some (.string (bs T)) := by rw [Lib.cell_of_heap h]; rfl
theorem MState.cell2 (h : MState w mb lim T lg v) : w.cell? ⟨mb, 2, none⟩ = some (.bool lg) := by rw [Lib.cell_of_heap h]; rfl
theorem MState.cell3 (h : MState w mb lim T lg v) : w.cell? ⟨mb, 3, none⟩ = some v := by rw [Lib.cell_of_heap h]; rfl
theorem MState.frozen (h : MState w mb lim T lg v) (j : Nat) : w.frozen? ⟨mb, j, none⟩ = false := Lib.frozen_of_heap h j
theorem MState.kept (h : MState w mb lim T lg v) {row : Option Nat} (hg : w.grownBy w' row) (hr : row ≠ some mb) : MState w' mb lim T lg v := (hg.block _ h.lt (Ne.symm hr)).trans h
theorem MState.setT (h : MState w mb lim T lg v) (U : List UInt8) : MState (w.setCell ⟨mb, 1, none⟩ (.string (bs U))) mb lim U lg v := by
  unfold MState at h ⊢
  simp [World.setCell, Array.getElem?_modify, h]
theorem MState.setL (h : MState w mb lim T lg v) (b : Bool) : MState (w.setCell ⟨mb, 2, none⟩ (.bool b)) mb lim T b v := by
  unfold MState at h ⊢
  simp [World.setCell, Array.getElem?_modify, h]
theorem MState.setR (h : MState w mb lim T lg v) (u : Value) : MState (w.setCell ⟨mb, 3, none⟩ u) mb lim T lg u := by
  unfold MState at h ⊢
  simp [World.setCell, Array.getElem?_modify, h]
theorem BSl.keep (h : BSl w mb b v R) (hs : w.heap.size ≤ w'.heap.size) (hk : w'.heap[b]? = w.heap[b]?) : BSl w' mb b v R := by
  obtain ⟨o, c, h1, h2, h3, h4, h5, h6⟩ := h
  refine ⟨o, c, h1, h2, h3, h4, Nat.lt_of_lt_of_le h5 hs, fun i hi => ?_⟩
  rw [← h6 i hi]
  exact World.cell?_of_block (w := w) hk
theorem BSl.kept (h : BSl w mb b v R) {row : Option Nat} (hg : w.grownBy w' row) (hr : row = none ∨ row = some mb) : BSl w' mb b v R := by
  obtain ⟨o, c, h1, h2, h3, h4, h5, h6⟩ := h
  refine ⟨o, c, h1, h2, h3, h4, Nat.lt_of_lt_of_le h5 hg.size, fun i hi => ?_⟩
  rw [← h6 i hi]
  refine World.cell?_of_block (w := w) (hg.block _ h5 ?_)
  rcases hr with rfl | rfl
  · simp
  · simpa using h4
end

theorem grown_put {w W : World} {mb : Nat} (hg : w.grownBy W (some mb)) (j : Nat) (u : Value) : w.grownBy (W.setCell ⟨mb, j, none⟩ u) (some mb) := by
  refine ⟨hg.os, hg.tape, hg.output, ?_, fun k hk hne => ?_⟩
  · have := hg.size; simpa [World.setCell] using this
  · refine Eq.trans ?_ (hg.block k hk hne)
    exact Below.heap_setCell W _ u k (by simpa using hne)
theorem grown_refl (w : World) (row : Option Nat) : w.grownBy w row := ⟨rfl, rfl, rfl, Nat.le_refl _, fun _ _ _ => rfl⟩

/-- The deferred function. -/
theorem nextEnd_any (mb mx ax lim : Nat) (T : List UInt8) (lg : Bool) (v : Value) (aa : Option Addr) (na ca : Nat) (u : FrameMode) (w : World) (hm : MState w mb lim T lg v) (hmx : w.cell? ⟨mx, 0, none⟩ = some (.pointer (some ⟨mb, 0, none⟩))) (hax : w.cell? ⟨ax, 0, none⟩ = some (.slice aa na ca)) (h1 : mx ≠ mb) (h2 : ax ≠ mb) :
    CallsD Try.prog 44 #[.pointer (some ⟨ax, 0, none⟩), .pointer (some ⟨mx, 0, none⟩)] u w fun e u' w' => u' = u ∧ (e = .returned (.tuple #[]) ∧ MState w' mb lim (if lg then [] else T) lg (if lg then .slice none 0 0 else .slice aa na ca) ∧ w.grownBy w' (some mb)) := by
  have c1 := hm.cell1
  have c2 := hm.cell2
  have c3 := hm.cell3
  have f0 := hm.frozen
  have HM := Lib.hid hm
  clear hm
  go_enter_d Try.func44, Try.ntmps44
  rcases lg with _ | _
  · go_wp2
    go_end0
    refine ⟨rfl, ?_, ?_⟩
    · exact HM.out.setR _
    · exact grown_put (grown_refl _ _) _ _
  · go_wp2
    go_end0
    refine ⟨rfl, ?_, ?_⟩
    · exact ((HM.out.setR _).setT []).setR _
    · exact grown_put (grown_put (grown_put (grown_refl _ _) _ _) _ _) _ _

def lineV (x : List UInt8 × Bool) : Value := .agg #[.string (bs x.1), .bool x.2]

/-- What next leaves. -/
def NextPost (mb b lim : Nat) (T R : List UInt8) (w : World) (e : Ending) (w' : World) : Prop :=
  (∃ x v, (Ln.one lim T R).line = some x ∧ e = .returned (.tuple #[lineV x, .bool true]) ∧ MState w' mb lim [] false v ∧ BSl w' mb b v (Ln.one lim T R).rest ∧ w.grownBy w' (some mb)) ∨
  (∃ a c, (Ln.one lim T R).line = none ∧ e = .returned (.tuple #[lineV ([], false), .bool false]) ∧ MState w' mb lim (Ln.one lim T R).next.1 (Ln.one lim T R).next.2 (.slice a 0 c) ∧ w.grownBy w' (some mb))

theorem byteIndex (b o c : Nat) (R : List UInt8) (w : World) (hc : ∀ i (h : i < R.length), w.cell? ⟨b, o + i, none⟩ = some (.int .u8 (R[i].toNat : Int))) :
    Calls Try.prog 43 #[.slice (some ⟨b, o, none⟩) R.length c, .int .u8 10] w fun e w' => e = .returned (.int .i64 (Lib.indexByte R 10)) ∧ w' = w := by
  have h := sh_bytes_IndexByte b o R.length c (R.map fun x => (x.toNat : Int)) 10 w (by simp) (fun i hi => by
    rw [hc i hi]; simp [List.getD, hi])
  have e : Lib.bytesOf (R.map fun x => (x.toNat : Int)) = R := by
    unfold Lib.bytesOf
    rw [List.map_map]
    conv => rhs; rw [← List.map_id R]
    apply List.map_congr_left
    intro x _
    simp
  rw [e] at h
  exact h

theorem pre_post : ∀ R : List UInt8, (10 ∉ R ∧ Ln.pre R = R ∧ Ln.ends R = false) ∨ (R = Ln.pre R ++ 10 :: Ln.post R ∧ 10 ∉ Ln.pre R ∧ Ln.ends R = true)
  | [] => .inl ⟨by simp, rfl, rfl⟩
  | b :: l => by
    unfold Ln.pre Ln.post
    by_cases hb : b = 10
    · subst hb
      exact .inr ⟨by simp, by simp, by simp [Ln.ends]⟩
    · rw [if_neg hb, if_neg hb]
      rcases pre_post l with ⟨h1, h2, h3⟩ | ⟨h1, h2, h3⟩
      · exact .inl ⟨by simp [h1, Ne.symm hb], by rw [h2], by unfold Ln.ends at h3 ⊢; simpa [Ne.symm hb] using h3⟩
      · exact .inr ⟨by simp; exact h1, by simp [h2, Ne.symm hb], by unfold Ln.ends at h3 ⊢; simpa [Ne.symm hb] using h3⟩
theorem index_pre (R : List UInt8) : Lib.indexByte R 10 = if Ln.ends R then ((Ln.pre R).length : Int) else -1 := by
  rcases index_cases 10 R with ⟨a, t, he, ha, hi⟩ | ⟨hn, hi⟩
  · rcases pre_post R with ⟨h1, h2, h3⟩ | ⟨h1, h2, h3⟩
    · exact absurd (by rw [he]; simp) h1
    · rw [h3, hi, if_pos rfl]
      have : a = Ln.pre R := by
        rw [h1] at he
        exact (List.append_eq_append_iff.1 he).elim (fun ⟨x, h, k⟩ => by
          cases x with
          | nil => simpa using h
          | cons y z => simp at k; obtain ⟨rfl, k⟩ := k; rw [h] at ha; simp at ha) (fun ⟨x, h, k⟩ => by
          cases x with
          | nil => simpa using h.symm
          | cons y z => simp at k; obtain ⟨rfl, k⟩ := k; rw [h] at h2; simp at h2)
      rw [this]
  · rcases pre_post R with ⟨h1, h2, h3⟩ | ⟨h1, h2, h3⟩
    · rw [h3, hi]; rfl
    · exact absurd (by rw [h1]; simp) hn
end Go.Proofs.Yteppipkokeaijaa
