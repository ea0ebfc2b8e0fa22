/- Normal: whether a path is normal. -/
import Derived.Test.YtefilalapkdegaaPieces
namespace Go.Proofs.Ytefilalapkdegaa
open Go.RowKit Str Go.Shelf
attribute [local go_sem] Oper.semAt_some Seq.wide_fn Seq.wide_round_fn Seq.wide_depth Seq.wide_round_depth
set_option linter.unusedVariables false
set_option linter.unusedSimpArgs false

theorem dotted_any (s : ByteArray) (w : World) : Calls Try.prog 56 #[.string s] w fun e w' => e = .returned (.bool (Dots.dotted s.data.toList)) ∧ w = w' := by
  go_enter Try.func56, Try.ntmps56
  go_wp2
  all_goals go_ret
  all_goals exact ⟨ret_bool (by simp_all [Dots.dotted, toList_data]), rfl⟩

theorem normal_short (s : ByteArray) (w : World) (h : s.size = 0 ∨ 128 < s.size) : Calls Try.prog 35 #[.string s] w fun e w' => e = .returned (.bool false) ∧ Below w.heap.size w w' := by
  rcases h with h | h
  · have h1 : s.size < 1 := by omega
    clear h
    go_enter Try.func35, Try.ntmps35
    go_wp2
    exact bodyPost_ret (v := .bool false) (by simp [results, Try.results35, go_sem]) rfl ⟨rfl, (Below.refl _ _).alloc (Nat.le_refl _) _⟩
  · have h1 : ¬ s.size < 1 := by omega
    go_enter Try.func35, Try.ntmps35
    go_wp2
    exact bodyPost_ret (v := .bool false) (by simp [results, Try.results35, go_sem]) rfl ⟨rfl, (Below.refl _ _).alloc (Nat.le_refl _) _⟩

theorem normal_noslash (s : ByteArray) (w : World) (h0 : 0 < s.size) (h1 : s.size ≤ 128) (h : ((s[0].toNat : Int) != 47) = true) : Calls Try.prog 35 #[.string s] w fun e w' => e = .returned (.bool false) ∧ Below w.heap.size w w' := by
  have h2 : ¬ s.size < 1 := by omega
  have h3 : ¬ 128 < s.size := by omega
  go_enter Try.func35, Try.ntmps35
  go_wp2
  exact bodyPost_ret (v := .bool false) (by simp [results, Try.results35, go_sem]) rfl ⟨rfl, (Below.refl _ _).alloc (Nat.le_refl _) _⟩

/-- What holds when k pieces have been looked at. -/
def NormalI (w : World) (L : List (List UInt8)) (k : Nat) (W : World) : Prop :=
  Boxed W w.heap.size 4 (.bool false) ∧ Below w.heap.size w W ∧ ∀ j, j < k → Dots.okAt L j = true
/-- A piece has stopped the loop. -/
def NormalX (w : World) (L : List (List UInt8)) (c : Code) (k : Nat) (W : World) : Prop :=
  c = .ret ∧ Boxed W w.heap.size 4 (.bool false) ∧ Below w.heap.size w W ∧ Dots.okAt L k = false

theorem normalI_stable {w : World} {L : List (List UInt8)} {B k : Nat} (hB : w.heap.size + 1 < B) : Seq.Stable (· = w.heap.size + 1) B (NormalI w L k) := by
  rintro X Y row ⟨h1, h2, h3⟩ hg hr
  exact ⟨Seq.stable_boxed (own := (· = w.heap.size + 1)) (B := B) (by omega) (by omega) X Y row h1 hg hr, Seq.stable_below (own := (· = w.heap.size + 1)) (B := B) (by intro r e; omega) (by omega) X Y row h2 hg hr, h3⟩
theorem normalX_stable {w : World} {L : List (List UInt8)} {B k : Nat} {c : Code} (hB : w.heap.size + 1 < B) : Seq.Stable (· = w.heap.size + 1) B (NormalX w L c k) := by
  rintro X Y row ⟨h0, h1, h2, h3⟩ hg hr
  exact ⟨h0, Seq.stable_boxed (own := (· = w.heap.size + 1)) (B := B) (by omega) (by omega) X Y row h1 hg hr, Seq.stable_below (own := (· = w.heap.size + 1)) (B := B) (by intro r e; omega) (by omega) X Y row h2 hg hr, h3⟩

theorem normal_next {w : World} {L : List (List UInt8)} {B k : Nat} {a : Act} {W : World} (h : NormalI w L k W) (hk : Dots.okAt L k = true) :
    Seq.bodyEnd B (KeepBox (w.heap.size + 1)) (NormalI w L) (NormalX w L) k W .normal a W :=
  ⟨KeepsFrom.refl _ _, rfl, h.1, h.2.1, fun j hj => by
    by_cases e : j = k
    · rw [e]; exact hk
    · exact h.2.2 j (by omega)⟩
theorem normal_ret {w : World} {L : List (List UInt8)} {B k : Nat} {a : Act} {W : World} (h : NormalI w L k W) (hk : Dots.okAt L k = false) :
    Seq.bodyEnd B (KeepBox (w.heap.size + 1)) (NormalI w L) (NormalX w L) k W .ret a (W.setCell ⟨w.heap.size, 0, none⟩ (.bool false)) :=
  ⟨(KeepsOthers.setCell _ _ _).from _, rfl, h.1.set _, h.2.1.setCell (p := ⟨w.heap.size, 0, none⟩) (Nat.le_refl _) _, hk⟩

set_option maxHeartbeats 1000000 in
theorem normal_loop (s : ByteArray) (w : World) (h0 : 0 < s.size) (h1 : s.size ≤ 128) (h : ((s[0].toNat : Int) != 47) = false) (b : Bool)
    (hb1 : (∀ k, k < (Dots.split (s.extract 1 s.size).data.toList).length → Dots.okAt (Dots.split (s.extract 1 s.size).data.toList) k = true) → b = true)
    (hb2 : ∀ k, k < (Dots.split (s.extract 1 s.size).data.toList).length → Dots.okAt (Dots.split (s.extract 1 s.size).data.toList) k = false → b = false) :
    Calls Try.prog 35 #[.string s] w fun e w' => e = .returned (.bool b) ∧ Below w.heap.size w w' := by
  have hd1 : decide ((s.size : Int) < 1) = false := by simp; omega
  have hd2 : decide (128 < (s.size : Int)) = false := by simp; omega
  have hsz : (s.extract 1 s.size).size ≤ maxLen := by unfold maxLen; rw [ByteArray.size_extract]; omega
  refine (callsIn_wide (n := 5)).1 ?_
  refine callsIn_of_wp_marks Try.func35 rfl trivial ?_ rfl
  simp only [Try.ntmps35, List.size_toArray, List.length_cons, List.length_nil, Nat.reduceAdd, Nat.reduceSub, Array.replicate_succ, Array.replicate_zero, List.push_toArray, List.append_toArray, List.nil_append, List.cons_append]
  gi_wp2_with (gi_at_call 55; refine (callsIn_wide.2 (pieces_any _ _)).mono ?_; rintro e w' ⟨rfl, rfl⟩)
  obtain ⟨L, hL⟩ : ∃ L, L = Dots.split (s.extract 1 s.size).data.toList := ⟨_, rfl⟩
  have bR := (Boxed.new w 4 (.bool false)).alloc (.cells #[.string (s.extract 1 s.size)] 9)
  have bP := Boxed.new (w.alloc (.cells #[.bool false] 4)) 9 (.string (s.extract 1 s.size))
  rw [World.size_alloc] at bP
  have hB0 : Below w.heap.size w ((w.alloc (.cells #[.bool false] 4)).alloc (.cells #[.string (s.extract 1 s.size)] 9)) := ((Below.refl _ w).alloc (Nat.le_refl _) _).alloc (by simp) _
  have hseq := pieces_seq 4 _ _ hsz _ bP
  rw [← hL] at hb1 hb2 hseq
  clear hL
  refine Seq.wpIn_seq (gf := 84) (lb := #[.pointer (some ⟨w.heap.size + 1, 0, none⟩)]) rfl (enters_of Try.func84 (by kernel_rfl) rfl)
    hseq (fun a b c => KeepBox.trans a b c) (KeepBox.putObj (by simp)) (fun W W' hW hg => KeepBox.grown W W' (by simp at hW; omega) hg) (fun r e => by subst e; simp) (Below.refl _ _) (fun _ => rfl)
    (NormalI w L) (NormalX w L) ?sI ?sX ⟨bR, hB0, fun j hj => absurd hj (by omega)⟩ ?round ?done ?stop
  case sI => exact fun k => normalI_stable (by simp)
  case sX => exact fun c k => normalX_stable (by simp)
  case round =>
    rintro l k W hk ⟨hx, hbl, hok⟩ hl
    unfold pieceArgs
    gi_wp2
    refine ⟨World.grownBy.refl _ _, ?_⟩
    rintro W2 ⟨hx2, hbl2, hok2⟩ hg2
    have hc := hx2.cell
    have hf := hx2.frozen
    have hd := dotted_any (bs (Dots.pieceAt L k))
    rw [data_bs] at hd
    gi_wp2_with (gi_at_call 56; refine (CallsIn.inRound l (callsIn_wide.2 (hd _))).mono ?_; rintro e w' ⟨rfl, rfl⟩)
    all_goals first
      | (refine normal_next ⟨hx2, hbl2, hok2⟩ ?_; simp_all [Dots.okAt, Dots.okPiece]; done)
      | (refine normal_ret ⟨hx2, hbl2, hok2⟩ ?_; simp_all [Dots.okAt, Dots.okPiece]; done)
  case done =>
    rintro D W hD ⟨hx, hbl, hok⟩ hK
    have hc := hx.cell
    have hf := hx.frozen
    have hK2 := (KeepsOthers.setCell W ⟨w.heap.size, 0, none⟩ (.bool true)).same D _ hK rfl
    have hx2 := hx.set (.bool true)
    have hb3 : Below w.heap.size w ((W.setCell ⟨w.heap.size, 0, none⟩ (.bool true)).putObj D (.deferred none)) :=
      (hbl.setCell (p := ⟨w.heap.size, 0, none⟩) (Nat.le_refl _) _).grown (grownBy_putObj' _ _ _) ((hbl.setCell (p := ⟨w.heap.size, 0, none⟩) (Nat.le_refl _) _).size) (fun r e => by cases e; simp at hD; omega)
    have hc2 := (hx2.kept (grownBy_putObj' _ D (.deferred none)) (by simp at hD; simp; omega)).cell
    obtain rfl := hb1 hok
    gi_wp2
    refine ⟨by simp, .inl ⟨_, _, rfl, run_takeDeferred hK2, ?_⟩⟩
    exact ⟨.bool true, by simp [results, Try.results35, go_sem, hc2], rfl, hb3⟩
  case stop =>
    rintro D c k W hD hk ⟨rfl, hx, hbl, hok⟩ hK
    have hb2' : Below w.heap.size w (W.putObj D (.deferred none)) := hbl.grown (grownBy_putObj' _ _ _) hbl.size (fun r e => by cases e; simp at hD; omega)
    have hc2 := (hx.kept (grownBy_putObj' _ D (.deferred none)) (by simp at hD; simp; omega)).cell
    obtain rfl := hb2 k hk hok
    gi_wp2
    refine ⟨by simp, .inl ⟨_, _, rfl, run_takeDeferred hK, ?_⟩⟩
    exact ⟨.bool false, by simp [results, Try.results35, go_sem, hc2], rfl, hb2'⟩

/-- Normal, at every text. -/
theorem normal_any (s : ByteArray) (w : World) : Calls Try.prog 35 #[.string s] w fun e w' => e = .returned (.bool (Dots.normal s.data.toList)) ∧ Below w.heap.size w w' := by
  by_cases h0 : s.size = 0
  · have : Dots.normal s.data.toList = false := by
      have : s.data.toList = [] := List.eq_nil_of_length_eq_zero (by rw [← size_data]; exact h0)
      rw [this]; rfl
    rw [this]; exact normal_short s w (.inl h0)
  by_cases h1 : 128 < s.size
  · have : Dots.normal s.data.toList = false := by
      unfold Dots.normal
      have : decide (s.data.toList.length ≤ 128) = false := by rw [← size_data]; simp; omega
      rw [this, Bool.and_false, Bool.false_and]
    rw [this]; exact normal_short s w (.inr h1)
  have hp : 0 < s.size := by omega
  by_cases h2 : s[0] = 47
  · have hpath : Dots.isPath s.data.toList = true := by unfold Dots.isPath; rw [head_data s hp, h2]; rfl
    have e := Dots.normal_eq s.data.toList hpath (by rw [← size_data]; omega)
    rw [← extract_from] at e
    refine normal_loop s w hp (by omega) (by rw [h2]; rfl) _ (fun h => ?_) (fun k hk h => ?_)
    · rw [e]; exact Dots.all_ok h
    · rw [e]; exact Dots.not_all_ok hk h
  · have : Dots.normal s.data.toList = false := by
      unfold Dots.normal Dots.isPath
      rw [head_data s hp]
      simp [h2]
    rw [this]
    refine normal_noslash s w hp (by omega) ?_
    rw [bne_iff_ne]
    intro h
    exact h2 (UInt8.toNat_inj.1 (by simpa using Int.ofNat_inj.1 h))

end Go.Proofs.Ytefilalapkdegaa
