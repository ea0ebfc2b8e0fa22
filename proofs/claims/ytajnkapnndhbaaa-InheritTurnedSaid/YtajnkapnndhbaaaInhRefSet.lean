/- The rule set of a directory: the reference's. -/
import Derived.Test.YtajnkapnndhbaaaInhSet
namespace Go.Proofs.Ytajnkapnndhbaaa
open Go.RowKit Str Mem
set_option linter.unusedVariables false
set_option linter.unusedSimpArgs false

set_option maxHeartbeats 1000000 in
theorem refOwn_owns (a : Option Addr) (c : Nat) (L : List DirV) (j : Nat) (w : World) (hD : Dirs w a L.length L) (hs : Small L) (hj : j < L.length) :
    Calls Try.prog 44 #[.slice a L.length c, .int .i64 j] w fun e w' => ∃ v, e = .returned v ∧ Owns w' w.heap.size 24 2 v (Inh.own L j).length (scells (Inh.own L j)) ∧ Below w.heap.size w w' := by
  obtain ⟨i0, hi, hz0, hz1, hz2⟩ := info_parts infoSpot
  have hL := hs.1
  obtain ⟨ad, d, rfl, hbb, hls, c0, c1, c2⟩ := hD.fields hj
  have hrn : d.rn ≤ 80 := (hs.2 d (List.mem_of_getElem? hls)).1
  have hown0 : Inh.own L j = ownTo j d.rn := by rw [← ownTo_all, Inh.rnOf_get hls]
  rw [hown0]
  have la : (ad.add (j * 3)).block < w.heap.size := by rw [add_block]; exact hbb
  clear hls hown0
  go_enter Try.func44, Try.ntmps44
  go_wp2
  go_loopw [5, 6] (fun v i wr => OwnI w j d.rn v i wr) (fun _ i _ => d.rn - (intOf i).toNat)
  case atStart => exact ⟨0, rfl, Nat.zero_le _, Owns.nil _ _ _ _, Below.refl _ _⟩
  case round =>
    obtain ⟨k, rfl, hk, hown, hbl⟩ := hrel
    have hsz := hbl.size
    have hlen := ownTo_length j k
    have c2' : wr.cell? ⟨(ad.add (j * 3)).block, (ad.add (j * 3)).off + 2, none⟩ = some (.slice d.ra d.rn d.rc) := (World.cell?_of_block (w := w) (a := ⟨(ad.add (j * 3)).block, (ad.add (j * 3)).off + 2, none⟩) (hbl.block _ la)).trans c2
    by_cases hlt : k < d.rn
    · have Hn := Lib.hid (ownTo_succ j k)
      go_wp2_with (at_builtin; go_must (refine wpList_append_owns _ rfl _ _ 28 rfl w.heap.size 24 i0 (.agg #[.int .i64 0, .int .i64 0]) 2 16 Try.underlying28 hi hz0 hz1 hz2 rfl (by decide) _ _ _ rfl (hown.alloc _) _ 1 1 [.int .i64 j, .int .i64 k] rfl (Rd.pair_at _ _ _ _ _ (by simp)) (by simp [Value.oneCell']) (by simp only [maxLen]; omega) (by omega) (by simp; omega) ?_); intro v' w3 hown' hgrow)
      go_roundw
      case rel => exact ⟨k + 1, by go_num, by omega, by rw [Hn.out, scells_append, List.length_append]; exact hown', (hbl.alloc hbl.size _).grown hgrow (by simp; omega) (by intro j hj; exact (hown.lt j hj).1)⟩
      case measure => simp [intOf]; omega
    · obtain rfl : k = d.rn := by omega
      obtain ⟨a2, c3, rfl, _⟩ := id hown.form
      go_wp2
      go_ret
      exact ⟨_, rfl, hown, hbl⟩

theorem setOf_length {L : List DirV} (hs : Small L) : ∀ C : List Nat, (Inh.setOf L C).length ≤ 80 * C.length
  | [] => by simp [Inh.setOf]
  | d :: t => by
    have h1 := setOf_length hs t
    have h2 := rn_small hs d
    unfold Inh.setOf
    split
    · rw [List.length_append, Inh.own_length, List.length_cons]; omega
    · split
      · rw [List.length_append, Inh.own_length, List.length_cons]; omega
      · rw [Inh.own_length, List.length_cons]; omega
theorem set_length {L : List DirV} (hv : Inh.Valid L) (hs : Small L) (d : Int) (hd : d < L.length) : (Inh.set L d).length ≤ 10400 := by
  have h1 := setOf_length hs (Inh.chain L d)
  have h2 := Inh.chain_length hv 129 d hd (by
    unfold Inh.up
    split
    · omega
    · have := (Inh.valid_dir hv (show d.toNat < L.length by omega)).2.1; omega)
  unfold Inh.set
  omega
theorem set_step {L : List DirV} (hv : Inh.Valid L) {j : Nat} (hj : j < L.length) : Inh.set L j = if Inh.modeOf L j = 1 then Inh.set L (Inh.above L j) ++ Inh.own L j else if Inh.modeOf L j = 2 then Inh.own L j ++ Inh.set L (Inh.above L j) else Inh.own L j := by
  unfold Inh.set
  rw [Inh.chain_step hv hj]
  rfl
theorem set_neg (L : List DirV) {d : Int} (h : d < 0) : Inh.set L d = [] := by unfold Inh.set; rw [Inh.chain_neg L h]; rfl
theorem one_spot : ∀ (l : List Inh.Spot), ∀ u ∈ scells l, u.oneCell' = true := by
  intro l u hu
  unfold scells at hu
  obtain ⟨s, _, hs⟩ := List.mem_flatMap.1 hu
  simp [spotCells] at hs
  rcases hs with rfl | rfl <;> rfl

def SetPost (L : List DirV) (v : Int) (w : World) (e : Ending) (w' : World) : Prop :=
  ∃ val, e = .returned val ∧ Owns w' w.heap.size 24 2 val (Inh.set L v).length (scells (Inh.set L v)) ∧ Below w.heap.size w w'

theorem refSet_neg (a : Option Addr) (c : Nat) (L : List DirV) (v : Int) (hneg : v < 0) (w : World) : Calls Try.prog 42 #[.slice a L.length c, .int .i64 v] w fun e w' => SetPost L v w e w' := by
  unfold SetPost
  rw [set_neg L hneg]
  go_enter Try.func42, Try.ntmps42
  go_wp2
  go_ret
  exact ⟨_, rfl, Owns.nil _ _ _ _, Below.refl _ _⟩

set_option maxRecDepth 20000 in
set_option maxHeartbeats 4000000 in
theorem refSet_any (a : Option Addr) (c : Nat) (L : List DirV) (hv : Inh.Valid L) (hs : Small L) (n : Nat) : ∀ (v : Int), -1 ≤ v → v < L.length → Inh.up L v ≤ n → ∀ w, Dirs w a L.length L →
    Calls Try.prog 42 #[.slice a L.length c, .int .i64 v] w fun e w' => SetPost L v w e w' := by
  induction n with
  | zero =>
    intro v _ _ hn w _
    refine refSet_neg a c L v ?_ w
    unfold Inh.up at hn
    split at hn
    · assumption
    · omega
  | succ n' ih =>
    intro v hv1 hvL hn w hD
    obtain ⟨i0, hi, hz0, hz1, hz2⟩ := info_parts infoSpot
    by_cases hneg : v < 0
    · exact refSet_neg a c L v hneg w
    · unfold SetPost
      obtain ⟨j, rfl⟩ : ∃ j : Nat, v = j := ⟨v.toNat, by omega⟩
      have hj : j < L.length := by omega
      obtain ⟨ad, d, rfl, hbb, hls, c0, c1, c2⟩ := hD.fields hj
      have hup := Inh.up_less hv hj
      have hr := Inh.above_range L j
      have hdeep := fun w h => refAboveDeep_any (some ad) c L j d w h hs hls
      have hown := fun w h => refOwn_owns (some ad) c L j w h hs hj
      have hm := Inh.modeOf_get hls
      have hlen := set_length hv hs (Inh.above L j) hr.2
      have hol : (Inh.own L j).length ≤ 80 := by rw [Inh.own_length]; exact rn_small hs j
      rw [set_step hv hj, hm]
      obtain ⟨u, hu⟩ : ∃ u, u = Inh.above L j := ⟨_, rfl⟩
      rw [← hu] at hup hr hdeep hlen ⊢
      have hrec := fun w h => ih u hr.1 hr.2 (by omega) w h
      unfold SetPost at hrec
      obtain ⟨S, hS⟩ : ∃ S, S = Inh.set L u := ⟨_, rfl⟩
      obtain ⟨O, hO⟩ : ∃ O, O = Inh.own L j := ⟨_, rfl⟩
      rw [← hS] at hrec hlen ⊢
      rw [← hO] at hown hol ⊢
      have la : (ad.add (j * 3)).block < w.heap.size := by rw [add_block]; exact hbb
      clear hS hO hu hls hm
      have hcell : ∀ w', Below w.heap.size w w' → w'.cell? ⟨(ad.add (j * 3)).block, (ad.add (j * 3)).off + 1, none⟩ = some (.int .i64 d.mode) := fun w' h' => (World.cell?_of_block (w := w) (a := ⟨(ad.add (j * 3)).block, (ad.add (j * 3)).off + 1, none⟩) (h'.block _ la)).trans c1
      by_cases m1 : d.mode = 1
      · rw [if_pos m1]
        go_enter Try.func42, Try.ntmps42
        go_wp2_with (first
          | (go_at_call 54; refine (hdeep _ hD).mono ?_; rintro e w1 ⟨rfl, h1⟩; have c1' := hcell w1 h1)
          | (go_at_call 42; refine (hrec _ (hD.below h1)).mono ?_; rintro e w2 ⟨vs, rfl, os, h2⟩; obtain ⟨as', cs', rfl, _, _, _⟩ := id os.form; have g2 := h1.trans (h2.mono h1.size))
          | (go_at_call 44; refine (hown _ (hD.below g2)).mono ?_; rintro e w3 ⟨vo, rfl, oo, h3⟩; obtain ⟨ao, co, rfl, _, _, ro⟩ := id oo.form; have g3 := g2.trans (h3.mono g2.size))
          | (at_builtin; go_must (refine wpList_append_owns _ rfl _ _ 28 rfl w.heap.size 24 i0 (.agg #[.int .i64 0, .int .i64 0]) 2 16 Try.underlying28 hi hz0 hz1 hz2 rfl (by decide) _ S.length (scells S) rfl ((os.below h3 (Nat.le_refl _)).mono h1.size) ao O.length co (scells O) rfl ro (one_spot O) (by simp only [maxLen]; omega) (by omega) g3.size ?_); intro v' w4 hown' hgrow))
        go_ret
        refine ⟨_, rfl, ?_, g3.grown hgrow g3.size (fun r e => Nat.le_trans h1.size (os.lt r e).1)⟩
        rw [List.length_append, scells_append]
        exact hown'
      · rw [if_neg m1]
        by_cases m2 : d.mode = 2
        · rw [if_pos m2]
          go_enter Try.func42, Try.ntmps42
          go_wp2_with (first
            | (go_at_call 54; refine (hdeep _ hD).mono ?_; rintro e w1 ⟨rfl, h1⟩; have c1' := hcell w1 h1)
            | (go_at_call 44; refine (hown _ (hD.below h1)).mono ?_; rintro e w2 ⟨vo, rfl, oo, h2⟩; obtain ⟨ao, co, rfl, _, _, _⟩ := id oo.form; have g2 := h1.trans (h2.mono h1.size))
            | (go_at_call 42; refine (hrec _ (hD.below g2)).mono ?_; rintro e w3 ⟨vs, rfl, os, h3⟩; obtain ⟨as', cs', rfl, _, _, rs⟩ := id os.form; have g3 := g2.trans (h3.mono g2.size))
            | (at_builtin; go_must (refine wpList_append_owns _ rfl _ _ 28 rfl w.heap.size 24 i0 (.agg #[.int .i64 0, .int .i64 0]) 2 16 Try.underlying28 hi hz0 hz1 hz2 rfl (by decide) _ O.length (scells O) rfl ((oo.below h3 (Nat.le_refl _)).mono h1.size) as' S.length cs' (scells S) rfl rs (one_spot S) (by simp only [maxLen]; omega) (by omega) g3.size ?_); intro v' w4 hown' hgrow))
          go_ret
          refine ⟨_, rfl, ?_, g3.grown hgrow g3.size (fun r e => Nat.le_trans h1.size (oo.lt r e).1)⟩
          rw [List.length_append, scells_append]
          exact hown'
        · rw [if_neg m2]
          go_enter Try.func42, Try.ntmps42
          go_wp2_with (first
            | (go_at_call 54; refine (hdeep _ hD).mono ?_; rintro e w1 ⟨rfl, h1⟩; have c1' := hcell w1 h1)
            | (go_at_call 44; refine (hown _ (hD.below h1)).mono ?_; rintro e w2 ⟨vo, rfl, oo, h2⟩; obtain ⟨ao, co, rfl, _, _, _⟩ := id oo.form))
          go_ret
          exact ⟨_, rfl, oo.mono h1.size, h1.trans (h2.mono h1.size)⟩

end Go.Proofs.Ytajnkapnndhbaaa
