/- Chain: the reference's. -/
import Derived.Test.YtajnkapnndhbaaaInhRules
namespace Go.Proofs.Ytajnkapnndhbaaa
open Go.RowKit Str Mem
set_option linter.unusedVariables false
set_option linter.unusedSimpArgs false

theorem one_int : ∀ (l : List Int), ∀ u ∈ l.map iv, u.oneCell' = true := by
  intro l u hu
  obtain ⟨n, _, rfl⟩ := List.mem_map.1 hu
  rfl

theorem chain_129 {L : List DirV} (hv : Inh.Valid L) (hs : Small L) (d : Int) (hd : d < L.length) : (Inh.chain L d).length ≤ 129 :=
  Inh.chain_length hv 129 d hd (by
    unfold Inh.up
    split
    · omega
    · have := (Inh.valid_dir hv (show d.toNat < L.length by omega)).2.1; omega)

def ChainI (w : World) (L : List DirV) (C : List Nat) (v i : Value) (wr : World) : Prop :=
  ∃ (k : Nat) (x : Int), i = .int .i64 x ∧ -1 ≤ x ∧ x < L.length ∧ k ≤ C.length ∧ Inh.chain L x = C.drop k ∧ Owns wr w.heap.size 3 1 v k ((taken C k).map iv) ∧ Below w.heap.size w wr
def intZ : Value → Int | .int _ n => n | _ => 0

set_option maxRecDepth 20000 in
set_option maxHeartbeats 1000000 in
theorem refChain_any (a : Option Addr) (c : Nat) (L : List DirV) (d : Int) (w : World) (hD : Dirs w a L.length L) (hs : Small L) :
    Calls Try.prog 29 #[.slice a L.length c, .int .i64 d] w fun e w' => ChainPost L d w e w' := by
  have hq := fun w h => asked_any a c L d w h hs
  unfold ChainPost chainR
  by_cases hv : Inh.asked L d = 0
  · obtain ⟨hval, hd0, hdL⟩ := Inh.asked_ok hv
    obtain ⟨i0, hi, hz0, hz1, hz2⟩ := info_parts infoInt
    have hcl := chain_129 hval hs d hdL
    rw [hv] at hq
    rw [if_pos hv, hv]
    clear hv
    obtain ⟨C, hC⟩ : ∃ C, C = Inh.chain L d := ⟨_, rfl⟩
    rw [← hC] at hcl ⊢
    go_enter Try.func29, Try.ntmps29
    go_wp2_with (go_at_call 41; refine (hq _ hD).mono ?_; rintro e w1 ⟨rfl, h1⟩)
    go_loopw [7, 8] (fun v i wr => ChainI w L C v i wr) (fun _ i _ => Inh.up L (intZ i))
    case atStart => exact ⟨0, d, rfl, by omega, hdL, Nat.zero_le _, by simp [hC], Owns.nil _ _ _ _, h1⟩
    case round =>
      obtain ⟨k, x, rfl, hx1, hxL, hk, hch, hown, hbl⟩ := hrel
      by_cases hneg : x < 0
      · rw [Inh.chain_neg L hneg] at hch
        have hkC : k = C.length := by
          have := congrArg List.length hch
          simp at this; omega
        subst hkC
        have htk : taken C C.length = nums C := by unfold taken; rw [List.take_length]
        rw [htk] at hown
        obtain ⟨a', c', rfl, h3, h4, h5⟩ := id hown.form
        go_wp2
        go_ret2
        exact ⟨a', c', rfl, h5, h3, h4, hbl⟩
      · obtain ⟨j, rfl⟩ : ∃ j : Nat, x = j := ⟨x.toNat, by omega⟩
        have hj : j < L.length := by omega
        obtain ⟨ad, dv, rfl, hbb, hls, c0, c1, c2⟩ := hD.fields hj
        have hup := Inh.up_less hval hj
        have hr := Inh.above_range L j
        have hdeep := fun w h => refAboveDeep_any (some ad) c L j dv w h hs hls
        rw [Inh.chain_step hval hj] at hch
        have hkC : k < C.length := by
          have := congrArg List.length hch
          simp at this; omega
        have hn : nthOf C k = j := by
          have := congrArg (fun l => l[0]?) hch
          simp at this
          simp [nthOf, List.getD, ← this]
        have hch' : Inh.chain L (Inh.above L j) = C.drop (k + 1) := by
          have := congrArg List.tail hch
          simpa [List.tail_drop] using this
        have hsucc := taken_succ hkC
        rw [hn] at hsucc
        have Hn := Lib.hid hsucc
        have htl := taken_length hk
        have la : (ad.add (j * 3)).block < w.heap.size := by rw [add_block]; exact hbb
        obtain ⟨u, hu⟩ : ∃ u, u = Inh.above L j := ⟨_, rfl⟩
        rw [← hu] at hup hr hdeep hch'
        clear hsucc hch hu hls hn
        have hsz := hbl.size
        go_wp2_with (first
          | (go_at_call 54; refine (hdeep _ (by first | exact hD'' | assumption)).mono ?_; rintro e w4 ⟨rfl, h4⟩)
          | (at_builtin; go_must (refine wpList_append_owns _ rfl _ _ 44 rfl w.heap.size 3 i0 (.int .i64 0) 1 8 Try.underlying44 hi hz0 hz1 hz2 rfl (by decide) _ _ _ rfl (hown.alloc _) _ 1 1 [.int .i64 j] rfl (Rd.one_at _ _ _ _ (by simp)) (by simp [Value.oneCell']) (by simp only [maxLen]; omega) (by omega) (by simp; omega) ?_); intro v' w3 hown' hgrow; have hb3 := (hbl.alloc hbl.size (.cells #[.int .i64 j] 3)).grown hgrow (by simp; omega) (by intro r hr; exact (hown.lt r hr).1); have hD'' := hD.below hb3; have c0' : w3.cell? (ad.add (j * 3)) = some (.string ⟨dv.path.toArray⟩) := (World.cell?_of_block (w := w) (a := ad.add (j * 3)) (hb3.block _ la)).trans c0))
        go_roundw
        case rel => exact ⟨k + 1, u, rfl, hr.1, hr.2, by omega, hch', by rw [Hn.out, List.map_append]; exact hown'.below h4 (Nat.le_refl _), hb3.trans (h4.mono hb3.size)⟩
        case measure => simp [intZ]; omega
  · rw [if_neg hv]
    obtain ⟨n, hn⟩ : ∃ n, n = Inh.asked L d := ⟨_, rfl⟩
    rw [← hn] at hq hv ⊢
    clear hn
    go_enter Try.func29, Try.ntmps29
    go_wp2_with (go_at_call 41; refine (hq _ hD).mono ?_; rintro e w1 ⟨rfl, h1⟩)
    go_ret2
    exact ⟨none, 0, rfl, Rd.nil _ _ _, Nat.le_refl _, by simp [maxLen], h1⟩

end Go.Proofs.Ytajnkapnndhbaaa
