/- The deepest directory that is something: the program's, at each of its two closures. -/
import Derived.Test.YtajnkapnndhbaaaInhDeep
import Derived.Test.YtajnkapnndhbaaaReg
namespace Go.Proofs.Ytajnkapnndhbaaa
open Go.RowKit Str Mem
set_option linter.unusedVariables false
set_option linter.unusedSimpArgs false

/-- What a closure of one integer answers, from this world on. -/
def Answers (F : Nat) (caps : List Value) (n : Nat) (f : Nat → Bool) (w : World) : Prop :=
  ∀ i, i < n → ∀ w', Below w.heap.size w w' → Calls Try.prog F (#[.int .i64 i] ++ caps.toArray) w' fun e w2 => e = .returned (.bool (f i)) ∧ Below w'.heap.size w' w2

def DeepI (w : World) (L : List DirV) (f : Nat → Bool) (b i : Value) (wr : World) : Prop :=
  ∃ k : Nat, i = .int .i64 k ∧ k ≤ L.length ∧ b = .int .i64 (Inh.deepTo L f k) ∧ Below w.heap.size w wr

theorem deepNext (L : List DirV) (f : Nat → Bool) (k : Nat) : Inh.deepTo L f (k + 1) = if f k && (decide (Inh.deepTo L f k < 0) || decide (Inh.plen L (Inh.deepTo L f k).toNat < Inh.plen L k)) then (k : Int) else Inh.deepTo L f k := rfl

set_option maxRecDepth 20000 in
set_option maxHeartbeats 2000000 in
theorem deepest_find (a : Option Addr) (c : Nat) (L : List DirV) (f : Nat → Bool) (pb tb : Addr) (w : World) (hD : Dirs w a L.length L) (hs : Small L)
    (hF : Answers 65 [.pointer (some pb), .pointer (some tb)] L.length f w) :
    Calls Try.prog 64 #[.slice a L.length c, .func (.func 65) #[] #[.pointer (some pb), .pointer (some tb)]] w fun e w' => e = .returned (.int .i64 (Inh.deepest L f)) ∧ Below w.heap.size w w' := by
  have hL12 := hs.1
  go_enter Try.func64, Try.ntmps64
  go_wp2
  go_loopw [5, 9] (fun b i wr => DeepI w L f b i wr) (fun _ i _ => L.length - (intOf i).toNat)
  case atStart => exact ⟨0, rfl, Nat.zero_le _, rfl, Below.refl _ _⟩
  case round =>
    obtain ⟨k, rfl, hk, rfl, hbl⟩ := hrel
    have hsz := hbl.size
    by_cases hlt : k < L.length
    · have hD2 := hD.below hbl
      obtain ⟨ad, d, rfl, hbb, hls, c0, c1, c2⟩ := hD2.fields hlt
      have hn := deepNext L f k
      have hpl := Inh.plen_get hls
      have hr := Inh.deepTo_range L f k
      have hq := fun w' h' => hF k hlt w' (hbl.trans (Below.mono h' hbl.size))
      have la : (ad.add (k * 3)).block < wr.heap.size := by rw [add_block]; exact hbb
      have hdl : d.path.length ≤ 200 := (hs.2 d (List.mem_of_getElem? hls)).2
      obtain ⟨b, hb⟩ : ∃ b, b = Inh.deepTo L f k := ⟨_, rfl⟩
      rw [← hb] at hn hr ⊢
      have hkL : (k : Int) < (L.length : Int) := by omega
      have hk0 : (0 : Int) ≤ (k : Int) := by omega
      rcases hfk : f k with _ | _
      · rw [hfk] at hn hq
        simp only [Bool.false_and] at hn
        rw [if_neg (by simp)] at hn
        have Hn := Lib.hid hn
        clear hn hls hb hpl
        go_wp2
        refine wp_region_noPanic ?_
        refine wp_region_held_drew (S := fun w' => w'.cell? (ad.add (k * 3)) = some (.string ⟨d.path.toArray⟩)) (by kernel_rfl) ?_ (fun hH => ?_)
        · exact c0
        refine Reg.take (i := 0) (u := ?b1_v0) rfl rfl rfl (by kernel_rfl) (by kernel_rfl) (by kernel_rfl) hH ?b1_y0 ?b1_r0
        case b1_y0 => (intro w hSw; (try dsimp only at hSw); go_simp; try (with_reducible rfl))
        case' b1_r0 => simp only [List.setIfInBounds_toArray, List.set_cons_zero, List.set_cons_succ]
        refine Reg.take (i := 1) (u := ?b1_v1) rfl rfl rfl (by kernel_rfl) (by kernel_rfl) (by kernel_rfl) hH ?b1_y1 ?b1_r1
        case b1_y1 => (intro w hSw; (try dsimp only at hSw); go_simp; try (with_reducible rfl))
        case' b1_r1 => simp only [List.setIfInBounds_toArray, List.set_cons_zero, List.set_cons_succ]
        refine Reg.only (i := 2) rfl (Reg.wanted_free rfl) (by kernel_rfl) (fun K hK => ?_)
        go_simp
        go_at_call 65; refine (hq _ (below_drewN (Below.refl _ wr) 1)).mono ?_; rintro e w2 ⟨rfl, h2⟩; go_simp
        refine hK.out _ _ ?_ (fun hH2 => ?_)
        · exact (by show w2.cell? _ = _; rw [World.cell?_of_block (h2.block _ la)]; exact c0)
        clear hK hH
        have hH := hH2; clear hH2
        try simp only [Act.put, List.setIfInBounds_toArray, List.set_cons_zero, List.set_cons_succ]
        refine Reg.take (i := 3) (u := ?b1_v3) rfl rfl rfl (by kernel_rfl) (by kernel_rfl) (by kernel_rfl) hH ?b1_y3 ?b1_r3
        case b1_y3 => (intro w hSw; (try dsimp only at hSw); go_simp; try (with_reducible rfl))
        case' b1_r3 => simp only [List.setIfInBounds_toArray, List.set_cons_zero, List.set_cons_succ]
        refine Reg.skip (i := 4) rfl rfl rfl rfl rfl (by first | exact Value.noConfusion | (intro h; cases h)) (by kernel_rfl) (by kernel_rfl) (by kernel_rfl) hH ?_
        simp only [List.setIfInBounds_toArray, List.set_cons_zero, List.set_cons_succ]
        refine Reg.skip (i := 5) rfl rfl rfl rfl rfl (by first | exact Value.noConfusion | (intro h; cases h)) (by kernel_rfl) (by kernel_rfl) (by kernel_rfl) hH ?_
        simp only [List.setIfInBounds_toArray, List.set_cons_zero, List.set_cons_succ]
        refine Reg.skip (i := 6) rfl rfl rfl rfl rfl (by first | exact Value.noConfusion | (intro h; cases h)) (by kernel_rfl) (by kernel_rfl) (by kernel_rfl) hH ?_
        simp only [List.setIfInBounds_toArray, List.set_cons_zero, List.set_cons_succ]
        refine Reg.skip (i := 7) rfl rfl rfl rfl rfl (by first | exact Value.noConfusion | (intro h; cases h)) (by kernel_rfl) (by kernel_rfl) (by kernel_rfl) hH ?_
        simp only [List.setIfInBounds_toArray, List.set_cons_zero, List.set_cons_succ]
        refine Reg.skip (i := 8) rfl rfl rfl rfl rfl (by first | exact Value.noConfusion | (intro h; cases h)) (by kernel_rfl) (by kernel_rfl) (by kernel_rfl) hH ?_
        simp only [List.setIfInBounds_toArray, List.set_cons_zero, List.set_cons_succ]
        refine Reg.skip (i := 9) rfl rfl rfl rfl rfl (by first | exact Value.noConfusion | (intro h; cases h)) (by kernel_rfl) (by kernel_rfl) (by kernel_rfl) hH ?_
        simp only [List.setIfInBounds_toArray, List.set_cons_zero, List.set_cons_succ]
        refine Reg.skip (i := 10) rfl rfl rfl rfl rfl (by first | exact Value.noConfusion | (intro h; cases h)) (by kernel_rfl) (by kernel_rfl) (by kernel_rfl) hH ?_
        simp only [List.setIfInBounds_toArray, List.set_cons_zero, List.set_cons_succ]
        refine Reg.skip (i := 11) rfl rfl rfl rfl rfl (by first | exact Value.noConfusion | (intro h; cases h)) (by kernel_rfl) (by kernel_rfl) (by kernel_rfl) hH ?_
        simp only [List.setIfInBounds_toArray, List.set_cons_zero, List.set_cons_succ]
        refine Reg.skip (i := 12) rfl rfl rfl rfl rfl (by first | exact Value.noConfusion | (intro h; cases h)) (by kernel_rfl) (by kernel_rfl) (by kernel_rfl) hH ?_
        simp only [List.setIfInBounds_toArray, List.set_cons_zero, List.set_cons_succ]
        refine Reg.skip (i := 13) rfl rfl rfl rfl rfl (by first | exact Value.noConfusion | (intro h; cases h)) (by kernel_rfl) (by kernel_rfl) (by kernel_rfl) hH ?_
        simp only [List.setIfInBounds_toArray, List.set_cons_zero, List.set_cons_succ]
        refine Reg.skip (i := 14) rfl rfl rfl rfl rfl (by first | exact Value.noConfusion | (intro h; cases h)) (by kernel_rfl) (by kernel_rfl) (by kernel_rfl) hH ?_
        simp only [List.setIfInBounds_toArray, List.set_cons_zero, List.set_cons_succ]
        refine Reg.skip (i := 15) rfl rfl rfl rfl rfl (by first | exact Value.noConfusion | (intro h; cases h)) (by kernel_rfl) (by kernel_rfl) (by kernel_rfl) hH ?_
        simp only [List.setIfInBounds_toArray, List.set_cons_zero, List.set_cons_succ]
        refine Reg.skip (i := 16) rfl rfl rfl rfl rfl (by first | exact Value.noConfusion | (intro h; cases h)) (by kernel_rfl) (by kernel_rfl) (by kernel_rfl) hH ?_
        simp only [List.setIfInBounds_toArray, List.set_cons_zero, List.set_cons_succ]
        refine Reg.skip (i := 17) rfl rfl rfl rfl rfl (by first | exact Value.noConfusion | (intro h; cases h)) (by kernel_rfl) (by kernel_rfl) (by kernel_rfl) hH ?_
        simp only [List.setIfInBounds_toArray, List.set_cons_zero, List.set_cons_succ]
        refine Reg.skip (i := 18) rfl rfl rfl rfl rfl (by first | exact Value.noConfusion | (intro h; cases h)) (by kernel_rfl) (by kernel_rfl) (by kernel_rfl) hH ?_
        simp only [List.setIfInBounds_toArray, List.set_cons_zero, List.set_cons_succ]
        refine Reg.skip (i := 19) rfl rfl rfl rfl rfl (by first | exact Value.noConfusion | (intro h; cases h)) (by kernel_rfl) (by kernel_rfl) (by kernel_rfl) hH ?_
        simp only [List.setIfInBounds_toArray, List.set_cons_zero, List.set_cons_succ]
        refine Reg.skip (i := 20) rfl rfl rfl rfl rfl (by first | exact Value.noConfusion | (intro h; cases h)) (by kernel_rfl) (by kernel_rfl) (by kernel_rfl) hH ?_
        simp only [List.setIfInBounds_toArray, List.set_cons_zero, List.set_cons_succ]
        refine Reg.take (i := 21) (u := ?b1_v21) rfl rfl rfl (by kernel_rfl) (by kernel_rfl) (by kernel_rfl) hH ?b1_y21 ?b1_r21
        case b1_y21 => (intro w hSw; (try dsimp only at hSw); go_simp; try (with_reducible rfl))
        case' b1_r21 => simp only [List.setIfInBounds_toArray, List.set_cons_zero, List.set_cons_succ]
        refine wpAnyH_done (by kernel_rfl) ?_ _
        refine NoPanic.normal ?_
        go_wp2
        go_roundw
        case rel => exact ⟨k + 1, by go_num, by omega, by rw [Hn.out], hbl.trans (below_of_drew h2 hsz)⟩
        case measure => simp [intOf]; omega
      · rw [hfk] at hn hq
        by_cases hneg : b < 0
        · have hb0 : decide (b < 0) = true := decide_eq_true hneg
          rw [if_pos (by rw [hb0]; simp)] at hn
          have Hn := Lib.hid hn
          clear hn hls hb hpl
          go_wp2
          refine wp_region_noPanic ?_
          refine wp_region_held_drew (S := fun w' => w'.cell? (ad.add (k * 3)) = some (.string ⟨d.path.toArray⟩)) (by kernel_rfl) ?_ (fun hH => ?_)
          · exact c0
          refine Reg.take (i := 0) (u := ?b2_v0) rfl rfl rfl (by kernel_rfl) (by kernel_rfl) (by kernel_rfl) hH ?b2_y0 ?b2_r0
          case b2_y0 => (intro w hSw; (try dsimp only at hSw); go_simp; try (with_reducible rfl))
          case' b2_r0 => simp only [List.setIfInBounds_toArray, List.set_cons_zero, List.set_cons_succ]
          refine Reg.take (i := 1) (u := ?b2_v1) rfl rfl rfl (by kernel_rfl) (by kernel_rfl) (by kernel_rfl) hH ?b2_y1 ?b2_r1
          case b2_y1 => (intro w hSw; (try dsimp only at hSw); go_simp; try (with_reducible rfl))
          case' b2_r1 => simp only [List.setIfInBounds_toArray, List.set_cons_zero, List.set_cons_succ]
          refine Reg.only (i := 2) rfl (Reg.wanted_free rfl) (by kernel_rfl) (fun K hK => ?_)
          go_simp
          go_at_call 65; refine (hq _ (below_drewN (Below.refl _ wr) 1)).mono ?_; rintro e w2 ⟨rfl, h2⟩; go_simp
          refine hK.out _ _ ?_ (fun hH2 => ?_)
          · exact (by show w2.cell? _ = _; rw [World.cell?_of_block (h2.block _ la)]; exact c0)
          clear hK hH
          have hH := hH2; clear hH2
          try simp only [Act.put, List.setIfInBounds_toArray, List.set_cons_zero, List.set_cons_succ]
          refine Reg.take (i := 3) (u := ?b2_v3) rfl rfl rfl (by kernel_rfl) (by kernel_rfl) (by kernel_rfl) hH ?b2_y3 ?b2_r3
          case b2_y3 => (intro w hSw; (try dsimp only at hSw); go_simp; try (with_reducible rfl))
          case' b2_r3 => simp only [List.setIfInBounds_toArray, List.set_cons_zero, List.set_cons_succ]
          refine Reg.takeIf (i := 4) (u := ?b2_v4) rfl rfl rfl rfl rfl (by kernel_rfl) (by kernel_rfl) (by kernel_rfl) hH ?b2_y4 ?b2_r4
          case b2_y4 => (intro w hSw; (try dsimp only at hSw); go_simp; try (with_reducible rfl))
          case' b2_r4 => simp only [List.setIfInBounds_toArray, List.set_cons_zero, List.set_cons_succ]
          refine Reg.takeIf (i := 5) (u := ?b2_v5) rfl rfl rfl rfl rfl (by kernel_rfl) (by kernel_rfl) (by kernel_rfl) hH ?b2_y5 ?b2_r5
          case b2_y5 => (intro w hSw; (try dsimp only at hSw); go_simp; try (with_reducible rfl))
          case' b2_r5 => simp only [List.setIfInBounds_toArray, List.set_cons_zero, List.set_cons_succ]
          try simp only [hb0]
          refine Reg.takeIf (i := 6) (u := ?b2_v6) rfl rfl rfl rfl rfl (by kernel_rfl) (by kernel_rfl) (by kernel_rfl) hH ?b2_y6 ?b2_r6
          case b2_y6 => (intro w hSw; (try dsimp only at hSw); go_simp; try (with_reducible rfl))
          case' b2_r6 => simp only [List.setIfInBounds_toArray, List.set_cons_zero, List.set_cons_succ]
          refine Reg.skip (i := 7) rfl rfl rfl rfl rfl (by first | exact Value.noConfusion | (intro h; cases h)) (by kernel_rfl) (by kernel_rfl) (by kernel_rfl) hH ?_
          simp only [List.setIfInBounds_toArray, List.set_cons_zero, List.set_cons_succ]
          refine Reg.skip (i := 8) rfl rfl rfl rfl rfl (by first | exact Value.noConfusion | (intro h; cases h)) (by kernel_rfl) (by kernel_rfl) (by kernel_rfl) hH ?_
          simp only [List.setIfInBounds_toArray, List.set_cons_zero, List.set_cons_succ]
          refine Reg.skip (i := 9) rfl rfl rfl rfl rfl (by first | exact Value.noConfusion | (intro h; cases h)) (by kernel_rfl) (by kernel_rfl) (by kernel_rfl) hH ?_
          simp only [List.setIfInBounds_toArray, List.set_cons_zero, List.set_cons_succ]
          refine Reg.skip (i := 10) rfl rfl rfl rfl rfl (by first | exact Value.noConfusion | (intro h; cases h)) (by kernel_rfl) (by kernel_rfl) (by kernel_rfl) hH ?_
          simp only [List.setIfInBounds_toArray, List.set_cons_zero, List.set_cons_succ]
          refine Reg.skip (i := 11) rfl rfl rfl rfl rfl (by first | exact Value.noConfusion | (intro h; cases h)) (by kernel_rfl) (by kernel_rfl) (by kernel_rfl) hH ?_
          simp only [List.setIfInBounds_toArray, List.set_cons_zero, List.set_cons_succ]
          refine Reg.skip (i := 12) rfl rfl rfl rfl rfl (by first | exact Value.noConfusion | (intro h; cases h)) (by kernel_rfl) (by kernel_rfl) (by kernel_rfl) hH ?_
          simp only [List.setIfInBounds_toArray, List.set_cons_zero, List.set_cons_succ]
          refine Reg.skip (i := 13) rfl rfl rfl rfl rfl (by first | exact Value.noConfusion | (intro h; cases h)) (by kernel_rfl) (by kernel_rfl) (by kernel_rfl) hH ?_
          simp only [List.setIfInBounds_toArray, List.set_cons_zero, List.set_cons_succ]
          refine Reg.skip (i := 14) rfl rfl rfl rfl rfl (by first | exact Value.noConfusion | (intro h; cases h)) (by kernel_rfl) (by kernel_rfl) (by kernel_rfl) hH ?_
          simp only [List.setIfInBounds_toArray, List.set_cons_zero, List.set_cons_succ]
          refine Reg.skip (i := 15) rfl rfl rfl rfl rfl (by first | exact Value.noConfusion | (intro h; cases h)) (by kernel_rfl) (by kernel_rfl) (by kernel_rfl) hH ?_
          simp only [List.setIfInBounds_toArray, List.set_cons_zero, List.set_cons_succ]
          refine Reg.skip (i := 16) rfl rfl rfl rfl rfl (by first | exact Value.noConfusion | (intro h; cases h)) (by kernel_rfl) (by kernel_rfl) (by kernel_rfl) hH ?_
          simp only [List.setIfInBounds_toArray, List.set_cons_zero, List.set_cons_succ]
          refine Reg.skip (i := 17) rfl rfl rfl rfl rfl (by first | exact Value.noConfusion | (intro h; cases h)) (by kernel_rfl) (by kernel_rfl) (by kernel_rfl) hH ?_
          simp only [List.setIfInBounds_toArray, List.set_cons_zero, List.set_cons_succ]
          refine Reg.skip (i := 18) rfl rfl rfl rfl rfl (by first | exact Value.noConfusion | (intro h; cases h)) (by kernel_rfl) (by kernel_rfl) (by kernel_rfl) hH ?_
          simp only [List.setIfInBounds_toArray, List.set_cons_zero, List.set_cons_succ]
          refine Reg.skip (i := 19) rfl rfl rfl rfl rfl (by first | exact Value.noConfusion | (intro h; cases h)) (by kernel_rfl) (by kernel_rfl) (by kernel_rfl) hH ?_
          simp only [List.setIfInBounds_toArray, List.set_cons_zero, List.set_cons_succ]
          refine Reg.takeIf (i := 20) (u := ?b2_v20) rfl rfl rfl rfl rfl (by kernel_rfl) (by kernel_rfl) (by kernel_rfl) hH ?b2_y20 ?b2_r20
          case b2_y20 => (intro w hSw; (try dsimp only at hSw); go_simp; try (with_reducible rfl))
          case' b2_r20 => simp only [List.setIfInBounds_toArray, List.set_cons_zero, List.set_cons_succ]
          refine Reg.take (i := 21) (u := ?b2_v21) rfl rfl rfl (by kernel_rfl) (by kernel_rfl) (by kernel_rfl) hH ?b2_y21 ?b2_r21
          case b2_y21 => (intro w hSw; (try dsimp only at hSw); go_simp; try (with_reducible rfl))
          case' b2_r21 => simp only [List.setIfInBounds_toArray, List.set_cons_zero, List.set_cons_succ]
          refine wpAnyH_done (by kernel_rfl) ?_ _
          refine NoPanic.normal ?_
          go_wp2
          go_roundw
          case rel => exact ⟨k + 1, by go_num, by omega, by rw [Hn.out], hbl.trans (below_of_drew h2 hsz)⟩
          case measure => simp [intOf]; omega
        · have hb1 : decide (b < 0) = false := decide_eq_false hneg
          obtain ⟨m, rfl⟩ : ∃ m : Nat, b = m := ⟨b.toNat, by omega⟩
          have hmL : m < L.length := by omega
          obtain ⟨ad', dm, ea, hbm, hlm, x0, x1, x2⟩ := hD2.fields hmL
          cases ea
          have hplm := Inh.plen_get hlm
          have lm : (ad.add (m * 3)).block < wr.heap.size := by rw [add_block]; exact hbb
          have hmL' : (m : Int) < (L.length : Int) := by omega
          have hm0 : (0 : Int) ≤ (m : Int) := by omega
          have hdm : dm.path.length ≤ 200 := (hs.2 dm (List.mem_of_getElem? hlm)).2
          simp only [Int.toNat_natCast] at hn
          simp only [hpl, hplm, hb1, Bool.true_and, Bool.false_or, decide_eq_true_eq] at hn
          by_cases hcmp : dm.path.length < d.path.length
          · rw [if_pos hcmp] at hn
            have Hn := Lib.hid hn
            have hcmp' : (dm.path.length : Int) < (d.path.length : Int) := by omega
            clear hn hls hlm hb hpl hplm
            go_wp2
            refine wp_region_noPanic ?_
            refine wp_region_held_drew (S := fun w' => w'.cell? (ad.add (k * 3)) = some (.string ⟨d.path.toArray⟩) ∧ w'.cell? (ad.add (m * 3)) = some (.string ⟨dm.path.toArray⟩)) (by kernel_rfl) ?_ (fun hH => ?_)
            · exact ⟨c0, x0⟩
            refine Reg.take (i := 0) (u := ?b3_v0) rfl rfl rfl (by kernel_rfl) (by kernel_rfl) (by kernel_rfl) hH ?b3_y0 ?b3_r0
            case b3_y0 => (intro w hSw; (try dsimp only at hSw); go_simp; try (with_reducible rfl))
            case' b3_r0 => simp only [List.setIfInBounds_toArray, List.set_cons_zero, List.set_cons_succ]
            refine Reg.take (i := 1) (u := ?b3_v1) rfl rfl rfl (by kernel_rfl) (by kernel_rfl) (by kernel_rfl) hH ?b3_y1 ?b3_r1
            case b3_y1 => (intro w hSw; (try dsimp only at hSw); go_simp; try (with_reducible rfl))
            case' b3_r1 => simp only [List.setIfInBounds_toArray, List.set_cons_zero, List.set_cons_succ]
            refine Reg.only (i := 2) rfl (Reg.wanted_free rfl) (by kernel_rfl) (fun K hK => ?_)
            go_simp
            go_at_call 65; refine (hq _ (below_drewN (Below.refl _ wr) 1)).mono ?_; rintro e w2 ⟨rfl, h2⟩; go_simp
            refine hK.out _ _ ?_ (fun hH2 => ?_)
            · exact ⟨by show w2.cell? _ = _; rw [World.cell?_of_block (h2.block _ la)]; exact c0, by show w2.cell? _ = _; rw [World.cell?_of_block (h2.block _ lm)]; exact x0⟩
            clear hK hH
            have hH := hH2; clear hH2
            try simp only [Act.put, List.setIfInBounds_toArray, List.set_cons_zero, List.set_cons_succ]
            refine Reg.take (i := 3) (u := ?b3_v3) rfl rfl rfl (by kernel_rfl) (by kernel_rfl) (by kernel_rfl) hH ?b3_y3 ?b3_r3
            case b3_y3 => (intro w hSw; (try dsimp only at hSw); go_simp; try (with_reducible rfl))
            case' b3_r3 => simp only [List.setIfInBounds_toArray, List.set_cons_zero, List.set_cons_succ]
            refine Reg.takeIf (i := 4) (u := ?b3_v4) rfl rfl rfl rfl rfl (by kernel_rfl) (by kernel_rfl) (by kernel_rfl) hH ?b3_y4 ?b3_r4
            case b3_y4 => (intro w hSw; (try dsimp only at hSw); go_simp; try (with_reducible rfl))
            case' b3_r4 => simp only [List.setIfInBounds_toArray, List.set_cons_zero, List.set_cons_succ]
            refine Reg.takeIf (i := 5) (u := ?b3_v5) rfl rfl rfl rfl rfl (by kernel_rfl) (by kernel_rfl) (by kernel_rfl) hH ?b3_y5 ?b3_r5
            case b3_y5 => (intro w hSw; (try dsimp only at hSw); go_simp; try (with_reducible rfl))
            case' b3_r5 => simp only [List.setIfInBounds_toArray, List.set_cons_zero, List.set_cons_succ]
            try simp only [hb1]
            refine Reg.takeIf (i := 6) (u := ?b3_v6) rfl rfl rfl rfl rfl (by kernel_rfl) (by kernel_rfl) (by kernel_rfl) hH ?b3_y6 ?b3_r6
            case b3_y6 => (intro w hSw; (try dsimp only at hSw); go_simp; try (with_reducible rfl))
            case' b3_r6 => simp only [List.setIfInBounds_toArray, List.set_cons_zero, List.set_cons_succ]
            refine Reg.takeIf (i := 7) (u := ?b3_v7) rfl rfl rfl rfl rfl (by kernel_rfl) (by kernel_rfl) (by kernel_rfl) hH ?b3_y7 ?b3_r7
            case b3_y7 => (intro w hSw; (try dsimp only at hSw); go_simp; try (with_reducible rfl))
            case' b3_r7 => simp only [List.setIfInBounds_toArray, List.set_cons_zero, List.set_cons_succ]
            refine Reg.takeIf (i := 8) (u := ?b3_v8) rfl rfl rfl rfl rfl (by kernel_rfl) (by kernel_rfl) (by kernel_rfl) hH ?b3_y8 ?b3_r8
            case b3_y8 => (intro w hSw; (try dsimp only at hSw); go_simp; try (with_reducible rfl))
            case' b3_r8 => simp only [List.setIfInBounds_toArray, List.set_cons_zero, List.set_cons_succ]
            refine Reg.takeIf (i := 9) (u := ?b3_v9) rfl rfl rfl rfl rfl (by kernel_rfl) (by kernel_rfl) (by kernel_rfl) hH ?b3_y9 ?b3_r9
            case b3_y9 => (intro w hSw; (try dsimp only at hSw); go_simp; try (with_reducible rfl))
            case' b3_r9 => simp only [List.setIfInBounds_toArray, List.set_cons_zero, List.set_cons_succ]
            refine Reg.takeIf (i := 10) (u := ?b3_v10) rfl rfl rfl rfl rfl (by kernel_rfl) (by kernel_rfl) (by kernel_rfl) hH ?b3_y10 ?b3_r10
            case b3_y10 => (intro w hSw; (try dsimp only at hSw); go_simp; try (with_reducible rfl))
            case' b3_r10 => simp only [List.setIfInBounds_toArray, List.set_cons_zero, List.set_cons_succ]
            refine Reg.takeIf (i := 11) (u := ?b3_v11) rfl rfl rfl rfl rfl (by kernel_rfl) (by kernel_rfl) (by kernel_rfl) hH ?b3_y11 ?b3_r11
            case b3_y11 => (intro w hSw; (try dsimp only at hSw); go_simp; try (with_reducible rfl))
            case' b3_r11 => simp only [List.setIfInBounds_toArray, List.set_cons_zero, List.set_cons_succ]
            refine Reg.takeIf (i := 12) (u := ?b3_v12) rfl rfl rfl rfl rfl (by kernel_rfl) (by kernel_rfl) (by kernel_rfl) hH ?b3_y12 ?b3_r12
            case b3_y12 => (intro w hSw; (try dsimp only at hSw); go_simp; try (with_reducible rfl))
            case' b3_r12 => simp only [List.setIfInBounds_toArray, List.set_cons_zero, List.set_cons_succ]
            refine Reg.takeIf (i := 13) (u := ?b3_v13) rfl rfl rfl rfl rfl (by kernel_rfl) (by kernel_rfl) (by kernel_rfl) hH ?b3_y13 ?b3_r13
            case b3_y13 => (intro w hSw; (try dsimp only at hSw); go_simp; try (with_reducible rfl))
            case' b3_r13 => simp only [List.setIfInBounds_toArray, List.set_cons_zero, List.set_cons_succ]
            refine Reg.takeIf (i := 14) (u := ?b3_v14) rfl rfl rfl rfl rfl (by kernel_rfl) (by kernel_rfl) (by kernel_rfl) hH ?b3_y14 ?b3_r14
            case b3_y14 => (intro w hSw; (try dsimp only at hSw); go_simp; try (with_reducible rfl))
            case' b3_r14 => simp only [List.setIfInBounds_toArray, List.set_cons_zero, List.set_cons_succ]
            refine Reg.takeIf (i := 15) (u := ?b3_v15) rfl rfl rfl rfl rfl (by kernel_rfl) (by kernel_rfl) (by kernel_rfl) hH ?b3_y15 ?b3_r15
            case b3_y15 => (intro w hSw; (try dsimp only at hSw); go_simp; try (with_reducible rfl))
            case' b3_r15 => simp only [List.setIfInBounds_toArray, List.set_cons_zero, List.set_cons_succ]
            refine Reg.takeIf (i := 16) (u := ?b3_v16) rfl rfl rfl rfl rfl (by kernel_rfl) (by kernel_rfl) (by kernel_rfl) hH ?b3_y16 ?b3_r16
            case b3_y16 => (intro w hSw; (try dsimp only at hSw); go_simp; try (with_reducible rfl))
            case' b3_r16 => simp only [List.setIfInBounds_toArray, List.set_cons_zero, List.set_cons_succ]
            refine Reg.takeIf (i := 17) (u := ?b3_v17) rfl rfl rfl rfl rfl (by kernel_rfl) (by kernel_rfl) (by kernel_rfl) hH ?b3_y17 ?b3_r17
            case b3_y17 => (intro w hSw; (try dsimp only at hSw); go_simp; try (with_reducible rfl))
            case' b3_r17 => simp only [List.setIfInBounds_toArray, List.set_cons_zero, List.set_cons_succ]
            refine Reg.takeIf (i := 18) (u := ?b3_v18) rfl rfl rfl rfl rfl (by kernel_rfl) (by kernel_rfl) (by kernel_rfl) hH ?b3_y18 ?b3_r18
            case b3_y18 => (intro w hSw; (try dsimp only at hSw); go_simp; try (with_reducible rfl))
            case' b3_r18 => simp only [List.setIfInBounds_toArray, List.set_cons_zero, List.set_cons_succ]
            refine Reg.takeIf (i := 19) (u := ?b3_v19) rfl rfl rfl rfl rfl (by kernel_rfl) (by kernel_rfl) (by kernel_rfl) hH ?b3_y19 ?b3_r19
            case b3_y19 => (intro w hSw; (try dsimp only at hSw); go_simp; try (with_reducible rfl))
            case' b3_r19 => simp only [List.setIfInBounds_toArray, List.set_cons_zero, List.set_cons_succ]
            refine Reg.takeIf (i := 20) (u := ?b3_v20) rfl rfl rfl rfl rfl (by kernel_rfl) (by kernel_rfl) (by kernel_rfl) hH ?b3_y20 ?b3_r20
            case b3_y20 => (intro w hSw; (try dsimp only at hSw); go_simp; try (with_reducible rfl))
            case' b3_r20 => simp only [List.setIfInBounds_toArray, List.set_cons_zero, List.set_cons_succ]
            refine Reg.take (i := 21) (u := ?b3_v21) rfl rfl rfl (by kernel_rfl) (by kernel_rfl) (by kernel_rfl) hH ?b3_y21 ?b3_r21
            case b3_y21 => (intro w hSw; (try dsimp only at hSw); go_simp; try (with_reducible rfl))
            case' b3_r21 => simp only [List.setIfInBounds_toArray, List.set_cons_zero, List.set_cons_succ]
            refine wpAnyH_done (by kernel_rfl) ?_ _
            refine NoPanic.normal ?_
            go_wp2
            go_roundw
            case rel => exact ⟨k + 1, by go_num, by omega, by rw [Hn.out], hbl.trans (below_of_drew h2 hsz)⟩
            case measure => simp [intOf]; omega
          · rw [if_neg hcmp] at hn
            have Hn := Lib.hid hn
            have hcmp' : ¬ (dm.path.length : Int) < (d.path.length : Int) := by omega
            clear hn hls hlm hb hpl hplm
            go_wp2
            refine wp_region_noPanic ?_
            refine wp_region_held_drew (S := fun w' => w'.cell? (ad.add (k * 3)) = some (.string ⟨d.path.toArray⟩) ∧ w'.cell? (ad.add (m * 3)) = some (.string ⟨dm.path.toArray⟩)) (by kernel_rfl) ?_ (fun hH => ?_)
            · exact ⟨c0, x0⟩
            refine Reg.take (i := 0) (u := ?b4_v0) rfl rfl rfl (by kernel_rfl) (by kernel_rfl) (by kernel_rfl) hH ?b4_y0 ?b4_r0
            case b4_y0 => (intro w hSw; (try dsimp only at hSw); go_simp; try (with_reducible rfl))
            case' b4_r0 => simp only [List.setIfInBounds_toArray, List.set_cons_zero, List.set_cons_succ]
            refine Reg.take (i := 1) (u := ?b4_v1) rfl rfl rfl (by kernel_rfl) (by kernel_rfl) (by kernel_rfl) hH ?b4_y1 ?b4_r1
            case b4_y1 => (intro w hSw; (try dsimp only at hSw); go_simp; try (with_reducible rfl))
            case' b4_r1 => simp only [List.setIfInBounds_toArray, List.set_cons_zero, List.set_cons_succ]
            refine Reg.only (i := 2) rfl (Reg.wanted_free rfl) (by kernel_rfl) (fun K hK => ?_)
            go_simp
            go_at_call 65; refine (hq _ (below_drewN (Below.refl _ wr) 1)).mono ?_; rintro e w2 ⟨rfl, h2⟩; go_simp
            refine hK.out _ _ ?_ (fun hH2 => ?_)
            · exact ⟨by show w2.cell? _ = _; rw [World.cell?_of_block (h2.block _ la)]; exact c0, by show w2.cell? _ = _; rw [World.cell?_of_block (h2.block _ lm)]; exact x0⟩
            clear hK hH
            have hH := hH2; clear hH2
            try simp only [Act.put, List.setIfInBounds_toArray, List.set_cons_zero, List.set_cons_succ]
            refine Reg.take (i := 3) (u := ?b4_v3) rfl rfl rfl (by kernel_rfl) (by kernel_rfl) (by kernel_rfl) hH ?b4_y3 ?b4_r3
            case b4_y3 => (intro w hSw; (try dsimp only at hSw); go_simp; try (with_reducible rfl))
            case' b4_r3 => simp only [List.setIfInBounds_toArray, List.set_cons_zero, List.set_cons_succ]
            refine Reg.takeIf (i := 4) (u := ?b4_v4) rfl rfl rfl rfl rfl (by kernel_rfl) (by kernel_rfl) (by kernel_rfl) hH ?b4_y4 ?b4_r4
            case b4_y4 => (intro w hSw; (try dsimp only at hSw); go_simp; try (with_reducible rfl))
            case' b4_r4 => simp only [List.setIfInBounds_toArray, List.set_cons_zero, List.set_cons_succ]
            refine Reg.takeIf (i := 5) (u := ?b4_v5) rfl rfl rfl rfl rfl (by kernel_rfl) (by kernel_rfl) (by kernel_rfl) hH ?b4_y5 ?b4_r5
            case b4_y5 => (intro w hSw; (try dsimp only at hSw); go_simp; try (with_reducible rfl))
            case' b4_r5 => simp only [List.setIfInBounds_toArray, List.set_cons_zero, List.set_cons_succ]
            try simp only [hb1]
            refine Reg.takeIf (i := 6) (u := ?b4_v6) rfl rfl rfl rfl rfl (by kernel_rfl) (by kernel_rfl) (by kernel_rfl) hH ?b4_y6 ?b4_r6
            case b4_y6 => (intro w hSw; (try dsimp only at hSw); go_simp; try (with_reducible rfl))
            case' b4_r6 => simp only [List.setIfInBounds_toArray, List.set_cons_zero, List.set_cons_succ]
            refine Reg.takeIf (i := 7) (u := ?b4_v7) rfl rfl rfl rfl rfl (by kernel_rfl) (by kernel_rfl) (by kernel_rfl) hH ?b4_y7 ?b4_r7
            case b4_y7 => (intro w hSw; (try dsimp only at hSw); go_simp; try (with_reducible rfl))
            case' b4_r7 => simp only [List.setIfInBounds_toArray, List.set_cons_zero, List.set_cons_succ]
            refine Reg.takeIf (i := 8) (u := ?b4_v8) rfl rfl rfl rfl rfl (by kernel_rfl) (by kernel_rfl) (by kernel_rfl) hH ?b4_y8 ?b4_r8
            case b4_y8 => (intro w hSw; (try dsimp only at hSw); go_simp; try (with_reducible rfl))
            case' b4_r8 => simp only [List.setIfInBounds_toArray, List.set_cons_zero, List.set_cons_succ]
            refine Reg.takeIf (i := 9) (u := ?b4_v9) rfl rfl rfl rfl rfl (by kernel_rfl) (by kernel_rfl) (by kernel_rfl) hH ?b4_y9 ?b4_r9
            case b4_y9 => (intro w hSw; (try dsimp only at hSw); go_simp; try (with_reducible rfl))
            case' b4_r9 => simp only [List.setIfInBounds_toArray, List.set_cons_zero, List.set_cons_succ]
            refine Reg.takeIf (i := 10) (u := ?b4_v10) rfl rfl rfl rfl rfl (by kernel_rfl) (by kernel_rfl) (by kernel_rfl) hH ?b4_y10 ?b4_r10
            case b4_y10 => (intro w hSw; (try dsimp only at hSw); go_simp; try (with_reducible rfl))
            case' b4_r10 => simp only [List.setIfInBounds_toArray, List.set_cons_zero, List.set_cons_succ]
            refine Reg.takeIf (i := 11) (u := ?b4_v11) rfl rfl rfl rfl rfl (by kernel_rfl) (by kernel_rfl) (by kernel_rfl) hH ?b4_y11 ?b4_r11
            case b4_y11 => (intro w hSw; (try dsimp only at hSw); go_simp; try (with_reducible rfl))
            case' b4_r11 => simp only [List.setIfInBounds_toArray, List.set_cons_zero, List.set_cons_succ]
            refine Reg.takeIf (i := 12) (u := ?b4_v12) rfl rfl rfl rfl rfl (by kernel_rfl) (by kernel_rfl) (by kernel_rfl) hH ?b4_y12 ?b4_r12
            case b4_y12 => (intro w hSw; (try dsimp only at hSw); go_simp; try (with_reducible rfl))
            case' b4_r12 => simp only [List.setIfInBounds_toArray, List.set_cons_zero, List.set_cons_succ]
            refine Reg.takeIf (i := 13) (u := ?b4_v13) rfl rfl rfl rfl rfl (by kernel_rfl) (by kernel_rfl) (by kernel_rfl) hH ?b4_y13 ?b4_r13
            case b4_y13 => (intro w hSw; (try dsimp only at hSw); go_simp; try (with_reducible rfl))
            case' b4_r13 => simp only [List.setIfInBounds_toArray, List.set_cons_zero, List.set_cons_succ]
            refine Reg.takeIf (i := 14) (u := ?b4_v14) rfl rfl rfl rfl rfl (by kernel_rfl) (by kernel_rfl) (by kernel_rfl) hH ?b4_y14 ?b4_r14
            case b4_y14 => (intro w hSw; (try dsimp only at hSw); go_simp; try (with_reducible rfl))
            case' b4_r14 => simp only [List.setIfInBounds_toArray, List.set_cons_zero, List.set_cons_succ]
            refine Reg.takeIf (i := 15) (u := ?b4_v15) rfl rfl rfl rfl rfl (by kernel_rfl) (by kernel_rfl) (by kernel_rfl) hH ?b4_y15 ?b4_r15
            case b4_y15 => (intro w hSw; (try dsimp only at hSw); go_simp; try (with_reducible rfl))
            case' b4_r15 => simp only [List.setIfInBounds_toArray, List.set_cons_zero, List.set_cons_succ]
            refine Reg.takeIf (i := 16) (u := ?b4_v16) rfl rfl rfl rfl rfl (by kernel_rfl) (by kernel_rfl) (by kernel_rfl) hH ?b4_y16 ?b4_r16
            case b4_y16 => (intro w hSw; (try dsimp only at hSw); go_simp; try (with_reducible rfl))
            case' b4_r16 => simp only [List.setIfInBounds_toArray, List.set_cons_zero, List.set_cons_succ]
            refine Reg.takeIf (i := 17) (u := ?b4_v17) rfl rfl rfl rfl rfl (by kernel_rfl) (by kernel_rfl) (by kernel_rfl) hH ?b4_y17 ?b4_r17
            case b4_y17 => (intro w hSw; (try dsimp only at hSw); go_simp; try (with_reducible rfl))
            case' b4_r17 => simp only [List.setIfInBounds_toArray, List.set_cons_zero, List.set_cons_succ]
            refine Reg.takeIf (i := 18) (u := ?b4_v18) rfl rfl rfl rfl rfl (by kernel_rfl) (by kernel_rfl) (by kernel_rfl) hH ?b4_y18 ?b4_r18
            case b4_y18 => (intro w hSw; (try dsimp only at hSw); go_simp; try (with_reducible rfl))
            case' b4_r18 => simp only [List.setIfInBounds_toArray, List.set_cons_zero, List.set_cons_succ]
            refine Reg.takeIf (i := 19) (u := ?b4_v19) rfl rfl rfl rfl rfl (by kernel_rfl) (by kernel_rfl) (by kernel_rfl) hH ?b4_y19 ?b4_r19
            case b4_y19 => (intro w hSw; (try dsimp only at hSw); go_simp; try (with_reducible rfl))
            case' b4_r19 => simp only [List.setIfInBounds_toArray, List.set_cons_zero, List.set_cons_succ]
            refine Reg.takeIf (i := 20) (u := ?b4_v20) rfl rfl rfl rfl rfl (by kernel_rfl) (by kernel_rfl) (by kernel_rfl) hH ?b4_y20 ?b4_r20
            case b4_y20 => (intro w hSw; (try dsimp only at hSw); go_simp; try (with_reducible rfl))
            case' b4_r20 => simp only [List.setIfInBounds_toArray, List.set_cons_zero, List.set_cons_succ]
            refine Reg.take (i := 21) (u := ?b4_v21) rfl rfl rfl (by kernel_rfl) (by kernel_rfl) (by kernel_rfl) hH ?b4_y21 ?b4_r21
            case b4_y21 => (intro w hSw; (try dsimp only at hSw); go_simp; try (with_reducible rfl))
            case' b4_r21 => simp only [List.setIfInBounds_toArray, List.set_cons_zero, List.set_cons_succ]
            refine wpAnyH_done (by kernel_rfl) ?_ _
            refine NoPanic.normal ?_
            go_wp2
            go_roundw
            case rel => exact ⟨k + 1, by go_num, by omega, by rw [Hn.out], hbl.trans (below_of_drew h2 hsz)⟩
            case measure => simp [intOf]; omega
    · obtain rfl : k = L.length := by omega
      go_wp2
      go_ret
      exact ⟨rfl, hbl⟩

set_option maxRecDepth 20000 in
set_option maxHeartbeats 2000000 in
theorem deepest_above (a : Option Addr) (c : Nat) (L : List DirV) (f : Nat → Bool) (pb tb : Addr) (w : World) (hD : Dirs w a L.length L) (hs : Small L)
    (hF : Answers 70 [.pointer (some pb), .pointer (some tb)] L.length f w) :
    Calls Try.prog 64 #[.slice a L.length c, .func (.func 70) #[] #[.pointer (some pb), .pointer (some tb)]] w fun e w' => e = .returned (.int .i64 (Inh.deepest L f)) ∧ Below w.heap.size w w' := by
  have hL12 := hs.1
  go_enter Try.func64, Try.ntmps64
  go_wp2
  go_loopw [5, 9] (fun b i wr => DeepI w L f b i wr) (fun _ i _ => L.length - (intOf i).toNat)
  case atStart => exact ⟨0, rfl, Nat.zero_le _, rfl, Below.refl _ _⟩
  case round =>
    obtain ⟨k, rfl, hk, rfl, hbl⟩ := hrel
    have hsz := hbl.size
    by_cases hlt : k < L.length
    · have hD2 := hD.below hbl
      obtain ⟨ad, d, rfl, hbb, hls, c0, c1, c2⟩ := hD2.fields hlt
      have hn := deepNext L f k
      have hpl := Inh.plen_get hls
      have hr := Inh.deepTo_range L f k
      have hq := fun w' h' => hF k hlt w' (hbl.trans (Below.mono h' hbl.size))
      have la : (ad.add (k * 3)).block < wr.heap.size := by rw [add_block]; exact hbb
      have hdl : d.path.length ≤ 200 := (hs.2 d (List.mem_of_getElem? hls)).2
      obtain ⟨b, hb⟩ : ∃ b, b = Inh.deepTo L f k := ⟨_, rfl⟩
      rw [← hb] at hn hr ⊢
      have hkL : (k : Int) < (L.length : Int) := by omega
      have hk0 : (0 : Int) ≤ (k : Int) := by omega
      rcases hfk : f k with _ | _
      · rw [hfk] at hn hq
        simp only [Bool.false_and] at hn
        rw [if_neg (by simp)] at hn
        have Hn := Lib.hid hn
        clear hn hls hb hpl
        go_wp2
        refine wp_region_noPanic ?_
        refine wp_region_held_drew (S := fun w' => w'.cell? (ad.add (k * 3)) = some (.string ⟨d.path.toArray⟩)) (by kernel_rfl) ?_ (fun hH => ?_)
        · exact c0
        refine Reg.take (i := 0) (u := ?b5_v0) rfl rfl rfl (by kernel_rfl) (by kernel_rfl) (by kernel_rfl) hH ?b5_y0 ?b5_r0
        case b5_y0 => (intro w hSw; (try dsimp only at hSw); go_simp; try (with_reducible rfl))
        case' b5_r0 => simp only [List.setIfInBounds_toArray, List.set_cons_zero, List.set_cons_succ]
        refine Reg.take (i := 1) (u := ?b5_v1) rfl rfl rfl (by kernel_rfl) (by kernel_rfl) (by kernel_rfl) hH ?b5_y1 ?b5_r1
        case b5_y1 => (intro w hSw; (try dsimp only at hSw); go_simp; try (with_reducible rfl))
        case' b5_r1 => simp only [List.setIfInBounds_toArray, List.set_cons_zero, List.set_cons_succ]
        refine Reg.only (i := 2) rfl (Reg.wanted_free rfl) (by kernel_rfl) (fun K hK => ?_)
        go_simp
        go_at_call 70; refine (hq _ (below_drewN (Below.refl _ wr) 1)).mono ?_; rintro e w2 ⟨rfl, h2⟩; go_simp
        refine hK.out _ _ ?_ (fun hH2 => ?_)
        · exact (by show w2.cell? _ = _; rw [World.cell?_of_block (h2.block _ la)]; exact c0)
        clear hK hH
        have hH := hH2; clear hH2
        try simp only [Act.put, List.setIfInBounds_toArray, List.set_cons_zero, List.set_cons_succ]
        refine Reg.take (i := 3) (u := ?b5_v3) rfl rfl rfl (by kernel_rfl) (by kernel_rfl) (by kernel_rfl) hH ?b5_y3 ?b5_r3
        case b5_y3 => (intro w hSw; (try dsimp only at hSw); go_simp; try (with_reducible rfl))
        case' b5_r3 => simp only [List.setIfInBounds_toArray, List.set_cons_zero, List.set_cons_succ]
        refine Reg.skip (i := 4) rfl rfl rfl rfl rfl (by first | exact Value.noConfusion | (intro h; cases h)) (by kernel_rfl) (by kernel_rfl) (by kernel_rfl) hH ?_
        simp only [List.setIfInBounds_toArray, List.set_cons_zero, List.set_cons_succ]
        refine Reg.skip (i := 5) rfl rfl rfl rfl rfl (by first | exact Value.noConfusion | (intro h; cases h)) (by kernel_rfl) (by kernel_rfl) (by kernel_rfl) hH ?_
        simp only [List.setIfInBounds_toArray, List.set_cons_zero, List.set_cons_succ]
        refine Reg.skip (i := 6) rfl rfl rfl rfl rfl (by first | exact Value.noConfusion | (intro h; cases h)) (by kernel_rfl) (by kernel_rfl) (by kernel_rfl) hH ?_
        simp only [List.setIfInBounds_toArray, List.set_cons_zero, List.set_cons_succ]
        refine Reg.skip (i := 7) rfl rfl rfl rfl rfl (by first | exact Value.noConfusion | (intro h; cases h)) (by kernel_rfl) (by kernel_rfl) (by kernel_rfl) hH ?_
        simp only [List.setIfInBounds_toArray, List.set_cons_zero, List.set_cons_succ]
        refine Reg.skip (i := 8) rfl rfl rfl rfl rfl (by first | exact Value.noConfusion | (intro h; cases h)) (by kernel_rfl) (by kernel_rfl) (by kernel_rfl) hH ?_
        simp only [List.setIfInBounds_toArray, List.set_cons_zero, List.set_cons_succ]
        refine Reg.skip (i := 9) rfl rfl rfl rfl rfl (by first | exact Value.noConfusion | (intro h; cases h)) (by kernel_rfl) (by kernel_rfl) (by kernel_rfl) hH ?_
        simp only [List.setIfInBounds_toArray, List.set_cons_zero, List.set_cons_succ]
        refine Reg.skip (i := 10) rfl rfl rfl rfl rfl (by first | exact Value.noConfusion | (intro h; cases h)) (by kernel_rfl) (by kernel_rfl) (by kernel_rfl) hH ?_
        simp only [List.setIfInBounds_toArray, List.set_cons_zero, List.set_cons_succ]
        refine Reg.skip (i := 11) rfl rfl rfl rfl rfl (by first | exact Value.noConfusion | (intro h; cases h)) (by kernel_rfl) (by kernel_rfl) (by kernel_rfl) hH ?_
        simp only [List.setIfInBounds_toArray, List.set_cons_zero, List.set_cons_succ]
        refine Reg.skip (i := 12) rfl rfl rfl rfl rfl (by first | exact Value.noConfusion | (intro h; cases h)) (by kernel_rfl) (by kernel_rfl) (by kernel_rfl) hH ?_
        simp only [List.setIfInBounds_toArray, List.set_cons_zero, List.set_cons_succ]
        refine Reg.skip (i := 13) rfl rfl rfl rfl rfl (by first | exact Value.noConfusion | (intro h; cases h)) (by kernel_rfl) (by kernel_rfl) (by kernel_rfl) hH ?_
        simp only [List.setIfInBounds_toArray, List.set_cons_zero, List.set_cons_succ]
        refine Reg.skip (i := 14) rfl rfl rfl rfl rfl (by first | exact Value.noConfusion | (intro h; cases h)) (by kernel_rfl) (by kernel_rfl) (by kernel_rfl) hH ?_
        simp only [List.setIfInBounds_toArray, List.set_cons_zero, List.set_cons_succ]
        refine Reg.skip (i := 15) rfl rfl rfl rfl rfl (by first | exact Value.noConfusion | (intro h; cases h)) (by kernel_rfl) (by kernel_rfl) (by kernel_rfl) hH ?_
        simp only [List.setIfInBounds_toArray, List.set_cons_zero, List.set_cons_succ]
        refine Reg.skip (i := 16) rfl rfl rfl rfl rfl (by first | exact Value.noConfusion | (intro h; cases h)) (by kernel_rfl) (by kernel_rfl) (by kernel_rfl) hH ?_
        simp only [List.setIfInBounds_toArray, List.set_cons_zero, List.set_cons_succ]
        refine Reg.skip (i := 17) rfl rfl rfl rfl rfl (by first | exact Value.noConfusion | (intro h; cases h)) (by kernel_rfl) (by kernel_rfl) (by kernel_rfl) hH ?_
        simp only [List.setIfInBounds_toArray, List.set_cons_zero, List.set_cons_succ]
        refine Reg.skip (i := 18) rfl rfl rfl rfl rfl (by first | exact Value.noConfusion | (intro h; cases h)) (by kernel_rfl) (by kernel_rfl) (by kernel_rfl) hH ?_
        simp only [List.setIfInBounds_toArray, List.set_cons_zero, List.set_cons_succ]
        refine Reg.skip (i := 19) rfl rfl rfl rfl rfl (by first | exact Value.noConfusion | (intro h; cases h)) (by kernel_rfl) (by kernel_rfl) (by kernel_rfl) hH ?_
        simp only [List.setIfInBounds_toArray, List.set_cons_zero, List.set_cons_succ]
        refine Reg.skip (i := 20) rfl rfl rfl rfl rfl (by first | exact Value.noConfusion | (intro h; cases h)) (by kernel_rfl) (by kernel_rfl) (by kernel_rfl) hH ?_
        simp only [List.setIfInBounds_toArray, List.set_cons_zero, List.set_cons_succ]
        refine Reg.take (i := 21) (u := ?b5_v21) rfl rfl rfl (by kernel_rfl) (by kernel_rfl) (by kernel_rfl) hH ?b5_y21 ?b5_r21
        case b5_y21 => (intro w hSw; (try dsimp only at hSw); go_simp; try (with_reducible rfl))
        case' b5_r21 => simp only [List.setIfInBounds_toArray, List.set_cons_zero, List.set_cons_succ]
        refine wpAnyH_done (by kernel_rfl) ?_ _
        refine NoPanic.normal ?_
        go_wp2
        go_roundw
        case rel => exact ⟨k + 1, by go_num, by omega, by rw [Hn.out], hbl.trans (below_of_drew h2 hsz)⟩
        case measure => simp [intOf]; omega
      · rw [hfk] at hn hq
        by_cases hneg : b < 0
        · have hb0 : decide (b < 0) = true := decide_eq_true hneg
          rw [if_pos (by rw [hb0]; simp)] at hn
          have Hn := Lib.hid hn
          clear hn hls hb hpl
          go_wp2
          refine wp_region_noPanic ?_
          refine wp_region_held_drew (S := fun w' => w'.cell? (ad.add (k * 3)) = some (.string ⟨d.path.toArray⟩)) (by kernel_rfl) ?_ (fun hH => ?_)
          · exact c0
          refine Reg.take (i := 0) (u := ?b6_v0) rfl rfl rfl (by kernel_rfl) (by kernel_rfl) (by kernel_rfl) hH ?b6_y0 ?b6_r0
          case b6_y0 => (intro w hSw; (try dsimp only at hSw); go_simp; try (with_reducible rfl))
          case' b6_r0 => simp only [List.setIfInBounds_toArray, List.set_cons_zero, List.set_cons_succ]
          refine Reg.take (i := 1) (u := ?b6_v1) rfl rfl rfl (by kernel_rfl) (by kernel_rfl) (by kernel_rfl) hH ?b6_y1 ?b6_r1
          case b6_y1 => (intro w hSw; (try dsimp only at hSw); go_simp; try (with_reducible rfl))
          case' b6_r1 => simp only [List.setIfInBounds_toArray, List.set_cons_zero, List.set_cons_succ]
          refine Reg.only (i := 2) rfl (Reg.wanted_free rfl) (by kernel_rfl) (fun K hK => ?_)
          go_simp
          go_at_call 70; refine (hq _ (below_drewN (Below.refl _ wr) 1)).mono ?_; rintro e w2 ⟨rfl, h2⟩; go_simp
          refine hK.out _ _ ?_ (fun hH2 => ?_)
          · exact (by show w2.cell? _ = _; rw [World.cell?_of_block (h2.block _ la)]; exact c0)
          clear hK hH
          have hH := hH2; clear hH2
          try simp only [Act.put, List.setIfInBounds_toArray, List.set_cons_zero, List.set_cons_succ]
          refine Reg.take (i := 3) (u := ?b6_v3) rfl rfl rfl (by kernel_rfl) (by kernel_rfl) (by kernel_rfl) hH ?b6_y3 ?b6_r3
          case b6_y3 => (intro w hSw; (try dsimp only at hSw); go_simp; try (with_reducible rfl))
          case' b6_r3 => simp only [List.setIfInBounds_toArray, List.set_cons_zero, List.set_cons_succ]
          refine Reg.takeIf (i := 4) (u := ?b6_v4) rfl rfl rfl rfl rfl (by kernel_rfl) (by kernel_rfl) (by kernel_rfl) hH ?b6_y4 ?b6_r4
          case b6_y4 => (intro w hSw; (try dsimp only at hSw); go_simp; try (with_reducible rfl))
          case' b6_r4 => simp only [List.setIfInBounds_toArray, List.set_cons_zero, List.set_cons_succ]
          refine Reg.takeIf (i := 5) (u := ?b6_v5) rfl rfl rfl rfl rfl (by kernel_rfl) (by kernel_rfl) (by kernel_rfl) hH ?b6_y5 ?b6_r5
          case b6_y5 => (intro w hSw; (try dsimp only at hSw); go_simp; try (with_reducible rfl))
          case' b6_r5 => simp only [List.setIfInBounds_toArray, List.set_cons_zero, List.set_cons_succ]
          try simp only [hb0]
          refine Reg.takeIf (i := 6) (u := ?b6_v6) rfl rfl rfl rfl rfl (by kernel_rfl) (by kernel_rfl) (by kernel_rfl) hH ?b6_y6 ?b6_r6
          case b6_y6 => (intro w hSw; (try dsimp only at hSw); go_simp; try (with_reducible rfl))
          case' b6_r6 => simp only [List.setIfInBounds_toArray, List.set_cons_zero, List.set_cons_succ]
          refine Reg.skip (i := 7) rfl rfl rfl rfl rfl (by first | exact Value.noConfusion | (intro h; cases h)) (by kernel_rfl) (by kernel_rfl) (by kernel_rfl) hH ?_
          simp only [List.setIfInBounds_toArray, List.set_cons_zero, List.set_cons_succ]
          refine Reg.skip (i := 8) rfl rfl rfl rfl rfl (by first | exact Value.noConfusion | (intro h; cases h)) (by kernel_rfl) (by kernel_rfl) (by kernel_rfl) hH ?_
          simp only [List.setIfInBounds_toArray, List.set_cons_zero, List.set_cons_succ]
          refine Reg.skip (i := 9) rfl rfl rfl rfl rfl (by first | exact Value.noConfusion | (intro h; cases h)) (by kernel_rfl) (by kernel_rfl) (by kernel_rfl) hH ?_
          simp only [List.setIfInBounds_toArray, List.set_cons_zero, List.set_cons_succ]
          refine Reg.skip (i := 10) rfl rfl rfl rfl rfl (by first | exact Value.noConfusion | (intro h; cases h)) (by kernel_rfl) (by kernel_rfl) (by kernel_rfl) hH ?_
          simp only [List.setIfInBounds_toArray, List.set_cons_zero, List.set_cons_succ]
          refine Reg.skip (i := 11) rfl rfl rfl rfl rfl (by first | exact Value.noConfusion | (intro h; cases h)) (by kernel_rfl) (by kernel_rfl) (by kernel_rfl) hH ?_
          simp only [List.setIfInBounds_toArray, List.set_cons_zero, List.set_cons_succ]
          refine Reg.skip (i := 12) rfl rfl rfl rfl rfl (by first | exact Value.noConfusion | (intro h; cases h)) (by kernel_rfl) (by kernel_rfl) (by kernel_rfl) hH ?_
          simp only [List.setIfInBounds_toArray, List.set_cons_zero, List.set_cons_succ]
          refine Reg.skip (i := 13) rfl rfl rfl rfl rfl (by first | exact Value.noConfusion | (intro h; cases h)) (by kernel_rfl) (by kernel_rfl) (by kernel_rfl) hH ?_
          simp only [List.setIfInBounds_toArray, List.set_cons_zero, List.set_cons_succ]
          refine Reg.skip (i := 14) rfl rfl rfl rfl rfl (by first | exact Value.noConfusion | (intro h; cases h)) (by kernel_rfl) (by kernel_rfl) (by kernel_rfl) hH ?_
          simp only [List.setIfInBounds_toArray, List.set_cons_zero, List.set_cons_succ]
          refine Reg.skip (i := 15) rfl rfl rfl rfl rfl (by first | exact Value.noConfusion | (intro h; cases h)) (by kernel_rfl) (by kernel_rfl) (by kernel_rfl) hH ?_
          simp only [List.setIfInBounds_toArray, List.set_cons_zero, List.set_cons_succ]
          refine Reg.skip (i := 16) rfl rfl rfl rfl rfl (by first | exact Value.noConfusion | (intro h; cases h)) (by kernel_rfl) (by kernel_rfl) (by kernel_rfl) hH ?_
          simp only [List.setIfInBounds_toArray, List.set_cons_zero, List.set_cons_succ]
          refine Reg.skip (i := 17) rfl rfl rfl rfl rfl (by first | exact Value.noConfusion | (intro h; cases h)) (by kernel_rfl) (by kernel_rfl) (by kernel_rfl) hH ?_
          simp only [List.setIfInBounds_toArray, List.set_cons_zero, List.set_cons_succ]
          refine Reg.skip (i := 18) rfl rfl rfl rfl rfl (by first | exact Value.noConfusion | (intro h; cases h)) (by kernel_rfl) (by kernel_rfl) (by kernel_rfl) hH ?_
          simp only [List.setIfInBounds_toArray, List.set_cons_zero, List.set_cons_succ]
          refine Reg.skip (i := 19) rfl rfl rfl rfl rfl (by first | exact Value.noConfusion | (intro h; cases h)) (by kernel_rfl) (by kernel_rfl) (by kernel_rfl) hH ?_
          simp only [List.setIfInBounds_toArray, List.set_cons_zero, List.set_cons_succ]
          refine Reg.takeIf (i := 20) (u := ?b6_v20) rfl rfl rfl rfl rfl (by kernel_rfl) (by kernel_rfl) (by kernel_rfl) hH ?b6_y20 ?b6_r20
          case b6_y20 => (intro w hSw; (try dsimp only at hSw); go_simp; try (with_reducible rfl))
          case' b6_r20 => simp only [List.setIfInBounds_toArray, List.set_cons_zero, List.set_cons_succ]
          refine Reg.take (i := 21) (u := ?b6_v21) rfl rfl rfl (by kernel_rfl) (by kernel_rfl) (by kernel_rfl) hH ?b6_y21 ?b6_r21
          case b6_y21 => (intro w hSw; (try dsimp only at hSw); go_simp; try (with_reducible rfl))
          case' b6_r21 => simp only [List.setIfInBounds_toArray, List.set_cons_zero, List.set_cons_succ]
          refine wpAnyH_done (by kernel_rfl) ?_ _
          refine NoPanic.normal ?_
          go_wp2
          go_roundw
          case rel => exact ⟨k + 1, by go_num, by omega, by rw [Hn.out], hbl.trans (below_of_drew h2 hsz)⟩
          case measure => simp [intOf]; omega
        · have hb1 : decide (b < 0) = false := decide_eq_false hneg
          obtain ⟨m, rfl⟩ : ∃ m : Nat, b = m := ⟨b.toNat, by omega⟩
          have hmL : m < L.length := by omega
          obtain ⟨ad', dm, ea, hbm, hlm, x0, x1, x2⟩ := hD2.fields hmL
          cases ea
          have hplm := Inh.plen_get hlm
          have lm : (ad.add (m * 3)).block < wr.heap.size := by rw [add_block]; exact hbb
          have hmL' : (m : Int) < (L.length : Int) := by omega
          have hm0 : (0 : Int) ≤ (m : Int) := by omega
          have hdm : dm.path.length ≤ 200 := (hs.2 dm (List.mem_of_getElem? hlm)).2
          simp only [Int.toNat_natCast] at hn
          simp only [hpl, hplm, hb1, Bool.true_and, Bool.false_or, decide_eq_true_eq] at hn
          by_cases hcmp : dm.path.length < d.path.length
          · rw [if_pos hcmp] at hn
            have Hn := Lib.hid hn
            have hcmp' : (dm.path.length : Int) < (d.path.length : Int) := by omega
            clear hn hls hlm hb hpl hplm
            go_wp2
            refine wp_region_noPanic ?_
            refine wp_region_held_drew (S := fun w' => w'.cell? (ad.add (k * 3)) = some (.string ⟨d.path.toArray⟩) ∧ w'.cell? (ad.add (m * 3)) = some (.string ⟨dm.path.toArray⟩)) (by kernel_rfl) ?_ (fun hH => ?_)
            · exact ⟨c0, x0⟩
            refine Reg.take (i := 0) (u := ?b7_v0) rfl rfl rfl (by kernel_rfl) (by kernel_rfl) (by kernel_rfl) hH ?b7_y0 ?b7_r0
            case b7_y0 => (intro w hSw; (try dsimp only at hSw); go_simp; try (with_reducible rfl))
            case' b7_r0 => simp only [List.setIfInBounds_toArray, List.set_cons_zero, List.set_cons_succ]
            refine Reg.take (i := 1) (u := ?b7_v1) rfl rfl rfl (by kernel_rfl) (by kernel_rfl) (by kernel_rfl) hH ?b7_y1 ?b7_r1
            case b7_y1 => (intro w hSw; (try dsimp only at hSw); go_simp; try (with_reducible rfl))
            case' b7_r1 => simp only [List.setIfInBounds_toArray, List.set_cons_zero, List.set_cons_succ]
            refine Reg.only (i := 2) rfl (Reg.wanted_free rfl) (by kernel_rfl) (fun K hK => ?_)
            go_simp
            go_at_call 70; refine (hq _ (below_drewN (Below.refl _ wr) 1)).mono ?_; rintro e w2 ⟨rfl, h2⟩; go_simp
            refine hK.out _ _ ?_ (fun hH2 => ?_)
            · exact ⟨by show w2.cell? _ = _; rw [World.cell?_of_block (h2.block _ la)]; exact c0, by show w2.cell? _ = _; rw [World.cell?_of_block (h2.block _ lm)]; exact x0⟩
            clear hK hH
            have hH := hH2; clear hH2
            try simp only [Act.put, List.setIfInBounds_toArray, List.set_cons_zero, List.set_cons_succ]
            refine Reg.take (i := 3) (u := ?b7_v3) rfl rfl rfl (by kernel_rfl) (by kernel_rfl) (by kernel_rfl) hH ?b7_y3 ?b7_r3
            case b7_y3 => (intro w hSw; (try dsimp only at hSw); go_simp; try (with_reducible rfl))
            case' b7_r3 => simp only [List.setIfInBounds_toArray, List.set_cons_zero, List.set_cons_succ]
            refine Reg.takeIf (i := 4) (u := ?b7_v4) rfl rfl rfl rfl rfl (by kernel_rfl) (by kernel_rfl) (by kernel_rfl) hH ?b7_y4 ?b7_r4
            case b7_y4 => (intro w hSw; (try dsimp only at hSw); go_simp; try (with_reducible rfl))
            case' b7_r4 => simp only [List.setIfInBounds_toArray, List.set_cons_zero, List.set_cons_succ]
            refine Reg.takeIf (i := 5) (u := ?b7_v5) rfl rfl rfl rfl rfl (by kernel_rfl) (by kernel_rfl) (by kernel_rfl) hH ?b7_y5 ?b7_r5
            case b7_y5 => (intro w hSw; (try dsimp only at hSw); go_simp; try (with_reducible rfl))
            case' b7_r5 => simp only [List.setIfInBounds_toArray, List.set_cons_zero, List.set_cons_succ]
            try simp only [hb1]
            refine Reg.takeIf (i := 6) (u := ?b7_v6) rfl rfl rfl rfl rfl (by kernel_rfl) (by kernel_rfl) (by kernel_rfl) hH ?b7_y6 ?b7_r6
            case b7_y6 => (intro w hSw; (try dsimp only at hSw); go_simp; try (with_reducible rfl))
            case' b7_r6 => simp only [List.setIfInBounds_toArray, List.set_cons_zero, List.set_cons_succ]
            refine Reg.takeIf (i := 7) (u := ?b7_v7) rfl rfl rfl rfl rfl (by kernel_rfl) (by kernel_rfl) (by kernel_rfl) hH ?b7_y7 ?b7_r7
            case b7_y7 => (intro w hSw; (try dsimp only at hSw); go_simp; try (with_reducible rfl))
            case' b7_r7 => simp only [List.setIfInBounds_toArray, List.set_cons_zero, List.set_cons_succ]
            refine Reg.takeIf (i := 8) (u := ?b7_v8) rfl rfl rfl rfl rfl (by kernel_rfl) (by kernel_rfl) (by kernel_rfl) hH ?b7_y8 ?b7_r8
            case b7_y8 => (intro w hSw; (try dsimp only at hSw); go_simp; try (with_reducible rfl))
            case' b7_r8 => simp only [List.setIfInBounds_toArray, List.set_cons_zero, List.set_cons_succ]
            refine Reg.takeIf (i := 9) (u := ?b7_v9) rfl rfl rfl rfl rfl (by kernel_rfl) (by kernel_rfl) (by kernel_rfl) hH ?b7_y9 ?b7_r9
            case b7_y9 => (intro w hSw; (try dsimp only at hSw); go_simp; try (with_reducible rfl))
            case' b7_r9 => simp only [List.setIfInBounds_toArray, List.set_cons_zero, List.set_cons_succ]
            refine Reg.takeIf (i := 10) (u := ?b7_v10) rfl rfl rfl rfl rfl (by kernel_rfl) (by kernel_rfl) (by kernel_rfl) hH ?b7_y10 ?b7_r10
            case b7_y10 => (intro w hSw; (try dsimp only at hSw); go_simp; try (with_reducible rfl))
            case' b7_r10 => simp only [List.setIfInBounds_toArray, List.set_cons_zero, List.set_cons_succ]
            refine Reg.takeIf (i := 11) (u := ?b7_v11) rfl rfl rfl rfl rfl (by kernel_rfl) (by kernel_rfl) (by kernel_rfl) hH ?b7_y11 ?b7_r11
            case b7_y11 => (intro w hSw; (try dsimp only at hSw); go_simp; try (with_reducible rfl))
            case' b7_r11 => simp only [List.setIfInBounds_toArray, List.set_cons_zero, List.set_cons_succ]
            refine Reg.takeIf (i := 12) (u := ?b7_v12) rfl rfl rfl rfl rfl (by kernel_rfl) (by kernel_rfl) (by kernel_rfl) hH ?b7_y12 ?b7_r12
            case b7_y12 => (intro w hSw; (try dsimp only at hSw); go_simp; try (with_reducible rfl))
            case' b7_r12 => simp only [List.setIfInBounds_toArray, List.set_cons_zero, List.set_cons_succ]
            refine Reg.takeIf (i := 13) (u := ?b7_v13) rfl rfl rfl rfl rfl (by kernel_rfl) (by kernel_rfl) (by kernel_rfl) hH ?b7_y13 ?b7_r13
            case b7_y13 => (intro w hSw; (try dsimp only at hSw); go_simp; try (with_reducible rfl))
            case' b7_r13 => simp only [List.setIfInBounds_toArray, List.set_cons_zero, List.set_cons_succ]
            refine Reg.takeIf (i := 14) (u := ?b7_v14) rfl rfl rfl rfl rfl (by kernel_rfl) (by kernel_rfl) (by kernel_rfl) hH ?b7_y14 ?b7_r14
            case b7_y14 => (intro w hSw; (try dsimp only at hSw); go_simp; try (with_reducible rfl))
            case' b7_r14 => simp only [List.setIfInBounds_toArray, List.set_cons_zero, List.set_cons_succ]
            refine Reg.takeIf (i := 15) (u := ?b7_v15) rfl rfl rfl rfl rfl (by kernel_rfl) (by kernel_rfl) (by kernel_rfl) hH ?b7_y15 ?b7_r15
            case b7_y15 => (intro w hSw; (try dsimp only at hSw); go_simp; try (with_reducible rfl))
            case' b7_r15 => simp only [List.setIfInBounds_toArray, List.set_cons_zero, List.set_cons_succ]
            refine Reg.takeIf (i := 16) (u := ?b7_v16) rfl rfl rfl rfl rfl (by kernel_rfl) (by kernel_rfl) (by kernel_rfl) hH ?b7_y16 ?b7_r16
            case b7_y16 => (intro w hSw; (try dsimp only at hSw); go_simp; try (with_reducible rfl))
            case' b7_r16 => simp only [List.setIfInBounds_toArray, List.set_cons_zero, List.set_cons_succ]
            refine Reg.takeIf (i := 17) (u := ?b7_v17) rfl rfl rfl rfl rfl (by kernel_rfl) (by kernel_rfl) (by kernel_rfl) hH ?b7_y17 ?b7_r17
            case b7_y17 => (intro w hSw; (try dsimp only at hSw); go_simp; try (with_reducible rfl))
            case' b7_r17 => simp only [List.setIfInBounds_toArray, List.set_cons_zero, List.set_cons_succ]
            refine Reg.takeIf (i := 18) (u := ?b7_v18) rfl rfl rfl rfl rfl (by kernel_rfl) (by kernel_rfl) (by kernel_rfl) hH ?b7_y18 ?b7_r18
            case b7_y18 => (intro w hSw; (try dsimp only at hSw); go_simp; try (with_reducible rfl))
            case' b7_r18 => simp only [List.setIfInBounds_toArray, List.set_cons_zero, List.set_cons_succ]
            refine Reg.takeIf (i := 19) (u := ?b7_v19) rfl rfl rfl rfl rfl (by kernel_rfl) (by kernel_rfl) (by kernel_rfl) hH ?b7_y19 ?b7_r19
            case b7_y19 => (intro w hSw; (try dsimp only at hSw); go_simp; try (with_reducible rfl))
            case' b7_r19 => simp only [List.setIfInBounds_toArray, List.set_cons_zero, List.set_cons_succ]
            refine Reg.takeIf (i := 20) (u := ?b7_v20) rfl rfl rfl rfl rfl (by kernel_rfl) (by kernel_rfl) (by kernel_rfl) hH ?b7_y20 ?b7_r20
            case b7_y20 => (intro w hSw; (try dsimp only at hSw); go_simp; try (with_reducible rfl))
            case' b7_r20 => simp only [List.setIfInBounds_toArray, List.set_cons_zero, List.set_cons_succ]
            refine Reg.take (i := 21) (u := ?b7_v21) rfl rfl rfl (by kernel_rfl) (by kernel_rfl) (by kernel_rfl) hH ?b7_y21 ?b7_r21
            case b7_y21 => (intro w hSw; (try dsimp only at hSw); go_simp; try (with_reducible rfl))
            case' b7_r21 => simp only [List.setIfInBounds_toArray, List.set_cons_zero, List.set_cons_succ]
            refine wpAnyH_done (by kernel_rfl) ?_ _
            refine NoPanic.normal ?_
            go_wp2
            go_roundw
            case rel => exact ⟨k + 1, by go_num, by omega, by rw [Hn.out], hbl.trans (below_of_drew h2 hsz)⟩
            case measure => simp [intOf]; omega
          · rw [if_neg hcmp] at hn
            have Hn := Lib.hid hn
            have hcmp' : ¬ (dm.path.length : Int) < (d.path.length : Int) := by omega
            clear hn hls hlm hb hpl hplm
            go_wp2
            refine wp_region_noPanic ?_
            refine wp_region_held_drew (S := fun w' => w'.cell? (ad.add (k * 3)) = some (.string ⟨d.path.toArray⟩) ∧ w'.cell? (ad.add (m * 3)) = some (.string ⟨dm.path.toArray⟩)) (by kernel_rfl) ?_ (fun hH => ?_)
            · exact ⟨c0, x0⟩
            refine Reg.take (i := 0) (u := ?b8_v0) rfl rfl rfl (by kernel_rfl) (by kernel_rfl) (by kernel_rfl) hH ?b8_y0 ?b8_r0
            case b8_y0 => (intro w hSw; (try dsimp only at hSw); go_simp; try (with_reducible rfl))
            case' b8_r0 => simp only [List.setIfInBounds_toArray, List.set_cons_zero, List.set_cons_succ]
            refine Reg.take (i := 1) (u := ?b8_v1) rfl rfl rfl (by kernel_rfl) (by kernel_rfl) (by kernel_rfl) hH ?b8_y1 ?b8_r1
            case b8_y1 => (intro w hSw; (try dsimp only at hSw); go_simp; try (with_reducible rfl))
            case' b8_r1 => simp only [List.setIfInBounds_toArray, List.set_cons_zero, List.set_cons_succ]
            refine Reg.only (i := 2) rfl (Reg.wanted_free rfl) (by kernel_rfl) (fun K hK => ?_)
            go_simp
            go_at_call 70; refine (hq _ (below_drewN (Below.refl _ wr) 1)).mono ?_; rintro e w2 ⟨rfl, h2⟩; go_simp
            refine hK.out _ _ ?_ (fun hH2 => ?_)
            · exact ⟨by show w2.cell? _ = _; rw [World.cell?_of_block (h2.block _ la)]; exact c0, by show w2.cell? _ = _; rw [World.cell?_of_block (h2.block _ lm)]; exact x0⟩
            clear hK hH
            have hH := hH2; clear hH2
            try simp only [Act.put, List.setIfInBounds_toArray, List.set_cons_zero, List.set_cons_succ]
            refine Reg.take (i := 3) (u := ?b8_v3) rfl rfl rfl (by kernel_rfl) (by kernel_rfl) (by kernel_rfl) hH ?b8_y3 ?b8_r3
            case b8_y3 => (intro w hSw; (try dsimp only at hSw); go_simp; try (with_reducible rfl))
            case' b8_r3 => simp only [List.setIfInBounds_toArray, List.set_cons_zero, List.set_cons_succ]
            refine Reg.takeIf (i := 4) (u := ?b8_v4) rfl rfl rfl rfl rfl (by kernel_rfl) (by kernel_rfl) (by kernel_rfl) hH ?b8_y4 ?b8_r4
            case b8_y4 => (intro w hSw; (try dsimp only at hSw); go_simp; try (with_reducible rfl))
            case' b8_r4 => simp only [List.setIfInBounds_toArray, List.set_cons_zero, List.set_cons_succ]
            refine Reg.takeIf (i := 5) (u := ?b8_v5) rfl rfl rfl rfl rfl (by kernel_rfl) (by kernel_rfl) (by kernel_rfl) hH ?b8_y5 ?b8_r5
            case b8_y5 => (intro w hSw; (try dsimp only at hSw); go_simp; try (with_reducible rfl))
            case' b8_r5 => simp only [List.setIfInBounds_toArray, List.set_cons_zero, List.set_cons_succ]
            try simp only [hb1]
            refine Reg.takeIf (i := 6) (u := ?b8_v6) rfl rfl rfl rfl rfl (by kernel_rfl) (by kernel_rfl) (by kernel_rfl) hH ?b8_y6 ?b8_r6
            case b8_y6 => (intro w hSw; (try dsimp only at hSw); go_simp; try (with_reducible rfl))
            case' b8_r6 => simp only [List.setIfInBounds_toArray, List.set_cons_zero, List.set_cons_succ]
            refine Reg.takeIf (i := 7) (u := ?b8_v7) rfl rfl rfl rfl rfl (by kernel_rfl) (by kernel_rfl) (by kernel_rfl) hH ?b8_y7 ?b8_r7
            case b8_y7 => (intro w hSw; (try dsimp only at hSw); go_simp; try (with_reducible rfl))
            case' b8_r7 => simp only [List.setIfInBounds_toArray, List.set_cons_zero, List.set_cons_succ]
            refine Reg.takeIf (i := 8) (u := ?b8_v8) rfl rfl rfl rfl rfl (by kernel_rfl) (by kernel_rfl) (by kernel_rfl) hH ?b8_y8 ?b8_r8
            case b8_y8 => (intro w hSw; (try dsimp only at hSw); go_simp; try (with_reducible rfl))
            case' b8_r8 => simp only [List.setIfInBounds_toArray, List.set_cons_zero, List.set_cons_succ]
            refine Reg.takeIf (i := 9) (u := ?b8_v9) rfl rfl rfl rfl rfl (by kernel_rfl) (by kernel_rfl) (by kernel_rfl) hH ?b8_y9 ?b8_r9
            case b8_y9 => (intro w hSw; (try dsimp only at hSw); go_simp; try (with_reducible rfl))
            case' b8_r9 => simp only [List.setIfInBounds_toArray, List.set_cons_zero, List.set_cons_succ]
            refine Reg.takeIf (i := 10) (u := ?b8_v10) rfl rfl rfl rfl rfl (by kernel_rfl) (by kernel_rfl) (by kernel_rfl) hH ?b8_y10 ?b8_r10
            case b8_y10 => (intro w hSw; (try dsimp only at hSw); go_simp; try (with_reducible rfl))
            case' b8_r10 => simp only [List.setIfInBounds_toArray, List.set_cons_zero, List.set_cons_succ]
            refine Reg.takeIf (i := 11) (u := ?b8_v11) rfl rfl rfl rfl rfl (by kernel_rfl) (by kernel_rfl) (by kernel_rfl) hH ?b8_y11 ?b8_r11
            case b8_y11 => (intro w hSw; (try dsimp only at hSw); go_simp; try (with_reducible rfl))
            case' b8_r11 => simp only [List.setIfInBounds_toArray, List.set_cons_zero, List.set_cons_succ]
            refine Reg.takeIf (i := 12) (u := ?b8_v12) rfl rfl rfl rfl rfl (by kernel_rfl) (by kernel_rfl) (by kernel_rfl) hH ?b8_y12 ?b8_r12
            case b8_y12 => (intro w hSw; (try dsimp only at hSw); go_simp; try (with_reducible rfl))
            case' b8_r12 => simp only [List.setIfInBounds_toArray, List.set_cons_zero, List.set_cons_succ]
            refine Reg.takeIf (i := 13) (u := ?b8_v13) rfl rfl rfl rfl rfl (by kernel_rfl) (by kernel_rfl) (by kernel_rfl) hH ?b8_y13 ?b8_r13
            case b8_y13 => (intro w hSw; (try dsimp only at hSw); go_simp; try (with_reducible rfl))
            case' b8_r13 => simp only [List.setIfInBounds_toArray, List.set_cons_zero, List.set_cons_succ]
            refine Reg.takeIf (i := 14) (u := ?b8_v14) rfl rfl rfl rfl rfl (by kernel_rfl) (by kernel_rfl) (by kernel_rfl) hH ?b8_y14 ?b8_r14
            case b8_y14 => (intro w hSw; (try dsimp only at hSw); go_simp; try (with_reducible rfl))
            case' b8_r14 => simp only [List.setIfInBounds_toArray, List.set_cons_zero, List.set_cons_succ]
            refine Reg.takeIf (i := 15) (u := ?b8_v15) rfl rfl rfl rfl rfl (by kernel_rfl) (by kernel_rfl) (by kernel_rfl) hH ?b8_y15 ?b8_r15
            case b8_y15 => (intro w hSw; (try dsimp only at hSw); go_simp; try (with_reducible rfl))
            case' b8_r15 => simp only [List.setIfInBounds_toArray, List.set_cons_zero, List.set_cons_succ]
            refine Reg.takeIf (i := 16) (u := ?b8_v16) rfl rfl rfl rfl rfl (by kernel_rfl) (by kernel_rfl) (by kernel_rfl) hH ?b8_y16 ?b8_r16
            case b8_y16 => (intro w hSw; (try dsimp only at hSw); go_simp; try (with_reducible rfl))
            case' b8_r16 => simp only [List.setIfInBounds_toArray, List.set_cons_zero, List.set_cons_succ]
            refine Reg.takeIf (i := 17) (u := ?b8_v17) rfl rfl rfl rfl rfl (by kernel_rfl) (by kernel_rfl) (by kernel_rfl) hH ?b8_y17 ?b8_r17
            case b8_y17 => (intro w hSw; (try dsimp only at hSw); go_simp; try (with_reducible rfl))
            case' b8_r17 => simp only [List.setIfInBounds_toArray, List.set_cons_zero, List.set_cons_succ]
            refine Reg.takeIf (i := 18) (u := ?b8_v18) rfl rfl rfl rfl rfl (by kernel_rfl) (by kernel_rfl) (by kernel_rfl) hH ?b8_y18 ?b8_r18
            case b8_y18 => (intro w hSw; (try dsimp only at hSw); go_simp; try (with_reducible rfl))
            case' b8_r18 => simp only [List.setIfInBounds_toArray, List.set_cons_zero, List.set_cons_succ]
            refine Reg.takeIf (i := 19) (u := ?b8_v19) rfl rfl rfl rfl rfl (by kernel_rfl) (by kernel_rfl) (by kernel_rfl) hH ?b8_y19 ?b8_r19
            case b8_y19 => (intro w hSw; (try dsimp only at hSw); go_simp; try (with_reducible rfl))
            case' b8_r19 => simp only [List.setIfInBounds_toArray, List.set_cons_zero, List.set_cons_succ]
            refine Reg.takeIf (i := 20) (u := ?b8_v20) rfl rfl rfl rfl rfl (by kernel_rfl) (by kernel_rfl) (by kernel_rfl) hH ?b8_y20 ?b8_r20
            case b8_y20 => (intro w hSw; (try dsimp only at hSw); go_simp; try (with_reducible rfl))
            case' b8_r20 => simp only [List.setIfInBounds_toArray, List.set_cons_zero, List.set_cons_succ]
            refine Reg.take (i := 21) (u := ?b8_v21) rfl rfl rfl (by kernel_rfl) (by kernel_rfl) (by kernel_rfl) hH ?b8_y21 ?b8_r21
            case b8_y21 => (intro w hSw; (try dsimp only at hSw); go_simp; try (with_reducible rfl))
            case' b8_r21 => simp only [List.setIfInBounds_toArray, List.set_cons_zero, List.set_cons_succ]
            refine wpAnyH_done (by kernel_rfl) ?_ _
            refine NoPanic.normal ?_
            go_wp2
            go_roundw
            case rel => exact ⟨k + 1, by go_num, by omega, by rw [Hn.out], hbl.trans (below_of_drew h2 hsz)⟩
            case measure => simp [intOf]; omega
    · obtain rfl : k = L.length := by omega
      go_wp2
      go_ret
      exact ⟨rfl, hbl⟩

end Go.Proofs.Ytajnkapnndhbaaa
