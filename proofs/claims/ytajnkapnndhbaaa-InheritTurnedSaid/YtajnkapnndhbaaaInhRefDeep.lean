/- The deepest directory that is something: the reference's. -/
import Derived.Test.YtajnkapnndhbaaaInhFind
namespace Go.Proofs.Ytajnkapnndhbaaa
open Go.RowKit Str Mem
set_option linter.unusedVariables false
set_option linter.unusedSimpArgs false

/-- What the reference asks of directory i. -/
def butF (L : List DirV) (p : List UInt8) (but : Int) (i : Nat) : Bool := ((i : Int) != but) && Inh.under p (Inh.pathOf L i)

set_option maxRecDepth 20000 in
set_option maxHeartbeats 2000000 in
theorem refDeepest_any (a : Option Addr) (c : Nat) (L : List DirV) (p : List UInt8) (but : Int) (w : World) (hD : Dirs w a L.length L) (hs : Small L) (hp : p.length ≤ 200) :
    Calls Try.prog 54 #[.slice a L.length c, .string ⟨p.toArray⟩, .int .i64 but] w fun e w' => e = .returned (.int .i64 (Inh.deepest L (butF L p but))) ∧ Below w.heap.size w w' := by
  have hL12 := hs.1
  obtain ⟨f, hf⟩ : ∃ f, f = butF L p but := ⟨_, rfl⟩
  rw [← hf]
  go_enter Try.func54, Try.ntmps54
  go_wp2
  go_loopw [7, 8] (fun b i wr => DeepI w L f b i wr) (fun _ i _ => L.length - (intOf i).toNat)
  case atStart => exact ⟨0, rfl, Nat.zero_le _, rfl, Below.refl _ _⟩
  case round =>
    obtain ⟨k, rfl, hk, rfl, hbl⟩ := hrel
    have hsz := hbl.size
    by_cases hlt : k < L.length
    · have hD2 := hD.below hbl
      obtain ⟨ad, d, rfl, hbb, hls, c0, c1, c2⟩ := hD2.fields hlt
      have hn := deepNext L f k
      have hpl := Inh.plen_get hls
      have hr := Inh.deepTo_range L f k
      have hdl : d.path.length ≤ 200 := (hs.2 d (List.mem_of_getElem? hls)).2
      have hq := fun w' => refUnder30_any p d.path w' (by omega) (by omega)
      have hfk : f k = (((k : Int) != but) && Inh.under p d.path) := by rw [hf]; unfold butF; rw [Inh.pathOf_get hls]
      obtain ⟨u, hu⟩ : ∃ u, u = Inh.under p d.path := ⟨_, rfl⟩
      rw [← hu] at hq hfk
      have la : (ad.add (k * 3)).block < wr.heap.size := by rw [add_block]; exact hbb
      obtain ⟨b, hb⟩ : ∃ b, b = Inh.deepTo L f k := ⟨_, rfl⟩
      rw [← hb] at hn hr ⊢
      have hkL : (k : Int) < (L.length : Int) := by omega
      have hk0 : (0 : Int) ≤ (k : Int) := by omega
      clear hu
      rcases hne : ((k : Int) != but) with _ | _
      · rw [hfk, hne] at hn
        simp only [Bool.false_and] at hn
        rw [if_neg (by simp)] at hn
        have Hn := Lib.hid hn
        clear hn hls hb hpl hf hfk
        go_wp2
        refine wp_region_noPanic ?_
        refine wp_region_held_drew (S := fun w' => w'.cell? (ad.add (k * 3)) = some (.string ⟨d.path.toArray⟩)) (by kernel_rfl) ?_ (fun hH => ?_)
        · exact c0
        refine Reg.take (i := 0) (u := ?b1_v0) rfl rfl rfl (by kernel_rfl) (by kernel_rfl) (by kernel_rfl) hH ?b1_y0 ?b1_r0
        case b1_y0 => (intro w hSw; (try dsimp only at hSw); go_simp; try (with_reducible rfl))
        case' b1_r0 => simp only [List.setIfInBounds_toArray, List.set_cons_zero, List.set_cons_succ]
        refine Reg.take (i := 1) (u := ?b1_v1) rfl rfl rfl (by kernel_rfl) (by kernel_rfl) (by kernel_rfl) hH ?b1_y1 ?b1_r1
        case b1_y1 => (intro w hSw; (try dsimp only at hSw); go_simp; try (with_reducible rfl))
        case' b1_r1 => simp only [List.setIfInBounds_toArray, List.set_cons_zero, List.set_cons_succ]
        refine Reg.take (i := 2) (u := ?b1_v2) rfl rfl rfl (by kernel_rfl) (by kernel_rfl) (by kernel_rfl) hH ?b1_y2 ?b1_r2
        case b1_y2 => (intro w hSw; (try dsimp only at hSw); go_simp; try (with_reducible rfl))
        case' b1_r2 => simp only [List.setIfInBounds_toArray, List.set_cons_zero, List.set_cons_succ]
        try simp only [hne]
        refine Reg.take (i := 3) (u := ?b1_v3) rfl rfl rfl (by kernel_rfl) (by kernel_rfl) (by kernel_rfl) hH ?b1_y3 ?b1_r3
        case b1_y3 => (intro w hSw; (try dsimp only at hSw); go_simp; try (with_reducible rfl))
        case' b1_r3 => simp only [List.setIfInBounds_toArray, List.set_cons_zero, List.set_cons_succ]
        refine Reg.skip (i := 4) rfl rfl rfl rfl rfl (by first | exact Value.noConfusion | (intro h; cases h)) (by kernel_rfl) (by kernel_rfl) (by kernel_rfl) hH ?_
        simp only [List.setIfInBounds_toArray, List.set_cons_zero, List.set_cons_succ]
        refine Reg.skip (i := 5) rfl rfl rfl rfl rfl (by first | exact Value.noConfusion | (intro h; cases h)) (by kernel_rfl) (by kernel_rfl) (by kernel_rfl) hH ?_
        simp only [List.setIfInBounds_toArray, List.set_cons_zero, List.set_cons_succ]
        refine Reg.skip (i := 6) rfl rfl rfl rfl rfl (by first | exact Value.noConfusion | (intro h; cases h)) (by kernel_rfl) (by kernel_rfl) (by kernel_rfl) hH ?_
        simp only [List.setIfInBounds_toArray, List.set_cons_zero, List.set_cons_succ]
        refine Reg.skip (i := 7) rfl rfl rfl rfl rfl (by first | exact Value.noConfusion | (intro h; cases h)) (by kernel_rfl) (by kernel_rfl) (by kernel_rfl) hH ?_
        simp only [List.setIfInBounds_toArray, List.set_cons_zero, List.set_cons_succ]
        refine Reg.skip (i := 8) rfl rfl rfl rfl rfl (by first | exact Value.noConfusion | (intro h; cases h)) (by kernel_rfl) (by kernel_rfl) (by kernel_rfl) hH ?_
        simp only [List.setIfInBounds_toArray, List.set_cons_zero, List.set_cons_succ]
        refine Reg.skip (i := 9) rfl rfl rfl rfl rfl (by first | exact Value.noConfusion | (intro h; cases h)) (by kernel_rfl) (by kernel_rfl) (by kernel_rfl) hH ?_
        simp only [List.setIfInBounds_toArray, List.set_cons_zero, List.set_cons_succ]
        refine Reg.onlySkip (i := 10) rfl rfl rfl rfl rfl (by first | exact Value.noConfusion | (intro h; cases h)) (by kernel_rfl) hH ?_
        simp only [List.setIfInBounds_toArray, List.set_cons_zero, List.set_cons_succ]
        refine Reg.take (i := 11) (u := ?b1_v11) rfl rfl rfl (by kernel_rfl) (by kernel_rfl) (by kernel_rfl) hH ?b1_y11 ?b1_r11
        case b1_y11 => (intro w hSw; (try dsimp only at hSw); go_simp; try (with_reducible rfl))
        case' b1_r11 => simp only [List.setIfInBounds_toArray, List.set_cons_zero, List.set_cons_succ]
        refine Reg.take (i := 12) (u := ?b1_v12) rfl rfl rfl (by kernel_rfl) (by kernel_rfl) (by kernel_rfl) hH ?b1_y12 ?b1_r12
        case b1_y12 => (intro w hSw; (try dsimp only at hSw); go_simp; try (with_reducible rfl))
        case' b1_r12 => simp only [List.setIfInBounds_toArray, List.set_cons_zero, List.set_cons_succ]
        refine Reg.skip (i := 13) rfl rfl rfl rfl rfl (by first | exact Value.noConfusion | (intro h; cases h)) (by kernel_rfl) (by kernel_rfl) (by kernel_rfl) hH ?_
        simp only [List.setIfInBounds_toArray, List.set_cons_zero, List.set_cons_succ]
        refine Reg.skip (i := 14) rfl rfl rfl rfl rfl (by first | exact Value.noConfusion | (intro h; cases h)) (by kernel_rfl) (by kernel_rfl) (by kernel_rfl) hH ?_
        simp only [List.setIfInBounds_toArray, List.set_cons_zero, List.set_cons_succ]
        refine Reg.skip (i := 15) rfl rfl rfl rfl rfl (by first | exact Value.noConfusion | (intro h; cases h)) (by kernel_rfl) (by kernel_rfl) (by kernel_rfl) hH ?_
        simp only [List.setIfInBounds_toArray, List.set_cons_zero, List.set_cons_succ]
        refine Reg.skip (i := 16) rfl rfl rfl rfl rfl (by first | exact Value.noConfusion | (intro h; cases h)) (by kernel_rfl) (by kernel_rfl) (by kernel_rfl) hH ?_
        simp only [List.setIfInBounds_toArray, List.set_cons_zero, List.set_cons_succ]
        refine Reg.skip (i := 17) rfl rfl rfl rfl rfl (by first | exact Value.noConfusion | (intro h; cases h)) (by kernel_rfl) (by kernel_rfl) (by kernel_rfl) hH ?_
        simp only [List.setIfInBounds_toArray, List.set_cons_zero, List.set_cons_succ]
        refine Reg.skip (i := 18) rfl rfl rfl rfl rfl (by first | exact Value.noConfusion | (intro h; cases h)) (by kernel_rfl) (by kernel_rfl) (by kernel_rfl) hH ?_
        simp only [List.setIfInBounds_toArray, List.set_cons_zero, List.set_cons_succ]
        refine Reg.skip (i := 19) rfl rfl rfl rfl rfl (by first | exact Value.noConfusion | (intro h; cases h)) (by kernel_rfl) (by kernel_rfl) (by kernel_rfl) hH ?_
        simp only [List.setIfInBounds_toArray, List.set_cons_zero, List.set_cons_succ]
        refine Reg.skip (i := 20) rfl rfl rfl rfl rfl (by first | exact Value.noConfusion | (intro h; cases h)) (by kernel_rfl) (by kernel_rfl) (by kernel_rfl) hH ?_
        simp only [List.setIfInBounds_toArray, List.set_cons_zero, List.set_cons_succ]
        refine Reg.skip (i := 21) rfl rfl rfl rfl rfl (by first | exact Value.noConfusion | (intro h; cases h)) (by kernel_rfl) (by kernel_rfl) (by kernel_rfl) hH ?_
        simp only [List.setIfInBounds_toArray, List.set_cons_zero, List.set_cons_succ]
        refine Reg.skip (i := 22) rfl rfl rfl rfl rfl (by first | exact Value.noConfusion | (intro h; cases h)) (by kernel_rfl) (by kernel_rfl) (by kernel_rfl) hH ?_
        simp only [List.setIfInBounds_toArray, List.set_cons_zero, List.set_cons_succ]
        refine Reg.skip (i := 23) rfl rfl rfl rfl rfl (by first | exact Value.noConfusion | (intro h; cases h)) (by kernel_rfl) (by kernel_rfl) (by kernel_rfl) hH ?_
        simp only [List.setIfInBounds_toArray, List.set_cons_zero, List.set_cons_succ]
        refine Reg.skip (i := 24) rfl rfl rfl rfl rfl (by first | exact Value.noConfusion | (intro h; cases h)) (by kernel_rfl) (by kernel_rfl) (by kernel_rfl) hH ?_
        simp only [List.setIfInBounds_toArray, List.set_cons_zero, List.set_cons_succ]
        refine Reg.skip (i := 25) rfl rfl rfl rfl rfl (by first | exact Value.noConfusion | (intro h; cases h)) (by kernel_rfl) (by kernel_rfl) (by kernel_rfl) hH ?_
        simp only [List.setIfInBounds_toArray, List.set_cons_zero, List.set_cons_succ]
        refine Reg.skip (i := 26) rfl rfl rfl rfl rfl (by first | exact Value.noConfusion | (intro h; cases h)) (by kernel_rfl) (by kernel_rfl) (by kernel_rfl) hH ?_
        simp only [List.setIfInBounds_toArray, List.set_cons_zero, List.set_cons_succ]
        refine Reg.skip (i := 27) rfl rfl rfl rfl rfl (by first | exact Value.noConfusion | (intro h; cases h)) (by kernel_rfl) (by kernel_rfl) (by kernel_rfl) hH ?_
        simp only [List.setIfInBounds_toArray, List.set_cons_zero, List.set_cons_succ]
        refine Reg.skip (i := 28) rfl rfl rfl rfl rfl (by first | exact Value.noConfusion | (intro h; cases h)) (by kernel_rfl) (by kernel_rfl) (by kernel_rfl) hH ?_
        simp only [List.setIfInBounds_toArray, List.set_cons_zero, List.set_cons_succ]
        refine Reg.skip (i := 29) rfl rfl rfl rfl rfl (by first | exact Value.noConfusion | (intro h; cases h)) (by kernel_rfl) (by kernel_rfl) (by kernel_rfl) hH ?_
        simp only [List.setIfInBounds_toArray, List.set_cons_zero, List.set_cons_succ]
        refine Reg.take (i := 30) (u := ?b1_v30) rfl rfl rfl (by kernel_rfl) (by kernel_rfl) (by kernel_rfl) hH ?b1_y30 ?b1_r30
        case b1_y30 => (intro w hSw; (try dsimp only at hSw); go_simp; try (with_reducible rfl))
        case' b1_r30 => simp only [List.setIfInBounds_toArray, List.set_cons_zero, List.set_cons_succ]
        refine wpAnyH_done (by kernel_rfl) ?_ _
        refine NoPanic.normal ?_
        go_wp2
        go_roundw
        case rel => exact ⟨k + 1, by go_num, by omega, by rw [Hn.out], below_drewN hbl 1⟩
        case measure => simp [intOf]; omega
      · rcases u with _ | _
        · rw [hfk, hne] at hn
          simp only [Bool.false_and, Bool.and_false] at hn
          rw [if_neg (by simp)] at hn
          have Hn := Lib.hid hn
          clear hn hls hb hpl hf hfk
          go_wp2
          refine wp_region_noPanic ?_
          refine wp_region_held_drew (S := fun w' => w'.cell? (ad.add (k * 3)) = some (.string ⟨d.path.toArray⟩)) (by kernel_rfl) ?_ (fun hH => ?_)
          · exact c0
          refine Reg.take (i := 0) (u := ?b2_v0) rfl rfl rfl (by kernel_rfl) (by kernel_rfl) (by kernel_rfl) hH ?b2_y0 ?b2_r0
          case b2_y0 => (intro w hSw; (try dsimp only at hSw); go_simp; try (with_reducible rfl))
          case' b2_r0 => simp only [List.setIfInBounds_toArray, List.set_cons_zero, List.set_cons_succ]
          refine Reg.take (i := 1) (u := ?b2_v1) rfl rfl rfl (by kernel_rfl) (by kernel_rfl) (by kernel_rfl) hH ?b2_y1 ?b2_r1
          case b2_y1 => (intro w hSw; (try dsimp only at hSw); go_simp; try (with_reducible rfl))
          case' b2_r1 => simp only [List.setIfInBounds_toArray, List.set_cons_zero, List.set_cons_succ]
          refine Reg.take (i := 2) (u := ?b2_v2) rfl rfl rfl (by kernel_rfl) (by kernel_rfl) (by kernel_rfl) hH ?b2_y2 ?b2_r2
          case b2_y2 => (intro w hSw; (try dsimp only at hSw); go_simp; try (with_reducible rfl))
          case' b2_r2 => simp only [List.setIfInBounds_toArray, List.set_cons_zero, List.set_cons_succ]
          try simp only [hne]
          refine Reg.take (i := 3) (u := ?b2_v3) rfl rfl rfl (by kernel_rfl) (by kernel_rfl) (by kernel_rfl) hH ?b2_y3 ?b2_r3
          case b2_y3 => (intro w hSw; (try dsimp only at hSw); go_simp; try (with_reducible rfl))
          case' b2_r3 => simp only [List.setIfInBounds_toArray, List.set_cons_zero, List.set_cons_succ]
          refine Reg.takeIf (i := 4) (u := ?b2_v4) rfl rfl rfl rfl rfl (by kernel_rfl) (by kernel_rfl) (by kernel_rfl) hH ?b2_y4 ?b2_r4
          case b2_y4 => (intro w hSw; (try dsimp only at hSw); go_simp; try (with_reducible rfl))
          case' b2_r4 => simp only [List.setIfInBounds_toArray, List.set_cons_zero, List.set_cons_succ]
          refine Reg.takeIf (i := 5) (u := ?b2_v5) rfl rfl rfl rfl rfl (by kernel_rfl) (by kernel_rfl) (by kernel_rfl) hH ?b2_y5 ?b2_r5
          case b2_y5 => (intro w hSw; (try dsimp only at hSw); go_simp; try (with_reducible rfl))
          case' b2_r5 => simp only [List.setIfInBounds_toArray, List.set_cons_zero, List.set_cons_succ]
          refine Reg.takeIf (i := 6) (u := ?b2_v6) rfl rfl rfl rfl rfl (by kernel_rfl) (by kernel_rfl) (by kernel_rfl) hH ?b2_y6 ?b2_r6
          case b2_y6 => (intro w hSw; (try dsimp only at hSw); go_simp; try (with_reducible rfl))
          case' b2_r6 => simp only [List.setIfInBounds_toArray, List.set_cons_zero, List.set_cons_succ]
          refine Reg.takeIf (i := 7) (u := ?b2_v7) rfl rfl rfl rfl rfl (by kernel_rfl) (by kernel_rfl) (by kernel_rfl) hH ?b2_y7 ?b2_r7
          case b2_y7 => (intro w hSw; (try dsimp only at hSw); go_simp; try (with_reducible rfl))
          case' b2_r7 => simp only [List.setIfInBounds_toArray, List.set_cons_zero, List.set_cons_succ]
          refine Reg.takeIf (i := 8) (u := ?b2_v8) rfl rfl rfl rfl rfl (by kernel_rfl) (by kernel_rfl) (by kernel_rfl) hH ?b2_y8 ?b2_r8
          case b2_y8 => (intro w hSw; (try dsimp only at hSw); go_simp; try (with_reducible rfl))
          case' b2_r8 => simp only [List.setIfInBounds_toArray, List.set_cons_zero, List.set_cons_succ]
          refine Reg.takeIf (i := 9) (u := ?b2_v9) rfl rfl rfl rfl rfl (by kernel_rfl) (by kernel_rfl) (by kernel_rfl) hH ?b2_y9 ?b2_r9
          case b2_y9 => (intro w hSw; (try dsimp only at hSw); go_simp; try (with_reducible rfl))
          case' b2_r9 => simp only [List.setIfInBounds_toArray, List.set_cons_zero, List.set_cons_succ]
          refine Reg.only (i := 10) rfl (Reg.wanted_hit rfl rfl rfl) (by kernel_rfl) (fun K hK => ?_)
          go_simp
          go_at_call 69; refine (hq _).mono ?_; rintro e w2 ⟨rfl, h2⟩; go_simp
          refine hK.out _ _ ?_ (fun hH2 => ?_)
          · exact (by show w2.cell? _ = _; rw [World.cell?_of_block (h2.block _ la)]; exact c0)
          clear hK hH
          have hH := hH2; clear hH2
          try simp only [Act.put, List.setIfInBounds_toArray, List.set_cons_zero, List.set_cons_succ]
          refine Reg.take (i := 11) (u := ?b2_v11) rfl rfl rfl (by kernel_rfl) (by kernel_rfl) (by kernel_rfl) hH ?b2_y11 ?b2_r11
          case b2_y11 => (intro w hSw; (try dsimp only at hSw); go_simp; try (with_reducible rfl))
          case' b2_r11 => simp only [List.setIfInBounds_toArray, List.set_cons_zero, List.set_cons_succ]
          refine Reg.take (i := 12) (u := ?b2_v12) rfl rfl rfl (by kernel_rfl) (by kernel_rfl) (by kernel_rfl) hH ?b2_y12 ?b2_r12
          case b2_y12 => (intro w hSw; (try dsimp only at hSw); go_simp; try (with_reducible rfl))
          case' b2_r12 => simp only [List.setIfInBounds_toArray, List.set_cons_zero, List.set_cons_succ]
          refine Reg.skip (i := 13) rfl rfl rfl rfl rfl (by first | exact Value.noConfusion | (intro h; cases h)) (by kernel_rfl) (by kernel_rfl) (by kernel_rfl) hH ?_
          simp only [List.setIfInBounds_toArray, List.set_cons_zero, List.set_cons_succ]
          refine Reg.skip (i := 14) rfl rfl rfl rfl rfl (by first | exact Value.noConfusion | (intro h; cases h)) (by kernel_rfl) (by kernel_rfl) (by kernel_rfl) hH ?_
          simp only [List.setIfInBounds_toArray, List.set_cons_zero, List.set_cons_succ]
          refine Reg.skip (i := 15) rfl rfl rfl rfl rfl (by first | exact Value.noConfusion | (intro h; cases h)) (by kernel_rfl) (by kernel_rfl) (by kernel_rfl) hH ?_
          simp only [List.setIfInBounds_toArray, List.set_cons_zero, List.set_cons_succ]
          refine Reg.skip (i := 16) rfl rfl rfl rfl rfl (by first | exact Value.noConfusion | (intro h; cases h)) (by kernel_rfl) (by kernel_rfl) (by kernel_rfl) hH ?_
          simp only [List.setIfInBounds_toArray, List.set_cons_zero, List.set_cons_succ]
          refine Reg.skip (i := 17) rfl rfl rfl rfl rfl (by first | exact Value.noConfusion | (intro h; cases h)) (by kernel_rfl) (by kernel_rfl) (by kernel_rfl) hH ?_
          simp only [List.setIfInBounds_toArray, List.set_cons_zero, List.set_cons_succ]
          refine Reg.skip (i := 18) rfl rfl rfl rfl rfl (by first | exact Value.noConfusion | (intro h; cases h)) (by kernel_rfl) (by kernel_rfl) (by kernel_rfl) hH ?_
          simp only [List.setIfInBounds_toArray, List.set_cons_zero, List.set_cons_succ]
          refine Reg.skip (i := 19) rfl rfl rfl rfl rfl (by first | exact Value.noConfusion | (intro h; cases h)) (by kernel_rfl) (by kernel_rfl) (by kernel_rfl) hH ?_
          simp only [List.setIfInBounds_toArray, List.set_cons_zero, List.set_cons_succ]
          refine Reg.skip (i := 20) rfl rfl rfl rfl rfl (by first | exact Value.noConfusion | (intro h; cases h)) (by kernel_rfl) (by kernel_rfl) (by kernel_rfl) hH ?_
          simp only [List.setIfInBounds_toArray, List.set_cons_zero, List.set_cons_succ]
          refine Reg.skip (i := 21) rfl rfl rfl rfl rfl (by first | exact Value.noConfusion | (intro h; cases h)) (by kernel_rfl) (by kernel_rfl) (by kernel_rfl) hH ?_
          simp only [List.setIfInBounds_toArray, List.set_cons_zero, List.set_cons_succ]
          refine Reg.skip (i := 22) rfl rfl rfl rfl rfl (by first | exact Value.noConfusion | (intro h; cases h)) (by kernel_rfl) (by kernel_rfl) (by kernel_rfl) hH ?_
          simp only [List.setIfInBounds_toArray, List.set_cons_zero, List.set_cons_succ]
          refine Reg.skip (i := 23) rfl rfl rfl rfl rfl (by first | exact Value.noConfusion | (intro h; cases h)) (by kernel_rfl) (by kernel_rfl) (by kernel_rfl) hH ?_
          simp only [List.setIfInBounds_toArray, List.set_cons_zero, List.set_cons_succ]
          refine Reg.skip (i := 24) rfl rfl rfl rfl rfl (by first | exact Value.noConfusion | (intro h; cases h)) (by kernel_rfl) (by kernel_rfl) (by kernel_rfl) hH ?_
          simp only [List.setIfInBounds_toArray, List.set_cons_zero, List.set_cons_succ]
          refine Reg.skip (i := 25) rfl rfl rfl rfl rfl (by first | exact Value.noConfusion | (intro h; cases h)) (by kernel_rfl) (by kernel_rfl) (by kernel_rfl) hH ?_
          simp only [List.setIfInBounds_toArray, List.set_cons_zero, List.set_cons_succ]
          refine Reg.skip (i := 26) rfl rfl rfl rfl rfl (by first | exact Value.noConfusion | (intro h; cases h)) (by kernel_rfl) (by kernel_rfl) (by kernel_rfl) hH ?_
          simp only [List.setIfInBounds_toArray, List.set_cons_zero, List.set_cons_succ]
          refine Reg.skip (i := 27) rfl rfl rfl rfl rfl (by first | exact Value.noConfusion | (intro h; cases h)) (by kernel_rfl) (by kernel_rfl) (by kernel_rfl) hH ?_
          simp only [List.setIfInBounds_toArray, List.set_cons_zero, List.set_cons_succ]
          refine Reg.skip (i := 28) rfl rfl rfl rfl rfl (by first | exact Value.noConfusion | (intro h; cases h)) (by kernel_rfl) (by kernel_rfl) (by kernel_rfl) hH ?_
          simp only [List.setIfInBounds_toArray, List.set_cons_zero, List.set_cons_succ]
          refine Reg.skip (i := 29) rfl rfl rfl rfl rfl (by first | exact Value.noConfusion | (intro h; cases h)) (by kernel_rfl) (by kernel_rfl) (by kernel_rfl) hH ?_
          simp only [List.setIfInBounds_toArray, List.set_cons_zero, List.set_cons_succ]
          refine Reg.take (i := 30) (u := ?b2_v30) rfl rfl rfl (by kernel_rfl) (by kernel_rfl) (by kernel_rfl) hH ?b2_y30 ?b2_r30
          case b2_y30 => (intro w hSw; (try dsimp only at hSw); go_simp; try (with_reducible rfl))
          case' b2_r30 => simp only [List.setIfInBounds_toArray, List.set_cons_zero, List.set_cons_succ]
          refine wpAnyH_done (by kernel_rfl) ?_ _
          refine NoPanic.normal ?_
          go_wp2
          go_roundw
          case rel => exact ⟨k + 1, by go_num, by omega, by rw [Hn.out], hbl.trans (below_of_drew h2 hsz)⟩
          case measure => simp [intOf]; omega
        · rw [hfk, hne] at hn
          by_cases hneg : b < 0
          · have hb0 : decide (b < 0) = true := decide_eq_true hneg
            rw [if_pos (by rw [hb0]; simp)] at hn
            have Hn := Lib.hid hn
            clear hn hls hb hpl hf hfk
            go_wp2
            refine wp_region_noPanic ?_
            refine wp_region_held_drew (S := fun w' => w'.cell? (ad.add (k * 3)) = some (.string ⟨d.path.toArray⟩)) (by kernel_rfl) ?_ (fun hH => ?_)
            · exact c0
            refine Reg.take (i := 0) (u := ?b3_v0) rfl rfl rfl (by kernel_rfl) (by kernel_rfl) (by kernel_rfl) hH ?b3_y0 ?b3_r0
            case b3_y0 => (intro w hSw; (try dsimp only at hSw); go_simp; try (with_reducible rfl))
            case' b3_r0 => simp only [List.setIfInBounds_toArray, List.set_cons_zero, List.set_cons_succ]
            refine Reg.take (i := 1) (u := ?b3_v1) rfl rfl rfl (by kernel_rfl) (by kernel_rfl) (by kernel_rfl) hH ?b3_y1 ?b3_r1
            case b3_y1 => (intro w hSw; (try dsimp only at hSw); go_simp; try (with_reducible rfl))
            case' b3_r1 => simp only [List.setIfInBounds_toArray, List.set_cons_zero, List.set_cons_succ]
            refine Reg.take (i := 2) (u := ?b3_v2) rfl rfl rfl (by kernel_rfl) (by kernel_rfl) (by kernel_rfl) hH ?b3_y2 ?b3_r2
            case b3_y2 => (intro w hSw; (try dsimp only at hSw); go_simp; try (with_reducible rfl))
            case' b3_r2 => simp only [List.setIfInBounds_toArray, List.set_cons_zero, List.set_cons_succ]
            try simp only [hne]
            refine Reg.take (i := 3) (u := ?b3_v3) rfl rfl rfl (by kernel_rfl) (by kernel_rfl) (by kernel_rfl) hH ?b3_y3 ?b3_r3
            case b3_y3 => (intro w hSw; (try dsimp only at hSw); go_simp; try (with_reducible rfl))
            case' b3_r3 => simp only [List.setIfInBounds_toArray, List.set_cons_zero, List.set_cons_succ]
            refine Reg.takeIf (i := 4) (u := ?b3_v4) rfl rfl rfl rfl rfl (by kernel_rfl) (by kernel_rfl) (by kernel_rfl) hH ?b3_y4 ?b3_r4
            case b3_y4 => (intro w hSw; (try dsimp only at hSw); go_simp; try (with_reducible rfl))
            case' b3_r4 => simp only [List.setIfInBounds_toArray, List.set_cons_zero, List.set_cons_succ]
            refine Reg.takeIf (i := 5) (u := ?b3_v5) rfl rfl rfl rfl rfl (by kernel_rfl) (by kernel_rfl) (by kernel_rfl) hH ?b3_y5 ?b3_r5
            case b3_y5 => (intro w hSw; (try dsimp only at hSw); go_simp; try (with_reducible rfl))
            case' b3_r5 => simp only [List.setIfInBounds_toArray, List.set_cons_zero, List.set_cons_succ]
            refine Reg.takeIf (i := 6) (u := ?b3_v6) rfl rfl rfl rfl rfl (by kernel_rfl) (by kernel_rfl) (by kernel_rfl) hH ?b3_y6 ?b3_r6
            case b3_y6 => (intro w hSw; (try dsimp only at hSw); go_simp; try (with_reducible rfl))
            case' b3_r6 => simp only [List.setIfInBounds_toArray, List.set_cons_zero, List.set_cons_succ]
            refine Reg.takeIf (i := 7) (u := ?b3_v7) rfl rfl rfl rfl rfl (by kernel_rfl) (by kernel_rfl) (by kernel_rfl) hH ?b3_y7 ?b3_r7
            case b3_y7 => (intro w hSw; (try dsimp only at hSw); go_simp; try (with_reducible rfl))
            case' b3_r7 => simp only [List.setIfInBounds_toArray, List.set_cons_zero, List.set_cons_succ]
            refine Reg.takeIf (i := 8) (u := ?b3_v8) rfl rfl rfl rfl rfl (by kernel_rfl) (by kernel_rfl) (by kernel_rfl) hH ?b3_y8 ?b3_r8
            case b3_y8 => (intro w hSw; (try dsimp only at hSw); go_simp; try (with_reducible rfl))
            case' b3_r8 => simp only [List.setIfInBounds_toArray, List.set_cons_zero, List.set_cons_succ]
            refine Reg.takeIf (i := 9) (u := ?b3_v9) rfl rfl rfl rfl rfl (by kernel_rfl) (by kernel_rfl) (by kernel_rfl) hH ?b3_y9 ?b3_r9
            case b3_y9 => (intro w hSw; (try dsimp only at hSw); go_simp; try (with_reducible rfl))
            case' b3_r9 => simp only [List.setIfInBounds_toArray, List.set_cons_zero, List.set_cons_succ]
            refine Reg.only (i := 10) rfl (Reg.wanted_hit rfl rfl rfl) (by kernel_rfl) (fun K hK => ?_)
            go_simp
            go_at_call 69; refine (hq _).mono ?_; rintro e w2 ⟨rfl, h2⟩; go_simp
            refine hK.out _ _ ?_ (fun hH2 => ?_)
            · exact (by show w2.cell? _ = _; rw [World.cell?_of_block (h2.block _ la)]; exact c0)
            clear hK hH
            have hH := hH2; clear hH2
            try simp only [Act.put, List.setIfInBounds_toArray, List.set_cons_zero, List.set_cons_succ]
            refine Reg.take (i := 11) (u := ?b3_v11) rfl rfl rfl (by kernel_rfl) (by kernel_rfl) (by kernel_rfl) hH ?b3_y11 ?b3_r11
            case b3_y11 => (intro w hSw; (try dsimp only at hSw); go_simp; try (with_reducible rfl))
            case' b3_r11 => simp only [List.setIfInBounds_toArray, List.set_cons_zero, List.set_cons_succ]
            refine Reg.take (i := 12) (u := ?b3_v12) rfl rfl rfl (by kernel_rfl) (by kernel_rfl) (by kernel_rfl) hH ?b3_y12 ?b3_r12
            case b3_y12 => (intro w hSw; (try dsimp only at hSw); go_simp; try (with_reducible rfl))
            case' b3_r12 => simp only [List.setIfInBounds_toArray, List.set_cons_zero, List.set_cons_succ]
            refine Reg.takeIf (i := 13) (u := ?b3_v13) rfl rfl rfl rfl rfl (by kernel_rfl) (by kernel_rfl) (by kernel_rfl) hH ?b3_y13 ?b3_r13
            case b3_y13 => (intro w hSw; (try dsimp only at hSw); go_simp; try (with_reducible rfl))
            case' b3_r13 => simp only [List.setIfInBounds_toArray, List.set_cons_zero, List.set_cons_succ]
            refine Reg.takeIf (i := 14) (u := ?b3_v14) rfl rfl rfl rfl rfl (by kernel_rfl) (by kernel_rfl) (by kernel_rfl) hH ?b3_y14 ?b3_r14
            case b3_y14 => (intro w hSw; (try dsimp only at hSw); go_simp; try (with_reducible rfl))
            case' b3_r14 => simp only [List.setIfInBounds_toArray, List.set_cons_zero, List.set_cons_succ]
            try simp only [hb0]
            refine Reg.takeIf (i := 15) (u := ?b3_v15) rfl rfl rfl rfl rfl (by kernel_rfl) (by kernel_rfl) (by kernel_rfl) hH ?b3_y15 ?b3_r15
            case b3_y15 => (intro w hSw; (try dsimp only at hSw); go_simp; try (with_reducible rfl))
            case' b3_r15 => simp only [List.setIfInBounds_toArray, List.set_cons_zero, List.set_cons_succ]
            refine Reg.skip (i := 16) rfl rfl rfl rfl rfl (by first | exact Value.noConfusion | (intro h; cases h)) (by kernel_rfl) (by kernel_rfl) (by kernel_rfl) hH ?_
            simp only [List.setIfInBounds_toArray, List.set_cons_zero, List.set_cons_succ]
            refine Reg.skip (i := 17) rfl rfl rfl rfl rfl (by first | exact Value.noConfusion | (intro h; cases h)) (by kernel_rfl) (by kernel_rfl) (by kernel_rfl) hH ?_
            simp only [List.setIfInBounds_toArray, List.set_cons_zero, List.set_cons_succ]
            refine Reg.skip (i := 18) rfl rfl rfl rfl rfl (by first | exact Value.noConfusion | (intro h; cases h)) (by kernel_rfl) (by kernel_rfl) (by kernel_rfl) hH ?_
            simp only [List.setIfInBounds_toArray, List.set_cons_zero, List.set_cons_succ]
            refine Reg.skip (i := 19) rfl rfl rfl rfl rfl (by first | exact Value.noConfusion | (intro h; cases h)) (by kernel_rfl) (by kernel_rfl) (by kernel_rfl) hH ?_
            simp only [List.setIfInBounds_toArray, List.set_cons_zero, List.set_cons_succ]
            refine Reg.skip (i := 20) rfl rfl rfl rfl rfl (by first | exact Value.noConfusion | (intro h; cases h)) (by kernel_rfl) (by kernel_rfl) (by kernel_rfl) hH ?_
            simp only [List.setIfInBounds_toArray, List.set_cons_zero, List.set_cons_succ]
            refine Reg.skip (i := 21) rfl rfl rfl rfl rfl (by first | exact Value.noConfusion | (intro h; cases h)) (by kernel_rfl) (by kernel_rfl) (by kernel_rfl) hH ?_
            simp only [List.setIfInBounds_toArray, List.set_cons_zero, List.set_cons_succ]
            refine Reg.skip (i := 22) rfl rfl rfl rfl rfl (by first | exact Value.noConfusion | (intro h; cases h)) (by kernel_rfl) (by kernel_rfl) (by kernel_rfl) hH ?_
            simp only [List.setIfInBounds_toArray, List.set_cons_zero, List.set_cons_succ]
            refine Reg.skip (i := 23) rfl rfl rfl rfl rfl (by first | exact Value.noConfusion | (intro h; cases h)) (by kernel_rfl) (by kernel_rfl) (by kernel_rfl) hH ?_
            simp only [List.setIfInBounds_toArray, List.set_cons_zero, List.set_cons_succ]
            refine Reg.skip (i := 24) rfl rfl rfl rfl rfl (by first | exact Value.noConfusion | (intro h; cases h)) (by kernel_rfl) (by kernel_rfl) (by kernel_rfl) hH ?_
            simp only [List.setIfInBounds_toArray, List.set_cons_zero, List.set_cons_succ]
            refine Reg.skip (i := 25) rfl rfl rfl rfl rfl (by first | exact Value.noConfusion | (intro h; cases h)) (by kernel_rfl) (by kernel_rfl) (by kernel_rfl) hH ?_
            simp only [List.setIfInBounds_toArray, List.set_cons_zero, List.set_cons_succ]
            refine Reg.skip (i := 26) rfl rfl rfl rfl rfl (by first | exact Value.noConfusion | (intro h; cases h)) (by kernel_rfl) (by kernel_rfl) (by kernel_rfl) hH ?_
            simp only [List.setIfInBounds_toArray, List.set_cons_zero, List.set_cons_succ]
            refine Reg.skip (i := 27) rfl rfl rfl rfl rfl (by first | exact Value.noConfusion | (intro h; cases h)) (by kernel_rfl) (by kernel_rfl) (by kernel_rfl) hH ?_
            simp only [List.setIfInBounds_toArray, List.set_cons_zero, List.set_cons_succ]
            refine Reg.skip (i := 28) rfl rfl rfl rfl rfl (by first | exact Value.noConfusion | (intro h; cases h)) (by kernel_rfl) (by kernel_rfl) (by kernel_rfl) hH ?_
            simp only [List.setIfInBounds_toArray, List.set_cons_zero, List.set_cons_succ]
            refine Reg.takeIf (i := 29) (u := ?b3_v29) rfl rfl rfl rfl rfl (by kernel_rfl) (by kernel_rfl) (by kernel_rfl) hH ?b3_y29 ?b3_r29
            case b3_y29 => (intro w hSw; (try dsimp only at hSw); go_simp; try (with_reducible rfl))
            case' b3_r29 => simp only [List.setIfInBounds_toArray, List.set_cons_zero, List.set_cons_succ]
            refine Reg.take (i := 30) (u := ?b3_v30) rfl rfl rfl (by kernel_rfl) (by kernel_rfl) (by kernel_rfl) hH ?b3_y30 ?b3_r30
            case b3_y30 => (intro w hSw; (try dsimp only at hSw); go_simp; try (with_reducible rfl))
            case' b3_r30 => simp only [List.setIfInBounds_toArray, List.set_cons_zero, List.set_cons_succ]
            refine wpAnyH_done (by kernel_rfl) ?_ _
            refine NoPanic.normal ?_
            go_wp2
            go_roundw
            case rel => exact ⟨k + 1, by go_num, by omega, by rw [Hn.out], hbl.trans (below_of_drew h2 hsz)⟩
            case measure => simp [intOf]; omega
          · have hb1 : decide (b < 0) = false := decide_eq_false hneg
            obtain ⟨m, rfl⟩ : ∃ m : Nat, b = m := ⟨b.toNat, by omega⟩
            have hmL : m < L.length := by omega
            obtain ⟨ad', dm, ea, hbm, hlm, x0, x1, x2⟩ := hD2.fields hmL
            cases ea
            have hplm := Inh.plen_get hlm
            have lm : (ad.add (m * 3)).block < wr.heap.size := by rw [add_block]; exact hbb
            have hmL' : (m : Int) < (L.length : Int) := by omega
            have hm0 : (0 : Int) ≤ (m : Int) := by omega
            have hdm : dm.path.length ≤ 200 := (hs.2 dm (List.mem_of_getElem? hlm)).2
            simp only [Int.toNat_natCast] at hn
            simp only [hpl, hplm, hb1, Bool.true_and, Bool.false_or, decide_eq_true_eq] at hn
            by_cases hcmp : dm.path.length < d.path.length
            · rw [if_pos hcmp] at hn
              have Hn := Lib.hid hn
              have hcmp' : (dm.path.length : Int) < (d.path.length : Int) := by omega
              clear hn hls hlm hb hpl hplm hf hfk
              go_wp2
              refine wp_region_noPanic ?_
              refine wp_region_held_drew (S := fun w' => w'.cell? (ad.add (k * 3)) = some (.string ⟨d.path.toArray⟩) ∧ w'.cell? (ad.add (m * 3)) = some (.string ⟨dm.path.toArray⟩)) (by kernel_rfl) ?_ (fun hH => ?_)
              · exact ⟨c0, x0⟩
              refine Reg.take (i := 0) (u := ?b4_v0) rfl rfl rfl (by kernel_rfl) (by kernel_rfl) (by kernel_rfl) hH ?b4_y0 ?b4_r0
              case b4_y0 => (intro w hSw; (try dsimp only at hSw); go_simp; try (with_reducible rfl))
              case' b4_r0 => simp only [List.setIfInBounds_toArray, List.set_cons_zero, List.set_cons_succ]
              refine Reg.take (i := 1) (u := ?b4_v1) rfl rfl rfl (by kernel_rfl) (by kernel_rfl) (by kernel_rfl) hH ?b4_y1 ?b4_r1
              case b4_y1 => (intro w hSw; (try dsimp only at hSw); go_simp; try (with_reducible rfl))
              case' b4_r1 => simp only [List.setIfInBounds_toArray, List.set_cons_zero, List.set_cons_succ]
              refine Reg.take (i := 2) (u := ?b4_v2) rfl rfl rfl (by kernel_rfl) (by kernel_rfl) (by kernel_rfl) hH ?b4_y2 ?b4_r2
              case b4_y2 => (intro w hSw; (try dsimp only at hSw); go_simp; try (with_reducible rfl))
              case' b4_r2 => simp only [List.setIfInBounds_toArray, List.set_cons_zero, List.set_cons_succ]
              try simp only [hne]
              refine Reg.take (i := 3) (u := ?b4_v3) rfl rfl rfl (by kernel_rfl) (by kernel_rfl) (by kernel_rfl) hH ?b4_y3 ?b4_r3
              case b4_y3 => (intro w hSw; (try dsimp only at hSw); go_simp; try (with_reducible rfl))
              case' b4_r3 => simp only [List.setIfInBounds_toArray, List.set_cons_zero, List.set_cons_succ]
              refine Reg.takeIf (i := 4) (u := ?b4_v4) rfl rfl rfl rfl rfl (by kernel_rfl) (by kernel_rfl) (by kernel_rfl) hH ?b4_y4 ?b4_r4
              case b4_y4 => (intro w hSw; (try dsimp only at hSw); go_simp; try (with_reducible rfl))
              case' b4_r4 => simp only [List.setIfInBounds_toArray, List.set_cons_zero, List.set_cons_succ]
              refine Reg.takeIf (i := 5) (u := ?b4_v5) rfl rfl rfl rfl rfl (by kernel_rfl) (by kernel_rfl) (by kernel_rfl) hH ?b4_y5 ?b4_r5
              case b4_y5 => (intro w hSw; (try dsimp only at hSw); go_simp; try (with_reducible rfl))
              case' b4_r5 => simp only [List.setIfInBounds_toArray, List.set_cons_zero, List.set_cons_succ]
              refine Reg.takeIf (i := 6) (u := ?b4_v6) rfl rfl rfl rfl rfl (by kernel_rfl) (by kernel_rfl) (by kernel_rfl) hH ?b4_y6 ?b4_r6
              case b4_y6 => (intro w hSw; (try dsimp only at hSw); go_simp; try (with_reducible rfl))
              case' b4_r6 => simp only [List.setIfInBounds_toArray, List.set_cons_zero, List.set_cons_succ]
              refine Reg.takeIf (i := 7) (u := ?b4_v7) rfl rfl rfl rfl rfl (by kernel_rfl) (by kernel_rfl) (by kernel_rfl) hH ?b4_y7 ?b4_r7
              case b4_y7 => (intro w hSw; (try dsimp only at hSw); go_simp; try (with_reducible rfl))
              case' b4_r7 => simp only [List.setIfInBounds_toArray, List.set_cons_zero, List.set_cons_succ]
              refine Reg.takeIf (i := 8) (u := ?b4_v8) rfl rfl rfl rfl rfl (by kernel_rfl) (by kernel_rfl) (by kernel_rfl) hH ?b4_y8 ?b4_r8
              case b4_y8 => (intro w hSw; (try dsimp only at hSw); go_simp; try (with_reducible rfl))
              case' b4_r8 => simp only [List.setIfInBounds_toArray, List.set_cons_zero, List.set_cons_succ]
              refine Reg.takeIf (i := 9) (u := ?b4_v9) rfl rfl rfl rfl rfl (by kernel_rfl) (by kernel_rfl) (by kernel_rfl) hH ?b4_y9 ?b4_r9
              case b4_y9 => (intro w hSw; (try dsimp only at hSw); go_simp; try (with_reducible rfl))
              case' b4_r9 => simp only [List.setIfInBounds_toArray, List.set_cons_zero, List.set_cons_succ]
              refine Reg.only (i := 10) rfl (Reg.wanted_hit rfl rfl rfl) (by kernel_rfl) (fun K hK => ?_)
              go_simp
              go_at_call 69; refine (hq _).mono ?_; rintro e w2 ⟨rfl, h2⟩; go_simp
              refine hK.out _ _ ?_ (fun hH2 => ?_)
              · exact ⟨by show w2.cell? _ = _; rw [World.cell?_of_block (h2.block _ la)]; exact c0, by show w2.cell? _ = _; rw [World.cell?_of_block (h2.block _ lm)]; exact x0⟩
              clear hK hH
              have hH := hH2; clear hH2
              try simp only [Act.put, List.setIfInBounds_toArray, List.set_cons_zero, List.set_cons_succ]
              refine Reg.take (i := 11) (u := ?b4_v11) rfl rfl rfl (by kernel_rfl) (by kernel_rfl) (by kernel_rfl) hH ?b4_y11 ?b4_r11
              case b4_y11 => (intro w hSw; (try dsimp only at hSw); go_simp; try (with_reducible rfl))
              case' b4_r11 => simp only [List.setIfInBounds_toArray, List.set_cons_zero, List.set_cons_succ]
              refine Reg.take (i := 12) (u := ?b4_v12) rfl rfl rfl (by kernel_rfl) (by kernel_rfl) (by kernel_rfl) hH ?b4_y12 ?b4_r12
              case b4_y12 => (intro w hSw; (try dsimp only at hSw); go_simp; try (with_reducible rfl))
              case' b4_r12 => simp only [List.setIfInBounds_toArray, List.set_cons_zero, List.set_cons_succ]
              refine Reg.takeIf (i := 13) (u := ?b4_v13) rfl rfl rfl rfl rfl (by kernel_rfl) (by kernel_rfl) (by kernel_rfl) hH ?b4_y13 ?b4_r13
              case b4_y13 => (intro w hSw; (try dsimp only at hSw); go_simp; try (with_reducible rfl))
              case' b4_r13 => simp only [List.setIfInBounds_toArray, List.set_cons_zero, List.set_cons_succ]
              refine Reg.takeIf (i := 14) (u := ?b4_v14) rfl rfl rfl rfl rfl (by kernel_rfl) (by kernel_rfl) (by kernel_rfl) hH ?b4_y14 ?b4_r14
              case b4_y14 => (intro w hSw; (try dsimp only at hSw); go_simp; try (with_reducible rfl))
              case' b4_r14 => simp only [List.setIfInBounds_toArray, List.set_cons_zero, List.set_cons_succ]
              try simp only [hb1]
              refine Reg.takeIf (i := 15) (u := ?b4_v15) rfl rfl rfl rfl rfl (by kernel_rfl) (by kernel_rfl) (by kernel_rfl) hH ?b4_y15 ?b4_r15
              case b4_y15 => (intro w hSw; (try dsimp only at hSw); go_simp; try (with_reducible rfl))
              case' b4_r15 => simp only [List.setIfInBounds_toArray, List.set_cons_zero, List.set_cons_succ]
              refine Reg.takeIf (i := 16) (u := ?b4_v16) rfl rfl rfl rfl rfl (by kernel_rfl) (by kernel_rfl) (by kernel_rfl) hH ?b4_y16 ?b4_r16
              case b4_y16 => (intro w hSw; (try dsimp only at hSw); go_simp; try (with_reducible rfl))
              case' b4_r16 => simp only [List.setIfInBounds_toArray, List.set_cons_zero, List.set_cons_succ]
              refine Reg.takeIf (i := 17) (u := ?b4_v17) rfl rfl rfl rfl rfl (by kernel_rfl) (by kernel_rfl) (by kernel_rfl) hH ?b4_y17 ?b4_r17
              case b4_y17 => (intro w hSw; (try dsimp only at hSw); go_simp; try (with_reducible rfl))
              case' b4_r17 => simp only [List.setIfInBounds_toArray, List.set_cons_zero, List.set_cons_succ]
              refine Reg.takeIf (i := 18) (u := ?b4_v18) rfl rfl rfl rfl rfl (by kernel_rfl) (by kernel_rfl) (by kernel_rfl) hH ?b4_y18 ?b4_r18
              case b4_y18 => (intro w hSw; (try dsimp only at hSw); go_simp; try (with_reducible rfl))
              case' b4_r18 => simp only [List.setIfInBounds_toArray, List.set_cons_zero, List.set_cons_succ]
              refine Reg.takeIf (i := 19) (u := ?b4_v19) rfl rfl rfl rfl rfl (by kernel_rfl) (by kernel_rfl) (by kernel_rfl) hH ?b4_y19 ?b4_r19
              case b4_y19 => (intro w hSw; (try dsimp only at hSw); go_simp; try (with_reducible rfl))
              case' b4_r19 => simp only [List.setIfInBounds_toArray, List.set_cons_zero, List.set_cons_succ]
              refine Reg.takeIf (i := 20) (u := ?b4_v20) rfl rfl rfl rfl rfl (by kernel_rfl) (by kernel_rfl) (by kernel_rfl) hH ?b4_y20 ?b4_r20
              case b4_y20 => (intro w hSw; (try dsimp only at hSw); go_simp; try (with_reducible rfl))
              case' b4_r20 => simp only [List.setIfInBounds_toArray, List.set_cons_zero, List.set_cons_succ]
              refine Reg.takeIf (i := 21) (u := ?b4_v21) rfl rfl rfl rfl rfl (by kernel_rfl) (by kernel_rfl) (by kernel_rfl) hH ?b4_y21 ?b4_r21
              case b4_y21 => (intro w hSw; (try dsimp only at hSw); go_simp; try (with_reducible rfl))
              case' b4_r21 => simp only [List.setIfInBounds_toArray, List.set_cons_zero, List.set_cons_succ]
              refine Reg.takeIf (i := 22) (u := ?b4_v22) rfl rfl rfl rfl rfl (by kernel_rfl) (by kernel_rfl) (by kernel_rfl) hH ?b4_y22 ?b4_r22
              case b4_y22 => (intro w hSw; (try dsimp only at hSw); go_simp; try (with_reducible rfl))
              case' b4_r22 => simp only [List.setIfInBounds_toArray, List.set_cons_zero, List.set_cons_succ]
              refine Reg.takeIf (i := 23) (u := ?b4_v23) rfl rfl rfl rfl rfl (by kernel_rfl) (by kernel_rfl) (by kernel_rfl) hH ?b4_y23 ?b4_r23
              case b4_y23 => (intro w hSw; (try dsimp only at hSw); go_simp; try (with_reducible rfl))
              case' b4_r23 => simp only [List.setIfInBounds_toArray, List.set_cons_zero, List.set_cons_succ]
              refine Reg.takeIf (i := 24) (u := ?b4_v24) rfl rfl rfl rfl rfl (by kernel_rfl) (by kernel_rfl) (by kernel_rfl) hH ?b4_y24 ?b4_r24
              case b4_y24 => (intro w hSw; (try dsimp only at hSw); go_simp; try (with_reducible rfl))
              case' b4_r24 => simp only [List.setIfInBounds_toArray, List.set_cons_zero, List.set_cons_succ]
              refine Reg.takeIf (i := 25) (u := ?b4_v25) rfl rfl rfl rfl rfl (by kernel_rfl) (by kernel_rfl) (by kernel_rfl) hH ?b4_y25 ?b4_r25
              case b4_y25 => (intro w hSw; (try dsimp only at hSw); go_simp; try (with_reducible rfl))
              case' b4_r25 => simp only [List.setIfInBounds_toArray, List.set_cons_zero, List.set_cons_succ]
              refine Reg.takeIf (i := 26) (u := ?b4_v26) rfl rfl rfl rfl rfl (by kernel_rfl) (by kernel_rfl) (by kernel_rfl) hH ?b4_y26 ?b4_r26
              case b4_y26 => (intro w hSw; (try dsimp only at hSw); go_simp; try (with_reducible rfl))
              case' b4_r26 => simp only [List.setIfInBounds_toArray, List.set_cons_zero, List.set_cons_succ]
              refine Reg.takeIf (i := 27) (u := ?b4_v27) rfl rfl rfl rfl rfl (by kernel_rfl) (by kernel_rfl) (by kernel_rfl) hH ?b4_y27 ?b4_r27
              case b4_y27 => (intro w hSw; (try dsimp only at hSw); go_simp; try (with_reducible rfl))
              case' b4_r27 => simp only [List.setIfInBounds_toArray, List.set_cons_zero, List.set_cons_succ]
              refine Reg.takeIf (i := 28) (u := ?b4_v28) rfl rfl rfl rfl rfl (by kernel_rfl) (by kernel_rfl) (by kernel_rfl) hH ?b4_y28 ?b4_r28
              case b4_y28 => (intro w hSw; (try dsimp only at hSw); go_simp; try (with_reducible rfl))
              case' b4_r28 => simp only [List.setIfInBounds_toArray, List.set_cons_zero, List.set_cons_succ]
              refine Reg.takeIf (i := 29) (u := ?b4_v29) rfl rfl rfl rfl rfl (by kernel_rfl) (by kernel_rfl) (by kernel_rfl) hH ?b4_y29 ?b4_r29
              case b4_y29 => (intro w hSw; (try dsimp only at hSw); go_simp; try (with_reducible rfl))
              case' b4_r29 => simp only [List.setIfInBounds_toArray, List.set_cons_zero, List.set_cons_succ]
              refine Reg.take (i := 30) (u := ?b4_v30) rfl rfl rfl (by kernel_rfl) (by kernel_rfl) (by kernel_rfl) hH ?b4_y30 ?b4_r30
              case b4_y30 => (intro w hSw; (try dsimp only at hSw); go_simp; try (with_reducible rfl))
              case' b4_r30 => simp only [List.setIfInBounds_toArray, List.set_cons_zero, List.set_cons_succ]
              refine wpAnyH_done (by kernel_rfl) ?_ _
              refine NoPanic.normal ?_
              go_wp2
              go_roundw
              case rel => exact ⟨k + 1, by go_num, by omega, by rw [Hn.out], hbl.trans (below_of_drew h2 hsz)⟩
              case measure => simp [intOf]; omega
            · rw [if_neg hcmp] at hn
              have Hn := Lib.hid hn
              have hcmp' : ¬ (dm.path.length : Int) < (d.path.length : Int) := by omega
              clear hn hls hlm hb hpl hplm hf hfk
              go_wp2
              refine wp_region_noPanic ?_
              refine wp_region_held_drew (S := fun w' => w'.cell? (ad.add (k * 3)) = some (.string ⟨d.path.toArray⟩) ∧ w'.cell? (ad.add (m * 3)) = some (.string ⟨dm.path.toArray⟩)) (by kernel_rfl) ?_ (fun hH => ?_)
              · exact ⟨c0, x0⟩
              refine Reg.take (i := 0) (u := ?b5_v0) rfl rfl rfl (by kernel_rfl) (by kernel_rfl) (by kernel_rfl) hH ?b5_y0 ?b5_r0
              case b5_y0 => (intro w hSw; (try dsimp only at hSw); go_simp; try (with_reducible rfl))
              case' b5_r0 => simp only [List.setIfInBounds_toArray, List.set_cons_zero, List.set_cons_succ]
              refine Reg.take (i := 1) (u := ?b5_v1) rfl rfl rfl (by kernel_rfl) (by kernel_rfl) (by kernel_rfl) hH ?b5_y1 ?b5_r1
              case b5_y1 => (intro w hSw; (try dsimp only at hSw); go_simp; try (with_reducible rfl))
              case' b5_r1 => simp only [List.setIfInBounds_toArray, List.set_cons_zero, List.set_cons_succ]
              refine Reg.take (i := 2) (u := ?b5_v2) rfl rfl rfl (by kernel_rfl) (by kernel_rfl) (by kernel_rfl) hH ?b5_y2 ?b5_r2
              case b5_y2 => (intro w hSw; (try dsimp only at hSw); go_simp; try (with_reducible rfl))
              case' b5_r2 => simp only [List.setIfInBounds_toArray, List.set_cons_zero, List.set_cons_succ]
              try simp only [hne]
              refine Reg.take (i := 3) (u := ?b5_v3) rfl rfl rfl (by kernel_rfl) (by kernel_rfl) (by kernel_rfl) hH ?b5_y3 ?b5_r3
              case b5_y3 => (intro w hSw; (try dsimp only at hSw); go_simp; try (with_reducible rfl))
              case' b5_r3 => simp only [List.setIfInBounds_toArray, List.set_cons_zero, List.set_cons_succ]
              refine Reg.takeIf (i := 4) (u := ?b5_v4) rfl rfl rfl rfl rfl (by kernel_rfl) (by kernel_rfl) (by kernel_rfl) hH ?b5_y4 ?b5_r4
              case b5_y4 => (intro w hSw; (try dsimp only at hSw); go_simp; try (with_reducible rfl))
              case' b5_r4 => simp only [List.setIfInBounds_toArray, List.set_cons_zero, List.set_cons_succ]
              refine Reg.takeIf (i := 5) (u := ?b5_v5) rfl rfl rfl rfl rfl (by kernel_rfl) (by kernel_rfl) (by kernel_rfl) hH ?b5_y5 ?b5_r5
              case b5_y5 => (intro w hSw; (try dsimp only at hSw); go_simp; try (with_reducible rfl))
              case' b5_r5 => simp only [List.setIfInBounds_toArray, List.set_cons_zero, List.set_cons_succ]
              refine Reg.takeIf (i := 6) (u := ?b5_v6) rfl rfl rfl rfl rfl (by kernel_rfl) (by kernel_rfl) (by kernel_rfl) hH ?b5_y6 ?b5_r6
              case b5_y6 => (intro w hSw; (try dsimp only at hSw); go_simp; try (with_reducible rfl))
              case' b5_r6 => simp only [List.setIfInBounds_toArray, List.set_cons_zero, List.set_cons_succ]
              refine Reg.takeIf (i := 7) (u := ?b5_v7) rfl rfl rfl rfl rfl (by kernel_rfl) (by kernel_rfl) (by kernel_rfl) hH ?b5_y7 ?b5_r7
              case b5_y7 => (intro w hSw; (try dsimp only at hSw); go_simp; try (with_reducible rfl))
              case' b5_r7 => simp only [List.setIfInBounds_toArray, List.set_cons_zero, List.set_cons_succ]
              refine Reg.takeIf (i := 8) (u := ?b5_v8) rfl rfl rfl rfl rfl (by kernel_rfl) (by kernel_rfl) (by kernel_rfl) hH ?b5_y8 ?b5_r8
              case b5_y8 => (intro w hSw; (try dsimp only at hSw); go_simp; try (with_reducible rfl))
              case' b5_r8 => simp only [List.setIfInBounds_toArray, List.set_cons_zero, List.set_cons_succ]
              refine Reg.takeIf (i := 9) (u := ?b5_v9) rfl rfl rfl rfl rfl (by kernel_rfl) (by kernel_rfl) (by kernel_rfl) hH ?b5_y9 ?b5_r9
              case b5_y9 => (intro w hSw; (try dsimp only at hSw); go_simp; try (with_reducible rfl))
              case' b5_r9 => simp only [List.setIfInBounds_toArray, List.set_cons_zero, List.set_cons_succ]
              refine Reg.only (i := 10) rfl (Reg.wanted_hit rfl rfl rfl) (by kernel_rfl) (fun K hK => ?_)
              go_simp
              go_at_call 69; refine (hq _).mono ?_; rintro e w2 ⟨rfl, h2⟩; go_simp
              refine hK.out _ _ ?_ (fun hH2 => ?_)
              · exact ⟨by show w2.cell? _ = _; rw [World.cell?_of_block (h2.block _ la)]; exact c0, by show w2.cell? _ = _; rw [World.cell?_of_block (h2.block _ lm)]; exact x0⟩
              clear hK hH
              have hH := hH2; clear hH2
              try simp only [Act.put, List.setIfInBounds_toArray, List.set_cons_zero, List.set_cons_succ]
              refine Reg.take (i := 11) (u := ?b5_v11) rfl rfl rfl (by kernel_rfl) (by kernel_rfl) (by kernel_rfl) hH ?b5_y11 ?b5_r11
              case b5_y11 => (intro w hSw; (try dsimp only at hSw); go_simp; try (with_reducible rfl))
              case' b5_r11 => simp only [List.setIfInBounds_toArray, List.set_cons_zero, List.set_cons_succ]
              refine Reg.take (i := 12) (u := ?b5_v12) rfl rfl rfl (by kernel_rfl) (by kernel_rfl) (by kernel_rfl) hH ?b5_y12 ?b5_r12
              case b5_y12 => (intro w hSw; (try dsimp only at hSw); go_simp; try (with_reducible rfl))
              case' b5_r12 => simp only [List.setIfInBounds_toArray, List.set_cons_zero, List.set_cons_succ]
              refine Reg.takeIf (i := 13) (u := ?b5_v13) rfl rfl rfl rfl rfl (by kernel_rfl) (by kernel_rfl) (by kernel_rfl) hH ?b5_y13 ?b5_r13
              case b5_y13 => (intro w hSw; (try dsimp only at hSw); go_simp; try (with_reducible rfl))
              case' b5_r13 => simp only [List.setIfInBounds_toArray, List.set_cons_zero, List.set_cons_succ]
              refine Reg.takeIf (i := 14) (u := ?b5_v14) rfl rfl rfl rfl rfl (by kernel_rfl) (by kernel_rfl) (by kernel_rfl) hH ?b5_y14 ?b5_r14
              case b5_y14 => (intro w hSw; (try dsimp only at hSw); go_simp; try (with_reducible rfl))
              case' b5_r14 => simp only [List.setIfInBounds_toArray, List.set_cons_zero, List.set_cons_succ]
              try simp only [hb1]
              refine Reg.takeIf (i := 15) (u := ?b5_v15) rfl rfl rfl rfl rfl (by kernel_rfl) (by kernel_rfl) (by kernel_rfl) hH ?b5_y15 ?b5_r15
              case b5_y15 => (intro w hSw; (try dsimp only at hSw); go_simp; try (with_reducible rfl))
              case' b5_r15 => simp only [List.setIfInBounds_toArray, List.set_cons_zero, List.set_cons_succ]
              refine Reg.takeIf (i := 16) (u := ?b5_v16) rfl rfl rfl rfl rfl (by kernel_rfl) (by kernel_rfl) (by kernel_rfl) hH ?b5_y16 ?b5_r16
              case b5_y16 => (intro w hSw; (try dsimp only at hSw); go_simp; try (with_reducible rfl))
              case' b5_r16 => simp only [List.setIfInBounds_toArray, List.set_cons_zero, List.set_cons_succ]
              refine Reg.takeIf (i := 17) (u := ?b5_v17) rfl rfl rfl rfl rfl (by kernel_rfl) (by kernel_rfl) (by kernel_rfl) hH ?b5_y17 ?b5_r17
              case b5_y17 => (intro w hSw; (try dsimp only at hSw); go_simp; try (with_reducible rfl))
              case' b5_r17 => simp only [List.setIfInBounds_toArray, List.set_cons_zero, List.set_cons_succ]
              refine Reg.takeIf (i := 18) (u := ?b5_v18) rfl rfl rfl rfl rfl (by kernel_rfl) (by kernel_rfl) (by kernel_rfl) hH ?b5_y18 ?b5_r18
              case b5_y18 => (intro w hSw; (try dsimp only at hSw); go_simp; try (with_reducible rfl))
              case' b5_r18 => simp only [List.setIfInBounds_toArray, List.set_cons_zero, List.set_cons_succ]
              refine Reg.takeIf (i := 19) (u := ?b5_v19) rfl rfl rfl rfl rfl (by kernel_rfl) (by kernel_rfl) (by kernel_rfl) hH ?b5_y19 ?b5_r19
              case b5_y19 => (intro w hSw; (try dsimp only at hSw); go_simp; try (with_reducible rfl))
              case' b5_r19 => simp only [List.setIfInBounds_toArray, List.set_cons_zero, List.set_cons_succ]
              refine Reg.takeIf (i := 20) (u := ?b5_v20) rfl rfl rfl rfl rfl (by kernel_rfl) (by kernel_rfl) (by kernel_rfl) hH ?b5_y20 ?b5_r20
              case b5_y20 => (intro w hSw; (try dsimp only at hSw); go_simp; try (with_reducible rfl))
              case' b5_r20 => simp only [List.setIfInBounds_toArray, List.set_cons_zero, List.set_cons_succ]
              refine Reg.takeIf (i := 21) (u := ?b5_v21) rfl rfl rfl rfl rfl (by kernel_rfl) (by kernel_rfl) (by kernel_rfl) hH ?b5_y21 ?b5_r21
              case b5_y21 => (intro w hSw; (try dsimp only at hSw); go_simp; try (with_reducible rfl))
              case' b5_r21 => simp only [List.setIfInBounds_toArray, List.set_cons_zero, List.set_cons_succ]
              refine Reg.takeIf (i := 22) (u := ?b5_v22) rfl rfl rfl rfl rfl (by kernel_rfl) (by kernel_rfl) (by kernel_rfl) hH ?b5_y22 ?b5_r22
              case b5_y22 => (intro w hSw; (try dsimp only at hSw); go_simp; try (with_reducible rfl))
              case' b5_r22 => simp only [List.setIfInBounds_toArray, List.set_cons_zero, List.set_cons_succ]
              refine Reg.takeIf (i := 23) (u := ?b5_v23) rfl rfl rfl rfl rfl (by kernel_rfl) (by kernel_rfl) (by kernel_rfl) hH ?b5_y23 ?b5_r23
              case b5_y23 => (intro w hSw; (try dsimp only at hSw); go_simp; try (with_reducible rfl))
              case' b5_r23 => simp only [List.setIfInBounds_toArray, List.set_cons_zero, List.set_cons_succ]
              refine Reg.takeIf (i := 24) (u := ?b5_v24) rfl rfl rfl rfl rfl (by kernel_rfl) (by kernel_rfl) (by kernel_rfl) hH ?b5_y24 ?b5_r24
              case b5_y24 => (intro w hSw; (try dsimp only at hSw); go_simp; try (with_reducible rfl))
              case' b5_r24 => simp only [List.setIfInBounds_toArray, List.set_cons_zero, List.set_cons_succ]
              refine Reg.takeIf (i := 25) (u := ?b5_v25) rfl rfl rfl rfl rfl (by kernel_rfl) (by kernel_rfl) (by kernel_rfl) hH ?b5_y25 ?b5_r25
              case b5_y25 => (intro w hSw; (try dsimp only at hSw); go_simp; try (with_reducible rfl))
              case' b5_r25 => simp only [List.setIfInBounds_toArray, List.set_cons_zero, List.set_cons_succ]
              refine Reg.takeIf (i := 26) (u := ?b5_v26) rfl rfl rfl rfl rfl (by kernel_rfl) (by kernel_rfl) (by kernel_rfl) hH ?b5_y26 ?b5_r26
              case b5_y26 => (intro w hSw; (try dsimp only at hSw); go_simp; try (with_reducible rfl))
              case' b5_r26 => simp only [List.setIfInBounds_toArray, List.set_cons_zero, List.set_cons_succ]
              refine Reg.takeIf (i := 27) (u := ?b5_v27) rfl rfl rfl rfl rfl (by kernel_rfl) (by kernel_rfl) (by kernel_rfl) hH ?b5_y27 ?b5_r27
              case b5_y27 => (intro w hSw; (try dsimp only at hSw); go_simp; try (with_reducible rfl))
              case' b5_r27 => simp only [List.setIfInBounds_toArray, List.set_cons_zero, List.set_cons_succ]
              refine Reg.takeIf (i := 28) (u := ?b5_v28) rfl rfl rfl rfl rfl (by kernel_rfl) (by kernel_rfl) (by kernel_rfl) hH ?b5_y28 ?b5_r28
              case b5_y28 => (intro w hSw; (try dsimp only at hSw); go_simp; try (with_reducible rfl))
              case' b5_r28 => simp only [List.setIfInBounds_toArray, List.set_cons_zero, List.set_cons_succ]
              refine Reg.takeIf (i := 29) (u := ?b5_v29) rfl rfl rfl rfl rfl (by kernel_rfl) (by kernel_rfl) (by kernel_rfl) hH ?b5_y29 ?b5_r29
              case b5_y29 => (intro w hSw; (try dsimp only at hSw); go_simp; try (with_reducible rfl))
              case' b5_r29 => simp only [List.setIfInBounds_toArray, List.set_cons_zero, List.set_cons_succ]
              refine Reg.take (i := 30) (u := ?b5_v30) rfl rfl rfl (by kernel_rfl) (by kernel_rfl) (by kernel_rfl) hH ?b5_y30 ?b5_r30
              case b5_y30 => (intro w hSw; (try dsimp only at hSw); go_simp; try (with_reducible rfl))
              case' b5_r30 => simp only [List.setIfInBounds_toArray, List.set_cons_zero, List.set_cons_succ]
              refine wpAnyH_done (by kernel_rfl) ?_ _
              refine NoPanic.normal ?_
              go_wp2
              go_roundw
              case rel => exact ⟨k + 1, by go_num, by omega, by rw [Hn.out], hbl.trans (below_of_drew h2 hsz)⟩
              case measure => simp [intOf]; omega
    · obtain rfl : k = L.length := by omega
      go_wp2
      go_ret
      exact ⟨rfl, hbl⟩

theorem refFind_is (L : List DirV) (p : List UInt8) : Inh.deepest L (butF L p (-1)) = Inh.find L p := by
  unfold Inh.find Inh.deepest
  refine Inh.deepTo_congr L fun i _ => ?_
  unfold butF Inh.findF
  rw [bne_iff_ne.2 (by omega)]
  rfl
theorem refAbove_is (L : List DirV) (j : Nat) : Inh.deepest L (butF L (Inh.pathOf L j) j) = Inh.above L j := by
  unfold Inh.above Inh.deepest
  refine Inh.deepTo_congr L fun i _ => ?_
  unfold butF Inh.aboveF
  rw [Bool.and_comm]
  congr 1
  rcases Nat.lt_trichotomy i j with h | h | h
  · rw [decide_eq_false (by omega), bne_iff_ne.2 (by omega)]; rfl
  · subst h; simp
  · rw [decide_eq_false (by omega), bne_iff_ne.2 (by omega)]; rfl

end Go.Proofs.Ytajnkapnndhbaaa
