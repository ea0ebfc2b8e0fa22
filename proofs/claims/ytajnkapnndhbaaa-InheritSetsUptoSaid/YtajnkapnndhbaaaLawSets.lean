/- The statement InheritSets, walked: it returns true. -/
import Derived.Test.YtajnkapnndhbaaaInhAlike
namespace Go.Proofs.Ytajnkapnndhbaaa
open Go.RowKit Str Mem
set_option linter.unusedVariables false
set_option linter.unusedSimpArgs false

theorem setR_length {L : List DirV} (hs : Small L) (d : Int) : (Inh.setR L d).1.length ≤ 100000 := by
  unfold Inh.setR
  split
  · rename_i h
    obtain ⟨hv, _, hd⟩ := Inh.asked_ok h
    have := set_length hv hs d hd
    show (Inh.set L d).length ≤ _
    omega
  · simp
theorem rulesR_length {L : List DirV} (hs : Small L) (p : List UInt8) : (Inh.rulesR L p).1.length ≤ 100000 := by
  unfold Inh.rulesR
  split
  · rename_i h
    split
    · rename_i h2
      obtain ⟨hv, j, e, hj, _⟩ := Inh.findR_some h h2
      have := set_length hv hs (Inh.findR L p).1.1 (by rw [e]; omega)
      show (Inh.set L _).length ≤ _
      omega
    · simp
  · simp

set_option maxRecDepth 20000 in
set_option maxHeartbeats 4000000 in
theorem lawSets_any (a : Option Addr) (c : Nat) (L : List DirV) (Rs : List (List RuleV)) (p : ByteArray) (dir sd sr : Int) (w : World) (h0 : DeepDirs w a L Rs) (hc : L.length ≤ c) (hl : L.length ≤ maxLen) (hs : ∀ R ∈ Rs, ∀ r ∈ R, r.conds.length ≤ 1048576) :
    Calls Try.prog 3 #[.slice a L.length c, .string p, .int .i64 dir, spv sd sr] w fun e w' => e = .returned (.bool true) ∧ Below w.heap.size w w' := by
  obtain ⟨w0, hw0⟩ : ∃ w0, w0 = w.alloc (Obj.cells #[.int .i64 sd, .int .i64 sr] 24) := ⟨_, rfl⟩
  have g0 : Below w.heap.size w w0 := by rw [hw0]; exact (Below.refl _ w).alloc (Nat.le_refl _) _
  have hbx : ∀ w', Below w0.heap.size w0 w' → w'.cell? ⟨w.heap.size, 0, none⟩ = some (.int .i64 sd) ∧ w'.cell? ⟨w.heap.size, 1, none⟩ = some (.int .i64 sr) := by
    intro w' h
    rw [hw0] at h
    obtain ⟨b0, b1, _⟩ := box2_kept h
    exact ⟨b0, b1⟩
  have h := h0.below g0
  have hlg := large_any a c L w0 h.dirs hl
  have hwd := fun w => awake30_any w
  unfold LargePost at hlg
  unfold spv
  have HW := Lib.hid hw0
  clear hw0
  go_enter Try.func3, Try.ntmps3
  go_wp2_with fail
  rw [← HW.out]
  refine hlg.mono ?_
  rintro e w1 ⟨b, rfl, rfl, hb⟩
  rcases b with _ | _
  · have hsm := hb rfl
    clear hb hlg
    by_cases hp : 200 < p.size
    · have hp' : (200 : Int) < (p.size : Int) := by omega
      go_wp2_with fail
      refine (hwd _).mono ?_
      rintro e w2 ⟨rfl, h2⟩
      go_wp2_with fail
      go_ret
      exact ⟨rfl, g0.trans (h2.mono g0.size)⟩
    · have hp' : ¬ (200 : Int) < (p.size : Int) := by omega
      have hpl : p.data.toList.length ≤ 200 := by rw [← size_data]; omega
      have hod := ownDirs_any a c L Rs w0 h hsm hs
      unfold OwnDirsPost at hod
      go_wp2_with fail
      refine hod.mono ?_
      rintro e w1 ⟨a1, c1, L', rfl, hdc, hD1, hc1, hc1m, h1⟩
      have hal := hdc.alike h.len
      have hl' := hal.length
      have hsm' := Small.alike hal hsm
      have hrc := hdc.read (fun k d R hd hR => (h.rules k d R hd hR).1)
      have k1 := fun w hD => inhSet_any a1 c1 L' dir w hD (by rw [hl']; exact hc1) hsm'
      have k2 := fun w hD => refInhSet_any a c L dir w hD hsm
      have k3 := fun w hD => inhRules_any a1 c1 L' p.data.toList w hD (by rw [hl']; exact hc1) hsm' hpl
      have k4 := fun w hD => refInhRules_any a c L p.data.toList w hD hsm hpl
      have k5 := fun w hD => inhAll_any a1 c1 L' w hD (by rw [hl']; exact hc1) hsm'
      have k6 := fun w hD => refInhAll_any a c L w hD hsm
      have k7 := fun w hD => inhNumber_any a1 c1 L' sd sr w hD (by rw [hl']; exact hc1) hsm'
      have k8 := fun w hD => refInhNumber_any a c L sd sr w hD hsm
      rw [hl'] at k1 k3 k5 k7
      rw [hal.setR] at k1
      rw [hal.rulesR] at k3
      have ep : (⟨p.data.toList.toArray⟩ : ByteArray) = p := bs_data p
      rw [ep] at k3 k4
      clear ep
      rw [hal.allR] at k5 k7
      unfold SpotsPost at k1 k2 k3 k4 k5 k6
      unfold spv at k7 k8
      have n1 := setR_length hsm dir
      have n2 := rulesR_length hsm p.data.toList
      have n3 := all_length hsm
      obtain ⟨X, hX⟩ : ∃ X, X = Inh.setR L dir := ⟨_, rfl⟩
      obtain ⟨Y, hY⟩ : ∃ Y, Y = Inh.rulesR L p.data.toList := ⟨_, rfl⟩
      obtain ⟨Z, hZ⟩ : ∃ Z, Z = Inh.allR L := ⟨_, rfl⟩
      rw [← hX] at k1 k2 n1
      rw [← hY] at k3 k4 n2
      rw [← hZ] at k5 k6 k7 k8 n3
      obtain ⟨N, hN⟩ : ∃ N, N = numberOf Z sd sr := ⟨_, rfl⟩
      rw [← hN] at k7 k8
      clear hX hY hZ hN hod
      have g1 := g0.trans (h1.mono g0.size)
      have d1 := h.below h1
      have D1 : Dirs w1 a1 L.length L' := hD1
      have rc1 := hrc
      clear hdc hrc hal
      have b1 := h1
      go_wp2_with fail
      refine (k1 _ D1).mono ?_
      rintro e w2 ⟨aX, cX, rfl, rX, _, _, h2⟩
      have b2 := b1.trans (h2.mono b1.size)
      have d2 := d1.below h2
      have D2 := Dirs.below D1 h2
      have rc2 := rc1.below h2
      go_wp2_with fail
      refine (k2 _ d2.dirs).mono ?_
      rintro e w3 ⟨aX2, cX2, rfl, rX2, _, _, h3⟩
      have b3 := b2.trans (h3.mono b2.size)
      have d3 := d2.below h3
      have D3 := Dirs.below D2 h3
      have rc3 := rc2.below h3
      replace rX := rX.below h3
      go_wp2_with fail
      refine (k3 _ D3).mono ?_
      rintro e w4 ⟨aY, cY, rfl, rY, _, _, h4⟩
      have b4 := b3.trans (h4.mono b3.size)
      have d4 := d3.below h4
      have D4 := Dirs.below D3 h4
      have rc4 := rc3.below h4
      replace rX := rX.below h4
      replace rX2 := rX2.below h4
      go_wp2_with fail
      refine (k4 _ d4.dirs).mono ?_
      rintro e w5 ⟨aY2, cY2, rfl, rY2, _, _, h5⟩
      have b5 := b4.trans (h5.mono b4.size)
      have d5 := d4.below h5
      have D5 := Dirs.below D4 h5
      have rc5 := rc4.below h5
      replace rX := rX.below h5
      replace rX2 := rX2.below h5
      replace rY := rY.below h5
      go_wp2_with fail
      refine (sameSpots_any _ _ _ _ X.1 _ rX rX2 n1).mono ?_
      rintro e w6 ⟨rfl, h6⟩
      have b6 := b5.trans (h6.mono b5.size)
      have d6 := d5.below h6
      have D6 := Dirs.below D5 h6
      have rc6 := rc5.below h6
      replace rY := rY.below h6
      replace rY2 := rY2.below h6
      go_wp2_with fail
      refine (sameSpots_any _ _ _ _ Y.1 _ rY rY2 n2).mono ?_
      rintro e w7 ⟨rfl, h7⟩
      have b7 := b6.trans (h7.mono b6.size)
      have d7 := d6.below h7
      have D7 := Dirs.below D6 h7
      have rc7 := rc6.below h7
      go_wp2_with fail
      refine (k5 _ D7).mono ?_
      rintro e w8 ⟨aZ, cZ, rfl, rZ, _, _, h8⟩
      have b8 := b7.trans (h8.mono b7.size)
      have d8 := d7.below h8
      have D8 := Dirs.below D7 h8
      have rc8 := rc7.below h8
      go_wp2_with fail
      refine (k6 _ d8.dirs).mono ?_
      rintro e w9 ⟨aZ2, cZ2, rfl, rZ2, _, _, h9⟩
      have b9 := b8.trans (h9.mono b8.size)
      have d9 := d8.below h9
      have D9 := Dirs.below D8 h9
      have rc9 := rc8.below h9
      replace rZ := rZ.below h9
      obtain ⟨x0, x1⟩ := hbx _ b9
      go_wp2_with fail
      refine (k7 _ D9).mono ?_
      rintro e w10 ⟨rfl, h10⟩
      have b10 := b9.trans (h10.mono b9.size)
      have d10 := d9.below h10
      have D10 := Dirs.below D9 h10
      have rc10 := rc9.below h10
      replace rZ := rZ.below h10
      replace rZ2 := rZ2.below h10
      obtain ⟨y0, y1⟩ := hbx _ b10
      go_wp2_with fail
      refine (k8 _ d10.dirs).mono ?_
      rintro e w11 ⟨rfl, h11⟩
      have b11 := b10.trans (h11.mono b10.size)
      have d11 := d10.below h11
      have D11 := Dirs.below D10 h11
      have rc11 := rc10.below h11
      replace rZ := rZ.below h11
      replace rZ2 := rZ2.below h11
      go_wp2_with fail
      refine (sameSpots_any _ _ _ _ Z.1 _ rZ rZ2 (by omega)).mono ?_
      rintro e w12 ⟨rfl, h12⟩
      have b12 := b11.trans (h12.mono b11.size)
      have d12 := d11.below h12
      have D12 := Dirs.below D11 h12
      have rc12 := rc11.below h12
      go_wp2_with fail
      refine (sameDirs_any a1 a c1 c L' L Rs _ D12 d12 rc12 hsm hs).mono ?_
      rintro e w13 ⟨rfl, h13⟩
      have b13 := b12.trans (h13.mono b12.size)
      have d13 := d12.below h13
      have D13 := Dirs.below D12 h13
      have rc13 := rc12.below h13
      go_wp2_with fail
      refine (hwd _).mono ?_
      rintro e w14 ⟨rfl, h14⟩
      have b14 := b13.trans (h14.mono b13.size)
      have d14 := d13.below h14
      have D14 := Dirs.below D13 h14
      have rc14 := rc13.below h14
      go_wp2_with fail
      go_ret
      exact ⟨rfl, g0.trans (b14.mono g0.size)⟩
  · clear hb hlg
    go_wp2_with fail
    refine (hwd _).mono ?_
    rintro e w2 ⟨rfl, h2⟩
    go_wp2_with fail
    go_ret
    exact ⟨rfl, g0.trans (h2.mono g0.size)⟩

end Go.Proofs.Ytajnkapnndhbaaa
