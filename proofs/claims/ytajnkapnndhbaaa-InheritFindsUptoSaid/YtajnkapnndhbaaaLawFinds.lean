/- The statement InheritFinds, walked: it returns true. -/
import Derived.Test.YtajnkapnndhbaaaInhAlike
import Derived.Test.YtajnkapnndhbaaaInhRefChain
namespace Go.Proofs.Ytajnkapnndhbaaa
open Go.RowKit Str Mem
set_option linter.unusedVariables false
set_option linter.unusedSimpArgs false

theorem chainR_length {L : List DirV} (hs : Small L) (d : Int) : (chainR L d).length ≤ 129 := by
  unfold chainR
  split
  · rename_i h
    obtain ⟨hv, _, hd⟩ := Inh.asked_ok h
    exact chain_129 hv hs d hd
  · simp

set_option maxRecDepth 20000 in
set_option maxHeartbeats 4000000 in
theorem lawFinds_any (a : Option Addr) (c : Nat) (L : List DirV) (Rs : List (List RuleV)) (p : ByteArray) (dir : Int) (w : World) (h : DeepDirs w a L Rs) (hc : L.length ≤ c) (hl : L.length ≤ maxLen) (hs : ∀ R ∈ Rs, ∀ r ∈ R, r.conds.length ≤ 1048576) :
    Calls Try.prog 4 #[.slice a L.length c, .string p, .int .i64 dir] w fun e w' => e = .returned (.bool true) ∧ Below w.heap.size w w' := by
  have hlg := large_any a c L w h.dirs hl
  have hwd := fun w => awake30_any w
  unfold LargePost at hlg
  go_enter Try.func4, Try.ntmps4
  go_wp2_with fail
  refine hlg.mono ?_
  rintro e w1 ⟨b, rfl, rfl, hb⟩
  rcases b with _ | _
  · have hsm := hb rfl
    clear hb hlg
    by_cases hp : 200 < p.size
    · have hp' : (200 : Int) < (p.size : Int) := by omega
      go_wp2_with fail
      refine (hwd _).mono ?_
      rintro e w2 ⟨rfl, h2⟩
      go_wp2_with fail
      go_ret
      exact ⟨rfl, h2⟩
    · have hp' : ¬ (200 : Int) < (p.size : Int) := by omega
      have hpl : p.data.toList.length ≤ 200 := by rw [← size_data]; omega
      have hod := ownDirs_any a c L Rs w h hsm hs
      unfold OwnDirsPost at hod
      go_wp2_with fail
      refine hod.mono ?_
      rintro e w1 ⟨a1, c1, L', rfl, hdc, hD1, hc1, hc1m, h1⟩
      have hal := hdc.alike h.len
      have hl' := hal.length
      have hsm' := Small.alike hal hsm
      have hrc := hdc.read (fun k d R hd hR => (h.rules k d R hd hR).1)
      have k1 := fun w hD => check_any a1 c1 L' w hD (by rw [hl']; exact hc1) hsm'
      have k2 := fun w hD => refCheck_any a c L w hD hsm
      have k3 := fun w hD => inhFind_any (a := a1) (c := c1) (L := L') (w := w) p.data.toList hD (by rw [hl']; exact hc1) hsm' hpl
      have k4 := fun w hD => refInhFind_any (a := a) (c := c) (L := L) (w := w) p.data.toList hD hsm hpl
      have k5 := fun w hD => inhAbove_any (a := a1) (c := c1) (L := L') (w := w) dir hD (by rw [hl']; exact hc1) hsm'
      have k6 := fun w hD => refInhAbove_any (a := a) (c := c) (L := L) (w := w) dir hD hsm
      have k7 := fun w hD => chain_any a1 c1 L' dir w hD (by rw [hl']; exact hc1) hsm'
      have k8 := fun w hD => refChain_any a c L dir w hD hsm
      unfold ChainPost at k7 k8
      have ech : chainR L' dir = chainR L dir := by unfold chainR; rw [hal.asked, hal.chain]
      rw [hl'] at k1 k3 k5 k7
      rw [hal.check] at k1
      rw [hal.findR] at k3
      rw [hal.aboveR] at k5
      rw [ech, hal.asked] at k7
      have ep : (⟨p.data.toList.toArray⟩ : ByteArray) = p := bs_data p
      rw [ep] at k3 k4
      clear ep ech
      unfold tri at k3 k4 k5 k6
      have n1 := chainR_length hsm dir
      obtain ⟨X, hX⟩ : ∃ X, X = Inh.check L := ⟨_, rfl⟩
      obtain ⟨Y, hY⟩ : ∃ Y, Y = Inh.findR L p.data.toList := ⟨_, rfl⟩
      obtain ⟨Z, hZ⟩ : ∃ Z, Z = Inh.aboveR L dir := ⟨_, rfl⟩
      obtain ⟨C, hC⟩ : ∃ C, C = chainR L dir := ⟨_, rfl⟩
      obtain ⟨N, hN⟩ : ∃ N, N = Inh.asked L dir := ⟨_, rfl⟩
      rw [← hX] at k1 k2
      rw [← hY] at k3 k4
      rw [← hZ] at k5 k6
      rw [← hC, ← hN] at k7 k8
      rw [← hC] at n1
      clear hX hY hZ hC hN hod
      obtain ⟨X1, X2⟩ := X
      obtain ⟨⟨Y1, Y2⟩, Y3⟩ := Y
      obtain ⟨⟨Z1, Z2⟩, Z3⟩ := Z
      simp only at k1 k2 k3 k4 k5 k6
      have d1 := h.below h1
      have D1 : Dirs w1 a1 L.length L' := hD1
      have rc1 := hrc
      clear hdc hrc hal
      have b1 := h1
      have hnl := nums_length C
      have HN := Lib.hid hnl
      clear hnl
      go_wp2_with fail
      refine (k1 _ D1).mono ?_
      rintro e w2 ⟨rfl, h2⟩
      have b2 := b1.trans (h2.mono b1.size)
      have d2 := d1.below h2
      have D2 := Dirs.below D1 h2
      have rc2 := rc1.below h2
      go_wp2_with fail
      refine (k2 _ d2.dirs).mono ?_
      rintro e w3 ⟨rfl, h3⟩
      have b3 := b2.trans (h3.mono b2.size)
      have d3 := d2.below h3
      have D3 := Dirs.below D2 h3
      have rc3 := rc2.below h3
      go_wp2_with fail
      refine (k3 _ D3).mono ?_
      rintro e w4 ⟨rfl, h4⟩
      have b4 := b3.trans (h4.mono b3.size)
      have d4 := d3.below h4
      have D4 := Dirs.below D3 h4
      have rc4 := rc3.below h4
      go_wp2_with fail
      refine (k4 _ d4.dirs).mono ?_
      rintro e w5 ⟨rfl, h5⟩
      have b5 := b4.trans (h5.mono b4.size)
      have d5 := d4.below h5
      have D5 := Dirs.below D4 h5
      have rc5 := rc4.below h5
      go_wp2_with fail
      refine (k5 _ D5).mono ?_
      rintro e w6 ⟨rfl, h6⟩
      have b6 := b5.trans (h6.mono b5.size)
      have d6 := d5.below h6
      have D6 := Dirs.below D5 h6
      have rc6 := rc5.below h6
      go_wp2_with fail
      refine (k6 _ d6.dirs).mono ?_
      rintro e w7 ⟨rfl, h7⟩
      have b7 := b6.trans (h7.mono b6.size)
      have d7 := d6.below h7
      have D7 := Dirs.below D6 h7
      have rc7 := rc6.below h7
      go_wp2_with fail
      refine (k7 _ D7).mono ?_
      rintro e w8 ⟨aC, cC, rfl, rC, _, _, h8⟩
      have b8 := b7.trans (h8.mono b7.size)
      have d8 := d7.below h8
      have D8 := Dirs.below D7 h8
      have rc8 := rc7.below h8
      go_wp2_with fail
      refine (k8 _ d8.dirs).mono ?_
      rintro e w9 ⟨aC2, cC2, rfl, rC2, _, _, h9⟩
      have b9 := b8.trans (h9.mono b8.size)
      have d9 := d8.below h9
      have D9 := Dirs.below D8 h9
      have rc9 := rc8.below h9
      replace rC := rC.below h9
      have hsi := fun w hl hm => sameInts_any aC aC2 cC cC2 (nums C) w hl hm (by rw [HN.out]; omega)
      rw [HN.out] at hsi
      go_wp2_with fail
      refine (hsi _ rC rC2).mono ?_
      rintro e w10 ⟨rfl, h10⟩
      have b10 := b9.trans (h10.mono b9.size)
      have d10 := d9.below h10
      have D10 := Dirs.below D9 h10
      have rc10 := rc9.below h10
      go_wp2_with fail
      refine (sameDirs_any a1 a c1 c L' L Rs _ D10 d10 rc10 hsm hs).mono ?_
      rintro e w11 ⟨rfl, h11⟩
      have b11 := b10.trans (h11.mono b10.size)
      have d11 := d10.below h11
      have D11 := Dirs.below D10 h11
      have rc11 := rc10.below h11
      go_wp2_with fail
      refine (hwd _).mono ?_
      rintro e w12 ⟨rfl, h12⟩
      have b12 := b11.trans (h12.mono b11.size)
      have d12 := d11.below h12
      have D12 := Dirs.below D11 h12
      have rc12 := rc11.below h12
      go_wp2_with fail
      go_ret
      exact ⟨rfl, b12⟩
  · clear hb hlg
    go_wp2_with fail
    refine (hwd _).mono ?_
    rintro e w2 ⟨rfl, h2⟩
    go_wp2_with fail
    go_ret
    exact ⟨rfl, h2⟩

end Go.Proofs.Ytajnkapnndhbaaa
