/- What the reference's Check returns. -/
import Derived.Test.YtajnkapnndhbaaaInhCheck
namespace Go.Proofs.Ytajnkapnndhbaaa
open Go.RowKit Str Mem
set_option linter.unusedVariables false
set_option linter.unusedSimpArgs false

def DupI (w : World) (L : List DirV) (k : Nat) (q : List UInt8) (j : Value) (wr : World) : Prop :=
  ∃ m : Nat, j = .int .i64 m ∧ m ≤ k ∧ (L.take m).any (fun x => x.path == q) = false ∧ Below w.heap.size w wr

theorem below_drewN2 {B : Nat} {w w' : World} (h : Below B w w') (n : Nat) : Below B w (w'.drewN n) := by
  first | exact below_drewN h n | exact h.trans ⟨by simp, by simp, by simp, by simp⟩

set_option maxHeartbeats 1000000 in
theorem refCheck_long (a : Option Addr) (c : Nat) (L : List DirV) (w : World) (h : 8 < L.length) (hl : L.length ≤ maxLen) :
    Calls Try.prog 23 #[.slice a L.length c] w fun e w' => e = .returned (.tuple #[.int .i64 (Inh.check L).1, .int .i64 (Inh.check L).2]) ∧ Below w.heap.size w w' := by
  rw [Inh.check_many h]
  simp only [maxLen] at hl
  go_enter Try.func23, Try.ntmps23
  go_wp2
  go_ret2
  exact ⟨rfl, Below.refl _ _⟩

set_option maxHeartbeats 4000000 in
theorem refCheck_short (a : Option Addr) (c : Nat) (L : List DirV) (w : World) (hD : Dirs w a L.length L) (h : L.length ≤ 8) (hs : Small L) :
    Calls Try.prog 23 #[.slice a L.length c] w fun e w' => e = .returned (.tuple #[.int .i64 (Inh.check L).1, .int .i64 (Inh.check L).2]) ∧ Below w.heap.size w w' := by
  have hend := Inh.check_end h
  have hbad := fun i hi h1 h2 => Inh.check_bad (L := L) (i := i) h hi h1 h2
  obtain ⟨res, hres⟩ : ∃ res, res = Inh.check L := ⟨_, rfl⟩
  rw [← hres] at hend hbad ⊢
  have Hend := Lib.hid hend
  have Hbad := Lib.hid hbad
  clear hend hbad hres
  go_enter Try.func23, Try.ntmps23
  go_wp2
  go_loopw [4, 5] (fun s i wr => CheckI w L s i wr) (fun _ i _ => L.length - (intOf i).toNat)
  case atStart => exact ⟨0, rfl, by omega, rfl, by omega, Below.refl _ _⟩
  case round =>
    obtain ⟨k, rfl, hk, rfl, hall, hbl⟩ := hrel
    have hsz := hbl.size
    by_cases hlt : k < L.length
    · obtain ⟨ad, d, rfl, hbb, hls, c0, c1, c2⟩ := (hD.below hbl).fields hlt
      have hpd : d.path.length ≤ 200 := (hs.2 d (List.mem_of_getElem? hls)).2
      have hrn : d.rn ≤ 80 := (hs.2 d (List.mem_of_getElem? hls)).1
      have hpo := Inh.pathOf_get hls
      have hmo := Inh.modeOf_get hls
      have Htot := Lib.hid (total_next hls)
      have htb := total_bound (L.take k) (fun x hx => (hs.2 x (List.mem_of_mem_take hx)).1)
      have htl : (L.take k).length ≤ 8 := by simp; omega
      have q1 := fun w => place_any ⟨d.path.toArray⟩ w
      have e1 : (⟨d.path.toArray⟩ : ByteArray).data.toList = d.path := rfl
      rw [e1] at q1
      rcases hdir : Dots.directory d.path with _ | _
      · have Hr := Lib.hid (Hbad.out k hlt hall (by rw [Inh.badAt_name L (by rw [hpo]; exact hdir)]; decide))
        have hbv := Inh.badAt_name L (i := k) (by rw [hpo]; exact hdir)
        rw [hbv] at Hr
        rw [hdir] at q1
        clear hls hpo hmo hbv hdir
        go_wp2_with (go_at_call 50; refine (q1 _).mono ?_; rintro e w2 ⟨rfl, h2⟩)
        go_ret2
        exact ⟨by rw [Hr.out]; rfl, hbl.trans (h2.mono hsz)⟩
      · rw [hdir] at q1
        go_wp2_with (go_at_call 50; refine (q1 _).mono ?_; rintro e w2 ⟨rfl, h2⟩)
        have hbl2 := hbl.trans (h2.mono hsz)
        go_loopw [6] (fun j wr => DupI w L k d.path j wr) (fun j _ => k - (intOf j).toNat)
        case atStart => exact ⟨0, rfl, by omega, rfl, hbl2⟩
        case round =>
          obtain ⟨m, rfl, hm, hany, hbl3⟩ := hrel
          obtain ⟨ad', d', ea, hbb', hls', c0', c1', c2'⟩ := (hD.below hbl3).fields hlt
          cases ea
          obtain rfl : d' = d := by rw [hls] at hls'; exact (Option.some.inj hls').symm
          by_cases hmk : m < k
          · obtain ⟨ad', x, ea, hbx, hlx, x0, x1, x2⟩ := (hD.below hbl3).fields (show m < L.length by omega)
            cases ea
            have Hn := Lib.hid (any_next (q := d'.path) hlx)
            rcases hxd : (x.path == d'.path) with _ | _
            · go_wp2
              go_quiet (fail)
              go_wp2
              go_roundw
              case rel => exact ⟨m + 1, by go_num, by omega, by rw [Hn.out, hany, hxd]; rfl, below_drewN hbl3 _⟩
              case measure => simp [intOf]; omega
            · have hbv := Inh.badAt_same L (i := k) (by rw [hpo]; exact hdir) (by rw [hpo]; exact any_more (show m + 1 ≤ k by omega) (by rw [Hn.out, hxd]; simp))
              have Hr := Lib.hid (Hbad.out k hlt hall (by rw [hbv]; decide))
              rw [hbv] at Hr
              go_wp2
              go_quiet (fail)
              go_wp2
              go_ret2
              exact ⟨by rw [Hr.out]; rfl, below_drewN hbl3 _⟩
          · obtain rfl : m = k := by omega
            have hbv := Inh.badAt_rest L (i := m) (by rw [hpo]; exact hdir) (by rw [hpo]; exact hany)
            rw [hmo] at hbv
            by_cases hm : d'.mode < 0 ∨ 2 < d'.mode
            · rw [if_pos hm] at hbv
              have Hr := Lib.hid (Hbad.out m hlt hall (by rw [hbv]; decide))
              rw [hbv] at Hr
              rcases hm with hm | hm
              · go_wp2
                go_ret2
                exact ⟨by rw [Hr.out]; rfl, hbl3⟩
              · have hm0 : ¬ d'.mode < 0 := by omega
                go_wp2
                go_ret2
                exact ⟨by rw [Hr.out]; rfl, hbl3⟩
            · rw [if_neg hm] at hbv
              have hm0 : ¬ d'.mode < 0 := by omega
              have hm1 : ¬ 2 < d'.mode := by omega
              clear hm
              go_wp2
              go_roundw
              case rel =>
                refine ⟨m + 1, by go_num, by omega, ?_, ?_, hbl3⟩
                · rw [Htot.out]; go_num
                · intro j hj
                  rcases Nat.lt_or_ge j m with h1 | h1
                  · exact hall j h1
                  · obtain rfl : j = m := by omega
                    exact hbv
              case measure => simp [intOf]; omega
    · obtain rfl : k = L.length := by omega
      have He := Lib.hid (Hend.out hall)
      have htb := total_bound L (fun x hx => (hs.2 x hx).1)
      rw [List.take_length]
      by_cases ht : 64 < Inh.total L
      · rw [if_pos ht] at He
        go_wp2_with fail
        go_ret2
        exact ⟨by rw [He.out]; rfl, hbl⟩
      · rw [if_neg ht] at He
        go_wp2_with fail
        go_ret2
        exact ⟨by rw [He.out]; rfl, hbl⟩

end Go.Proofs.Ytajnkapnndhbaaa
