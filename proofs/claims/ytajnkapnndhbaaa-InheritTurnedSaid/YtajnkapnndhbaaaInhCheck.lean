/- What Check returns, the program s. -/
import Derived.Test.YtajnkapnndhbaaaInhCont
namespace Go.Proofs.Ytajnkapnndhbaaa
open Go.RowKit Str Mem
set_option linter.unusedVariables false
set_option linter.unusedSimpArgs false

/-- The bound of the statements. -/
def Small (L : List DirV) : Prop := L.length ≤ 12 ∧ ∀ d ∈ L, d.rn ≤ 80 ∧ d.path.length ≤ 200

def CheckI (w : World) (L : List DirV) (s i : Value) (wr : World) : Prop :=
  ∃ k : Nat, i = .int .i64 k ∧ k ≤ L.length ∧ s = .int .i64 (Inh.total (L.take k)) ∧ (∀ j, j < k → Inh.badAt L j = 0) ∧ Below w.heap.size w wr

theorem total_next {L : List DirV} {k : Nat} {d : DirV} (h : L[k]? = some d) : Inh.total (L.take (k + 1)) = Inh.total (L.take k) + d.rn := by
  obtain ⟨hk, rfl⟩ := List.getElem?_eq_some_iff.1 h
  unfold Inh.total
  rw [← List.take_append_getElem hk, List.map_append, List.sum_append]
  simp
theorem total_bound : ∀ (L : List DirV), (∀ d ∈ L, d.rn ≤ 80) → Inh.total L ≤ 80 * L.length
  | [], _ => by simp [Inh.total]
  | d :: t, h => by
    have h1 := h d (by simp)
    have h2 := total_bound t fun x hx => h x (by simp [hx])
    unfold Inh.total at h2 ⊢
    simp
    omega

set_option maxHeartbeats 1000000 in
theorem check_long (a : Option Addr) (c : Nat) (L : List DirV) (w : World) (h : 8 < L.length) (hl : L.length ≤ maxLen) :
    Calls Try.prog 22 #[.slice a L.length c] w fun e w' => e = .returned (.tuple #[.int .i64 (Inh.check L).1, .int .i64 (Inh.check L).2]) ∧ Below w.heap.size w w' := by
  rw [Inh.check_many h]
  simp only [maxLen] at hl
  go_enter Try.func22, Try.ntmps22
  go_wp2
  go_ret2
  exact ⟨rfl, Below.refl _ _⟩

/-- The cells of a box of three that lay below what was left alone. -/
theorem box_kept {w w' : World} {x y z : Value} {t : TypeId} (h : Below (w.alloc (Obj.cells #[x, y, z] t)).heap.size (w.alloc (Obj.cells #[x, y, z] t)) w') :
    w'.cell? ⟨w.heap.size, 0, none⟩ = some x ∧ w'.cell? ⟨w.heap.size, 1, none⟩ = some y ∧ w'.cell? ⟨w.heap.size, 2, none⟩ = some z := by
  have hb : w'.heap[w.heap.size]? = some (Obj.cells #[x, y, z] t) := by
    rw [h.block w.heap.size (by simp)]
    exact heap_alloc_new w _
  refine ⟨?_, ?_, ?_⟩ <;> rw [cell_of_row _ w.heap.size _ #[x, y, z] t (0, 0) hb] <;> rfl

set_option maxHeartbeats 2000000 in
theorem check_short (a : Option Addr) (c : Nat) (L : List DirV) (w : World) (hD : Dirs w a L.length L) (hc : L.length ≤ c) (h : L.length ≤ 8) (hs : Small L) :
    Calls Try.prog 22 #[.slice a L.length c] w fun e w' => e = .returned (.tuple #[.int .i64 (Inh.check L).1, .int .i64 (Inh.check L).2]) ∧ Below w.heap.size w w' := by
  have hend := Inh.check_end h
  have hbad := fun i hi h1 h2 => Inh.check_bad (L := L) (i := i) h hi h1 h2
  obtain ⟨res, hres⟩ : ∃ res, res = Inh.check L := ⟨_, rfl⟩
  rw [← hres] at hend hbad ⊢
  have Hend := Lib.hid hend
  have Hbad := Lib.hid hbad
  clear hend hbad hres
  go_enter Try.func22, Try.ntmps22
  go_wp2
  go_loopw [4, 13] (fun s i wr => CheckI w L s i wr) (fun _ i _ => L.length - (intOf i).toNat)
  case atStart => exact ⟨0, rfl, by omega, rfl, by omega, Below.refl _ _⟩
  case round =>
    obtain ⟨k, rfl, hk, rfl, hall, hbl⟩ := hrel
    have hsz := hbl.size
    by_cases hlt : k < L.length
    · obtain ⟨ad, d, rfl, hbb, hls, c0, c1, c2⟩ := (hD.below hbl).fields hlt
      have hpd : d.path.length ≤ 200 := (hs.2 d (List.mem_of_getElem? hls)).2
      have hrn : d.rn ≤ 80 := (hs.2 d (List.mem_of_getElem? hls)).1
      have hpo := Inh.pathOf_get hls
      have hmo := Inh.modeOf_get hls
      have Htot := Lib.hid (total_next hls)
      have htb := total_bound (L.take k) (fun x hx => (hs.2 x (List.mem_of_mem_take hx)).1)
      have htl : (L.take k).length ≤ 8 := by simp; omega
      have q1 := fun w => directory2_any ⟨d.path.toArray⟩ w
      have e1 : (⟨d.path.toArray⟩ : ByteArray).data.toList = d.path := rfl
      rw [e1] at q1
      have hB : wr.heap.size < (wr.alloc (Obj.cells #[Value.string ⟨d.path.toArray⟩, Value.int .i64 d.mode, Value.slice d.ra d.rn d.rc] 55)).heap.size := by simp
      rcases hdir : Dots.directory d.path with _ | _
      · have Hr := Lib.hid (Hbad.out k hlt hall (by rw [Inh.badAt_name L (by rw [hpo]; exact hdir)]; decide))
        have hbv := Inh.badAt_name L (i := k) (by rw [hpo]; exact hdir)
        rw [hbv] at Hr
        rw [hdir] at q1
        clear hls hpo hmo hbv hdir
        go_wp2_with (go_at_call 48; refine (q1 _).mono ?_; rintro e w2 ⟨rfl, h2⟩)
        go_ret2
        exact ⟨by rw [Hr.out]; rfl, (hbl.alloc hbl.size _).trans (h2.mono (by simp; omega))⟩
      · rw [hdir] at q1
        have hca := fun w2 (h2 : Below (wr.alloc (Obj.cells #[Value.string ⟨d.path.toArray⟩, Value.int .i64 d.mode, Value.slice d.ra d.rn d.rc] 55)).heap.size (wr.alloc (Obj.cells #[Value.string ⟨d.path.toArray⟩, Value.int .i64 d.mode, Value.slice d.ra d.rn d.rc] 55)) w2) =>
          contains_any (some ad) c L d.path wr.heap.size w2 (((hD.below hbl).below ((Below.refl _ _).alloc (Nat.le_refl _) _)).below (h2.mono (by simp))) h (box_kept h2).1 (by have := h2.size; simp at this; omega) k (by omega)
        rcases hct : (L.take k).any (fun x => x.path == d.path) with _ | _
        · rw [hct] at hca
          have hbv := Inh.badAt_rest L (i := k) (by rw [hpo]; exact hdir) (by rw [hpo]; exact hct)
          rw [hmo] at hbv
          by_cases hm : d.mode < 0 ∨ 2 < d.mode
          · rw [if_pos hm] at hbv
            have Hr := Lib.hid (Hbad.out k hlt hall (by rw [hbv]; decide))
            rw [hbv] at Hr
            clear hls hpo hmo hbv hdir hct
            rcases hm with hm | hm
            · go_wp2_with (first
                | (go_at_call 48; refine (q1 _).mono ?_; rintro e w2 ⟨rfl, h2⟩)
                | (go_at_call 49; refine (hca _ h2).mono ?_; rintro e w3 ⟨rfl, h3⟩; have hbx := box_kept (h2.trans (h3.mono h2.size)); obtain ⟨b0, b1, b2⟩ := hbx))
              go_ret2
              exact ⟨by rw [Hr.out]; rfl, ((hbl.alloc hbl.size _).trans (h2.mono (by simp; omega))).trans (h3.mono (by have := h2.size; simp at this; omega))⟩
            · have hm0 : ¬ d.mode < 0 := by omega
              go_wp2_with (first
                | (go_at_call 48; refine (q1 _).mono ?_; rintro e w2 ⟨rfl, h2⟩)
                | (go_at_call 49; refine (hca _ h2).mono ?_; rintro e w3 ⟨rfl, h3⟩; have hbx := box_kept (h2.trans (h3.mono h2.size)); obtain ⟨b0, b1, b2⟩ := hbx))
              go_ret2
              exact ⟨by rw [Hr.out]; rfl, ((hbl.alloc hbl.size _).trans (h2.mono (by simp; omega))).trans (h3.mono (by have := h2.size; simp at this; omega))⟩
          · rw [if_neg hm] at hbv
            have hm0 : ¬ d.mode < 0 := by omega
            have hm1 : ¬ 2 < d.mode := by omega
            clear hls hpo hmo hdir hct hm
            go_wp2_with (first
              | (go_at_call 48; refine (q1 _).mono ?_; rintro e w2 ⟨rfl, h2⟩)
              | (go_at_call 49; refine (hca _ h2).mono ?_; rintro e w3 ⟨rfl, h3⟩; have hbx := box_kept (h2.trans (h3.mono h2.size)); obtain ⟨b0, b1, b2⟩ := hbx))
            go_roundw
            case rel =>
              refine ⟨k + 1, by go_num, by omega, ?_, ?_, ((hbl.alloc hbl.size _).trans (h2.mono (by simp; omega))).trans (h3.mono (by have := h2.size; simp at this; omega))⟩
              · rw [Htot.out]; go_num
              · intro j hj
                rcases Nat.lt_or_ge j k with h1 | h1
                · exact hall j h1
                · obtain rfl : j = k := by omega
                  exact hbv
            case measure => simp [intOf]; omega
        · rw [hct] at hca
          have hbv := Inh.badAt_same L (i := k) (by rw [hpo]; exact hdir) (by rw [hpo]; exact hct)
          have Hr := Lib.hid (Hbad.out k hlt hall (by rw [hbv]; decide))
          rw [hbv] at Hr
          clear hls hpo hmo hbv hdir hct
          go_wp2_with (first
            | (go_at_call 48; refine (q1 _).mono ?_; rintro e w2 ⟨rfl, h2⟩)
            | (go_at_call 49; refine (hca _ h2).mono ?_; rintro e w3 ⟨rfl, h3⟩))
          go_ret2
          exact ⟨by rw [Hr.out]; rfl, ((hbl.alloc hbl.size _).trans (h2.mono (by simp; omega))).trans (h3.mono (by have := h2.size; simp at this; omega))⟩
    · obtain rfl : k = L.length := by omega
      have He := Lib.hid (Hend.out hall)
      have htb := total_bound L (fun x hx => (hs.2 x hx).1)
      rw [List.take_length]
      by_cases ht : 64 < Inh.total L
      · rw [if_pos ht] at He
        go_wp2_with fail
        go_ret2
        exact ⟨by rw [He.out]; rfl, hbl⟩
      · rw [if_neg ht] at He
        go_wp2_with fail
        go_ret2
        exact ⟨by rw [He.out]; rfl, hbl⟩

end Go.Proofs.Ytajnkapnndhbaaa
