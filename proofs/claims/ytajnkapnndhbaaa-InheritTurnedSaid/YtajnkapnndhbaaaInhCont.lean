/- Whether a list is too large for the statements; ContainsFunc over directories; whether a path may be that of a directory. -/
import Derived.Test.YtajnkapnndhbaaaInhPlain
import Derived.Test.YtajnkapnndhbaaaTwo
namespace Go.Proofs.Ytajnkapnndhbaaa
open Go.RowKit Str Mem
set_option linter.unusedVariables false
set_option linter.unusedSimpArgs false

/-- A directory as a value. -/
def dv (d : DirV) : Value := .agg #[.string ⟨d.path.toArray⟩, .int .i64 d.mode, .slice d.ra d.rn d.rc]

theorem same_any (d : DirV) (q : List UInt8) (b : Nat) (w : World) (hb : w.cell? ⟨b, 0, none⟩ = some (.string ⟨q.toArray⟩)) (hlt : b < w.heap.size) :
    Calls Try.prog 47 #[dv d, .pointer (some ⟨b, 0, none⟩)] w fun e w' => e = .returned (.bool (d.path == q)) ∧ Below w.heap.size w w' := by
  unfold dv
  go_enter Try.func47, Try.ntmps47
  go_wp2
  go_ret
  exact ⟨rfl, (Below.refl _ _).alloc (Nat.le_refl _) _⟩

/-- What IndexFunc returns: a place, or -1. -/
def IndexPost (L : List DirV) (n : Nat) (q : List UInt8) (w : World) (e : Ending) (w' : World) : Prop :=
  ∃ r : Int, e = .returned (.int .i64 r) ∧ decide (0 ≤ r) = (L.take n).any (fun x => x.path == q) ∧ Below w.heap.size w w'

theorem any_next {L : List DirV} {q : List UInt8} {k : Nat} {d : DirV} (h : L[k]? = some d) : (L.take (k + 1)).any (fun x => x.path == q) = ((L.take k).any (fun x => x.path == q) || d.path == q) := by
  obtain ⟨hk, rfl⟩ := List.getElem?_eq_some_iff.1 h
  rw [← List.take_append_getElem hk, List.any_append]
  simp
theorem any_more {L : List DirV} {q : List UInt8} {k n : Nat} (h : k ≤ n) (ha : (L.take k).any (fun x => x.path == q) = true) : (L.take n).any (fun x => x.path == q) = true := by
  rw [List.any_eq_true] at ha ⊢
  obtain ⟨x, hx, hq⟩ := ha
  exact ⟨x, (List.take_subset_take_left L h) hx, hq⟩

def IndexI (w : World) (L : List DirV) (n : Nat) (q : List UInt8) (i : Value) (wr : World) : Prop :=
  ∃ k : Nat, i = .int .i64 k ∧ k ≤ n ∧ (L.take k).any (fun x => x.path == q) = false ∧ Below w.heap.size w wr

theorem index_any (a : Option Addr) (c : Nat) (L : List DirV) (q : List UInt8) (b : Nat) (w : World) (h : Dirs w a L.length L) (hl : L.length ≤ 8) (hb : w.cell? ⟨b, 0, none⟩ = some (.string ⟨q.toArray⟩)) (hlt : b < w.heap.size) (n : Nat) (hn : n ≤ L.length) :
    Calls Try.prog 61 #[.slice a n c, .func (.func 47) #[] #[.pointer (some ⟨b, 0, none⟩)]] w fun e w' => IndexPost L n q w e w' := by
  go_enter Try.func61, Try.ntmps61
  go_wp2
  go_loopw [8] (fun i wr => IndexI w L n q i wr) (fun i _ => n - (intOf i).toNat)
  case atStart => exact ⟨0, rfl, by omega, rfl, Below.refl _ _⟩
  case round =>
    obtain ⟨k, rfl, hk, hany, hbl⟩ := hrel
    have hsz := hbl.size
    by_cases hlt2 : k < n
    · obtain ⟨ad, d, rfl, hbb, hls, c0, c1, c2⟩ := (h.below hbl).fields (show k < L.length by omega)
      have hs := same_any d q b wr (by rw [World.cell?_of_block (hbl.block b hlt)]; exact hb) (by omega)
      have Hn := Lib.hid (any_next (q := q) hls)
      rcases hd : (d.path == q) with _ | _
      · rw [hd] at hs
        clear hls
        go_wp2_with (go_at_call 47; refine hs.mono ?_; rintro e w2 ⟨rfl, h2⟩)
        go_roundw
        case rel => exact ⟨k + 1, by go_num, by omega, by rw [Hn.out, hany, hd]; rfl, hbl.trans (h2.mono hbl.size)⟩
        case measure => simp [intOf]; omega
      · rw [hd] at hs
        clear hls
        go_wp2_with (go_at_call 47; refine hs.mono ?_; rintro e w2 ⟨rfl, h2⟩)
        go_ret
        exact ⟨k, rfl, by rw [any_more (show k + 1 ≤ n by omega) (by rw [Hn.out, hd]; simp)]; simp, hbl.trans (h2.mono hbl.size)⟩
    · obtain rfl : k = n := by omega
      go_wp2
      go_ret
      exact ⟨-1, rfl, by rw [hany]; rfl, hbl⟩

theorem contains_any (a : Option Addr) (c : Nat) (L : List DirV) (q : List UInt8) (b : Nat) (w : World) (h : Dirs w a L.length L) (hl : L.length ≤ 8) (hb : w.cell? ⟨b, 0, none⟩ = some (.string ⟨q.toArray⟩)) (hlt : b < w.heap.size) (n : Nat) (hn : n ≤ L.length) :
    Calls Try.prog 49 #[.slice a n c, .func (.func 47) #[] #[.pointer (some ⟨b, 0, none⟩)]] w fun e w' => e = .returned (.bool ((L.take n).any (fun x => x.path == q))) ∧ Below w.heap.size w w' := by
  have hi := index_any a c L q b w h hl hb hlt n hn
  obtain ⟨z, hz⟩ : ∃ z, z = (L.take n).any (fun x => x.path == q) := ⟨_, rfl⟩
  unfold IndexPost at hi
  rw [← hz] at hi ⊢
  clear hz
  go_enter Try.func49, Try.ntmps49
  go_wp2_with (go_at_call 61; refine hi.mono ?_; rintro e w2 ⟨r, rfl, hr, h2⟩)
  go_ret
  exact ⟨by rw [← hr]; rfl, h2⟩

theorem last_slash2 (s : ByteArray) (b : Bool) (h : Dots.isOpen s.data.toList = b) (hh : s.size - 1 < s.size) : (((s[s.size - 1]'hh).toNat : Int) != 47) = !b := by
  have e : s.data.toList.getLast? = some (s[s.size - 1]'hh) := by
    rw [List.getLast?_eq_getElem?, ← size_data, List.getElem?_eq_getElem (by rw [← size_data]; exact hh)]
    rfl
  unfold Dots.isOpen at h
  rw [e] at h
  rw [← h]
  rcases Classical.em ((s[s.size - 1]'hh) = 47) with e1 | e1
  · rw [e1]; rfl
  · have e2 : ¬ ((s[s.size - 1]'hh).toNat : Int) = 47 := fun h => e1 (UInt8.toNat_inj.1 (by simpa using Int.ofNat.inj h))
    rw [bne_iff_ne.2 e2]
    symm
    simpa using e1

theorem directory2_any (s : ByteArray) (w : World) : Calls Try.prog 48 #[.string s] w fun e w' => e = .returned (.bool (Dots.directory s.data.toList)) ∧ Below w.heap.size w w' := by
  have hno := fun w => normal_any s w
  rcases hn : Dots.normal s.data.toList with _ | _
  · have e : Dots.directory s.data.toList = false := by unfold Dots.directory; rw [hn]; rfl
    rw [e]
    rw [hn] at hno
    clear hn
    go_enter Try.func48, Try.ntmps48
    go_wp2_with (go_at_call 51; refine (hno _).mono ?_; rintro e w1 ⟨rfl, hbl⟩)
    go_ret
    exact ⟨rfl, hbl⟩
  · have hsm := normal_small hn
    rw [← size_data] at hsm
    have e : Dots.directory s.data.toList = (s.data.toList == [47] || !Dots.isOpen s.data.toList) := by unfold Dots.directory; rw [hn]; rfl
    rw [e]
    rw [hn] at hno
    clear hn
    have hidx : s.size - 1 < s.size := by omega
    have hlast := last_slash2 s _ rfl hidx
    obtain ⟨z, hz⟩ : ∃ z, z = Dots.isOpen s.data.toList := ⟨_, rfl⟩
    rw [← hz] at hlast ⊢
    clear hz
    rcases hr : (s.data.toList == [47]) with _ | _
    · rw [← toList_data] at hr
      rcases z with _ | _ <;> simp only [Bool.not_false, Bool.not_true] at hlast
      all_goals
        go_enter Try.func48, Try.ntmps48
        go_wp2_with (go_at_call 51; refine (hno _).mono ?_; rintro e w1 ⟨rfl, hbl⟩)
        go_ret
        exact ⟨rfl, hbl⟩
    · rw [← toList_data] at hr
      go_enter Try.func48, Try.ntmps48
      go_wp2_with (go_at_call 51; refine (hno _).mono ?_; rintro e w1 ⟨rfl, hbl⟩)
      go_ret
      exact ⟨rfl, hbl⟩

theorem place_any (s : ByteArray) (w : World) : Calls Try.prog 50 #[.string s] w fun e w' => e = .returned (.bool (Dots.directory s.data.toList)) ∧ Below w.heap.size w w' := by
  have hno := fun w => refNormal_any s w
  rcases hn : Dots.normal s.data.toList with _ | _
  · have e : Dots.directory s.data.toList = false := by unfold Dots.directory; rw [hn]; rfl
    rw [e]
    rw [hn] at hno
    clear hn
    go_enter Try.func50, Try.ntmps50
    go_wp2_with (go_at_call 53; refine (hno _).mono ?_; rintro e w1 ⟨rfl, hbl⟩)
    go_ret
    exact ⟨rfl, hbl⟩
  · have hsm := normal_small hn
    rw [← size_data] at hsm
    have e : Dots.directory s.data.toList = (s.data.toList == [47] || !Dots.isOpen s.data.toList) := by unfold Dots.directory; rw [hn]; rfl
    rw [e]
    rw [hn] at hno
    clear hn
    have hidx : s.size - 1 < s.size := by omega
    have hlast := last_slash2 s _ rfl hidx
    obtain ⟨z, hz⟩ : ∃ z, z = Dots.isOpen s.data.toList := ⟨_, rfl⟩
    rw [← hz] at hlast ⊢
    clear hz
    rcases hr : (s.data.toList == [47]) with _ | _
    · rw [← toList_data] at hr
      rcases z with _ | _ <;> simp only [Bool.not_false, Bool.not_true] at hlast
      all_goals
        go_enter Try.func50, Try.ntmps50
        go_wp2_with (go_at_call 53; refine (hno _).mono ?_; rintro e w1 ⟨rfl, hbl⟩)
        go_ret
        exact ⟨rfl, hbl⟩
    · rw [← toList_data] at hr
      go_enter Try.func50, Try.ntmps50
      go_wp2_with (go_at_call 53; refine (hno _).mono ?_; rintro e w1 ⟨rfl, hbl⟩)
      go_ret
      exact ⟨rfl, hbl⟩

end Go.Proofs.Ytajnkapnndhbaaa
