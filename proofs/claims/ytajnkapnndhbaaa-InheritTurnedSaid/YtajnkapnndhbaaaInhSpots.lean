/- Places of rules in memory; own of the reference, spots of the program. -/
import Derived.Test.YtajnkapnndhbaaaInhFindR
import Derived.Test.YtajnkapnndhbaaaInts
import Derived.Maps.AppendAt
import Derived.Deep.DeepMust
namespace Go.Proofs.Ytajnkapnndhbaaa
open Go.RowKit Str Mem
set_option linter.unusedVariables false
set_option linter.unusedSimpArgs false

def spotCells (s : Inh.Spot) : List Value := [.int .i64 s.1, .int .i64 s.2]
def scells (l : List Inh.Spot) : List Value := l.flatMap spotCells
theorem scells_length (l : List Inh.Spot) : (scells l).length = l.length * 2 := by
  induction l with
  | nil => rfl
  | cons a t ih => unfold scells at *; rw [List.flatMap_cons, List.length_append, ih]; simp [spotCells]; omega
theorem scells_append (l m : List Inh.Spot) : scells (l ++ m) = scells l ++ scells m := by unfold scells; rw [List.flatMap_append]
theorem scells_get : ∀ (l : List Inh.Spot) (k : Nat) (s : Inh.Spot), l[k]? = some s → (scells l)[k * 2]? = some (.int .i64 s.1) ∧ (scells l)[k * 2 + 1]? = some (.int .i64 s.2)
  | [], k, s, h => by simp at h
  | a :: t, 0, s, h => by
    simp at h; subst h
    exact ⟨rfl, rfl⟩
  | a :: t, k + 1, s, h => by
    have := scells_get t k s (by simpa using h)
    show (spotCells a ++ scells t)[(k + 1) * 2]? = _ ∧ (spotCells a ++ scells t)[(k + 1) * 2 + 1]? = _
    rw [List.getElem?_append_right (by simp [spotCells]; omega), List.getElem?_append_right (by simp [spotCells]; omega)]
    rw [show (k + 1) * 2 - (spotCells a).length = k * 2 by simp [spotCells]; omega, show (k + 1) * 2 + 1 - (spotCells a).length = k * 2 + 1 by simp [spotCells]; omega]
    exact this

/-- A slice value that reads as a list of places. -/
def SlSpots (w : World) (v : Value) (l : List Inh.Spot) : Prop := ∃ a c, v = .slice a l.length c ∧ l.length ≤ c ∧ c ≤ maxLen ∧ Rd w 2 a l.length (scells l)
theorem SlSpots.of_owns {w : World} {base : Nat} {e : TypeId} {v : Value} {l : List Inh.Spot} (h : Owns w base e 2 v l.length (scells l)) : SlSpots w v l := by
  obtain ⟨a, c, h1, h2, h3, h4⟩ := h.form
  exact ⟨a, c, h1, h2, h3, h4⟩
theorem SlSpots.below {w w' : World} {v : Value} {l : List Inh.Spot} (h : SlSpots w v l) (hb : Below w.heap.size w w') : SlSpots w' v l := by
  obtain ⟨a, c, h1, h2, h3, h4⟩ := h
  exact ⟨a, c, h1, h2, h3, h4.below hb⟩

theorem infoSpot : (Try.prog.info? 24).map (fun i => (i.zero, i.size, i.bytes)) = some (some (.agg #[.int .i64 0, .int .i64 0]), 2, 16) := by kernel_rfl

/-- A new row of one element of two cells. -/
theorem Rd.pair_at (w : World) (t : TypeId) (x y : Value) (N : Nat) (h : N = w.heap.size) : Rd (w.alloc (.cells #[x, y] t)) 2 (some ⟨N, 0, none⟩) 1 [x, y] := by
  subst h
  refine ⟨rfl, fun _ => ⟨_, rfl, by simp, fun j u hu => ?_⟩⟩
  rw [add_flat, cell_of_row _ w.heap.size _ #[x, y] t (0, 0) (heap_alloc_new w _)]
  rcases j with _ | _ | j
  · simpa using hu
  · simpa using hu
  · simp at hu

/-- The first k places of directory d. -/
def ownTo (d k : Nat) : List Inh.Spot := (List.range k).map fun r => (d, r)
theorem ownTo_succ (d k : Nat) : ownTo d (k + 1) = ownTo d k ++ [(d, k)] := by unfold ownTo; rw [List.range_succ, List.map_append]; rfl
theorem ownTo_length (d k : Nat) : (ownTo d k).length = k := by unfold ownTo; simp
theorem ownTo_all (L : List DirV) (d : Nat) : ownTo d (Inh.rnOf L d) = Inh.own L d := rfl

def OwnI (w : World) (d n : Nat) (v i : Value) (wr : World) : Prop :=
  ∃ k : Nat, i = .int .i64 k ∧ k ≤ n ∧ Owns wr w.heap.size 24 2 v (ownTo d k).length (scells (ownTo d k)) ∧ Below w.heap.size w wr

set_option maxHeartbeats 1000000 in
theorem refOwn_any (a : Option Addr) (c : Nat) (L : List DirV) (j : Nat) (w : World) (hD : Dirs w a L.length L) (hs : Small L) (hj : j < L.length) :
    Calls Try.prog 44 #[.slice a L.length c, .int .i64 j] w fun e w' => ∃ v, e = .returned v ∧ SlSpots w' v (Inh.own L j) ∧ Below w.heap.size w w' := by
  obtain ⟨i0, hi, hz0, hz1, hz2⟩ := info_parts infoSpot
  have hL := hs.1
  obtain ⟨ad, d, rfl, hbb, hls, c0, c1, c2⟩ := hD.fields hj
  have hrn : d.rn ≤ 80 := (hs.2 d (List.mem_of_getElem? hls)).1
  have hown0 : Inh.own L j = ownTo j d.rn := by rw [← ownTo_all, Inh.rnOf_get hls]
  rw [hown0]
  have la : (ad.add (j * 3)).block < w.heap.size := by rw [add_block]; exact hbb
  clear hls hown0
  go_enter Try.func44, Try.ntmps44
  go_wp2
  go_loopw [5, 6] (fun v i wr => OwnI w j d.rn v i wr) (fun _ i _ => d.rn - (intOf i).toNat)
  case atStart => exact ⟨0, rfl, Nat.zero_le _, Owns.nil _ _ _ _, Below.refl _ _⟩
  case round =>
    obtain ⟨k, rfl, hk, hown, hbl⟩ := hrel
    have hsz := hbl.size
    have hlen := ownTo_length j k
    have c2' : wr.cell? ⟨(ad.add (j * 3)).block, (ad.add (j * 3)).off + 2, none⟩ = some (.slice d.ra d.rn d.rc) := (World.cell?_of_block (w := w) (a := ⟨(ad.add (j * 3)).block, (ad.add (j * 3)).off + 2, none⟩) (hbl.block _ la)).trans c2
    by_cases hlt : k < d.rn
    · have Hn := Lib.hid (ownTo_succ j k)
      go_wp2_with (at_builtin; go_must (refine wpList_append_owns _ rfl _ _ 28 rfl w.heap.size 24 i0 (.agg #[.int .i64 0, .int .i64 0]) 2 16 Try.underlying28 hi hz0 hz1 hz2 rfl (by decide) _ _ _ rfl (hown.alloc _) _ 1 1 [.int .i64 j, .int .i64 k] rfl (Rd.pair_at _ _ _ _ _ (by simp)) (by simp [Value.oneCell']) (by simp only [maxLen]; omega) (by omega) (by simp; omega) ?_); intro v' w3 hown' hgrow)
      go_roundw
      case rel => exact ⟨k + 1, by go_num, by omega, by rw [Hn.out, scells_append, List.length_append]; exact hown', (hbl.alloc hbl.size _).grown hgrow (by simp; omega) (by intro j hj; exact (hown.lt j hj).1)⟩
      case measure => simp [intOf]; omega
    · obtain rfl : k = d.rn := by omega
      obtain ⟨a2, c3, rfl, _⟩ := id hown.form
      go_wp2
      go_ret
      exact ⟨_, rfl, SlSpots.of_owns hown, hbl⟩

/-- Numbers of directories. -/
def nums (ds : List Nat) : List Int := List.map (fun n : Nat => (n : Int)) ds
theorem nums_length (ds : List Nat) : (nums ds).length = ds.length := by unfold nums; simp
theorem nums_get {ds : List Nat} {k : Nat} {s : Int} (h : (nums ds)[k]? = some s) : ∃ d : Nat, s = d ∧ ds[k]? = some d := by
  unfold nums at h
  rw [List.getElem?_map] at h
  cases hd : ds[k]? with
  | none => rw [hd] at h; cases h
  | some d => rw [hd] at h; exact ⟨d, (Option.some.inj h).symm, rfl⟩

/-- The places of the first j directories, and of the first k of the next. -/
def gone (L : List DirV) (ds : List Nat) (j : Nat) : List Inh.Spot := (ds.take j).flatMap (Inh.own L)
theorem gone_succ {L : List DirV} {ds : List Nat} {j d : Nat} (h : ds[j]? = some d) : gone L ds (j + 1) = gone L ds j ++ Inh.own L d := by
  obtain ⟨hk, rfl⟩ := List.getElem?_eq_some_iff.1 h
  unfold gone
  rw [← List.take_append_getElem hk, List.flatMap_append]
  simp
theorem rn_small {L : List DirV} (hs : Small L) (d : Nat) : Inh.rnOf L d ≤ 80 := by
  unfold Inh.rnOf
  cases h : L[d]? with
  | none => simp
  | some x => exact (hs.2 x (List.mem_of_getElem? h)).1
theorem gone_length {L : List DirV} (hs : Small L) : ∀ (ds : List Nat), (ds.flatMap (Inh.own L)).length ≤ 80 * ds.length
  | [] => by simp
  | d :: t => by
    have h1 := gone_length hs t
    have h2 := rn_small hs d
    rw [List.flatMap_cons, List.length_append, Inh.own_length, List.length_cons]
    omega

def SpotsI (w : World) (L : List DirV) (ds : List Nat) (v i : Value) (wr : World) : Prop :=
  ∃ j : Nat, i = .int .i64 j ∧ j ≤ ds.length ∧ Owns wr w.heap.size 24 2 v (gone L ds j).length (scells (gone L ds j)) ∧ Below w.heap.size w wr
def SpotsI2 (w : World) (g : List Inh.Spot) (d n : Nat) (v i : Value) (wr : World) : Prop :=
  ∃ k : Nat, i = .int .i64 k ∧ k ≤ n ∧ Owns wr w.heap.size 24 2 v (g ++ ownTo d k).length (scells (g ++ ownTo d k)) ∧ Below w.heap.size w wr

set_option maxHeartbeats 2000000 in
theorem spots_any (a a2 : Option Addr) (c c' : Nat) (L : List DirV) (ds : List Nat) (w : World) (hD : Dirs w a L.length L) (hs : Small L) (hN : Ints w a2 ds.length (nums ds)) (hds : ∀ d ∈ ds, d < L.length) (hlen : ds.length ≤ 300) :
    Calls Try.prog 43 #[.slice a L.length c, .slice a2 ds.length c'] w fun e w' => ∃ v, e = .returned v ∧ SlSpots w' v (ds.flatMap (Inh.own L)) ∧ Below w.heap.size w w' := by
  obtain ⟨i0, hi, hz0, hz1, hz2⟩ := info_parts infoSpot
  have hL := hs.1
  go_enter Try.func43, Try.ntmps43
  go_wp2
  go_loopw [5, 11] (fun v i wr => SpotsI w L ds v i wr) (fun _ i _ => ds.length - (intOf i).toNat)
  case atStart => exact ⟨0, rfl, Nat.zero_le _, Owns.nil _ _ _ _, Below.refl _ _⟩
  case round =>
    obtain ⟨j, rfl, hj, hown, hbl⟩ := hrel
    have hsz := hbl.size
    by_cases hlt : j < ds.length
    · obtain ⟨ad2, s, rfl, _, hgs, ic⟩ := (hN.below hbl).get hlt
      obtain ⟨d, rfl, hgd⟩ := nums_get hgs
      have hdL : d < L.length := hds d (List.mem_of_getElem? hgd)
      obtain ⟨ad, x, rfl, hbb, hls, c0, c1, c2⟩ := (hD.below hbl).fields hdL
      have hrn : x.rn ≤ 80 := (hs.2 x (List.mem_of_getElem? hls)).1
      have Hg := Lib.hid (gone_succ (L := L) hgd)
      have Ho := Lib.hid (show Inh.own L d = ownTo d x.rn by rw [← ownTo_all, Inh.rnOf_get hls])
      have hgl : (gone L ds j).length ≤ 80 * j := by have := gone_length hs (ds.take j); rw [List.length_take] at this; unfold gone; omega
      obtain ⟨g, hg⟩ : ∃ g, g = gone L ds j := ⟨_, rfl⟩
      rw [← hg] at hown hgl
      have Hgg := Lib.hid hg
      clear hls hgs hgd hg
      go_wp2
      go_loopw [5, 21] (fun v i wr => SpotsI2 w g d x.rn v i wr) (fun _ i _ => x.rn - (intOf i).toNat)
      case atStart => exact ⟨0, rfl, Nat.zero_le _, by unfold ownTo; simpa using hown, hbl⟩
      case round =>
        obtain ⟨k, rfl, hk, hown2, hbl2⟩ := hrel
        have hsz2 := hbl2.size
        have hlen2 : (g ++ ownTo d k).length = g.length + k := by rw [List.length_append, ownTo_length]
        by_cases hlt2 : k < x.rn
        · have Hn := Lib.hid (ownTo_succ d k)
          go_wp2_with (at_builtin; go_must (refine wpList_append_owns _ rfl _ _ 28 rfl w.heap.size 24 i0 (.agg #[.int .i64 0, .int .i64 0]) 2 16 Try.underlying28 hi hz0 hz1 hz2 rfl (by decide) _ _ _ rfl (hown2.alloc _) _ 1 1 [.int .i64 d, .int .i64 k] rfl (Rd.pair_at _ _ _ _ _ (by simp)) (by simp [Value.oneCell']) (by simp only [maxLen]; omega) (by omega) (by simp; omega) ?_); intro v' w3 hown' hgrow)
          go_roundw
          case rel => exact ⟨k + 1, by go_num, by omega, by rw [Hn.out, ← List.append_assoc, scells_append _ [(d, k)], List.length_append (bs := [(d, k)])]; exact hown', (hbl2.alloc hbl2.size _).grown hgrow (by simp; omega) (by intro j hj; exact (hown2.lt j hj).1)⟩
          case measure => simp [intOf]; omega
        · obtain rfl : k = x.rn := by omega
          go_wp2
          go_roundw
          case rel => exact ⟨j + 1, by go_num, by omega, by rw [Hg.out, Ho.out, ← Hgg.out]; exact hown2, hbl2⟩
          case measure => simp [intOf]; omega
    · obtain rfl : j = ds.length := by omega
      have Hd := Lib.hid (show gone L ds ds.length = ds.flatMap (Inh.own L) by unfold gone; rw [List.take_length])
      rw [Hd.out] at hown
      obtain ⟨a3, c3, rfl, _⟩ := id hown.form
      go_wp2
      go_ret
      exact ⟨_, rfl, SlSpots.of_owns hown, hbl⟩

end Go.Proofs.Ytajnkapnndhbaaa
