/- The deepest directory that is something. -/
import Derived.Test.YtajnkapnndhbaaaInhRefCheck
import Derived.StillTailTactics
import Derived.Deep.RegionHeld3
namespace Go.Proofs.Ytajnkapnndhbaaa
open Go.RowKit Str Mem
set_option linter.unusedVariables false
set_option linter.unusedSimpArgs false

theorem under_is (p d : List UInt8) (w : World) (hp : p.length ≤ 100000) (hd : d.length ≤ 100000) : Calls Try.prog 66 #[.string ⟨p.toArray⟩, .string ⟨d.toArray⟩] w fun e w' => e = .returned (.tuple #[.bool (Inh.under p d), .int .i64 (Dots.under p d).2]) ∧ Below w.heap.size w w' :=
  under_any ⟨p.toArray⟩ ⟨d.toArray⟩ w (by rw [size_data]; exact hp) (by rw [size_data]; exact hd)

theorem below_of_drew {B : Nat} {w w' : World} (h : Below w.drew.heap.size w.drew w') (hB : B ≤ w.heap.size) : Below B w w' := by
  have h' : Below w.heap.size w.drew w' := h
  exact (below_drewN (Below.refl B w) 1).trans (h'.mono hB)

set_option maxRecDepth 20000 in
theorem findF_any (a : Option Addr) (c : Nat) (L : List DirV) (p : List UInt8) (pb tb i : Nat) (w : World) (hD : Dirs w a L.length L) (hs : Small L) (hp : p.length ≤ 200) (hi : i < L.length)
    (hpb : w.cell? ⟨pb, 0, none⟩ = some (.string ⟨p.toArray⟩)) (htb : w.cell? ⟨tb, 0, none⟩ = some (.slice a L.length c)) :
    Calls Try.prog 65 #[.int .i64 i, .pointer (some ⟨pb, 0, none⟩), .pointer (some ⟨tb, 0, none⟩)] w fun e w' => e = .returned (.bool (Inh.findF L p i)) ∧ Below w.heap.size w w' := by
  obtain ⟨ad, d, rfl, hbb, hls, c0, c1, c2⟩ := hD.fields hi
  have hpo := Inh.pathOf_get hls
  have hdl : d.path.length ≤ 200 := (hs.2 d (List.mem_of_getElem? hls)).2
  have q1 := fun w => under_is p d.path w (by omega) (by omega)
  have lp := World.block_lt_of_cell? w _ hpb
  have lt := World.block_lt_of_cell? w _ htb
  have la : (ad.add (i * 3)).block < w.heap.size := by rw [add_block]; exact hbb
  unfold Inh.findF
  rw [hpo]
  clear hpo hls
  have hiL : (i : Int) < (L.length : Int) := by omega
  have hi0 : (0 : Int) ≤ (i : Int) := by omega
  go_enter Try.func65, Try.ntmps65
  go_wp2
  go_region_held3 (fun w' => w'.cell? ⟨pb, 0, none⟩ = some (.string ⟨p.toArray⟩) ∧ w'.cell? ⟨tb, 0, none⟩ = some (.slice (some ad) L.length c) ∧ w'.cell? (ad.add (i * 3)) = some (.string ⟨d.path.toArray⟩))
    (first
      | go_keep
      | exact ⟨by rw [World.cell?_of_block (h2.block _ lp)]; assumption, by rw [World.cell?_of_block (h2.block _ lt)]; assumption, by rw [World.cell?_of_block (h2.block _ la)]; assumption⟩)
    ((go_at_call 66; refine (q1 _).mono ?_; rintro e w2 ⟨rfl, h2⟩))
  go_wp2
  go_ret
  exact ⟨rfl, below_of_drew h2 (Nat.le_refl _)⟩

set_option maxRecDepth 20000 in
theorem aboveF_any (a : Option Addr) (c : Nat) (L : List DirV) (tb db j i : Nat) (w : World) (hD : Dirs w a L.length L) (hs : Small L) (hj : j < L.length) (hi : i < L.length)
    (htb : w.cell? ⟨tb, 0, none⟩ = some (.slice a L.length c)) (hdb : w.cell? ⟨db, 0, none⟩ = some (.int .i64 j)) :
    Calls Try.prog 70 #[.int .i64 i, .pointer (some ⟨tb, 0, none⟩), .pointer (some ⟨db, 0, none⟩)] w fun e w' => e = .returned (.bool (Inh.aboveF L j i)) ∧ Below w.heap.size w w' := by
  obtain ⟨ad, d, rfl, hbb, hls, c0, c1, c2⟩ := hD.fields hi
  obtain ⟨ad', dj, ea, hbb', hlj, j0, j1, j2⟩ := hD.fields hj
  cases ea
  have hpo := Inh.pathOf_get hls
  have hpj := Inh.pathOf_get hlj
  have hdl : d.path.length ≤ 200 := (hs.2 d (List.mem_of_getElem? hls)).2
  have hdj : dj.path.length ≤ 200 := (hs.2 dj (List.mem_of_getElem? hlj)).2
  have q1 := fun w => under_is dj.path d.path w (by omega) (by omega)
  have lp := World.block_lt_of_cell? w _ hdb
  have lt := World.block_lt_of_cell? w _ htb
  have la : (ad.add (i * 3)).block < w.heap.size := by rw [add_block]; exact hbb
  have lb : (ad.add (j * 3)).block < w.heap.size := by rw [add_block]; exact hbb
  unfold Inh.aboveF
  rw [hpo, hpj]
  obtain ⟨u, hu⟩ : ∃ u, u = Inh.under dj.path d.path := ⟨_, rfl⟩
  rw [← hu] at q1 ⊢
  have hne : (!decide (i = j)) = ((i : Int) != (j : Int)) := by
    rcases Nat.lt_trichotomy i j with h | h | h
    · rw [decide_eq_false (by omega), bne_iff_ne.2 (by omega)]; rfl
    · subst h; simp
    · rw [decide_eq_false (by omega), bne_iff_ne.2 (by omega)]; rfl
  rw [hne]
  clear hpo hls hpj hlj hu hne
  have hiL : (i : Int) < (L.length : Int) := by omega
  have hi0 : (0 : Int) ≤ (i : Int) := by omega
  have hjL : (j : Int) < (L.length : Int) := by omega
  have hj0 : (0 : Int) ≤ (j : Int) := by omega
  go_enter Try.func70, Try.ntmps70
  go_wp2
  go_region_held3 (fun w' => w'.cell? ⟨db, 0, none⟩ = some (.int .i64 j) ∧ w'.cell? ⟨tb, 0, none⟩ = some (.slice (some ad) L.length c) ∧ w'.cell? (ad.add (i * 3)) = some (.string ⟨d.path.toArray⟩) ∧ w'.cell? (ad.add (j * 3)) = some (.string ⟨dj.path.toArray⟩))
    (first
      | go_keep
      | exact ⟨by rw [World.cell?_of_block (h2.block _ lp)]; assumption, by rw [World.cell?_of_block (h2.block _ lt)]; assumption, by rw [World.cell?_of_block (h2.block _ la)]; assumption, by rw [World.cell?_of_block (h2.block _ lb)]; assumption⟩)
    ((go_at_call 66; refine (q1 _).mono ?_; rintro e w2 ⟨rfl, h2⟩))
  have hdb2 : w2.cell? ⟨db, 0, none⟩ = some (.int .i64 j) := by rw [World.cell?_of_block (h2.block _ lp)]; exact hdb
  have hB := below_of_drew h2 (Nat.le_refl _)
  rcases u with _ | _
  all_goals go_wp2
  all_goals go_ret
  all_goals exact ⟨rfl, hB⟩

end Go.Proofs.Ytajnkapnndhbaaa
