/- find, above: the program's; under: the reference's. -/
import Derived.Test.YtajnkapnndhbaaaInhDeep2
namespace Go.Proofs.Ytajnkapnndhbaaa
open Go.RowKit Str Mem
set_option linter.unusedVariables false
set_option linter.unusedSimpArgs false

/-- Two new boxes of a cell each. -/
theorem two_boxes (w : World) (x y : Value) (t u : TypeId) :
    ((w.alloc (Obj.cells #[x] t)).alloc (Obj.cells #[y] u)).cell? ⟨w.heap.size, 0, none⟩ = some x ∧ ((w.alloc (Obj.cells #[x] t)).alloc (Obj.cells #[y] u)).cell? ⟨w.heap.size + 1, 0, none⟩ = some y := by
  have h1 : ((w.alloc (Obj.cells #[x] t)).alloc (Obj.cells #[y] u)).heap[w.heap.size]? = some (Obj.cells #[x] t) := by
    rw [((Below.refl (w.heap.size + 1) (w.alloc (Obj.cells #[x] t))).alloc (by simp) _).block _ (by omega)]
    exact heap_alloc_new w _
  have h2 : ((w.alloc (Obj.cells #[x] t)).alloc (Obj.cells #[y] u)).heap[w.heap.size + 1]? = some (Obj.cells #[y] u) := by
    have := heap_alloc_new (w.alloc (Obj.cells #[x] t)) (Obj.cells #[y] u)
    simpa using this
  exact ⟨by rw [cell_of_row _ _ _ #[x] t (0, 0) h1]; rfl, by rw [cell_of_row _ _ _ #[y] u (0, 0) h2]; rfl⟩

theorem below_two (w : World) (o o' : Obj) : Below w.heap.size w ((w.alloc o).alloc o') := ((Below.refl _ w).alloc (Nat.le_refl _) o).alloc (by simp) o'

theorem find_any (a : Option Addr) (c : Nat) (L : List DirV) (p : List UInt8) (w : World) (hD : Dirs w a L.length L) (hs : Small L) (hp : p.length ≤ 200) :
    Calls Try.prog 52 #[.slice a L.length c, .string ⟨p.toArray⟩] w fun e w' => e = .returned (.int .i64 (Inh.find L p)) ∧ Below w.heap.size w w' := by
  have hb := below_two w (Obj.cells #[.slice a L.length c] 62) (Obj.cells #[.string ⟨p.toArray⟩] 9)
  obtain ⟨b0, b1⟩ := two_boxes w (.slice a L.length c) (.string ⟨p.toArray⟩) 62 9
  obtain ⟨W, hW⟩ : ∃ W, W = (w.alloc (Obj.cells #[.slice a L.length c] 62)).alloc (Obj.cells #[.string ⟨p.toArray⟩] 9) := ⟨_, rfl⟩
  rw [← hW] at hb b0 b1
  have l0 := World.block_lt_of_cell? W _ b0
  have l1 := World.block_lt_of_cell? W _ b1
  have hans : Answers 65 [.pointer (some ⟨w.heap.size + 1, 0, none⟩), .pointer (some ⟨w.heap.size, 0, none⟩)] L.length (Inh.findF L p) W := fun i hi w' hw' =>
    findF_any a c L p (w.heap.size + 1) w.heap.size i w' ((hD.below hb).below hw') hs hp hi (by rw [World.cell?_of_block (hw'.block _ l1)]; exact b1) (by rw [World.cell?_of_block (hw'.block _ l0)]; exact b0)
  have hd := deepest_find a c L (Inh.findF L p) ⟨w.heap.size + 1, 0, none⟩ ⟨w.heap.size, 0, none⟩ W (hD.below hb) hs hans
  rw [hW] at hd
  clear hans
  go_enter Try.func52, Try.ntmps52
  go_wp2_with (go_at_call 64; refine hd.mono ?_; rintro e w1 ⟨rfl, h1⟩)
  go_ret
  rw [← hW] at h1
  exact ⟨rfl, hb.trans (h1.mono hb.size)⟩

theorem above_any (a : Option Addr) (c : Nat) (L : List DirV) (j : Nat) (w : World) (hD : Dirs w a L.length L) (hs : Small L) (hj : j < L.length) :
    Calls Try.prog 55 #[.slice a L.length c, .int .i64 j] w fun e w' => e = .returned (.int .i64 (Inh.above L j)) ∧ Below w.heap.size w w' := by
  have hb := below_two w (Obj.cells #[.slice a L.length c] 62) (Obj.cells #[.int .i64 j] 3)
  obtain ⟨b0, b1⟩ := two_boxes w (.slice a L.length c) (.int .i64 j) 62 3
  obtain ⟨W, hW⟩ : ∃ W, W = (w.alloc (Obj.cells #[.slice a L.length c] 62)).alloc (Obj.cells #[.int .i64 j] 3) := ⟨_, rfl⟩
  rw [← hW] at hb b0 b1
  have l0 := World.block_lt_of_cell? W _ b0
  have l1 := World.block_lt_of_cell? W _ b1
  have hans : Answers 70 [.pointer (some ⟨w.heap.size, 0, none⟩), .pointer (some ⟨w.heap.size + 1, 0, none⟩)] L.length (Inh.aboveF L j) W := fun i hi w' hw' =>
    aboveF_any a c L w.heap.size (w.heap.size + 1) j i w' ((hD.below hb).below hw') hs hj hi (by rw [World.cell?_of_block (hw'.block _ l0)]; exact b0) (by rw [World.cell?_of_block (hw'.block _ l1)]; exact b1)
  have hd := deepest_above a c L (Inh.aboveF L j) ⟨w.heap.size, 0, none⟩ ⟨w.heap.size + 1, 0, none⟩ W (hD.below hb) hs hans
  rw [hW] at hd
  clear hans
  go_enter Try.func55, Try.ntmps55
  go_wp2_with (go_at_call 64; refine hd.mono ?_; rintro e w1 ⟨rfl, h1⟩)
  go_ret
  rw [← hW] at h1
  exact ⟨rfl, hb.trans (h1.mono hb.size)⟩

theorem refUnder30_any (p d : List UInt8) (w : World) (hp : p.length ≤ 100000) (hd : d.length ≤ 100000) : Calls Try.prog 69 #[.string ⟨p.toArray⟩, .string ⟨d.toArray⟩] w fun e w' => e = .returned (.bool (Inh.under p d)) ∧ Below w.heap.size w w' := by
  have q := refUnder_any ⟨p.toArray⟩ ⟨d.toArray⟩ w (by rw [size_data]; exact hp) (by rw [size_data]; exact hd)
  have e : Dots.under (⟨p.toArray⟩ : ByteArray).data.toList (⟨d.toArray⟩ : ByteArray).data.toList = Dots.under p d := rfl
  rw [e] at q
  unfold Inh.under
  go_enter Try.func69, Try.ntmps69
  go_wp2_with (go_at_call 77; refine q.mono ?_; rintro e w1 ⟨rfl, h1⟩)
  go_ret
  exact ⟨rfl, h1⟩

end Go.Proofs.Ytajnkapnndhbaaa
