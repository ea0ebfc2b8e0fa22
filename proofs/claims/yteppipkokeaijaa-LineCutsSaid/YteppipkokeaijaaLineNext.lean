/- line.machine.next: what it takes, what it leaves. -/
import Derived.Test.YteppipkokeaijaaLineMach
import Derived.Deep.QuietTactic
import Derived.BigQuiet
import Derived.Deep.RegionWith
import Derived.Test.YteppipkokeaijaaReg
namespace Go.Proofs.Yteppipkokeaijaa
open Go.RowKit Str Mem
set_option linter.unusedVariables false
set_option linter.unusedSimpArgs false

/-- The memory inside next: its variables, the machine, what else was there. -/
structure NX (w W : World) (mb lim : Nat) (T : List UInt8) (lg : Bool) (v : Value) (xs xg : Value) (a : Value) : Prop where
  gr : w.grownBy W (some mb)
  sz : w.heap.size + 3 ≤ W.heap.size
  lt : mb < w.heap.size
  hm : W.heap[w.heap.size]? = some (.cells [.pointer (some ⟨mb, 0, none⟩)].toArray 54 (0, 0))
  hx : W.heap[w.heap.size + 1]? = some (.cells [xs, xg].toArray 36 (0, 0))
  ha : W.heap[w.heap.size + 2]? = some (.cells [a].toArray 60 (0, 0))
  M : MState W mb lim T lg v

section
variable {w W W' : World} {mb lim : Nat} {T : List UInt8} {lg : Bool} {v xs xg a : Value}
theorem NX.m0 (h : NX w W mb lim T lg v xs xg a) : W.cell? ⟨w.heap.size, 0, none⟩ = some (.pointer (some ⟨mb, 0, none⟩)) := by rw [cell_list h.hm]; rfl
theorem NX.x0 (h : NX w W mb lim T lg v xs xg a) : W.cell? ⟨w.heap.size + 1, 0, none⟩ = some xs := by rw [cell_list h.hx]; rfl
theorem NX.x1 (h : NX w W mb lim T lg v xs xg a) : W.cell? ⟨w.heap.size + 1, 1, none⟩ = some xg := by rw [cell_list h.hx]; rfl
theorem NX.a0 (h : NX w W mb lim T lg v xs xg a) : W.cell? ⟨w.heap.size + 2, 0, none⟩ = some a := by rw [cell_list h.ha]; rfl
theorem NX.fx (h : NX w W mb lim T lg v xs xg a) (j : Nat) : W.frozen? ⟨w.heap.size + 1, j, none⟩ = false := frozen_list h.hx j
theorem NX.fa (h : NX w W mb lim T lg v xs xg a) (j : Nat) : W.frozen? ⟨w.heap.size + 2, j, none⟩ = false := frozen_list h.ha j
theorem grown_new {w W : World} {row : Option Nat} (hg : w.grownBy W row) {k : Nat} (hk : w.heap.size ≤ k) (j : Nat) (u : Value) : w.grownBy (W.setCell ⟨k, j, none⟩ u) row := by
  refine ⟨hg.os, hg.tape, hg.output, ?_, fun i hi hne => ?_⟩
  · have := hg.size; simpa [World.setCell] using this
  · refine Eq.trans ?_ (hg.block i hi hne)
    exact Below.heap_setCell W _ u i (by show i ≠ k; omega)
theorem NX.setT (h : NX w W mb lim T lg v xs xg a) (U : List UInt8) : NX w (W.setCell ⟨mb, 1, none⟩ (.string (bs U))) mb lim U lg v xs xg a := by
  have := h.lt
  refine ⟨grown_put h.gr _ _, by simp [World.setCell]; exact h.sz, h.lt, ?_, ?_, ?_, h.M.setT U⟩
  · exact (Below.heap_setCell W _ _ _ (by simp; omega)).trans h.hm
  · exact (Below.heap_setCell W _ _ _ (by simp; omega)).trans h.hx
  · exact (Below.heap_setCell W _ _ _ (by simp; omega)).trans h.ha
theorem NX.setL (h : NX w W mb lim T lg v xs xg a) (g : Bool) : NX w (W.setCell ⟨mb, 2, none⟩ (.bool g)) mb lim T g v xs xg a := by
  have := h.lt
  refine ⟨grown_put h.gr _ _, by simp [World.setCell]; exact h.sz, h.lt, ?_, ?_, ?_, h.M.setL g⟩
  · exact (Below.heap_setCell W _ _ _ (by simp; omega)).trans h.hm
  · exact (Below.heap_setCell W _ _ _ (by simp; omega)).trans h.hx
  · exact (Below.heap_setCell W _ _ _ (by simp; omega)).trans h.ha
theorem NX.setX0 (h : NX w W mb lim T lg v xs xg a) (u : Value) : NX w (W.setCell ⟨w.heap.size + 1, 0, none⟩ u) mb lim T lg v u xg a := by
  have := h.lt
  refine ⟨grown_new h.gr (by omega) _ _, by simp [World.setCell]; exact h.sz, h.lt, ?_, ?_, ?_, ?_⟩
  · exact (Below.heap_setCell W _ _ _ (by simp)).trans h.hm
  · exact set_list h.hx 0 u
  · exact (Below.heap_setCell W _ _ _ (by simp)).trans h.ha
  · exact (Below.heap_setCell W _ _ _ (by simp; omega)).trans h.M
theorem NX.setX1 (h : NX w W mb lim T lg v xs xg a) (u : Value) : NX w (W.setCell ⟨w.heap.size + 1, 1, none⟩ u) mb lim T lg v xs u a := by
  have := h.lt
  refine ⟨grown_new h.gr (by omega) _ _, by simp [World.setCell]; exact h.sz, h.lt, ?_, ?_, ?_, ?_⟩
  · exact (Below.heap_setCell W _ _ _ (by simp)).trans h.hm
  · exact set_list h.hx 1 u
  · exact (Below.heap_setCell W _ _ _ (by simp)).trans h.ha
  · exact (Below.heap_setCell W _ _ _ (by simp; omega)).trans h.M
theorem NX.setA (h : NX w W mb lim T lg v xs xg a) (u : Value) : NX w (W.setCell ⟨w.heap.size + 2, 0, none⟩ u) mb lim T lg v xs xg u := by
  have := h.lt
  refine ⟨grown_new h.gr (by omega) _ _, by simp [World.setCell]; exact h.sz, h.lt, ?_, ?_, ?_, ?_⟩
  · exact (Below.heap_setCell W _ _ _ (by simp)).trans h.hm
  · exact (Below.heap_setCell W _ _ _ (by simp)).trans h.hx
  · exact set_list h.ha 0 u
  · exact (Below.heap_setCell W _ _ _ (by simp; omega)).trans h.M
theorem NX.below (h : NX w W mb lim T lg v xs xg a) (hb : Below W.heap.size W W') : NX w W' mb lim T lg v xs xg a := by
  have := h.lt
  have := h.sz
  refine ⟨⟨hb.os.trans h.gr.os, hb.tape.trans h.gr.tape, hb.output.trans h.gr.output, by have := hb.size; omega, fun k hk hne => (hb.block k (by omega)).trans (h.gr.block k hk hne)⟩, by have := hb.size; omega, h.lt, ?_, ?_, ?_, ?_⟩
  · exact (hb.block _ (by omega)).trans h.hm
  · exact (hb.block _ (by omega)).trans h.hx
  · exact (hb.block _ (by omega)).trans h.ha
  · exact (hb.block _ (by omega)).trans h.M
theorem NX.drewN (h : NX w W mb lim T lg v xs xg a) (k : Nat) : NX w (W.drewN k) mb lim T lg v xs xg a := ⟨⟨h.gr.os, h.gr.tape, h.gr.output, h.gr.size, h.gr.block⟩, h.sz, h.lt, h.hm, h.hx, h.ha, h.M⟩
theorem NX.row (h : NX w W mb lim T lg v xs xg a) (hg : W.grownBy W' (some mb)) : W'.heap[w.heap.size + 1]? = some (.cells [xs, xg].toArray 36 (0, 0)) := by
  have := h.lt
  have := h.sz
  exact (hg.block _ (by omega) (by simp; omega)).trans h.hx
theorem NX.all (h : NX w W mb lim T lg v xs xg a) (hg : W.grownBy W' (some mb)) : w.grownBy W' (some mb) :=
  ⟨hg.os.trans h.gr.os, hg.tape.trans h.gr.tape, hg.output.trans h.gr.output, Nat.le_trans h.gr.size hg.size, fun k hk hne => (hg.block k (Nat.lt_of_lt_of_le hk h.gr.size) hne).trans (h.gr.block k hk hne)⟩
theorem NX.bytes (h : NX w W mb lim T lg v xs xg a) {b o : Nat} {R : List UInt8} (hne : b ≠ mb) (hb : b < w.heap.size) (hc : ∀ i (h : i < R.length), w.cell? ⟨b, o + i, none⟩ = some (.int .u8 (R[i].toNat : Int))) :
    ∀ i (h : i < R.length), W.cell? ⟨b, o + i, none⟩ = some (.int .u8 (R[i].toNat : Int)) := fun i hi => by
  rw [← hc i hi]; exact World.cell?_of_block (w := w) (h.gr.block b hb (by simpa using hne))
end
theorem bs_append (a b : List UInt8) : bs a ++ bs b = bs (a ++ b) := eq_of_data (by rw [append_data])
theorem bytesAt {w : World} {b o : Nat} {R : List UInt8} (hc : ∀ i (h : i < R.length), w.cell? ⟨b, o + i, none⟩ = some (.int .u8 (R[i].toNat : Int))) : Lib.Bytes w b o (bs R) := fun i hi => hc i hi
theorem convBytes (b o c : Nat) (R : List UInt8) (W : World) (hc : ∀ i (h : i < R.length), W.cell? ⟨b, o + i, none⟩ = some (.int .u8 (R[i].toNat : Int))) :
    (convert 60 9 (.slice (some ⟨b, o, none⟩) R.length c)).run Try.prog W = .ok (.string (bs R)) W :=
  Lib.run_convert_whole W _ _ _ Try.underlying60 Try.underlying5 Try.underlying9 b o (bs R) (bytesAt hc) c
theorem convTake (b o c n : Nat) (R : List UInt8) (hn : n ≤ R.length) (W : World) (hc : ∀ i (h : i < R.length), W.cell? ⟨b, o + i, none⟩ = some (.int .u8 (R[i].toNat : Int))) :
    (convert 60 9 (.slice (some ⟨b, o, none⟩) n c)).run Try.prog W = .ok (.string (bs (R.take n))) W := by
  have h := convBytes b o c (R.take n) W (fun i hi => by
    simp only [List.length_take] at hi
    rw [hc i (by omega)]; simp)
  rwa [List.length_take, Nat.min_eq_left hn] at h

set_option maxHeartbeats 4000000 in
set_option maxRecDepth 100000 in
theorem next_any (mb b o c lim : Nat) (T R : List UInt8) (w : World) (hm : MState w mb lim T false (.slice (some ⟨b, o, none⟩) R.length c)) (hR : R.length ≤ 1000000) (hRc : R.length ≤ c) (hcm : c ≤ maxLen) (hne : b ≠ mb) (hb : b < w.heap.size)
    (hc : ∀ i (h : i < R.length), w.cell? ⟨b, o + i, none⟩ = some (.int .u8 (R[i].toNat : Int))) (hT : T.length ≤ lim) (hl : lim ≤ 1536) :
    Calls Try.prog 34 #[.pointer (some ⟨mb, 0, none⟩)] w fun e w' => NextPost mb b lim T R w e w' := by
  have hmf : ∀ (fn : Fn) (first cap : Array Value) (w : World), (Instr.makeFunc fn first cap).run Try.prog w = .ok (.func fn first cap) w := fun _ _ _ _ => rfl
  unfold maxLen at hcm
  have hlt := hm.lt
  have HM := Lib.hid hm
  have c0 := hm.cell0
  have c1 := hm.cell1
  have c2 := hm.cell2
  have c3 := hm.cell3
  have f0 := hm.frozen
  have HC := Lib.hid hc
  have hix := fun (W : World) (h : ∀ i (h : i < R.length), W.cell? ⟨b, o + i, none⟩ = some (.int .u8 (R[i].toNat : Int))) => byteIndex b o c R W h
  have hI := index_pre R
  clear hm hc
  go_enter_defers Try.func34, Try.ntmps34
  go_wp2_with fail
  have hx0 := (World.alloc_heap_new (w.alloc (.cells #[.pointer (some ⟨mb, 0, none⟩)] 54)) (.cells #[.string ⟨#[]⟩, .bool false] 36))
  have hm0 := (Below.heap_alloc (w.alloc (.cells #[.pointer (some ⟨mb, 0, none⟩)] 54)) (.cells #[.string ⟨#[]⟩, .bool false] 36) w.heap.size (by simp)).trans (World.alloc_heap_new w _)
  have hb0 : Below w.heap.size w ((w.alloc (.cells #[.pointer (some ⟨mb, 0, none⟩)] 54)).alloc (.cells #[.string ⟨#[]⟩, .bool false] 36)) := ((Below.refl _ w).alloc (Nat.le_refl _) _).alloc (by simp) _
  have hs0 : ((w.alloc (.cells #[.pointer (some ⟨mb, 0, none⟩)] 54)).alloc (.cells #[.string ⟨#[]⟩, .bool false] 36)).heap.size = w.heap.size + 2 := by simp
  simp only [World.size_alloc] at hx0
  obtain ⟨W0, hW0⟩ : ∃ W0, W0 = ((w.alloc (.cells #[.pointer (some ⟨mb, 0, none⟩)] 54)).alloc (.cells #[.string ⟨#[]⟩, .bool false] 36)) := ⟨_, rfl⟩
  rw [← hW0] at hx0 hm0 hb0 hs0 ⊢
  clear hW0
  have hM0 : MState W0 mb lim T false (.slice (some ⟨b, o, none⟩) R.length c) := (hb0.block mb hlt).trans HM.out
  have hC0 : ∀ i (h : i < R.length), W0.cell? ⟨b, o + i, none⟩ = some (.int .u8 (R[i].toNat : Int)) := fun i hi => by
    rw [← HC.out i hi]; exact World.cell?_of_block (w := w) (hb0.block b hb)
  refine (hix _ hC0).mono ?_
  rintro e w1 ⟨he, hw1⟩
  rw [hw1, he]; clear hw1 he w1
  simp only [hI]
  have k0 := hM0.cell0
  have k1 := hM0.cell1
  have k2 := hM0.cell2
  have k3 := hM0.cell3
  have g0 := hM0.frozen
  have m0 := cell_list hm0 0
  have x0 := cell_list hx0 0
  have x1 := cell_list hx0 1
  have fx := frozen_list hx0
  simp only [List.getElem?_cons_zero, List.getElem?_cons_succ] at m0 x0 x1
  clear c0 c1 c2 c3 f0 hix hI
  rcases hE : Ln.ends R with _ | _
  · rw [if_neg (by simp)]
    go_wp2_with fail
    refine wp_region_noPanic ?_
    refine wp_region_held_drew (S := fun W => W.cell? ⟨w.heap.size, 0, none⟩ = some (.pointer (some ⟨mb, 0, none⟩)) ∧ W.cell? ⟨mb, 3, none⟩ = some (.slice (some ⟨b, o, none⟩) R.length c)) (by kernel_rfl) ?_ (fun hH => ?_)
    · exact ⟨m0, k3⟩
    refine Reg.take (i := 0) (u := ?b3_v0) rfl rfl rfl (by kernel_rfl) (by kernel_rfl) (by kernel_rfl) hH ?b3_y0 ?b3_r0
    case b3_y0 => (intro w hSw; (try dsimp only at hSw); go_simp; try (with_reducible rfl))
    case' b3_r0 => simp only [List.setIfInBounds_toArray, List.set_cons_zero, List.set_cons_succ]
    refine Reg.take (i := 1) (u := ?b3_v1) rfl rfl rfl (by kernel_rfl) (by kernel_rfl) (by kernel_rfl) hH ?b3_y1 ?b3_r1
    case b3_y1 => (intro w hSw; (try dsimp only at hSw); go_simp; try (with_reducible rfl))
    case' b3_r1 => simp only [List.setIfInBounds_toArray, List.set_cons_zero, List.set_cons_succ]
    refine Reg.take (i := 2) (u := ?b3_v2) rfl rfl rfl (by kernel_rfl) (by kernel_rfl) (by kernel_rfl) hH ?b3_y2 ?b3_r2
    case b3_y2 => (intro w hSw; (try dsimp only at hSw); go_simp; try (with_reducible rfl))
    case' b3_r2 => simp only [List.setIfInBounds_toArray, List.set_cons_zero, List.set_cons_succ]
    refine Reg.take (i := 3) (u := ?b3_v3) rfl rfl rfl (by kernel_rfl) (by kernel_rfl) (by kernel_rfl) hH ?b3_y3 ?b3_r3
    case b3_y3 => (intro w hSw; (try dsimp only at hSw); go_simp; try (with_reducible rfl))
    case' b3_r3 => simp only [List.setIfInBounds_toArray, List.set_cons_zero, List.set_cons_succ]
    refine Reg.take (i := 4) (u := ?b3_v4) rfl rfl rfl (by kernel_rfl) (by kernel_rfl) (by kernel_rfl) hH ?b3_y4 ?b3_r4
    case b3_y4 => (intro w hSw; (try dsimp only at hSw); go_simp; try (with_reducible rfl))
    case' b3_r4 => simp only [List.setIfInBounds_toArray, List.set_cons_zero, List.set_cons_succ]
    refine Reg.take (i := 5) (u := ?b3_v5) rfl rfl rfl (by kernel_rfl) (by kernel_rfl) (by kernel_rfl) hH ?b3_y5 ?b3_r5
    case b3_y5 => (intro w hSw; (try dsimp only at hSw); go_simp; try (with_reducible rfl))
    case' b3_r5 => simp only [List.setIfInBounds_toArray, List.set_cons_zero, List.set_cons_succ]
    refine Reg.take (i := 6) (u := ?b3_v6) rfl rfl rfl (by kernel_rfl) (by kernel_rfl) (by kernel_rfl) hH ?b3_y6 ?b3_r6
    case b3_y6 => (intro w hSw; (try dsimp only at hSw); go_simp; try (with_reducible rfl))
    case' b3_r6 => simp only [List.setIfInBounds_toArray, List.set_cons_zero, List.set_cons_succ]
    refine Reg.take (i := 7) (u := ?b3_v7) rfl rfl rfl (by kernel_rfl) (by kernel_rfl) (by kernel_rfl) hH ?b3_y7 ?b3_r7
    case b3_y7 => (intro w hSw; (try dsimp only at hSw); go_simp; try (with_reducible rfl))
    case' b3_r7 => simp only [List.setIfInBounds_toArray, List.set_cons_zero, List.set_cons_succ]
    refine Reg.take (i := 8) (u := ?b3_v8) rfl rfl rfl (by kernel_rfl) (by kernel_rfl) (by kernel_rfl) hH ?b3_y8 ?b3_r8
    case b3_y8 => (intro w hSw; (try dsimp only at hSw); go_simp; try (with_reducible rfl))
    case' b3_r8 => simp only [List.setIfInBounds_toArray, List.set_cons_zero, List.set_cons_succ]
    refine Reg.take (i := 9) (u := ?b3_v9) rfl rfl rfl (by kernel_rfl) (by kernel_rfl) (by kernel_rfl) hH ?b3_y9 ?b3_r9
    case b3_y9 => (intro w hSw; (try dsimp only at hSw); go_simp; try (with_reducible rfl))
    case' b3_r9 => simp only [List.setIfInBounds_toArray, List.set_cons_zero, List.set_cons_succ]
    refine Reg.take (i := 10) (u := ?b3_v10) rfl rfl rfl (by kernel_rfl) (by kernel_rfl) (by kernel_rfl) hH ?b3_y10 ?b3_r10
    case b3_y10 => (intro w hSw; (try dsimp only at hSw); go_simp; try (with_reducible rfl))
    case' b3_r10 => simp only [List.setIfInBounds_toArray, List.set_cons_zero, List.set_cons_succ]
    refine Reg.take (i := 11) (u := ?b3_v11) rfl rfl rfl (by kernel_rfl) (by kernel_rfl) (by kernel_rfl) hH ?b3_y11 ?b3_r11
    case b3_y11 => (intro w hSw; (try dsimp only at hSw); go_simp; try (with_reducible rfl))
    case' b3_r11 => simp only [List.setIfInBounds_toArray, List.set_cons_zero, List.set_cons_succ]
    refine Reg.take (i := 12) (u := ?b3_v12) rfl rfl rfl (by kernel_rfl) (by kernel_rfl) (by kernel_rfl) hH ?b3_y12 ?b3_r12
    case b3_y12 => (intro w hSw; (try dsimp only at hSw); go_simp; try (with_reducible rfl))
    case' b3_r12 => simp only [List.setIfInBounds_toArray, List.set_cons_zero, List.set_cons_succ]
    refine Reg.take (i := 13) (u := ?b3_v13) rfl rfl rfl (by kernel_rfl) (by kernel_rfl) (by kernel_rfl) hH ?b3_y13 ?b3_r13
    case b3_y13 => (intro w hSw; (try dsimp only at hSw); go_simp; try (with_reducible rfl))
    case' b3_r13 => simp only [List.setIfInBounds_toArray, List.set_cons_zero, List.set_cons_succ]
    refine Reg.only (i := 14) rfl (Reg.wanted_free rfl) (by kernel_rfl) (fun K hK => ?_)
    go_simp
    skip
    refine hK.out _ _ ?_ (fun hH2 => ?_)
    · exact ⟨(World.cell?_of_block (w := W0) (((Below.refl _ W0).alloc (Nat.le_refl _) _).block w.heap.size (by omega))).trans m0, (World.cell?_of_block (w := W0) (((Below.refl _ W0).alloc (Nat.le_refl _) _).block mb (by omega))).trans k3⟩
    clear hK hH
    have hH := hH2; clear hH2
    try simp only [Act.put, List.setIfInBounds_toArray, List.set_cons_zero, List.set_cons_succ]
    refine Reg.take (i := 15) (u := ?b3_v15) rfl rfl rfl (by kernel_rfl) (by kernel_rfl) (by kernel_rfl) hH ?b3_y15 ?b3_r15
    case b3_y15 => (intro w hSw; (try dsimp only at hSw); go_simp; try (with_reducible rfl))
    case' b3_r15 => simp only [List.setIfInBounds_toArray, List.set_cons_zero, List.set_cons_succ]
    refine Reg.only (i := 16) rfl (Reg.wanted_free rfl) (by kernel_rfl) (fun K hK => ?_)
    go_simp
    skip
    refine hK.out _ _ ?_ (fun hH2 => ?_)
    · exact ⟨(World.cell?_of_block (w := W0) (((Below.refl _ W0).alloc (Nat.le_refl _) _).block w.heap.size (by omega))).trans m0, (World.cell?_of_block (w := W0) (((Below.refl _ W0).alloc (Nat.le_refl _) _).block mb (by omega))).trans k3⟩
    clear hK hH
    have hH := hH2; clear hH2
    try simp only [Act.put, List.setIfInBounds_toArray, List.set_cons_zero, List.set_cons_succ]
    refine wpAnyH_done (by kernel_rfl) ?_ _
    refine NoPanic.normal ?_
    obtain ⟨a0, ha0⟩ : ∃ a0 : Option Addr, a0 = (if c = R.length then some ⟨b, o, none⟩ else some ⟨b, o + R.length, none⟩) := ⟨_, rfl⟩
    rw [← ha0]
    have hN : NX w (W0.alloc (.cells #[.slice a0 0 (c - R.length)] 60)).drew mb lim T false (.slice (some ⟨b, o, none⟩) R.length c) (.string ⟨#[]⟩) (.bool false) (.slice a0 0 (c - R.length)) := by
      have hA : Below W0.heap.size W0 (W0.alloc (.cells #[.slice a0 0 (c - R.length)] 60)).drew := Below.drew ((Below.refl _ W0).alloc (Nat.le_refl _) _)
      refine ⟨⟨hA.os.trans hb0.os, hA.tape.trans hb0.tape, hA.output.trans hb0.output, by have := hA.size; omega, fun k hk hne => (hA.block k (by omega)).trans (hb0.block k hk)⟩, by simp; omega, hlt, ?_, ?_, ?_, ?_⟩
      · exact (hA.block _ (by omega)).trans hm0
      · exact (hA.block _ (by omega)).trans hx0
      · rw [← hs0]; exact World.alloc_heap_new W0 _
      · exact (hA.block _ (by omega)).trans hM0
    obtain ⟨W1, hW1⟩ : ∃ W1, W1 = (W0.alloc (.cells #[.slice a0 0 (c - R.length)] 60)).drew := ⟨_, rfl⟩
    rw [← hW1] at hN ⊢
    have HA0 := Lib.hid ha0
    have HE := Lib.hid hE
    have hBy := hN.bytes hne hb HC.out
    clear hE ha0 hW1 hH m0 k3 k0 k1 k2 x0 x1 fx g0 hM0 hC0 hb0 hs0
    have m0 := hN.m0
    have k0 := hN.M.cell0
    have k1 := hN.M.cell1
    have k2 := hN.M.cell2
    have g0 := hN.M.frozen
    have x0 := hN.x0
    have x1 := hN.x1
    have fx := hN.fx
    go_wp2_with fail
    have hsz : ((bs T).size : Int) = (T.length : Int) := rfl
    by_cases hlong : lim < T.length + R.length
    · have i6 : (lim : Int) < ((bs T).size : Int) + (R.length : Int) := by rw [hsz]; omega
      go_quiet (fail)
      go_wp2_with fail
      refine leaves_cons (f := 44) (args := #[.pointer (some ⟨w.heap.size + 2, 0, none⟩), .pointer (some ⟨w.heap.size, 0, none⟩)]) (by simp) (by simp [go_sem]) ?_
      have hD := fun nk => (((hN.drewN nk).setL true).setX0 (.string ⟨#[]⟩)).setX1 (.bool false)
      refine (nextEnd_any mb w.heap.size (w.heap.size + 2) lim _ _ _ _ _ _ .returning _ (hD _).M (hD _).m0 (hD _).a0 (by omega) (by omega)).mono ?_
      rintro e u2 w2 ⟨rfl, rfl, hMe, hge⟩
      have hrow := (hD _).row hge
      have z0 := cell_list hrow 0
      have z1 := cell_list hrow 1
      simp only [List.getElem?_cons_zero, List.getElem?_cons_succ] at z0 z1
      refine ⟨.tuple #[.agg #[.string ⟨#[]⟩, .bool false], .bool false], by simp [results, Try.results34, go_sem, z0, z1], ?_⟩
      have ho := Ln.one_long (lim := lim) R T hT (by rw [Ln.pre_all R HE.out]; exact hlong)
      refine .inr ⟨none, 0, by rw [ho], rfl, ?_, (hD _).all hge⟩
      rw [ho]
      exact hMe
    · have i6 : ¬ ((lim : Int) < ((bs T).size : Int) + (R.length : Int)) := by rw [hsz]; omega
      have hcv : ∀ x, (convert 60 9 (.slice (some ⟨b, o, none⟩) R.length c)).run Try.prog (W1.drewN x) = .ok (.string (bs R)) (W1.drewN x) := fun x => convBytes b o c R _ (fun i hi => hBy i hi)
      go_quiet (fail)
      go_wp2_with fail
      go_quiet (fail)
      go_wp2_with fail
      rw [bs_append]
      refine leaves_cons (f := 44) (args := #[.pointer (some ⟨w.heap.size + 2, 0, none⟩), .pointer (some ⟨w.heap.size, 0, none⟩)]) (by simp) (by simp [go_sem]) ?_
      have hD := fun nk => (((hN.drewN nk).setT (T ++ R)).setX0 (.string ⟨#[]⟩)).setX1 (.bool false)
      refine (nextEnd_any mb w.heap.size (w.heap.size + 2) lim _ _ _ _ _ _ .returning _ (hD _).M (hD _).m0 (hD _).a0 (by omega) (by omega)).mono ?_
      rintro e u2 w2 ⟨rfl, rfl, hMe, hge⟩
      have hrow := (hD _).row hge
      have z0 := cell_list hrow 0
      have z1 := cell_list hrow 1
      simp only [List.getElem?_cons_zero, List.getElem?_cons_succ] at z0 z1
      refine ⟨.tuple #[.agg #[.string ⟨#[]⟩, .bool false], .bool false], by simp [results, Try.results34, go_sem, z0, z1], ?_⟩
      have ho := Ln.one_none (lim := lim) R T (by rw [Ln.pre_all R HE.out]; omega) HE.out
      refine .inr ⟨a0, c - R.length, by rw [ho], rfl, ?_, (hD _).all hge⟩
      rw [ho]
      exact hMe
  · rw [if_pos rfl]
    go_wp2_with fail
    refine wp_region_noPanic ?_
    refine wp_region_held_drew (S := fun W => W.cell? ⟨w.heap.size, 0, none⟩ = some (.pointer (some ⟨mb, 0, none⟩)) ∧ W.cell? ⟨mb, 3, none⟩ = some (.slice (some ⟨b, o, none⟩) R.length c)) (by kernel_rfl) ?_ (fun hH => ?_)
    · exact ⟨m0, k3⟩
    refine Reg.take (i := 0) (u := ?b1_v0) rfl rfl rfl (by kernel_rfl) (by kernel_rfl) (by kernel_rfl) hH ?b1_y0 ?b1_r0
    case b1_y0 => (intro w hSw; (try dsimp only at hSw); go_simp; try (with_reducible rfl))
    case' b1_r0 => simp only [List.setIfInBounds_toArray, List.set_cons_zero, List.set_cons_succ]
    refine Reg.take (i := 1) (u := ?b1_v1) rfl rfl rfl (by kernel_rfl) (by kernel_rfl) (by kernel_rfl) hH ?b1_y1 ?b1_r1
    case b1_y1 => (intro w hSw; (try dsimp only at hSw); go_simp; try (with_reducible rfl))
    case' b1_r1 => simp only [List.setIfInBounds_toArray, List.set_cons_zero, List.set_cons_succ]
    refine Reg.take (i := 2) (u := ?b1_v2) rfl rfl rfl (by kernel_rfl) (by kernel_rfl) (by kernel_rfl) hH ?b1_y2 ?b1_r2
    case b1_y2 => (intro w hSw; (try dsimp only at hSw); go_simp; try (with_reducible rfl))
    case' b1_r2 => simp only [List.setIfInBounds_toArray, List.set_cons_zero, List.set_cons_succ]
    refine Reg.take (i := 3) (u := ?b1_v3) rfl rfl rfl (by kernel_rfl) (by kernel_rfl) (by kernel_rfl) hH ?b1_y3 ?b1_r3
    case b1_y3 => (intro w hSw; (try dsimp only at hSw); go_simp; try (with_reducible rfl))
    case' b1_r3 => simp only [List.setIfInBounds_toArray, List.set_cons_zero, List.set_cons_succ]
    refine Reg.take (i := 4) (u := ?b1_v4) rfl rfl rfl (by kernel_rfl) (by kernel_rfl) (by kernel_rfl) hH ?b1_y4 ?b1_r4
    case b1_y4 => (intro w hSw; (try dsimp only at hSw); go_simp; try (with_reducible rfl))
    case' b1_r4 => simp only [List.setIfInBounds_toArray, List.set_cons_zero, List.set_cons_succ]
    refine Reg.take (i := 5) (u := ?b1_v5) rfl rfl rfl (by kernel_rfl) (by kernel_rfl) (by kernel_rfl) hH ?b1_y5 ?b1_r5
    case b1_y5 => (intro w hSw; (try dsimp only at hSw); go_simp; try (with_reducible rfl))
    case' b1_r5 => simp only [List.setIfInBounds_toArray, List.set_cons_zero, List.set_cons_succ]
    refine Reg.take (i := 6) (u := ?b1_v6) rfl rfl rfl (by kernel_rfl) (by kernel_rfl) (by kernel_rfl) hH ?b1_y6 ?b1_r6
    case b1_y6 => (intro w hSw; (try dsimp only at hSw); go_simp; try (with_reducible rfl))
    case' b1_r6 => simp only [List.setIfInBounds_toArray, List.set_cons_zero, List.set_cons_succ]
    refine Reg.take (i := 7) (u := ?b1_v7) rfl rfl rfl (by kernel_rfl) (by kernel_rfl) (by kernel_rfl) hH ?b1_y7 ?b1_r7
    case b1_y7 => (intro w hSw; (try dsimp only at hSw); go_simp; try (with_reducible rfl))
    case' b1_r7 => simp only [List.setIfInBounds_toArray, List.set_cons_zero, List.set_cons_succ]
    refine Reg.take (i := 8) (u := ?b1_v8) rfl rfl rfl (by kernel_rfl) (by kernel_rfl) (by kernel_rfl) hH ?b1_y8 ?b1_r8
    case b1_y8 => (intro w hSw; (try dsimp only at hSw); go_simp; try (with_reducible rfl))
    case' b1_r8 => simp only [List.setIfInBounds_toArray, List.set_cons_zero, List.set_cons_succ]
    refine Reg.take (i := 9) (u := ?b1_v9) rfl rfl rfl (by kernel_rfl) (by kernel_rfl) (by kernel_rfl) hH ?b1_y9 ?b1_r9
    case b1_y9 => (intro w hSw; (try dsimp only at hSw); go_simp; try (with_reducible rfl))
    case' b1_r9 => simp only [List.setIfInBounds_toArray, List.set_cons_zero, List.set_cons_succ]
    refine Reg.take (i := 10) (u := ?b1_v10) rfl rfl rfl (by kernel_rfl) (by kernel_rfl) (by kernel_rfl) hH ?b1_y10 ?b1_r10
    case b1_y10 => (intro w hSw; (try dsimp only at hSw); go_simp; try (with_reducible rfl))
    case' b1_r10 => simp only [List.setIfInBounds_toArray, List.set_cons_zero, List.set_cons_succ]
    refine Reg.take (i := 11) (u := ?b1_v11) rfl rfl rfl (by kernel_rfl) (by kernel_rfl) (by kernel_rfl) hH ?b1_y11 ?b1_r11
    case b1_y11 => (intro w hSw; (try dsimp only at hSw); go_simp; try (with_reducible rfl))
    case' b1_r11 => simp only [List.setIfInBounds_toArray, List.set_cons_zero, List.set_cons_succ]
    refine Reg.take (i := 12) (u := ?b1_v12) rfl rfl rfl (by kernel_rfl) (by kernel_rfl) (by kernel_rfl) hH ?b1_y12 ?b1_r12
    case b1_y12 => (intro w hSw; (try dsimp only at hSw); go_simp; try (with_reducible rfl))
    case' b1_r12 => simp only [List.setIfInBounds_toArray, List.set_cons_zero, List.set_cons_succ]
    refine Reg.take (i := 13) (u := ?b1_v13) rfl rfl rfl (by kernel_rfl) (by kernel_rfl) (by kernel_rfl) hH ?b1_y13 ?b1_r13
    case b1_y13 => (intro w hSw; (try dsimp only at hSw); go_simp; try (with_reducible rfl))
    case' b1_r13 => simp only [List.setIfInBounds_toArray, List.set_cons_zero, List.set_cons_succ]
    refine Reg.only (i := 14) rfl (Reg.wanted_free rfl) (by kernel_rfl) (fun K hK => ?_)
    go_simp
    skip
    refine hK.out _ _ ?_ (fun hH2 => ?_)
    · exact ⟨(World.cell?_of_block (w := W0) (((Below.refl _ W0).alloc (Nat.le_refl _) _).block w.heap.size (by omega))).trans m0, (World.cell?_of_block (w := W0) (((Below.refl _ W0).alloc (Nat.le_refl _) _).block mb (by omega))).trans k3⟩
    clear hK hH
    have hH := hH2; clear hH2
    try simp only [Act.put, List.setIfInBounds_toArray, List.set_cons_zero, List.set_cons_succ]
    refine Reg.take (i := 15) (u := ?b1_v15) rfl rfl rfl (by kernel_rfl) (by kernel_rfl) (by kernel_rfl) hH ?b1_y15 ?b1_r15
    case b1_y15 => (intro w hSw; (try dsimp only at hSw); go_simp; try (with_reducible rfl))
    case' b1_r15 => simp only [List.setIfInBounds_toArray, List.set_cons_zero, List.set_cons_succ]
    refine Reg.only (i := 16) rfl (Reg.wanted_free rfl) (by kernel_rfl) (fun K hK => ?_)
    go_simp
    skip
    refine hK.out _ _ ?_ (fun hH2 => ?_)
    · exact ⟨(World.cell?_of_block (w := W0) (((Below.refl _ W0).alloc (Nat.le_refl _) _).block w.heap.size (by omega))).trans m0, (World.cell?_of_block (w := W0) (((Below.refl _ W0).alloc (Nat.le_refl _) _).block mb (by omega))).trans k3⟩
    clear hK hH
    have hH := hH2; clear hH2
    try simp only [Act.put, List.setIfInBounds_toArray, List.set_cons_zero, List.set_cons_succ]
    refine wpAnyH_done (by kernel_rfl) ?_ _
    refine NoPanic.normal ?_
    obtain ⟨a0, ha0⟩ : ∃ a0 : Option Addr, a0 = (if c = R.length then some ⟨b, o, none⟩ else some ⟨b, o + R.length, none⟩) := ⟨_, rfl⟩
    rw [← ha0]
    have hN : NX w (W0.alloc (.cells #[.slice a0 0 (c - R.length)] 60)).drew mb lim T false (.slice (some ⟨b, o, none⟩) R.length c) (.string ⟨#[]⟩) (.bool false) (.slice a0 0 (c - R.length)) := by
      have hA : Below W0.heap.size W0 (W0.alloc (.cells #[.slice a0 0 (c - R.length)] 60)).drew := Below.drew ((Below.refl _ W0).alloc (Nat.le_refl _) _)
      refine ⟨⟨hA.os.trans hb0.os, hA.tape.trans hb0.tape, hA.output.trans hb0.output, by have := hA.size; omega, fun k hk hne => (hA.block k (by omega)).trans (hb0.block k hk)⟩, by simp; omega, hlt, ?_, ?_, ?_, ?_⟩
      · exact (hA.block _ (by omega)).trans hm0
      · exact (hA.block _ (by omega)).trans hx0
      · rw [← hs0]; exact World.alloc_heap_new W0 _
      · exact (hA.block _ (by omega)).trans hM0
    obtain ⟨W1, hW1⟩ : ∃ W1, W1 = (W0.alloc (.cells #[.slice a0 0 (c - R.length)] 60)).drew := ⟨_, rfl⟩
    rw [← hW1] at hN ⊢
    have HA0 := Lib.hid ha0
    have HE := Lib.hid hE
    have hBy := hN.bytes hne hb HC.out
    clear hE ha0 hW1 hH m0 k3 k0 k1 k2 x0 x1 fx g0 hM0 hC0 hb0 hs0
    have m0 := hN.m0
    have A0 := hN.a0
    have k3 := hN.M.cell3
    have fa := hN.fa
    have j1 : (0 : Int) ≤ ((Ln.pre R).length : Int) := by omega
    have hpo := pre_post R
    have hlenR : (Ln.pre R).length < R.length := by
      rcases hpo with ⟨_, _, h3⟩ | ⟨h1, _, _⟩
      · rw [HE.out] at h3; cases h3
      · have := congrArg List.length h1; simp at this; omega
    obtain ⟨k, hk⟩ : ∃ k, (Ln.pre R).length = k := ⟨_, rfl⟩
    rw [hk] at hlenR j1
    simp only [hk]
    have kc : k ≤ c := by omega
    obtain ⟨k1, hk1⟩ : ∃ k1, k1 = k + 1 := ⟨_, rfl⟩
    have kw : IntKind.i64.wrap ((k : Int) + 1) = (k1 : Int) := by rw [IntKind.wrap_i64]; omega
    have kl : (0 : Int) ≤ (k1 : Int) ∧ (k1 : Int) ≤ (R.length : Int) := by omega
    have kl2 : k1 ≤ R.length := by omega
    have HK1 := Lib.hid hk1
    have HK := Lib.hid hk
    have HPO := Lib.hid hpo
    clear hk1 hpo hk
    go_wp2_with fail
    refine wp_region_noPanic ?_
    refine wp_region_held_drew (S := fun W => W.cell? ⟨w.heap.size, 0, none⟩ = some (.pointer (some ⟨mb, 0, none⟩)) ∧ W.cell? ⟨mb, 3, none⟩ = some (.slice (some ⟨b, o, none⟩) R.length c)) (by kernel_rfl) ?_ (fun hH => ?_)
    · exact ⟨m0, k3⟩
    refine Reg.take (i := 0) (u := ?b2_v0) rfl rfl rfl (by kernel_rfl) (by kernel_rfl) (by kernel_rfl) hH ?b2_y0 ?b2_r0
    case b2_y0 => (intro w hSw; (try dsimp only at hSw); go_simp; try (with_reducible rfl))
    case' b2_r0 => simp only [List.setIfInBounds_toArray, List.set_cons_zero, List.set_cons_succ]
    refine Reg.take (i := 1) (u := ?b2_v1) rfl rfl rfl (by kernel_rfl) (by kernel_rfl) (by kernel_rfl) hH ?b2_y1 ?b2_r1
    case b2_y1 => (intro w hSw; (try dsimp only at hSw); go_simp; try (with_reducible rfl))
    case' b2_r1 => simp only [List.setIfInBounds_toArray, List.set_cons_zero, List.set_cons_succ]
    refine Reg.take (i := 2) (u := ?b2_v2) rfl rfl rfl (by kernel_rfl) (by kernel_rfl) (by kernel_rfl) hH ?b2_y2 ?b2_r2
    case b2_y2 => (intro w hSw; (try dsimp only at hSw); go_simp; try (with_reducible rfl))
    case' b2_r2 => simp only [List.setIfInBounds_toArray, List.set_cons_zero, List.set_cons_succ]
    refine Reg.take (i := 3) (u := ?b2_v3) rfl rfl rfl (by kernel_rfl) (by kernel_rfl) (by kernel_rfl) hH ?b2_y3 ?b2_r3
    case b2_y3 => (intro w hSw; (try dsimp only at hSw); go_simp; try (with_reducible rfl))
    case' b2_r3 => simp only [List.setIfInBounds_toArray, List.set_cons_zero, List.set_cons_succ]
    refine Reg.take (i := 4) (u := ?b2_v4) rfl rfl rfl (by kernel_rfl) (by kernel_rfl) (by kernel_rfl) hH ?b2_y4 ?b2_r4
    case b2_y4 => (intro w hSw; (try dsimp only at hSw); go_simp; try (with_reducible rfl))
    case' b2_r4 => simp only [List.setIfInBounds_toArray, List.set_cons_zero, List.set_cons_succ]
    refine Reg.take (i := 5) (u := ?b2_v5) rfl rfl rfl (by kernel_rfl) (by kernel_rfl) (by kernel_rfl) hH ?b2_y5 ?b2_r5
    case b2_y5 => (intro w hSw; (try dsimp only at hSw); go_simp; try (with_reducible rfl))
    case' b2_r5 => simp only [List.setIfInBounds_toArray, List.set_cons_zero, List.set_cons_succ]
    refine Reg.take (i := 6) (u := ?b2_v6) rfl rfl rfl (by kernel_rfl) (by kernel_rfl) (by kernel_rfl) hH ?b2_y6 ?b2_r6
    case b2_y6 => (intro w hSw; (try dsimp only at hSw); go_simp; try (with_reducible rfl))
    case' b2_r6 => simp only [List.setIfInBounds_toArray, List.set_cons_zero, List.set_cons_succ]
    refine Reg.take (i := 7) (u := ?b2_v7) rfl rfl rfl (by kernel_rfl) (by kernel_rfl) (by kernel_rfl) hH ?b2_y7 ?b2_r7
    case b2_y7 => (intro w hSw; (try dsimp only at hSw); go_simp; try (with_reducible rfl))
    case' b2_r7 => simp only [List.setIfInBounds_toArray, List.set_cons_zero, List.set_cons_succ]
    refine Reg.take (i := 8) (u := ?b2_v8) rfl rfl rfl (by kernel_rfl) (by kernel_rfl) (by kernel_rfl) hH ?b2_y8 ?b2_r8
    case b2_y8 => (intro w hSw; (try dsimp only at hSw); go_simp; try (with_reducible rfl))
    case' b2_r8 => simp only [List.setIfInBounds_toArray, List.set_cons_zero, List.set_cons_succ]
    refine Reg.take (i := 9) (u := ?b2_v9) rfl rfl rfl (by kernel_rfl) (by kernel_rfl) (by kernel_rfl) hH ?b2_y9 ?b2_r9
    case b2_y9 => (intro w hSw; (try dsimp only at hSw); go_simp; try (with_reducible rfl))
    case' b2_r9 => simp only [List.setIfInBounds_toArray, List.set_cons_zero, List.set_cons_succ]
    refine Reg.take (i := 10) (u := ?b2_v10) rfl rfl rfl (by kernel_rfl) (by kernel_rfl) (by kernel_rfl) hH ?b2_y10 ?b2_r10
    case b2_y10 => (intro w hSw; (try dsimp only at hSw); go_simp; try (with_reducible rfl))
    case' b2_r10 => simp only [List.setIfInBounds_toArray, List.set_cons_zero, List.set_cons_succ]
    refine Reg.take (i := 11) (u := ?b2_v11) rfl rfl rfl (by kernel_rfl) (by kernel_rfl) (by kernel_rfl) hH ?b2_y11 ?b2_r11
    case b2_y11 => (intro w hSw; (try dsimp only at hSw); go_simp; try (with_reducible rfl))
    case' b2_r11 => simp only [List.setIfInBounds_toArray, List.set_cons_zero, List.set_cons_succ]
    refine Reg.take (i := 12) (u := ?b2_v12) rfl rfl rfl (by kernel_rfl) (by kernel_rfl) (by kernel_rfl) hH ?b2_y12 ?b2_r12
    case b2_y12 => (intro w hSw; (try dsimp only at hSw); go_simp; try (with_reducible rfl))
    case' b2_r12 => simp only [List.setIfInBounds_toArray, List.set_cons_zero, List.set_cons_succ]
    refine Reg.take (i := 13) (u := ?b2_v13) rfl rfl rfl (by kernel_rfl) (by kernel_rfl) (by kernel_rfl) hH ?b2_y13 ?b2_r13
    case b2_y13 => (intro w hSw; (try dsimp only at hSw); go_simp; try (with_reducible rfl))
    case' b2_r13 => simp only [List.setIfInBounds_toArray, List.set_cons_zero, List.set_cons_succ]
    refine Reg.take (i := 14) (u := ?b2_v14) rfl rfl rfl (by kernel_rfl) (by kernel_rfl) (by kernel_rfl) hH ?b2_y14 ?b2_r14
    case b2_y14 => (intro w hSw; (try dsimp only at hSw); go_simp; try (with_reducible rfl))
    case' b2_r14 => simp only [List.setIfInBounds_toArray, List.set_cons_zero, List.set_cons_succ]
    refine Reg.only (i := 15) rfl (Reg.wanted_free rfl) (by kernel_rfl) (fun K hK => ?_)
    go_simp
    skip
    refine hK.out _ _ ?_ (fun hH2 => ?_)
    · exact ⟨(hN.setA _).m0, (hN.setA _).M.cell3⟩
    clear hK hH
    have hH := hH2; clear hH2
    try simp only [Act.put, List.setIfInBounds_toArray, List.set_cons_zero, List.set_cons_succ]
    refine wpAnyH_done (by kernel_rfl) ?_ _
    refine NoPanic.normal ?_
    have hoe : (if c = k1 then some (⟨b, o, none⟩ : Addr) else some ⟨b, o + k1, none⟩) = some ⟨b, if c = k1 then o else o + k1, none⟩ := by split <;> rfl
    rw [hoe]
    obtain ⟨o1, ho1⟩ : ∃ o1, o1 = (if c = k1 then o else o + k1) := ⟨_, rfl⟩
    rw [← ho1]
    have HO1 := Lib.hid ho1
    have hN2 := (hN.setA (.slice (some ⟨b, o1, none⟩) (R.length - k1) (c - k1))).drewN 1
    obtain ⟨W2, hW2⟩ : ∃ W2, W2 = (W1.setCell ⟨w.heap.size + 2, 0, none⟩ (.slice (some ⟨b, o1, none⟩) (R.length - k1) (c - k1))).drew := ⟨_, rfl⟩
    have hN2 : NX w W2 mb lim T false (.slice (some ⟨b, o, none⟩) R.length c) (.string ⟨#[]⟩) (.bool false) (.slice (some ⟨b, o1, none⟩) (R.length - k1) (c - k1)) := by rw [hW2]; exact hN2
    rw [← hW2]
    clear hW2 hH m0 A0 k3 fa hoe ho1 hN hBy kw kl
    have hBy := hN2.bytes hne hb HC.out
    have m0 := hN2.m0
    have k0 := hN2.M.cell0
    have k1' := hN2.M.cell1
    have k2 := hN2.M.cell2
    have g0 := hN2.M.frozen
    have x0 := hN2.x0
    have x1 := hN2.x1
    have fx := hN2.fx
    go_wp2_with fail
    have hsz : ((bs T).size : Int) = (T.length : Int) := rfl
    by_cases hlong : lim < T.length + k
    · have i6 : (lim : Int) < ((bs T).size : Int) + (k : Int) := by rw [hsz]; omega
      go_quiet (fail)
      go_wp2_with fail
      refine leaves_cons (f := 44) (args := #[.pointer (some ⟨w.heap.size + 2, 0, none⟩), .pointer (some ⟨w.heap.size, 0, none⟩)]) (by simp) (by simp [go_sem]) ?_
      have hD := fun nk => (((hN2.drewN nk).setL true).setX0 (.string ⟨#[]⟩)).setX1 (.bool false)
      refine (nextEnd_any mb w.heap.size (w.heap.size + 2) lim _ _ _ _ _ _ .returning _ (hD _).M (hD _).m0 (hD _).a0 (by omega) (by omega)).mono ?_
      rintro e u2 w2 ⟨rfl, rfl, hMe, hge⟩
      have hrow := (hD _).row hge
      have z0 := cell_list hrow 0
      have z1 := cell_list hrow 1
      simp only [List.getElem?_cons_zero, List.getElem?_cons_succ] at z0 z1
      refine ⟨.tuple #[.agg #[.string ⟨#[]⟩, .bool false], .bool false], by simp [results, Try.results34, go_sem, z0, z1], ?_⟩
      have ho := Ln.one_long (lim := lim) R T hT (by rw [HK.out]; exact hlong)
      refine .inr ⟨none, 0, by rw [ho], rfl, ?_, (hD _).all hge⟩
      rw [ho]
      exact hMe
    · have i6 : ¬ ((lim : Int) < ((bs T).size : Int) + (k : Int)) := by rw [hsz]; omega
      have hcv : ∀ x, (convert 60 9 (.slice (some ⟨b, o, none⟩) k k)).run Try.prog (W2.drewN x) = .ok (.string (bs (R.take k))) (W2.drewN x) := fun x => convTake b o k k R (by omega) _ (fun i hi => hBy i hi)
      have hk0 : ¬ ((k : Int) < 0) := by omega
      have hmade := fun W => lineMade_any (bs (T ++ R.take k)) (by rw [size_bs]; simp; omega) W
      rw [data_bs] at hmade
      obtain ⟨X, hX⟩ : ∃ X, Ln.mk (T ++ R.take k) = X := ⟨_, rfl⟩
      rw [hX] at hmade
      have HX := Lib.hid hX
      clear hX
      go_quiet (fail)
      go_wp2_with fail
      go_quiet (fail)
      go_wp2_with fail
      rw [bs_append]
      refine (hmade _).mono ?_
      rintro e w3 ⟨rfl, hb3⟩
      have hN3 := ((hN2.drewN _).setT []).below hb3
      clear m0 k0 k1' k2 g0 x0 x1 fx hmade hcv
      have x0 := hN3.x0
      have x1 := hN3.x1
      have fx := hN3.fx
      go_wp2_with fail
      refine leaves_cons (f := 44) (args := #[.pointer (some ⟨w.heap.size + 2, 0, none⟩), .pointer (some ⟨w.heap.size, 0, none⟩)]) (by simp) (by simp [go_sem]) ?_
      have hD := fun nk : Nat => (hN3.setX0 (.string (bs X.1))).setX1 (.bool X.2)
      refine (nextEnd_any mb w.heap.size (w.heap.size + 2) lim _ _ _ _ _ _ .returning _ (hD 0).M (hD 0).m0 (hD 0).a0 (by omega) (by omega)).mono ?_
      rintro e u2 w2 ⟨rfl, rfl, hMe, hge⟩
      have hrow := (hD 0).row hge
      have z0 := cell_list hrow 0
      have z1 := cell_list hrow 1
      simp only [List.getElem?_cons_zero, List.getElem?_cons_succ] at z0 z1
      refine ⟨.tuple #[.agg #[.string (bs X.1), .bool X.2], .bool true], by simp [results, Try.results34, go_sem, z0, z1], ?_⟩
      have hRs : R = Ln.pre R ++ 10 :: Ln.post R := by
        rcases HPO.out with ⟨_, _, h3⟩ | ⟨h1, _, _⟩
        · rw [HE.out] at h3; cases h3
        · exact h1
      have htk : R.take k = Ln.pre R := by
        conv => lhs; rw [hRs]
        rw [← HK.out]; simp
      have hdr : R.drop k1 = Ln.post R := by
        conv => lhs; rw [hRs]
        rw [HK1.out, ← HK.out]; simp
      have ho := Ln.one_line (lim := lim) R T (by rw [HK.out]; omega) HE.out
      have hlp : (Ln.post R).length = R.length - k1 := by rw [← hdr, List.length_drop]
      refine .inl ⟨X, _, by rw [ho, ← HX.out, htk], rfl, hMe, ?_, (hD 0).all hge⟩
      rw [ho]
      have hlt2 := (hD 0).lt
      refine ⟨o1, c - k1, by rw [hlp]; rfl, by rw [hlp]; omega, by unfold maxLen; omega, hne, Nat.lt_of_lt_of_le hb ((hD 0).all hge).size, fun i hi => ?_⟩
      rw [hlp] at hi
      have hoo := HO1.out
      rw [if_neg (by omega)] at hoo
      have hcw := HC.out (k1 + i) (by omega)
      have e1 : (Ln.post R)[i]'(by rw [hlp]; exact hi) = R[k1 + i]'(by omega) := by
        simp only [← hdr, List.getElem_drop]
      rw [e1, ← hcw, hoo, Nat.add_assoc]
      exact World.cell?_of_block (w := w) (((hD 0).all hge).block b hb (by simpa using hne))

theorem next_b {mb b lim : Nat} {T R : List UInt8} {v : Value} {w : World} (hm : MState w mb lim T false v) (hs : BSl w mb b v R) (hR : R.length ≤ 1000000) (hT : T.length ≤ lim) (hl : lim ≤ 1536) :
    Calls Try.prog 34 #[.pointer (some ⟨mb, 0, none⟩)] w fun e w' => NextPost mb b lim T R w e w' := by
  obtain ⟨o, c, rfl, h2, h3, h4, h5, h6⟩ := hs
  exact next_any mb b o c lim T R w hm hR h2 h3 h4 h5 h6 hT hl
end Go.Proofs.Yteppipkokeaijaa
