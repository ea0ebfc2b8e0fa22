/- A builder whose row lies beyond a mark: WriteByte leaves what lies below, but the builder. -/
import Derived.Test.YtllklgalghmnfaaDoorTplSets
import Derived.Test.YtllklgalghmnfaaDoorTplCheck
import Derived.Test.YtllklgalghmnfaaDoorTplExpand
import Derived.Test.YtllklgalghmnfaaDoorTplExpandAll
namespace Go.Proofs.YtllklgalghmnfaaDoor
open Go.RowKit Str Mem Tp
set_option linter.unusedVariables false
set_option linter.unusedSimpArgs false
structure Off (g bv : Nat) (w w' : World) : Prop where
  os : w'.os = w.os
  tape : w'.tape = w.tape
  output : w'.output = w.output
  size : w.heap.size ≤ w'.heap.size
  block : ∀ j, j < bv → j ≠ g → w'.heap[j]? = w.heap[j]?
theorem Off.refl (g bv : Nat) (w : World) : Off g bv w w := ⟨rfl, rfl, rfl, Nat.le_refl _, fun _ _ _ => rfl⟩
theorem Off.trans {g bv : Nat} {a b c : World} (h : Off g bv a b) (k : Off g bv b c) : Off g bv a c :=
  ⟨k.os.trans h.os, k.tape.trans h.tape, k.output.trans h.output, Nat.le_trans h.size k.size, fun j h1 h2 => (k.block j h1 h2).trans (h.block j h1 h2)⟩
theorem Off.of_below {g bv B : Nat} {a b : World} (h : Below B a b) (hB : bv ≤ B) : Off g bv a b := ⟨h.os, h.tape, h.output, h.size, fun j h1 _ => h.block j (by omega)⟩
theorem Off.below {g bv B : Nat} {a b : World} (h : Off g bv a b) (h1 : B ≤ g) (h2 : B ≤ bv) : Below B a b := ⟨h.os, h.tape, h.output, h.size, fun j hj => h.block j (by omega) (by omega)⟩
/-- The builder of block g, its row beyond bv. -/
def B2 (w : World) (bv g : Nat) (l : List UInt8) : Prop :=
  g < bv ∧ bv ≤ w.heap.size ∧ ∃ p v, (p = .pointer none ∨ p = .pointer (some ⟨g, 0, none⟩)) ∧ w.heap[g]? = some (.cells [p, v].toArray 125 (0, 0)) ∧ w.ownsRow bv 5 1 v l.length (Lib.byteCells l) ∧ v.ownBlock ≠ some g ∧ (l = [] → v = .slice none 0 0)
theorem B2.state {w : World} {bv g base : Nat} {l : List UInt8} (h : B2 w bv g l) (h1 : base ≤ g) : BState w base 125 g [] l := by
  obtain ⟨hlt, hsz, p, v, hp, hh, ho, hne, hnil⟩ := h
  refine ⟨h1, p, v, hp, hh, ⟨ho.1, ?_⟩, hne, hnil⟩
  rcases ho.2 with hv | ⟨g', cap, cur, hv, hb, r⟩
  · exact .inl hv
  · exact .inr ⟨g', cap, cur, hv, by omega, r⟩
theorem B2.keep {w w' : World} {bv g : Nat} {l : List UInt8} (h : B2 w bv g l) (hb : Below w.heap.size w w') : B2 w' bv g l := by
  obtain ⟨h1, h2, p, v, hp, hh, how, hne, hnil⟩ := h
  refine ⟨h1, Nat.le_trans h2 hb.size, p, v, hp, (hb.block g (lt_of_cells hh)).trans hh, how.kept (w' := w') (row := none) ⟨hb.os, hb.tape, hb.output, hb.size, fun k hk _ => hb.block k hk⟩ ?_, hne, hnil⟩
  rcases v.ownBlock with _ | k
  · exact .inl rfl
  · exact .inr (by simp)
def U2 (w : World) (bv g : Nat) (v : Value) (l : List UInt8) : Prop :=
  g < bv ∧ bv ≤ w.heap.size ∧ w.heap[g]? = some (.cells [.pointer (some ⟨g, 0, none⟩), v].toArray 125 (0, 0)) ∧ w.ownsRow bv 5 1 v l.length (Lib.byteCells l) ∧ v.ownBlock ≠ some g ∧ (l = [] → v = .slice none 0 0)
theorem copyCheck2 (bv g : Nat) (l : List UInt8) (w : World) (h : B2 w bv g l) :
    Calls Tryd.prog 107 #[.pointer (some ⟨g, 0, none⟩)] w fun e w' => e = .returned (.tuple #[]) ∧ (∃ v, U2 w' bv g v l) ∧ Off g bv w w' := by
  obtain ⟨hg, hsz, p, v, hp, hh, hown, hne, hnil⟩ := h
  have c0 := cell_list hh 0
  rcases hp with rfl | rfl
  · refine (copyCheck_fresh g 125 0 w builderType (by simpa using c0) (by simp [World.shape?, hh]) (frozen_list hh 0)).mono ?_
    rintro e w' ⟨rfl, rfl⟩
    refine ⟨rfl, ⟨v, hg, by simpa [World.setCell] using hsz, set_list hh 0 _, ?_, hne, hnil⟩, rfl, rfl, rfl, by simp [World.setCell], fun j h1 h2 => Below.heap_setCell _ _ _ _ h2⟩
    refine hown.kept (row := some g) ⟨rfl, rfl, rfl, by simp [World.setCell], fun k _ hk => Below.heap_setCell _ _ _ _ (fun e => hk (by simp [e]))⟩ (.inr hne)
  · refine (copyCheck_used g w (by simpa using c0)).mono ?_
    rintro e w' ⟨rfl, rfl⟩
    exact ⟨rfl, ⟨v, hg, hsz, hh, hown, hne, hnil⟩, Off.refl _ _ _⟩
theorem U2.put {w w1 : World} {bv g : Nat} {v v' : Value} {l l' : List UInt8} (h : U2 w bv g v l) (hg : w.grownBy w1 v.ownBlock)
    (ho : w1.ownsRow bv 5 1 v' l'.length (Lib.byteCells l')) (hnil : l' = [] → v' = .slice none 0 0) :
    w1.heap[g]? = some (.cells [.pointer (some ⟨g, 0, none⟩), v].toArray 125 (0, 0)) ∧ B2 (w1.setCell ⟨g, 1, none⟩ v') bv g l' := by
  obtain ⟨hb, hsz, hh, hown, hne, _⟩ := h
  have hh1 : w1.heap[g]? = some (.cells [.pointer (some ⟨g, 0, none⟩), v].toArray 125 (0, 0)) := (hg.block g (lt_of_cells hh) (fun e => hne e.symm)).trans hh
  have hne' : v'.ownBlock ≠ some g := by
    intro e
    rcases ho.2 with ⟨rfl, _⟩ | ⟨g', cap, cur, rfl, _, hgb, _⟩
    · simp [Value.ownBlock] at e
    · obtain rfl : g' = g := by simpa [Value.ownBlock] using e
      rw [hh1] at hgb
      simp at hgb
  refine ⟨hh1, hb, by have := hg.size; simp [World.setCell]; omega, _, v', .inr rfl, set_list hh1 1 _, ?_, hne', hnil⟩
  exact ho.kept (row := some g) ⟨rfl, rfl, rfl, by simp [World.setCell], fun k _ hk => Below.heap_setCell _ _ _ _ (fun e => hk (by simp [e]))⟩ (.inr hne')
set_option maxHeartbeats 1000000 in
set_option maxRecDepth 100000 in
theorem writeByte2 (bv g : Nat) (l : List UInt8) (c : Int) (b : UInt8) (hc : c = (b.toNat : Int)) (w : World) (h : B2 w bv g l) (hlen : l.length + 1 ≤ 140737488355328) :
    Calls Tryd.prog 100 #[.pointer (some ⟨g, 0, none⟩), .int .u8 c] w fun e w' => e = .returned .nilIface ∧ B2 w' bv g (l ++ [b]) ∧ Off g bv w w' := by
  have HC : Hid (c = (b.toNat : Int)) := hc
  clear hc
  obtain ⟨i0, hi, hz0, hz1, hz2⟩ := info_parts infoByte
  go_enter Tryd.func100, Tryd.ntmps100
  go_wp2_with (go_at_call 107; refine (copyCheck2 bv g l _ h).mono ?_)
  rintro e w1 ⟨rfl, ⟨v, hu⟩, hb1⟩
  have c1 := cell_list hu.2.2.1 1
  simp only [List.getElem?_cons_succ, List.getElem?_cons_zero] at c1
  have hus := hu.2.1
  go_wp2_with (at_builtin; refine wpList_append_own _ rfl _ _ 97 rfl bv 5 i0 (.int .u8 0) 1 1 Tryd.underlying97 hi hz0 hz1 hz2 rfl (by decide) _ _ _ rfl (hu.2.2.2.1.alloc _) ⟨w1.heap.size, 0, none⟩ 1 1 [.int .u8 c] rfl rfl (cell_one_new _ _ _) (by simp [Value.oneCell']) (by unfold maxLen; omega) (by omega) (by simp; omega) ?_)
  intro v' w2 hown' hgrow hiff
  have hg2 : w1.grownBy w2 v.ownBlock := by
    have ga := World.grownBy_alloc w1 (.cells #[.int .u8 c] 5) v.ownBlock
    exact ⟨hgrow.os.trans ga.os, hgrow.tape.trans ga.tape, hgrow.output.trans ga.output, Nat.le_trans ga.size hgrow.size, fun j hj hne => (hgrow.block j (Nat.lt_of_lt_of_le hj ga.size) hne).trans (ga.block j hj hne)⟩
  have hnil : l ++ [b] = [] → v' = .slice none 0 0 := fun e => by simp at e
  have hown2 : w2.ownsRow bv 5 1 v' (l ++ [b]).length (Lib.byteCells (l ++ [b])) := by
    rw [List.length_append]
    have : Lib.byteCells (l ++ [b]) = Lib.byteCells l ++ [.int .u8 c] := by rw [HC.out]; simp [Lib.byteCells]
    rw [this]; exact hown'
  have hlow : ∀ k, v.ownBlock = some k → bv ≤ k := fun k hk => by
    rcases hu.2.2.2.1.2 with ⟨rfl, _⟩ | ⟨g', cap, cur, rfl, hbg, _⟩
    · simp [Value.ownBlock] at hk
    · simp [Value.ownBlock] at hk; omega
  obtain ⟨hh2, hst⟩ := hu.put hg2 hown2 hnil
  have d1 := cell_list hh2 1
  simp only [List.getElem?_cons_succ, List.getElem?_cons_zero] at d1
  have f1 := frozen_list hh2 1
  have hbl : Off g bv w (w2.setCell ⟨g, 1, none⟩ v') := by
    refine hb1.trans ⟨by simpa [World.setCell] using hg2.os, by simpa [World.setCell] using hg2.tape, by simpa [World.setCell] using hg2.output, by simpa [World.setCell] using hg2.size, fun j h1 h2 => ?_⟩
    exact (Below.heap_setCell _ _ _ _ h2).trans (hg2.block j (by omega) (fun e => by have := hlow j e.symm; omega))
  obtain ⟨ao, n', cap, rfl⟩ : ∃ ao n' cap, v' = .slice ao n' cap := by
    rcases hown'.2 with ⟨hv, _⟩ | ⟨g', cap, cur, hv, _⟩
    · exact ⟨_, _, _, hv⟩
    · exact ⟨_, _, _, hv⟩
  clear hu hown' hown2 hiff hnil
  go_wp2
  go_ret
  exact ⟨rfl, hst, hbl⟩
end Go.Proofs.YtllklgalghmnfaaDoor
namespace Go.Proofs.YtllklgalghmnfaaDoor
open Go.RowKit Str Mem Tp
set_option linter.unusedVariables false
set_option linter.unusedSimpArgs false
def hexD (n : Nat) : UInt8 := ([48, 49, 50, 51, 52, 53, 54, 55, 56, 57, 65, 66, 67, 68, 69, 70] : List UInt8).getD n 0
def encB (s : S4) (b : UInt8) : Tp.Bs := if b ≠ 37 ∧ hasS s b.toNat = true then [b] else [37, hexD (b.toNat / 16), hexD (b.toNat % 16)]
def encS (s : S4) (t : Tp.Bs) : Tp.Bs := t.flatMap (encB s)
theorem encB_len (s : S4) (b : UInt8) : (encB s b).length ≤ 3 := by unfold encB; split <;> simp
theorem encS_len (s : S4) (t : Tp.Bs) : (encS s t).length ≤ 3 * t.length := by
  induction t with
  | nil => simp [encS]
  | cons b t ih =>
    have := encB_len s b
    unfold encS at ih ⊢
    rw [List.flatMap_cons, List.length_append, List.length_cons]; omega
theorem encS_next (s : S4) (t : Tp.Bs) (k : Nat) (h : k < t.length) : encS s (t.take (k + 1)) = encS s (t.take k) ++ encB s t[k] := by
  rw [List.take_add_one, List.getElem?_eq_getElem h, Option.toList_some]
  unfold encS
  rw [List.flatMap_append]
  simp
set_option maxRecDepth 100000 in
theorem enc_low (n : Nat) (h : n < 256) : bits .and .u8 (n : Int) 15 = ((n % 16 : Nat) : Int) := by
  have : ∀ n : Fin 256, bits .and .u8 ((n.val : Nat) : Int) 15 = ((n.val % 16 : Nat) : Int) := by decide
  exact this ⟨n, h⟩
theorem hex_at (n : Nat) (h : n < 16) (hin : n < (ByteArray.mk #[48, 49, 50, 51, 52, 53, 54, 55, 56, 57, 65, 66, 67, 68, 69, 70]).size) : (((ByteArray.mk #[48, 49, 50, 51, 52, 53, 54, 55, 56, 57, 65, 66, 67, 68, 69, 70])[n]'hin).toNat : Int) = ((hexD n).toNat : Int) := by
  rw [get_data _ n hin]
  unfold hexD
  simp [List.getD_eq_getElem?_getD, List.getElem?_eq_getElem (l := ([48, 49, 50, 51, 52, 53, 54, 55, 56, 57, 65, 66, 67, 68, 69, 70] : List UInt8)) (show n < 16 from h)]
set_option maxRecDepth 100000 in
set_option maxHeartbeats 4000000 in
theorem put_enc (g : Nat) (s : S4) (a : Option Addr) (c : Nat) (L : List UInt8) (w : World) (hg : g < w.heap.size) (hB : w.heap[g]? = some (.cells [.pointer none, .slice none 0 0].toArray 125 (0, 0))) (hn : L.length ≤ 1000000) (hP : Rd w 1 a L.length (Lib.byteCells L)) (hag : ∀ ad, a = some ad → ad.block ≠ g) :
    Calls Tryd.prog 90 #[.pointer (some ⟨g, 0, none⟩), .agg #[.int .u64 s.a0, .int .u64 s.a1, .int .u64 s.a2, .int .u64 s.a3], .slice a L.length c] w fun e w' => e = .returned (.tuple #[]) ∧ BState w' g 125 g [] (encS s L) ∧ Below g w w' := by
  obtain ⟨W0, hW0⟩ : ∃ W, W = w.alloc (.cells #[.int .u64 s.a0, .int .u64 s.a1, .int .u64 s.a2, .int .u64 s.a3] 69) := ⟨_, rfl⟩
  have hrow : W0.heap[w.heap.size]? = some (.cells [.int .u64 s.a0, .int .u64 s.a1, .int .u64 s.a2, .int .u64 s.a3].toArray 69 (0, 0)) := by rw [hW0]; exact World.alloc_heap_new w _
  have hs0 : W0.heap.size = w.heap.size + 1 := by rw [hW0]; simp
  have hb0 : Below w.heap.size w W0 := by rw [hW0]; exact (Below.refl w.heap.size w).alloc (Nat.le_refl _) _
  have hB1 : B2 W0 (w.heap.size + 1) g [] := ⟨by omega, by omega, _, _, .inl rfl, (hb0.block g hg).trans hB, World.ownsRow_nil _ _ _ _, by simp [Value.ownBlock], fun _ => rfl⟩
  have hP1 : Rd W0 1 a L.length (Lib.byteCells L) := Rd.below hP hb0
  have hal : ∀ ad, a = some ad → 0 < L.length → ad.block < w.heap.size := fun ad h1 h2 => by
    obtain ⟨ad', h3, h4, _⟩ := Rd.get hP h2
    rw [h1] at h3; cases h3; exact h4
  have HAL := Lib.hid (And.intro hag hal)
  have HR := Lib.hid hrow
  have HB0 := Lib.hid hb0
  have HB := Lib.hid hB1
  have HP := Lib.hid hP1
  have HS := Lib.hid hs0
  clear hrow hb0 hB hB1 hP hP1 hs0 hag hal
  go_enter Tryd.func90, Tryd.ntmps90
  go_wp2_with fail
  rw [← hW0]
  clear hW0
  go_loopg [10] L.length (fun g2 i W => ∃ k : Nat, i = .int .i64 k ∧ k + g2 = L.length ∧ B2 W (w.heap.size + 1) g (encS s (L.take k)) ∧ Off g (w.heap.size + 1) W0 W)
  case atStart => exact ⟨0, rfl, by omega, by rw [List.take_zero]; exact HB.out, Off.refl _ _ _⟩
  case round =>
    clear HB
    obtain ⟨k, rfl, hk, hB, hbl⟩ := hrel
    have hr := (hbl.block w.heap.size (by omega) (by omega)).trans HR.out
    have d0 := cell_list (cs := [.int .u64 s.a0, .int .u64 s.a1, .int .u64 s.a2, .int .u64 s.a3]) hr 0
    have d1 := cell_list (cs := [.int .u64 s.a0, .int .u64 s.a1, .int .u64 s.a2, .int .u64 s.a3]) hr 1
    have d2 := cell_list (cs := [.int .u64 s.a0, .int .u64 s.a1, .int .u64 s.a2, .int .u64 s.a3]) hr 2
    have d3 := cell_list (cs := [.int .u64 s.a0, .int .u64 s.a1, .int .u64 s.a2, .int .u64 s.a3]) hr 3
    simp only [List.getElem?_cons_zero, List.getElem?_cons_succ] at d0 d1 d2 d3
    have HB := Lib.hid hB
    have HBL := Lib.hid hbl
    clear hB hr hbl
    have i0 : (0 : Int) ≤ (k : Int) := by omega
    by_cases hlt : k < L.length
    · obtain ⟨g', rfl⟩ : ∃ g', gk = g' + 1 := ⟨gk - 1, by omega⟩
      have i1 : (k : Int) < (L.length : Int) := by omega
      obtain ⟨ad, had, hbk, hc⟩ := Rd.get HP.out (by omega)
      have hcw := hc k (.int .u8 L[k].toNat) (by unfold Lib.byteCells; rw [List.getElem?_map, List.getElem?_eq_getElem hlt]; rfl)
      have hadl := HAL.out.2 ad had (by omega)
      have hadg := HAL.out.1 ad had
      have hab : (ad.add k).block = ad.block := by unfold Addr.add; split <;> rfl
      have q0 : wr.cell? (ad.add k) = some (.int .u8 L[k].toNat) := by rw [← hcw]; exact World.cell?_of_block (HBL.out.block _ (by rw [hab]; omega) (by rw [hab]; exact hadg))
      subst had
      have hnx := Lib.hid (encS_next s L k hlt)
      have hl := encS_len s (L.take k)
      have htl : (L.take k).length ≤ k := List.length_take_le _ _
      obtain ⟨b, hbv⟩ : ∃ b, L[k] = b := ⟨_, rfl⟩
      rw [hbv] at hnx q0
      have hnb : b.toNat < 256 := b.toNat_lt
      have hha := fun W => has_any s b.toNat hnb W
      obtain ⟨hv, hhv⟩ : ∃ hv, hasS s b.toNat = hv := ⟨_, rfl⟩
      rw [hhv] at hha
      have HH := Lib.hid hhv
      clear hc hhv hbv hcw
      have hwr := fun l W c b hc h hl => writeByte2 (w.heap.size + 1) g l c b hc W h hl
      by_cases h37 : (b.toNat : Int) = 37
      · have h37n : b = 37 := by apply UInt8.toNat_inj.1; show b.toNat = 37; omega
        have hv0 := Lib.hid (show encB s b = [37, hexD (b.toNat / 16), hexD (b.toNat % 16)] from by unfold encB; rw [if_neg (by intro h; exact h.1 h37n)])
        have H37 := Lib.hid h37n
        clear h37n
        have M2 := Lib.hid (And.intro HB.out (Off.refl g (w.heap.size + 1) wr))
        go_wp2_with fail
        refine (hwr _ _ 37 37 rfl M2.out.1 (by omega)).mono ?_
        rintro e w3 ⟨rfl, hB3, h3⟩
        have M3 := Lib.hid (And.intro hB3 (M2.out.2.trans h3))
        clear hB3 h3
        go_wp2_with fail
        refine (hwr _ _ _ (hexD (b.toNat / 16)) (by rw [H37.out]; rfl) M3.out.1 (by rw [List.length_append, List.length_singleton]; omega)).mono ?_
        rintro e w4 ⟨rfl, hB4, h4⟩
        have M4 := Lib.hid (And.intro hB4 (M3.out.2.trans h4))
        clear hB4 h4
        go_wp2_with fail
        refine (hwr _ _ _ (hexD (b.toNat % 16)) (by rw [H37.out]; rfl) M4.out.1 (by rw [List.length_append, List.length_append, List.length_singleton, List.length_singleton]; omega)).mono ?_
        rintro e w5 ⟨rfl, hB5, h5⟩
        have M5 := Lib.hid (And.intro hB5 (M4.out.2.trans h5))
        clear hB5 h5
        go_wp2_with fail
        go_roundg g'
        case measure => omega
        case rel => exact ⟨k + 1, by go_num, by omega, by rw [hnx.out, hv0.out]; simpa using M5.out.1, HBL.out.trans M5.out.2⟩
      · have hb37 : b ≠ 37 := fun h => h37 (by rw [h]; rfl)
        go_wp2_with fail
        refine (hha _).mono ?_
        rintro e w2 ⟨rfl, h2⟩
        have hbs := HBL.out.size
        have M1 := Lib.hid (And.intro (HB.out.keep h2) (Off.of_below (g := g) (bv := w.heap.size + 1) h2 (by have := HS.out; omega)))
        rcases hv with _ | _
        · have hv0 := Lib.hid (show encB s b = [37, hexD (b.toNat / 16), hexD (b.toNat % 16)] from by unfold encB; rw [if_neg (by intro h; rw [HH.out] at h; simp at h)])
          have M2 := Lib.hid (M1.out)
          go_wp2_with fail
          refine (hwr _ _ 37 37 rfl M2.out.1 (by omega)).mono ?_
          rintro e w3 ⟨rfl, hB3, h3⟩
          have M3 := Lib.hid (And.intro hB3 (M2.out.2.trans h3))
          clear hB3 h3
          go_wp2_with fail
          refine (hwr _ _ _ (hexD (b.toNat / 16)) (by exact hex_at _ (by omega) _) M3.out.1 (by rw [List.length_append, List.length_singleton]; omega)).mono ?_
          rintro e w4 ⟨rfl, hB4, h4⟩
          have M4 := Lib.hid (And.intro hB4 (M3.out.2.trans h4))
          clear hB4 h4
          have hlow := enc_low b.toNat hnb
          go_wp2_with fail
          refine (hwr _ _ _ (hexD (b.toNat % 16)) (by exact hex_at _ (by omega) _) M4.out.1 (by rw [List.length_append, List.length_append, List.length_singleton, List.length_singleton]; omega)).mono ?_
          rintro e w5 ⟨rfl, hB5, h5⟩
          have M5 := Lib.hid (And.intro hB5 (M4.out.2.trans h5))
          clear hB5 h5
          go_wp2_with fail
          go_roundg g'
          case measure => omega
          case rel => exact ⟨k + 1, by go_num, by omega, by rw [hnx.out, hv0.out]; simpa using M5.out.1, HBL.out.trans M5.out.2⟩
        · have hv0 := Lib.hid (show encB s b = [b] from by unfold encB; rw [if_pos ⟨hb37, HH.out⟩])
          go_wp2_with fail
          refine (hwr _ _ _ b rfl M1.out.1 (by omega)).mono ?_
          rintro e w3 ⟨rfl, hB3, h3⟩
          have M3 := Lib.hid (And.intro hB3 (M1.out.2.trans h3))
          clear hB3 h3
          go_wp2_with fail
          go_roundg g'
          case measure => omega
          case rel => exact ⟨k + 1, by go_num, by omega, by rw [hnx.out, hv0.out]; simpa using M3.out.1, HBL.out.trans M3.out.2⟩
    · obtain rfl : k = L.length := by omega
      have hB := HB.out
      rw [List.take_length] at hB
      have HB9 := Lib.hid hB
      clear hB
      go_wp2_with fail
      go_end0
      exact ⟨rfl, HB9.out.state (Nat.le_refl _), (HB0.out.mono (by omega)).trans (HBL.out.below (Nat.le_refl _) (by omega))⟩
end Go.Proofs.YtllklgalghmnfaaDoor
namespace Go.Proofs.YtllklgalghmnfaaDoor
open Go.RowKit Str Mem Tp
set_option linter.unusedVariables false
set_option linter.unusedSimpArgs false
theorem row_bytes (W : World) (b C : Nat) (t : Tp.Bs) (m : Nat × Nat) (h : W.heap[b]? = some (.cells (bytesRow (bs t) C) 5 m)) : Rd W 1 (some ⟨b, 0, none⟩) t.length (Lib.byteCells t) := by
  refine ⟨by simp [Lib.byteCells], fun _ => ⟨_, rfl, (Array.getElem?_eq_some_iff.1 h).1, fun q u hu => ?_⟩⟩
  have hq : q < t.length := by have := (List.getElem?_eq_some_iff.1 hu).1; simpa [Lib.byteCells] using this
  rw [add_flat, Nat.zero_add]
  have hr := bytesRow_at (bs t) C q (by simpa using hq)
  have hc : W.cell? ⟨b, q, none⟩ = (bytesRow (bs t) C)[q]? := by simp [World.cell?, h]
  rw [hc, hr, ← hu]
  unfold Lib.byteCells
  rw [List.getElem?_map, List.getElem?_eq_getElem hq]
  rfl
set_option maxRecDepth 100000 in
set_option maxHeartbeats 4000000 in
theorem encode_any (s : S4) (t : Tp.Bs) (w : World) (hn : t.length ≤ 1000000) :
    Calls Tryd.prog 70 #[.string (bs t), .agg #[.int .u64 s.a0, .int .u64 s.a1, .int .u64 s.a2, .int .u64 s.a3]] w fun e w' => e = .returned (.string (bs (encS s t))) ∧ Below w.heap.size w w' := by
  have hcv := fun W => run_bytes_of_string (P := Tryd.prog) W 9 97 5 (bs t) Tryd.underlying9 Tryd.underlying97 Tryd.underlying5
  have hput := fun W g C h1 h2 h3 h4 => put_enc g s (some ⟨w.heap.size + 2, 0, none⟩) C t W h1 h2 hn h3 h4
  obtain ⟨E, hE⟩ : ∃ E, encS s t = E := ⟨_, rfl⟩
  rw [hE] at hput ⊢
  clear hE
  have hsz : (bs t).size = t.length := size_bs t
  go_enter Tryd.func70, Tryd.ntmps70
  go_wp2_with fail
  obtain ⟨C, hC⟩ : ∃ C, grownCap ((w.alloc (.cells #[.int .u64 s.a0, .int .u64 s.a1, .int .u64 s.a2, .int .u64 s.a3] 69)).alloc (.cells #[.pointer none, .slice none 0 0] 125)) t.length 0 5 = C := ⟨_, rfl⟩
  rw [hC]
  clear hC hcv
  obtain ⟨W3, hW3⟩ : ∃ W, W = (((w.alloc (.cells #[.int .u64 s.a0, .int .u64 s.a1, .int .u64 s.a2, .int .u64 s.a3] 69)).alloc (.cells #[.pointer none, .slice none 0 0] 125)).alloc (.cells (bytesRow (bs t) C) 5 ((bytesRow (bs t) C).size, (bytesRow (bs t) C).size + 1))).drew := ⟨_, rfl⟩
  have hrow : W3.heap[w.heap.size + 2]? = some (.cells (bytesRow (bs t) C) 5 ((bytesRow (bs t) C).size, (bytesRow (bs t) C).size + 1)) := by
    rw [hW3]
    have h := World.alloc_heap_new ((w.alloc (.cells #[.int .u64 s.a0, .int .u64 s.a1, .int .u64 s.a2, .int .u64 s.a3] 69)).alloc (.cells #[.pointer none, .slice none 0 0] 125)) (.cells (bytesRow (bs t) C) 5 ((bytesRow (bs t) C).size, (bytesRow (bs t) C).size + 1))
    rw [show ((w.alloc (.cells #[.int .u64 s.a0, .int .u64 s.a1, .int .u64 s.a2, .int .u64 s.a3] 69)).alloc (.cells #[.pointer none, .slice none 0 0] 125)).heap.size = w.heap.size + 2 from by simp] at h
    exact h
  have hbld : W3.heap[w.heap.size + 1]? = some (.cells [.pointer none, .slice none 0 0].toArray 125 (0, 0)) := by
    rw [hW3]
    exact (Below.heap_alloc ((w.alloc (.cells #[.int .u64 s.a0, .int .u64 s.a1, .int .u64 s.a2, .int .u64 s.a3] 69)).alloc (.cells #[.pointer none, .slice none 0 0] 125)) _ _ (by simp)).trans (alloc_two w _ _)
  have hb3 : Below w.heap.size w W3 := by rw [hW3]; exact ((((Below.refl _ w).alloc (Nat.le_refl _) _).alloc (by simp) _).alloc (by simp; omega) _).drew
  first
  | rw [← hW3]
  | (change Calls _ _ _ ((((w.alloc (.cells #[.int .u64 s.a0, .int .u64 s.a1, .int .u64 s.a2, .int .u64 s.a3] 69)).alloc (.cells #[.pointer none, .slice none 0 0] 125)).alloc (.cells (bytesRow (bs t) C) 5 ((bytesRow (bs t) C).size, (bytesRow (bs t) C).size + 1))).drew) _; rw [← hW3])
  clear hW3
  refine (hput W3 (w.heap.size + 1) C (lt_of_cells hbld) hbld (row_bytes _ _ _ _ _ hrow) (fun ad h => by cases h; show w.heap.size + 2 ≠ w.heap.size + 1; omega)).mono ?_
  rintro e w4 ⟨rfl, hB4, h4⟩
  have HB4 := Lib.hid hB4
  have HBL := Lib.hid (hb3.trans (h4.mono (by omega)))
  clear hB4 h4 hb3 hrow hbld hput
  go_wp2_with fail
  refine (string_any _ _ _ _ _ _ HB4.out).mono ?_
  rintro e w5 ⟨rfl, h5⟩
  go_wp2_with fail
  go_ret
  exact ⟨rfl, HBL.out.trans (h5.mono (by omega))⟩
theorem through_enc (s : S4) (b : Nat) (t : Tp.Bs) (w : World) (hn : t.length ≤ 1000000) (h : w.heap[b]? = some (.cells [.int .u64 s.a0, .int .u64 s.a1, .int .u64 s.a2, .int .u64 s.a3].toArray 69 (0, 0))) : Calls Tryd.prog 69 #[.string (bs t), .pointer (some ⟨b, 0, none⟩)] w fun e w' => e = .returned (.string (bs (encS s t))) ∧ Below w.heap.size w w' := by
  have he := fun W => encode_any s t W hn
  obtain ⟨E, hE⟩ : ∃ E, encS s t = E := ⟨_, rfl⟩
  rw [hE] at he ⊢
  clear hE
  have d0 := cell_list (cs := [.int .u64 s.a0, .int .u64 s.a1, .int .u64 s.a2, .int .u64 s.a3]) h 0
  have d1 := cell_list (cs := [.int .u64 s.a0, .int .u64 s.a1, .int .u64 s.a2, .int .u64 s.a3]) h 1
  have d2 := cell_list (cs := [.int .u64 s.a0, .int .u64 s.a1, .int .u64 s.a2, .int .u64 s.a3]) h 2
  have d3 := cell_list (cs := [.int .u64 s.a0, .int .u64 s.a1, .int .u64 s.a2, .int .u64 s.a3]) h 3
  simp only [List.getElem?_cons_zero, List.getElem?_cons_succ] at d0 d1 d2 d3
  go_enter Tryd.func69, Tryd.ntmps69
  go_wp2_with fail
  refine (he _).mono ?_
  rintro e w2 ⟨rfl, h2⟩
  go_wp2_with fail
  go_ret
  exact ⟨rfl, h2⟩
end Go.Proofs.YtllklgalghmnfaaDoor
namespace Go.Proofs.YtllklgalghmnfaaDoor
open Go.RowKit Str Mem Tp
set_option linter.unusedVariables false
set_option linter.unusedSimpArgs false
set_option maxRecDepth 100000 in
set_option maxHeartbeats 4000000 in
theorem expand_loop_enc (box : Nat) (most : Int) (a b e : Option Addr) (ca c d : Nat) (f : Tp.Bs → Tp.Bs) (L : List Part) (R C : List Tp.Bs) (x1 x2 x3 x4 : Tp.Bs) (w : World) (hP : Parts w a L.length L) (hn : L.length ≤ 100000) (hc : L.length ≤ ca) (hcm : ca ≤ maxLen) (ht : ∀ p ∈ L, p.t.length ≤ 100000) (hN : Nm w)
    (hR : Strs w b R.length R) (hC : Strs w e C.length C)
    (hth : ∀ s W, Below w.heap.size w W → s.length ≤ 1000000 → Calls Tryd.prog 69 #[.string (bs s), .pointer (some ⟨box, 0, none⟩)] W fun e w' => e = .returned (.string (bs (f s))) ∧ Below W.heap.size W w')
    (hvb : ∀ p ∈ L, (valueR R C x1 x2 x3 x4 p).length ≤ 1000000)
    (hfb : ∀ p ∈ L, (f (valueR R C x1 x2 x3 x4 p)).length ≤ 1000000)
    (hE : checkR L = 0) (hs1 : ¬ 10 < R.length) (hs2 : ¬ 10 < C.length) (hs3 : ¬ most < 0) (hs4 : ¬ 1024 < most) :
    Calls Tryd.prog 64 #[.slice a L.length ca, valsV b R.length c e C.length d x1 x2 x3 x4, .int .i64 most, .func (.func 69) #[] #[.pointer (some ⟨box, 0, none⟩)]] w fun e w' => e = .returned (.tuple #[.string (bs (expandR f R C x1 x2 x3 x4 most L).1), .int .i64 (expandR f R C x1 x2 x3 x4 most L).2]) ∧ Below w.heap.size w w' := by
  have hb := (Below.refl _ w).alloc (Nat.le_refl _) (.cells #[.slice b R.length c, .slice e C.length d, .string (bs x1), .string (bs x2), .string (bs x3), .string (bs x4)] 53)
  have hrow := World.alloc_heap_new w (.cells #[.slice b R.length c, .slice e C.length d, .string (bs x1), .string (bs x2), .string (bs x3), .string (bs x4)] 53)
  have hP2 : Parts _ a L.length L := Rd.below hP hb
  have hN2 := hN.below hb hN.lt
  have hck := fun W h1 h2 => check_any a ca L W h1 hn hc hcm ht h2
  have HFIT := Lib.hid (checkR_fit L hE ht)
  have hex : expandR f R C x1 x2 x3 x4 most L = match expTo f R C x1 x2 x3 x4 most L [] with
    | some t => (t, 0)
    | none => ([], 4) := by unfold expandR; (rw [if_neg (by omega), if_neg (by omega)]) <;> rfl
  rw [hE] at hck
  obtain ⟨O, hO⟩ : ∃ O, expandR f R C x1 x2 x3 x4 most L = O := ⟨_, rfl⟩
  rw [hO] at hex ⊢
  have HEX := Lib.hid hex
  have HP := Lib.hid hP2
  have HN := Lib.hid hN2
  have HB := Lib.hid hb
  have HR := Lib.hid hR
  have HC := Lib.hid hC
  have HT := Lib.hid ht
  have HFB := Lib.hid hfb
  have HVB := Lib.hid hvb
  clear hP2 hN2 hP hN hb ht hE hO hex hR hC hfb hvb
  have t1 : ¬ (10 : Int) < (R.length : Int) := by omega
  have t2 : ¬ (10 : Int) < (C.length : Int) := by omega
  have hv0 : valsV b R.length c e C.length d x1 x2 x3 x4 = .agg #[.slice b R.length c, .slice e C.length d, .string (bs x1), .string (bs x2), .string (bs x3), .string (bs x4)] := rfl
  rw [hv0]
  have HV0 := Lib.hid hv0
  clear hv0
  go_enter Tryd.func64, Tryd.ntmps64
  go_wp2_with fail
  refine (hck _ HP.out HN.out).mono ?_
  rintro e2 w2 ⟨rfl, h2⟩
  have hb2 := HB.out.trans (h2.mono HB.out.size)
  have hrow2 := (h2.block _ (by simp)).trans hrow
  have c0 := cell_list (cs := [.slice b R.length c, .slice e C.length d, .string (bs x1), .string (bs x2), .string (bs x3), .string (bs x4)]) hrow2 0
  have c1 := cell_list (cs := [.slice b R.length c, .slice e C.length d, .string (bs x1), .string (bs x2), .string (bs x3), .string (bs x4)]) hrow2 1
  simp only [List.getElem?_cons_zero, List.getElem?_cons_succ] at c0 c1
  have HP3 := Lib.hid (show Parts w2 a L.length L from Rd.below HP.out h2)
  have hlt2 : w.heap.size < w2.heap.size := lt_of_cells hrow2
  clear hck
  go_wp2_with fail
  go_loopg [11, 39] L.length (fun g s i wr => ∃ (k : Nat) (out : Tp.Bs), i = .int .i64 k ∧ k + g = L.length ∧ s = .string (bs out) ∧ out.length ≤ 1024 ∧ expTo f R C x1 x2 x3 x4 most L [] = expTo f R C x1 x2 x3 x4 most (L.drop k) out ∧ Below w2.heap.size w2 wr)
  case atStart => exact ⟨0, [], rfl, by omega, rfl, by simp, rfl, Below.refl _ _⟩
  case round =>
    obtain ⟨k, out, rfl, hk, rfl, hol, hexp, hbl⟩ := hrel
    have HEXP := Lib.hid hexp
    clear hexp
    by_cases hlt : k < L.length
    · obtain ⟨g', rfl⟩ : ∃ g', gk = g' + 1 := ⟨gk - 1, by omega⟩
      obtain ⟨x, hx⟩ : ∃ x, L[k]? = some x := ⟨_, List.getElem?_eq_getElem hlt⟩
      have hPr : Parts wr a L.length L := Rd.below HP3.out hbl
      obtain ⟨ad, rfl, had, g0, g1, g2⟩ := Parts.get (L := L) hPr k x hx
      have hli := fun W => literal_any x W
      unfold pv at hli
      have hrowr := World.alloc_heap_new wr (.cells #[.int .i64 x.k, .string (bs x.t), .int .i64 x.n] 59)
      have hba := (Below.refl wr.heap.size wr).alloc (Nat.le_refl _) (.cells #[.int .i64 x.k, .string (bs x.t), .int .i64 x.n] 59)
      have HX := Lib.hid hx
      have i0 : (0 : Int) ≤ (k : Int) := by omega
      have i1 : (k : Int) < (L.length : Int) := by omega
      clear hx hPr
      go_wp2_with fail
      refine (hli _).mono ?_
      rintro e3 w3 ⟨rfl, h3⟩
      have hb3 := hba.trans (h3.mono (by simp))
      have hrow3 := (h3.block _ (by simp)).trans hrowr
      have p0 := cell_list (cs := [.int .i64 x.k, .string (bs x.t), .int .i64 x.n]) hrow3 0
      have p1 := cell_list (cs := [.int .i64 x.k, .string (bs x.t), .int .i64 x.n]) hrow3 1
      have p2 := cell_list (cs := [.int .i64 x.k, .string (bs x.t), .int .i64 x.n]) hrow3 2
      have hbw3 := hbl.trans (hb3.mono hbl.size)
      have hvw := (hbw3.block _ hlt2).trans hrow2
      have q0 := cell_list (cs := [.slice b R.length c, .slice e C.length d, .string (bs x1), .string (bs x2), .string (bs x3), .string (bs x4)]) hvw 0
      have q1 := cell_list (cs := [.slice b R.length c, .slice e C.length d, .string (bs x1), .string (bs x2), .string (bs x3), .string (bs x4)]) hvw 1
      have q2 := cell_list (cs := [.slice b R.length c, .slice e C.length d, .string (bs x1), .string (bs x2), .string (bs x3), .string (bs x4)]) hvw 2
      have q3 := cell_list (cs := [.slice b R.length c, .slice e C.length d, .string (bs x1), .string (bs x2), .string (bs x3), .string (bs x4)]) hvw 3
      have q4 := cell_list (cs := [.slice b R.length c, .slice e C.length d, .string (bs x1), .string (bs x2), .string (bs x3), .string (bs x4)]) hvw 4
      have q5 := cell_list (cs := [.slice b R.length c, .slice e C.length d, .string (bs x1), .string (bs x2), .string (bs x3), .string (bs x4)]) hvw 5
      simp only [List.getElem?_cons_zero, List.getElem?_cons_succ] at p0 p1 p2 q0 q1 q2 q3 q4 q5
      have hxm : x ∈ L := List.mem_of_getElem? HX.out
      have hxt := HT.out x hxm
      have hnx := Lib.hid (expTo_next f R C x1 x2 x3 x4 most L k x HX.out out)
      rcases hlit : (x.k == 1) with _ | _
      · have hk1 : x.k ≠ 1 := by simpa using hlit
        have HPC : Hid (pieceR f R C x1 x2 x3 x4 x = f (valueR R C x1 x2 x3 x4 x)) := Lib.hid (by unfold pieceR; rw [if_neg hk1])
        have hfl := HFB.out x hxm
        have hva := fun W h1 h2 => value_any x (HFIT.out x hxm).1 hk1 R C b e c d x1 x2 x3 x4 W h1 h2 (by omega) (by omega)
        unfold pv at hva
        rw [HV0.out] at hva
        have hth2 := fun W hW => hth (valueR R C x1 x2 x3 x4 x) W hW (HVB.out x hxm)
        obtain ⟨Z, hZ⟩ : ∃ Z, f (valueR R C x1 x2 x3 x4 x) = Z := ⟨_, rfl⟩
        rw [hZ] at HPC hth2 hfl
        obtain ⟨Y, hY⟩ : ∃ Y, valueR R C x1 x2 x3 x4 x = Y := ⟨_, rfl⟩
        rw [hY] at hva hth2
        clear hZ hY hlit hth
        have hbb3 := HB.out.trans ((h2.trans (hbw3.mono h2.size)).mono HB.out.size)
        have HR3 : Hid (Strs w3 b R.length R) := Lib.hid (Rd.keep HR.out (by have := hbw3.size; omega) (fun _ _ _ h => (hb2.trans (hbw3.mono (by omega))).block _ h))
        have HC3 : Hid (Strs w3 e C.length C) := Lib.hid (Rd.keep HC.out (by have := hbw3.size; omega) (fun _ _ _ h => (hb2.trans (hbw3.mono (by omega))).block _ h))
        go_wp2_with fail
        refine (hva _ HR3.out HC3.out).mono ?_
        rintro e5 w5 ⟨rfl, h5⟩
        go_wp2_with fail
        refine (hth2 _ (hbb3.trans (h5.mono hbb3.size))).mono ?_
        rintro e6 w6 ⟨rfl, h6⟩
        have hb6 := hb3.trans ((h5.trans (h6.mono h5.size)).mono hb3.size)
        clear hva hth2
        go_wp2_with fail
        refine (join2_any _ out Z _ (by first | exact World.alloc_heap_new w6 _ | exact heap_alloc_new w6 _) (by omega) (by omega)).mono ?_
        rintro e4 w9 ⟨rfl, h9⟩
        have hb9 := hb6.trans ((((Below.refl _ w6).alloc (Nat.le_refl _) _).trans (h9.mono (by simp))).mono hb6.size)
        have hsz : ((bs (out ++ Z)).size : Int) = ((out ++ Z).length : Int) := by rw [size_bs]
        obtain ⟨B, hB⟩ : ∃ B, bs (out ++ Z) = B := ⟨_, rfl⟩
        rw [hB] at hsz ⊢
        have HSZ := Lib.hid hsz
        have HBB := Lib.hid hB
        clear hB hsz
        by_cases hm : most < (B.size : Int)
        · go_wp2_with fail
          have ho := HEX.out
          rw [HEXP.out, hnx.out, HPC.out, if_pos (by have := HSZ.out; omega)] at ho
          refine bodyPost_ret (v := .tuple #[.string ⟨#[]⟩, .int .i64 4]) (by simp [results, Tryd.results64, go_sem]) rfl ⟨by (rw [ho]; try rfl), hb2.trans ((hbl.trans (hb9.mono hbl.size)).mono (by omega))⟩
        · go_wp2_with fail
          go_roundg g'
          case measure => omega
          case rel => exact ⟨k + 1, out ++ Z, by go_num, by omega, by rw [HBB.out], by have := HSZ.out; omega, by rw [HEXP.out, hnx.out, HPC.out, if_neg (by have := HSZ.out; omega)], hbl.trans (hb9.mono hbl.size)⟩
      · have HPC : Hid (pieceR f R C x1 x2 x3 x4 x = x.t) := Lib.hid (by unfold pieceR; rw [if_pos (by simpa using hlit)])
        clear hlit
        go_wp2_with fail
        refine (join2_any _ out x.t _ (by first | exact World.alloc_heap_new w3 _ | exact heap_alloc_new w3 _) (by omega) (by omega)).mono ?_
        rintro e4 w9 ⟨rfl, h9⟩
        have hb9 := hb3.trans ((((Below.refl _ w3).alloc (Nat.le_refl _) _).trans (h9.mono (by simp))).mono hb3.size)
        have hsz : ((bs (out ++ x.t)).size : Int) = ((out ++ x.t).length : Int) := by rw [size_bs]
        obtain ⟨B, hB⟩ : ∃ B, bs (out ++ x.t) = B := ⟨_, rfl⟩
        rw [hB] at hsz ⊢
        have HSZ := Lib.hid hsz
        have HBB := Lib.hid hB
        clear hB hsz
        by_cases hm : most < (B.size : Int)
        · go_wp2_with fail
          have ho := HEX.out
          rw [HEXP.out, hnx.out, HPC.out, if_pos (by have := HSZ.out; omega)] at ho
          refine bodyPost_ret (v := .tuple #[.string ⟨#[]⟩, .int .i64 4]) (by simp [results, Tryd.results64, go_sem]) rfl ⟨by (rw [ho]; try rfl), hb2.trans ((hbl.trans (hb9.mono hbl.size)).mono (by omega))⟩
        · go_wp2_with fail
          go_roundg g'
          case measure => omega
          case rel => exact ⟨k + 1, out ++ x.t, by go_num, by omega, by rw [HBB.out], by have := HSZ.out; omega, by rw [HEXP.out, hnx.out, HPC.out, if_neg (by have := HSZ.out; omega)], hbl.trans (hb9.mono hbl.size)⟩
    · obtain rfl : k = L.length := by omega
      go_wp2_with fail
      have hx := HEXP.out
      rw [List.drop_length, expTo] at hx
      have ho := HEX.out
      rw [hx] at ho
      refine bodyPost_ret (v := .tuple #[.string (bs out), .int .i64 0]) (by simp [results, Tryd.results64, go_sem]) rfl ⟨by (rw [ho]; try rfl), hb2.trans (hbl.mono (by omega))⟩
end Go.Proofs.YtllklgalghmnfaaDoor
namespace Go.Proofs.YtllklgalghmnfaaDoor
open Go.RowKit Str Mem Tp
set_option linter.unusedVariables false
set_option linter.unusedSimpArgs false
def stayE : S4 := unionS [stayP]
theorem expand_enc (box : Nat) (most : Int) (a b e : Option Addr) (ca c d : Nat) (L : List Part) (R C : List Tp.Bs) (x1 x2 x3 x4 : Tp.Bs) (w : World) (hP : Parts w a L.length L) (hn : L.length ≤ 100000) (hc : L.length ≤ ca) (hcm : ca ≤ maxLen) (ht : ∀ p ∈ L, p.t.length ≤ 100000) (hN : Nm w)
    (hR : Strs w b R.length R) (hC : Strs w e C.length C)
    (hset : w.heap[box]? = some (.cells [.int .u64 stayE.a0, .int .u64 stayE.a1, .int .u64 stayE.a2, .int .u64 stayE.a3].toArray 69 (0, 0)))
    (hfb : ∀ p ∈ L, (valueR R C x1 x2 x3 x4 p).length ≤ 300000) :
    Calls Tryd.prog 64 #[.slice a L.length ca, valsV b R.length c e C.length d x1 x2 x3 x4, .int .i64 most, .func (.func 69) #[] #[.pointer (some ⟨box, 0, none⟩)]] w fun e w' => e = .returned (.tuple #[.string (bs (expandR (encS stayE) R C x1 x2 x3 x4 most L).1), .int .i64 (expandR (encS stayE) R C x1 x2 x3 x4 most L).2]) ∧ Below w.heap.size w w' := by
  by_cases hE : checkR L = 0
  · by_cases hs : 10 < R.length ∨ 10 < C.length ∨ most < 0 ∨ 1024 < most
    · exact expand_two _ _ most a b e ca c d (encS stayE) L R C x1 x2 x3 x4 w hP hn hc hcm ht hN hE hs
    · refine expand_loop_enc box most a b e ca c d (encS stayE) L R C x1 x2 x3 x4 w hP hn hc hcm ht hN hR hC (fun s W hW hs => through_enc stayE box s W hs ((hW.block _ (lt_of_cells hset)).trans hset)) (fun p hp => by have := hfb p hp; omega) (fun p hp => ?_) hE (by omega) (by omega) (by omega) (by omega)
      have h1 := hfb p hp
      have h2 := encS_len stayE (valueR R C x1 x2 x3 x4 p)
      omega
  · exact expand_err _ _ most a b e ca c d (encS stayE) L R C x1 x2 x3 x4 w hP hn hc hcm ht hN hE

set_option maxRecDepth 100000 in
set_option maxHeartbeats 4000000 in
theorem Encoded_any (most : Int) (a b e : Option Addr) (ca c d : Nat) (L : List Part) (R C : List Tp.Bs) (x1 x2 x3 x4 : Tp.Bs) (w : World) (hP : Parts w a L.length L) (hn : L.length ≤ 100000) (hc : L.length ≤ ca) (hcm : ca ≤ maxLen) (ht : ∀ p ∈ L, p.t.length ≤ 100000) (hN : Nm w)
    (hR : Strs w b R.length R) (hC : Strs w e C.length C)
    (hfb : ∀ p ∈ L, (valueR R C x1 x2 x3 x4 p).length ≤ 300000) :
    Calls Tryd.prog 34 #[.slice a L.length ca, valsV b R.length c e C.length d x1 x2 x3 x4, .int .i64 most] w fun e w' => e = .returned (.tuple #[.string (bs (expandR (encS stayE) R C x1 x2 x3 x4 most L).1), .int .i64 (expandR (encS stayE) R C x1 x2 x3 x4 most L).2]) ∧ Below w.heap.size w w' := by
  have hb := (Below.refl _ w).alloc (Nat.le_refl _) (.cells #[.slice b R.length c, .slice e C.length d, .string (bs x1), .string (bs x2), .string (bs x3), .string (bs x4)] 53)
  have hrow := World.alloc_heap_new w (.cells #[.slice b R.length c, .slice e C.length d, .string (bs x1), .string (bs x2), .string (bs x3), .string (bs x4)] 53)
  have hx := fun (W : World) (box : Nat) (hW : Below w.heap.size w W) h => expand_enc box most a b e ca c d L R C x1 x2 x3 x4 W (show Parts _ a L.length L from Rd.below hP hW) hn hc hcm ht (hN.below hW hN.lt) (show Strs _ b R.length R from Rd.below hR hW) (show Strs _ e C.length C from Rd.below hC hW) h hfb
  obtain ⟨O, hO⟩ : ∃ O, expandR (encS stayE) R C x1 x2 x3 x4 most L = O := ⟨_, rfl⟩
  have hst := fun W => Stay_any W
  have hun : ∀ (W : World) (N : Nat), W.heap[N]? = some (.cells #[.int .u64 stayP.a0, .int .u64 stayP.a1, .int .u64 stayP.a2, .int .u64 stayP.a3] 69 (0, 0)) → Calls Tryd.prog 67 #[.slice (some ⟨N, 0, none⟩) 1 1] W fun e w' => e = .returned (.agg #[.int .u64 stayE.a0, .int .u64 stayE.a1, .int .u64 stayE.a2, .int .u64 stayE.a3]) ∧ Below W.heap.size W w' := fun W N h => by
    refine union_any (some ⟨N, 0, none⟩) 1 [stayP] W ⟨rfl, fun _ => ⟨_, rfl, (Array.getElem?_eq_some_iff.1 h).1, fun q u hu => ?_⟩⟩ (by simp)
    rw [add_flat, Nat.zero_add, cell_list (cs := [.int .u64 stayP.a0, .int .u64 stayP.a1, .int .u64 stayP.a2, .int .u64 stayP.a3]) h q]
    exact hu
  rw [hO] at hx ⊢
  obtain ⟨s, hs⟩ : ∃ s, stayP = s := ⟨_, rfl⟩
  obtain ⟨t, ht2⟩ : ∃ t, stayE = t := ⟨_, rfl⟩
  rw [hs] at hst hun
  rw [ht2] at hun hx
  have HX := Lib.hid hx
  have HB := Lib.hid hb
  have HROW := Lib.hid hrow
  have HUN := Lib.hid hun
  clear hx hb hP hR hC hN ht hfb hO hrow hs ht2 hun
  have hv0 : valsV b R.length c e C.length d x1 x2 x3 x4 = .agg #[.slice b R.length c, .slice e C.length d, .string (bs x1), .string (bs x2), .string (bs x3), .string (bs x4)] := rfl
  rw [hv0] at HX ⊢
  clear hv0
  go_enter Tryd.func34, Tryd.ntmps34
  go_wp2_with fail
  refine (hst _).mono ?_
  rintro e2 w2 ⟨rfl, h2⟩
  have hb2 := HB.out.trans (h2.mono HB.out.size)
  have hr2 := (h2.block _ (by simp)).trans HROW.out
  have HB2 := Lib.hid hb2
  have HR2 := Lib.hid hr2
  clear hb2 hr2 h2 HROW HB
  go_wp2_with fail
  refine (HUN.out _ _ ?_).mono ?_
  · exact World.alloc_heap_new w2 _
  rintro e3 w3 ⟨rfl, h3⟩
  have hb3 := (HB2.out.alloc HB2.out.size _).trans (h3.mono ((HB2.out.alloc HB2.out.size _).size))
  have hr3 := (h3.block w.heap.size (by simp; have := lt_of_cells HR2.out; omega)).trans ((Below.heap_alloc w2 _ w.heap.size (lt_of_cells HR2.out)).trans HR2.out)
  have hlt3 := lt_of_cells hr3
  have hr4 := (Below.heap_alloc w3 (.cells #[.int .u64 t.a0, .int .u64 t.a1, .int .u64 t.a2, .int .u64 t.a3] 69) w.heap.size hlt3).trans hr3
  have hb4 := hb3.alloc hb3.size (.cells #[.int .u64 t.a0, .int .u64 t.a1, .int .u64 t.a2, .int .u64 t.a3] 69)
  have hs4 := World.alloc_heap_new w3 (.cells #[.int .u64 t.a0, .int .u64 t.a1, .int .u64 t.a2, .int .u64 t.a3] 69)
  have HS4 := Lib.hid hs4
  have c0 := cell_list (cs := [.slice b R.length c, .slice e C.length d, .string (bs x1), .string (bs x2), .string (bs x3), .string (bs x4)]) hr3 0
  have c1 := cell_list (cs := [.slice b R.length c, .slice e C.length d, .string (bs x1), .string (bs x2), .string (bs x3), .string (bs x4)]) hr3 1
  have c2 := cell_list (cs := [.slice b R.length c, .slice e C.length d, .string (bs x1), .string (bs x2), .string (bs x3), .string (bs x4)]) hr3 2
  have c3 := cell_list (cs := [.slice b R.length c, .slice e C.length d, .string (bs x1), .string (bs x2), .string (bs x3), .string (bs x4)]) hr3 3
  have c4 := cell_list (cs := [.slice b R.length c, .slice e C.length d, .string (bs x1), .string (bs x2), .string (bs x3), .string (bs x4)]) hr3 4
  have c5 := cell_list (cs := [.slice b R.length c, .slice e C.length d, .string (bs x1), .string (bs x2), .string (bs x3), .string (bs x4)]) hr3 5
  simp only [List.getElem?_cons_zero, List.getElem?_cons_succ] at c0 c1 c2 c3 c4 c5
  have HB4 := Lib.hid hb4
  clear hb4 hr4 hr3 hs4 hb3 h3 HB2 HR2
  go_wp2_with fail
  refine (HX.out _ _ HB4.out HS4.out).mono ?_
  rintro e5 w5 ⟨rfl, h5⟩
  go_wp2_with fail
  refine bodyPost_ret (v := .tuple #[.string (bs O.1), .int .i64 O.2]) (by simp [results, Tryd.results34, go_sem]) rfl ⟨rfl, HB4.out.trans (h5.mono HB4.out.size)⟩
end Go.Proofs.YtllklgalghmnfaaDoor
