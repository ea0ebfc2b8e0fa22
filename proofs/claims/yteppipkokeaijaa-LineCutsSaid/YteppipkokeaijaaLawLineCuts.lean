/- The law LineCuts, walked. -/
import Derived.Test.YteppipkokeaijaaLawLineBack
import Derived.Test.YteppipkokeaijaaReg3
namespace Go.Proofs.Yteppipkokeaijaa
open Go.RowKit Str Mem
set_option linter.unusedVariables false
set_option linter.unusedSimpArgs false

/-- The law's memory between two rounds: three splitters, the lines of the whole, the lines so far. -/
structure CM (w W : World) (n7 n9 n11 : Nat) (m : Int) (F : (List UInt8 × Bool) × List (List UInt8 × Bool)) (T : List UInt8) (g : Bool) (v : Value) (L : List (List UInt8 × Bool)) (al : Option Addr) : Prop where
  r7 : R3 W n7 (.int .i64 m) (.string (bs [])) (.bool false)
  r9 : R3 W n9 (.int .i64 m) (.string (bs F.1.1)) (.bool F.1.2)
  r11 : R3 W n11 (.int .i64 m) (.string (bs T)) (.bool g)
  hl : Lines W al F.2.length F.2
  ha : 0 < F.2.length → ∀ ad : Addr, al = some ad → ad.block < n9
  ow : OwnLines W (n11 + 1) v L
  bl : Below w.heap.size w W
  o1 : w.heap.size ≤ n7
  o2 : n7 < n9
  o3 : n9 < n11
section
variable {w W W' : World} {n7 n9 n11 : Nat} {m : Int} {F : (List UInt8 × Bool) × List (List UInt8 × Bool)} {T : List UInt8} {g : Bool} {v : Value} {L : List (List UInt8 × Bool)} {al : Option Addr}
theorem CM.below (h : CM w W n7 n9 n11 m F T g v L al) (hb : Below W.heap.size W W') : CM w W' n7 n9 n11 m F T g v L al :=
  ⟨h.r7.below hb, h.r9.below hb, h.r11.below hb, Rd.below h.hl hb, h.ha, Owns.below h.ow hb (Nat.le_refl _), h.bl.trans (hb.mono h.bl.size), h.o1, h.o2, h.o3⟩
theorem CM.alloc (h : CM w W n7 n9 n11 m F T g v L al) (o : Obj) : CM w (W.alloc o) n7 n9 n11 m F T g v L al := h.below ((Below.refl _ W).alloc (Nat.le_refl _) o)
theorem CM.drew (h : CM w W n7 n9 n11 m F T g v L al) : CM w W.drew n7 n9 n11 m F T g v L al := ⟨h.r7, h.r9, h.r11, Rd.drew h.hl, h.ha, h.ow, h.bl.drew, h.o1, h.o2, h.o3⟩
theorem CM.drewN (h : CM w W n7 n9 n11 m F T g v L al) (k : Nat) : CM w (W.drewN k) n7 n9 n11 m F T g v L al := ⟨h.r7, h.r9, h.r11, Rd.drewN h.hl k, h.ha, h.ow, below_drewN h.bl k, h.o1, h.o2, h.o3⟩
theorem CM.set (h : CM w W n7 n9 n11 m F T g v L al) (U : List UInt8) (g' : Bool) : CM w (set3 W n11 (.int .i64 m) (.string (bs U)) (.bool g')) n7 n9 n11 m F U g' v L al :=
  ⟨h.r7.other (by have := h.o2; have := h.o3; omega) _ _ _, h.r9.other (by have := h.o3; omega) _ _ _, h.r11.set _ _ _, Rd.keep h.hl (by rw [set3_size]; exact Nat.le_refl _) (fun ad e h0 _ => set3_other (by have := h.ha h0 ad e; have := h.o3; omega) _ _ _), h.ha,
    ownsSetOld (ownsSetOld (ownsSetOld h.ow (by simp) _) (by simp) _) (by simp) _, set3_below h.bl (by have := h.o1; have := h.o2; have := h.o3; omega) _ _ _, h.o1, h.o2, h.o3⟩
theorem owns_other {W : World} {base sz n q : Nat} {e : TypeId} {v : Value} {xs : List Value} (h : Owns W base e sz v n xs) (hq : ∀ k, v.ownBlock = some k → k ≠ q) (x0 x1 x2 : Value) : Owns (set3 W q x0 x1 x2) base e sz v n xs := by
  refine ⟨h.1, ?_⟩
  rcases h.2 with hn | ⟨g, cap, cur, rfl, hb, hg, rest⟩
  · exact .inl hn
  · exact .inr ⟨g, cap, cur, rfl, hb, (set3_other (hq g (by simp [Value.ownBlock])) _ _ _).trans hg, rest⟩
theorem CM.setO {q : Nat} (h : CM w W n7 n9 n11 m F T g v L al) (hq : n11 < q) (hv : ∀ k, v.ownBlock = some k → k ≠ q) (x0 x1 x2 : Value) : CM w (set3 W q x0 x1 x2) n7 n9 n11 m F T g v L al := by
  have q1 := h.o1
  have q2 := h.o2
  have q3 := h.o3
  exact ⟨h.r7.other (by omega) _ _ _, h.r9.other (by omega) _ _ _, h.r11.other (by omega) _ _ _, Rd.keep h.hl (by rw [set3_size]; exact Nat.le_refl _) (fun ad e h0 _ => set3_other (by have := h.ha h0 ad e; omega) _ _ _), h.ha,
    owns_other h.ow hv _ _ _, set3_below h.bl (by omega) _ _ _, q1, q2, q3⟩
theorem CM.app {v' : Value} {L' : List (List UInt8 × Bool)} (h : CM w W n7 n9 n11 m F T g v L al) (ho : OwnLines W' (n11 + 1) v' L') (hg : W.grownBy W' v.ownBlock) : CM w W' n7 n9 n11 m F T g v' L' al := by
  have hk : ∀ k, v.ownBlock = some k → n11 + 1 ≤ k ∧ k < W.heap.size := h.ow.lt
  have q1 := h.o1
  have q2 := h.o2
  have q3 := h.o3
  have hk2 : ∀ j, j ≤ n11 → some j ≠ v.ownBlock := fun j hj e => by have := hk j e.symm; omega
  refine ⟨(hg.block _ h.r7.lt (hk2 _ (by omega))).trans h.r7, (hg.block _ h.r9.lt (hk2 _ (by omega))).trans h.r9, (hg.block _ h.r11.lt (hk2 _ (by omega))).trans h.r11, Rd.keep h.hl hg.size (fun ad e h0 hb => hg.block _ hb (hk2 _ (by have := h.ha h0 ad e; omega))), h.ha, ho, h.bl.grown hg h.bl.size (fun k e => by have := hk k e; omega), q1, q2, q3⟩
end
/-- Between two rounds of the first loop. -/
def CutI (w : World) (n7 n9 n11 : Nat) (n : Nat) (s : List UInt8) (F : (List UInt8 × Bool) × List (List UInt8 × Bool)) (al : Option Addr) (gk : Nat) (s12 s13 s14 : Value) (W : World) : Prop :=
  ∃ (k i : Nat) (T : List UInt8) (g : Bool) (L : List (List UInt8 × Bool)), s13 = .int .i64 k ∧ s14 = .int .i64 i ∧ i ≤ k ∧ k ≤ s.length ∧ s.length ≤ k + gk ∧ Ln.feed (1 + n) [] (s.take k) = ((T, g), L) ∧
    CM w W n7 n9 n11 (1 + (n : Int)) F T g s12 L al
/-- Between two rounds of the second loop. -/
def CutJ (w : World) (n7 n9 n11 : Nat) (n : Nat) (s : List UInt8) (F : (List UInt8 × Bool) × List (List UInt8 × Bool)) (al : Option Addr) (gk : Nat) (s12 s19 s20 : Value) (W : World) : Prop :=
  ∃ (q : Nat) (c : List UInt8) (L : List (List UInt8 × Bool)), s20 = .int .i64 q ∧ s19 = .string (bs c) ∧ c.length + q ≤ s.length ∧ c.length ≤ gk ∧ L.length + c.length ≤ s.length ∧ Ln.feed (1 + n) [] s = ((Ln.feed (1 + n) [] c).1, L ++ (Ln.feed (1 + n) [] c).2) ∧
    CM w W n7 n9 n11 (1 + (n : Int)) F [] false s12 L al
/-- What the region that feeds a piece leaves, in whatever order. -/
def CutF (w : World) (n7 n9 n11 n : Nat) (F : (List UInt8 × Bool) × List (List UInt8 × Bool)) (T C : List UInt8) (v : Value) (L : List (List UInt8 × Bool)) (al : Option Addr) (n16 : Nat) (W5 : World) (a4 : Option Addr) (c4 : Nat) : Prop :=
  R3 W5 n16 (.int .i64 (1 + (n : Int))) (.string (bs (Ln.feed (1 + n) T C).1.1)) (.bool (Ln.feed (1 + n) T C).1.2) ∧ CM w W5 n7 n9 n11 (1 + (n : Int)) F T false v L al ∧
    Lines W5 a4 (Ln.feed (1 + n) T C).2.length (Ln.feed (1 + n) T C).2 ∧ (∀ ad : Addr, a4 = some ad → n11 < ad.block) ∧ n16 ≠ n11
theorem cont_intro2 {F G : Nat → World → Option Addr → Nat → Prop} {R : Prop} (h1 : (∀ D U ca cc, F D U ca cc → G D U ca cc) → R) (h2 : ∀ D U ca cc, F D U ca cc → G D U ca cc) : R := h1 h2
theorem cut_step {m : Nat} {s T : List UInt8} {L : List (List UInt8 × Bool)} {k t : Nat} (h : Ln.feed m [] (s.take k) = ((T, false), L)) (hkt : k ≤ t) :
    Ln.feed m [] (s.take t) = ((Ln.feed m T ((s.drop k).take (t - k))).1, L ++ (Ln.feed m T ((s.drop k).take (t - k))).2) := by
  have e : s.take t = s.take k ++ (s.drop k).take (t - k) := by
    have e : t = k + (t - k) := by omega
    conv => lhs; rw [e]
    exact List.take_add
  rw [e, Ln.feed_append, h]
  rfl
theorem cut_end {m : Nat} {s T : List UInt8} {L : List (List UInt8 × Bool)} {k : Nat} {g : Bool} (h : Ln.feed m [] (s.take k) = ((T, g), L)) (hk : s.length ≤ k ∨ g = true) : Ln.feed m [] s = ((T, g), L) := by
  rcases hk with hk | rfl
  · rwa [List.take_of_length_le hk] at h
  · rw [← List.take_append_drop k s, Ln.feed_append, h]
    simp

set_option maxRecDepth 100000 in
set_option maxHeartbeats 8000000 in
theorem lawCuts_any (s : List UInt8) (limit : Int) (ac : Option Addr) (cc : Nat) (cuts : List Int) (w : World) (hs : s.length ≤ maxLen) (hI : Ints w ac cuts.length cuts) :
    Calls Try.prog 3 #[.string (bs s), .int .i64 limit, .slice ac cuts.length cc] w fun e w' => e = .returned (.bool true) ∧ Below w.heap.size w w' := by
  have hsz : (bs s).size = s.length := size_bs s
  obtain ⟨i0, hi, hz0, hz1, hz2⟩ := info_parts infoLine
  unfold maxLen at hs
  by_cases h1 : 300 < s.length
  · have k1 : (300 : Int) < ((bs s).size : Int) := by omega
    go_enter Try.func3, Try.ntmps3
    go_wp2_with fail
    refine (awake07_any _).mono ?_
    rintro e w1 ⟨rfl, g1⟩
    go_wp2_with fail
    go_ret
    exact ⟨rfl, g1⟩
  have k1 : ¬ (300 : Int) < ((bs s).size : Int) := by omega
  have hmod := fun W => kitMod_any limit 100 W (by omega) (by omega)
  have m1 := Int.emod_lt_of_pos limit (show (0 : Int) < 100 by omega)
  have m2 := Int.emod_nonneg limit (show (100 : Int) ≠ 0 by omega)
  obtain ⟨n, hn⟩ : ∃ n : Nat, limit % 100 = (n : Int) := ⟨(limit % 100).toNat, by omega⟩
  rw [hn] at hmod m1 m2
  have hnr : newR (1 + (n : Int)) = (1 + (n : Int), 0) := by unfold newR; rw [if_neg (by omega)]
  have hnw := fun W => new_any (1 + (n : Int)) W
  rw [hnr] at hnw
  have hcast : ((1 + n : Nat) : Int) = 1 + (n : Int) := by omega
  have hfd : ∀ (T c : List UInt8) (W : World), T.length ≤ 1 + n → T.contains 10 = false → c.length ≤ 300 → Calls Try.prog 12 #[.agg #[.int .i64 (1 + (n : Int)), .string (bs T), .bool false], .string (bs c)] W fun e w' =>
      FeedU ⟨1 + (n : Int), (Ln.feed (1 + n) T c).1.1, (Ln.feed (1 + n) T c).1.2, (Ln.feed (1 + n) T c).2, 0⟩ W e w' := by
    intro T c W h1 h2 h3
    have h := (feed_any ((1 + n : Nat) : Int) T c false W (by unfold maxLen; omega) (by omega)).mono (fun e w' h => feed_u h)
    have hr := refuse_nl (lim := 1 + n) (by omega) (by omega) h1 h2
    have e : feedR ((1 + n : Nat) : Int) T c false = ⟨1 + (n : Int), (Ln.feed (1 + n) T c).1.1, (Ln.feed (1 + n) T c).1.2, (Ln.feed (1 + n) T c).2, 0⟩ := by
      unfold feedR
      rw [if_pos hr, Int.toNat_natCast, hcast]
    rw [e] at h
    unfold linesV at h
    rw [hcast] at h
    exact h
  have hon : ∀ (c : List UInt8) (W : World), c.length ≤ 300 → Calls Try.prog 15 #[.agg #[.int .i64 (1 + (n : Int)), .string (bs []), .bool false], .string (bs c)] W fun e w' =>
      e = .returned (.tuple #[.agg #[.int .i64 (1 + (n : Int)), .string (bs (Ln.one (1 + n) [] c).next.1), .bool (Ln.one (1 + n) [] c).next.2], .agg #[.string (bs ((Ln.one (1 + n) [] c).line.getD ([], false)).1), .bool ((Ln.one (1 + n) [] c).line.getD ([], false)).2], .string (bs (Ln.one (1 + n) [] c).rest), .bool (Ln.one (1 + n) [] c).line.isSome, .int .i64 0]) ∧ Below W.heap.size W w' := by
    intro c W h3
    have h := one_any ((1 + n : Nat) : Int) [] c false W (by simp) (by omega)
    have hr := refuse_nl (lim := 1 + n) (U := []) (by omega) (by omega) (by simp) rfl
    unfold OneVal at h
    rw [if_pos hr, Int.toNat_natCast] at h
    unfold linesV lineV at h
    rw [hcast] at h
    exact h
  obtain ⟨F, hF⟩ : ∃ F, Ln.feed (1 + n) [] s = F := ⟨_, rfl⟩
  have hf1 := fun W => hfd [] s W (by simp) rfl (by omega)
  rw [hF] at hf1
  have HF := Lib.hid hF
  have HFD := Lib.hid hfd
  have HON := Lib.hid hon
  have hFc : F.2.length ≤ s.length := by rw [← hF]; exact Ln.feed_count _ _
  clear hF hfd hon hnr hcast hn
  obtain ⟨B, hB⟩ : ∃ B, B = bs s := ⟨_, rfl⟩
  rw [← hB] at hsz k1 hf1 ⊢
  have HB := Lib.hid hB
  have HZ := Lib.hid hsz
  have hB3 : B.size ≤ 300 := by omega
  clear hB hsz
  unfold linesV at hnw
  go_enter Try.func3, Try.ntmps3
  go_wp2_with fail
  refine (hmod _).mono ?_
  rintro e w0 ⟨rfl, rfl⟩
  go_wp2_with fail
  refine (hnw _).mono ?_
  rintro e w1 ⟨rfl, g1⟩
  have r7 := R3.new w1 (.int .i64 (1 + (n : Int))) (.string (bs [])) (.bool false)
  have b1 := g1.alloc g1.size (.cells #[.int .i64 (1 + (n : Int)), .string (bs []), .bool false] 25)
  clear hnw hmod
  go_wp2_with fail
  refine (hf1 _).mono ?_
  rintro e w2 ⟨al, cl, rfl, hl, g2, ol⟩
  have r7 := r7.below g2
  have b2 := b1.trans (g2.mono b1.size)
  have l7 := r7.lt
  have p0 := (r7.alloc (.cells #[.int .i64 (1 + (n : Int)), .string (bs F.1.1), .bool F.1.2] 25)).c0
  have p1 := (r7.alloc (.cells #[.int .i64 (1 + (n : Int)), .string (bs F.1.1), .bool F.1.2] 25)).c1
  have p2 := (r7.alloc (.cells #[.int .i64 (1 + (n : Int)), .string (bs F.1.1), .bool F.1.2] 25)).c2
  simp only [] at hl
  clear hf1
  go_wp2_with fail
  obtain ⟨W0, hW0⟩ : ∃ W0, W0 = (w2.alloc (.cells #[.int .i64 (1 + (n : Int)), .string (bs F.1.1), .bool F.1.2] 25)).alloc (.cells #[.int .i64 (1 + (n : Int)), .string (bs []), .bool false] 25) := ⟨_, rfl⟩
  obtain ⟨n7, hn7⟩ : ∃ n7, n7 = w1.heap.size := ⟨_, rfl⟩
  obtain ⟨n9, hn9⟩ : ∃ n9, n9 = w2.heap.size := ⟨_, rfl⟩
  obtain ⟨n11, hn11⟩ : ∃ n11, n11 = w2.heap.size + 1 := ⟨_, rfl⟩
  have hCM : CM w W0 n7 n9 n11 (1 + (n : Int)) F [] false (.slice none 0 0) [] al := by
    rw [hW0, hn7, hn9, hn11]
    refine ⟨(r7.alloc _).alloc _, (R3.new w2 _ _ _).alloc _, ?_, Rd.alloc (Rd.alloc hl _) _, ?_, Owns.nil _ _ _ _, (b2.alloc b2.size _).alloc (by simp; have := b2.size; omega) _, g1.size, l7, by omega⟩
    · have := R3.new (w2.alloc (.cells #[.int .i64 (1 + (n : Int)), .string (bs F.1.1), .bool F.1.2] 25)) (.int .i64 (1 + (n : Int))) (.string (bs [])) (.bool false)
      rwa [World.size_alloc] at this
    · rintro h0 ad rfl
      obtain ⟨_, e, hb, _⟩ := Rd.get hl h0
      cases e; exact hb
  rw [← hW0, ← hn7, ← hn9]
  rw [← hn9] at hn11
  rw [← hn11]
  have HC := Lib.hid hCM
  clear hCM hW0 hn7 hn9 hn11 p0 p1 p2 l7 r7 b1 b2 hl ol g1 g2
  go_loopg [12, 13, 14] s.length (fun gk s12 s13 s14 W => CutI w n7 n9 n11 n s F al gk s12 s13 s14 W)
  case atStart => exact ⟨0, 0, [], false, [], rfl, rfl, Nat.le_refl _, Nat.zero_le _, by omega, rfl, HC.out⟩
  case round =>
    obtain ⟨k, i, T, g, L, rfl, rfl, hik, hks, hkg, hfd, hm⟩ := hrel
    have HFk := Lib.hid hfd
    have HM := Lib.hid hm
    have p0 := hm.r11.c0
    have p1 := hm.r11.c1
    have p2 := hm.r11.c2
    have hTl : T.length ≤ 1 + n := by have := Ln.feed_next_le (lim := 1 + n) (s.take k) [] (by simp); rw [hfd] at this; exact this
    have hTn : T.contains 10 = false := by have := Ln.feed_next_lf (lim := 1 + n) (s.take k) [] rfl; rw [hfd] at this; exact this
    have HT := Lib.hid hTn
    have hLc : L.length ≤ k := by have := Ln.feed_count (lim := 1 + n) (s.take k) []; rw [hfd, List.length_take] at this; simp only [] at this; omega
    clear hfd hm hTn
    by_cases hgo : k < s.length ∧ g = false
    · obtain ⟨hlt, rfl⟩ := hgo
      obtain ⟨gk', rfl⟩ : ∃ g', gk = g' + 1 := ⟨gk - 1, by omega⟩
      have hIw := hI.below HM.out.bl
      have hat := fun W h => kitAt_any ac cc cuts i W h
      obtain ⟨ci, hci⟩ : ∃ ci, cuts.getD i 0 = ci := ⟨_, rfl⟩
      rw [hci] at hat
      have hm9 := fun W => kitMod_any ci 9 W (by omega) (by omega)
      have u1 := Int.emod_lt_of_pos ci (show (0 : Int) < 9 by omega)
      have u2 := Int.emod_nonneg ci (show (9 : Int) ≠ 0 by omega)
      obtain ⟨r, hr⟩ : ∃ r : Nat, ci % 9 = (r : Int) := ⟨(ci % 9).toNat, by omega⟩
      rw [hr] at hm9 u1 u2
      have hkB : k < B.size := by rw [HZ.out]; exact hlt
      have hkB2 : (k : Int) < (B.size : Int) := by omega
      clear hci hr
      go_wp2_with fail
      refine (hat _ hIw).mono ?_
      rintro e w3 ⟨rfl, rfl⟩
      go_wp2_with fail
      refine (hm9 _).mono ?_
      rintro e w3 ⟨rfl, rfl⟩
      go_wp2_with fail
      obtain ⟨t, ht⟩ : ∃ t : Nat, min (B.size : Int) ((k : Int) + 1 + (r : Int)) = (t : Int) := ⟨(min (B.size : Int) ((k : Int) + 1 + (r : Int))).toNat, by omega⟩
      rw [ht]
      have t1 : k + 1 ≤ t := by omega
      have t2 : t ≤ B.size := by omega
      have t3 : t ≤ s.length := by have := HZ.out; omega
      have q1 : (0 : Int) ≤ (k : Int) := by omega
      have q2 : (k : Int) ≤ (t : Int) := by omega
      have q3 : (t : Int) ≤ (B.size : Int) := by omega
      obtain ⟨C, hC⟩ : ∃ C, C = (s.drop k).take (t - k) := ⟨_, rfl⟩
      have hex : B.extract k t = bs C := eq_of_data (by rw [extract_data, HB.out, data_bs, data_bs, hC])
      have hCl : C.length ≤ 300 := by rw [hC, List.length_take]; omega
      have hCt : C.length ≤ t - k := by rw [hC, List.length_take]; omega
      have HCU := Lib.hid (cut_step HFk.out (show k ≤ t by omega))
      rw [← hC] at HCU
      have hfd2 := fun W => HFD.out T C W hTl HT.out hCl
      rw [← hex] at hfd2
      have l11 := HM.out.r11.lt
      have hF4 := Ln.feed_count (lim := 1 + n) C T
      clear ht hex hC
      refine cont_intro2 (F := CutF w n7 n9 n11 n F T C u12 L al) (G := ?G) (fun cont => ?br) ?pf
      case br =>
        refine wp_region_noPanic ?_
        refine wp_region_held_drew (S := fun W => W.cell? ⟨n11, 0, none⟩ = some (.int .i64 (1 + (n : Int))) ∧ W.cell? ⟨n11, 1, none⟩ = some (.string (bs T)) ∧ W.cell? ⟨n11, 2, none⟩ = some (.bool false)) (by kernel_rfl) ?_ (fun hH => ?_)
        · exact ⟨p0, p1, p2⟩
        refine Reg.take (i := 0) (u := ?z9v) rfl rfl rfl (by kernel_rfl) (by kernel_rfl) (by kernel_rfl) hH ?z9y ?z9r
        case z9y => (intro w hSw; (try dsimp only at hSw); go_simp; try (with_reducible rfl))
        case' z9r => simp only [List.setIfInBounds_toArray, List.set_cons_zero, List.set_cons_succ]
        refine Reg.take (i := 1) (u := ?z10v) rfl rfl rfl (by kernel_rfl) (by kernel_rfl) (by kernel_rfl) hH ?z10y ?z10r
        case z10y => (intro w hSw; (try dsimp only at hSw); go_simp; try (with_reducible rfl))
        case' z10r => simp only [List.setIfInBounds_toArray, List.set_cons_zero, List.set_cons_succ]
        refine Reg.take (i := 2) (u := ?z11v) rfl rfl rfl (by kernel_rfl) (by kernel_rfl) (by kernel_rfl) hH ?z11y ?z11r
        case z11y => (intro w hSw; (try dsimp only at hSw); go_simp; try (with_reducible rfl))
        case' z11r => simp only [List.setIfInBounds_toArray, List.set_cons_zero, List.set_cons_succ]
        refine Reg.take (i := 3) (u := ?z12v) rfl rfl rfl (by kernel_rfl) (by kernel_rfl) (by kernel_rfl) hH ?z12y ?z12r
        case z12y => (intro w hSw; (try dsimp only at hSw); go_simp; try (with_reducible rfl))
        case' z12r => simp only [List.setIfInBounds_toArray, List.set_cons_zero, List.set_cons_succ]
        refine Reg.take (i := 4) (u := ?z13v) rfl rfl rfl (by kernel_rfl) (by kernel_rfl) (by kernel_rfl) hH ?z13y ?z13r
        case z13y => (intro w hSw; (try dsimp only at hSw); go_simp; try (with_reducible rfl))
        case' z13r => simp only [List.setIfInBounds_toArray, List.set_cons_zero, List.set_cons_succ]
        refine Reg.either (i := 5) (j := 10) rfl rfl (Reg.wanted_free rfl) (Reg.wanted_free rfl) (by kernel_rfl) (fun K hK => ?A) (fun K hK => ?B)
        case A =>
          go_simp
          go_at_call 12
          refine (hfd2 _).mono ?_
          rintro e w4 ⟨a4, c4, rfl, hL4, h4, o4⟩
          have M4 := (HM.out.drew).below h4
          refine hK.out _ _ ?_ (fun hH2 => ?_)
          · exact ⟨M4.r11.c0, M4.r11.c1, M4.r11.c2⟩
          clear hK hH
          have hH := hH2; clear hH2
          try simp only [Act.put, List.setIfInBounds_toArray, List.set_cons_zero, List.set_cons_succ]
          refine Reg.take (i := 6) (u := ?z1v) rfl rfl rfl (by kernel_rfl) (by kernel_rfl) (by kernel_rfl) hH ?z1y ?z1r
          case z1y => (intro w hSw; (try dsimp only at hSw); go_simp; try (with_reducible rfl))
          case' z1r => simp only [List.setIfInBounds_toArray, List.set_cons_zero, List.set_cons_succ]
          refine Reg.take (i := 7) (u := ?z2v) rfl rfl rfl (by kernel_rfl) (by kernel_rfl) (by kernel_rfl) hH ?z2y ?z2r
          case z2y => (intro w hSw; (try dsimp only at hSw); go_simp; try (with_reducible rfl))
          case' z2r => simp only [List.setIfInBounds_toArray, List.set_cons_zero, List.set_cons_succ]
          refine Reg.take (i := 8) (u := ?z3v) rfl rfl rfl (by kernel_rfl) (by kernel_rfl) (by kernel_rfl) hH ?z3y ?z3r
          case z3y => (intro w hSw; (try dsimp only at hSw); go_simp; try (with_reducible rfl))
          case' z3r => simp only [List.setIfInBounds_toArray, List.set_cons_zero, List.set_cons_succ]
          refine Reg.take (i := 9) (u := ?z4v) rfl rfl rfl (by kernel_rfl) (by kernel_rfl) (by kernel_rfl) hH ?z4y ?z4r
          case z4y => (intro w hSw; (try dsimp only at hSw); go_simp; try (with_reducible rfl))
          case' z4r => simp only [List.setIfInBounds_toArray, List.set_cons_zero, List.set_cons_succ]
          refine Reg.only (i := 10) rfl (Reg.wanted_free rfl) (by kernel_rfl) (fun K hK => ?_)
          go_simp
          have M5 := M4.alloc (.cells #[.int .i64 0, .string ⟨#[]⟩, .bool false] 25)
          refine hK.out _ _ ?_ (fun hH2 => ?_)
          · exact ⟨M5.r11.c0, M5.r11.c1, M5.r11.c2⟩
          clear hK hH
          have hH := hH2; clear hH2
          try simp only [Act.put, List.setIfInBounds_toArray, List.set_cons_zero, List.set_cons_succ]
          have r4 := R3.new w4 (.int .i64 (1 + (n : Int))) (.string (bs (Ln.feed (1 + n) T C).1.1)) (.bool (Ln.feed (1 + n) T C).1.2)
          have M6 := M4.alloc (.cells #[.int .i64 (1 + (n : Int)), .string (bs (Ln.feed (1 + n) T C).1.1), .bool (Ln.feed (1 + n) T C).1.2] 25)
          have hL5 := Rd.alloc hL4 (.cells #[.int .i64 (1 + (n : Int)), .string (bs (Ln.feed (1 + n) T C).1.1), .bool (Ln.feed (1 + n) T C).1.2] 25)
          refine Reg.only (i := 11) rfl (Reg.wanted_free rfl) (by kernel_rfl) (fun K hK => ?_)
          go_simp
          refine hK.out _ _ ?_ (fun hH2 => ?_)
          · exact ⟨M6.r11.c0, M6.r11.c1, M6.r11.c2⟩
          clear hK hH
          have hH := hH2; clear hH2
          try simp only [Act.put, List.setIfInBounds_toArray, List.set_cons_zero, List.set_cons_succ]
          refine Reg.only (i := 12) rfl (Reg.wanted_free rfl) (by kernel_rfl) (fun K hK => ?_)
          go_simp
          refine hK.out _ _ ?_ (fun hH2 => ?_)
          · exact hH
          clear hK hH
          have hH := hH2; clear hH2
          try simp only [Act.put, List.setIfInBounds_toArray, List.set_cons_zero, List.set_cons_succ]
          refine Reg.only (i := 13) rfl (Reg.wanted_free rfl) (by kernel_rfl) (fun K hK => ?_)
          go_simp
          refine hK.out _ _ ?_ (fun hH2 => ?_)
          · exact hH
          clear hK hH
          have hH := hH2; clear hH2
          try simp only [Act.put, List.setIfInBounds_toArray, List.set_cons_zero, List.set_cons_succ]
          refine wpAnyH_done (by kernel_rfl) ?_ _
          refine NoPanic.normal ?_
          have l4 := M4.r11.lt
          obtain ⟨W5, hW5⟩ : ∃ W5, W5 = w4.alloc (.cells #[.int .i64 (1 + (n : Int)), .string (bs (Ln.feed (1 + n) T C).1.1), .bool (Ln.feed (1 + n) T C).1.2] 25) := ⟨_, rfl⟩
          obtain ⟨n16, hn16⟩ : ∃ n16, n16 = w4.heap.size := ⟨_, rfl⟩
          rw [← hW5] at r4 M6 hL5 ⊢
          rw [← hn16] at r4 ⊢
          exact cont n16 W5 a4 c4 ⟨r4, M6, hL5, fun ad e => by have := o4 ad e; have e2 : wr.drew.heap.size = wr.heap.size := rfl; omega, by omega⟩
        case B =>
          go_simp
          refine hK.out _ _ ?_ (fun hH2 => ?_)
          · exact ⟨(HM.out.drew.alloc (.cells #[.int .i64 0, .string ⟨#[]⟩, .bool false] 25)).r11.c0, (HM.out.drew.alloc (.cells #[.int .i64 0, .string ⟨#[]⟩, .bool false] 25)).r11.c1, (HM.out.drew.alloc (.cells #[.int .i64 0, .string ⟨#[]⟩, .bool false] 25)).r11.c2⟩
          clear hK hH
          have hH := hH2; clear hH2
          try simp only [Act.put, List.setIfInBounds_toArray, List.set_cons_zero, List.set_cons_succ]
          refine Reg.only (i := 5) rfl (Reg.wanted_free rfl) (by kernel_rfl) (fun K hK => ?_)
          go_simp
          go_at_call 12
          refine (hfd2 _).mono ?_
          rintro e w4 ⟨a4, c4, rfl, hL4, h4, o4⟩
          have M4 := (HM.out.drew.alloc (.cells #[.int .i64 0, .string ⟨#[]⟩, .bool false] 25)).below h4
          have r4 := (R3.new wr.drew (.int .i64 0) (.string ⟨#[]⟩) (.bool false)).below h4
          refine hK.out _ _ ?_ (fun hH2 => ?_)
          · exact ⟨M4.r11.c0, M4.r11.c1, M4.r11.c2⟩
          clear hK hH
          have hH := hH2; clear hH2
          try simp only [Act.put, List.setIfInBounds_toArray, List.set_cons_zero, List.set_cons_succ]
          refine Reg.take (i := 6) (u := ?z5v) rfl rfl rfl (by kernel_rfl) (by kernel_rfl) (by kernel_rfl) hH ?z5y ?z5r
          case z5y => (intro w hSw; (try dsimp only at hSw); go_simp; try (with_reducible rfl))
          case' z5r => simp only [List.setIfInBounds_toArray, List.set_cons_zero, List.set_cons_succ]
          refine Reg.take (i := 7) (u := ?z6v) rfl rfl rfl (by kernel_rfl) (by kernel_rfl) (by kernel_rfl) hH ?z6y ?z6r
          case z6y => (intro w hSw; (try dsimp only at hSw); go_simp; try (with_reducible rfl))
          case' z6r => simp only [List.setIfInBounds_toArray, List.set_cons_zero, List.set_cons_succ]
          refine Reg.take (i := 8) (u := ?z7v) rfl rfl rfl (by kernel_rfl) (by kernel_rfl) (by kernel_rfl) hH ?z7y ?z7r
          case z7y => (intro w hSw; (try dsimp only at hSw); go_simp; try (with_reducible rfl))
          case' z7r => simp only [List.setIfInBounds_toArray, List.set_cons_zero, List.set_cons_succ]
          refine Reg.take (i := 9) (u := ?z8v) rfl rfl rfl (by kernel_rfl) (by kernel_rfl) (by kernel_rfl) hH ?z8y ?z8r
          case z8y => (intro w hSw; (try dsimp only at hSw); go_simp; try (with_reducible rfl))
          case' z8r => simp only [List.setIfInBounds_toArray, List.set_cons_zero, List.set_cons_succ]
          have r4 : R3 w4 wr.heap.size (.int .i64 0) (.string ⟨#[]⟩) (.bool false) := r4
          have e16 : ¬ n11 = wr.heap.size := by omega
          have c0 := r4.c0
          have c1 := r4.c1
          have c2 := r4.c2
          have cf := r4.fz
          have M6 := M4.setO (q := wr.heap.size) (by omega) (fun k hk => by have := (HM.out.ow.lt k hk).2; omega) (.int .i64 (1 + (n : Int))) (.string (bs (Ln.feed (1 + n) T C).1.1)) (.bool (Ln.feed (1 + n) T C).1.2)
          have r6 := r4.set (.int .i64 (1 + (n : Int))) (.string (bs (Ln.feed (1 + n) T C).1.1)) (.bool (Ln.feed (1 + n) T C).1.2)
          have hL5 : Lines (set3 w4 wr.heap.size (.int .i64 (1 + (n : Int))) (.string (bs (Ln.feed (1 + n) T C).1.1)) (.bool (Ln.feed (1 + n) T C).1.2)) a4 (Ln.feed (1 + n) T C).2.length (Ln.feed (1 + n) T C).2 := Rd.keep hL4 (by rw [set3_size]; exact Nat.le_refl _) (fun ad e h0 _ => set3_other (by have := o4 ad e; have e2 : (wr.alloc (.cells #[.int .i64 0, .string ⟨#[]⟩, .bool false] 25)).drew.heap.size = wr.heap.size + 1 := World.size_alloc wr _; rw [e2] at this; omega) _ _ _)
          unfold set3 at M6 r6 hL5
          refine Reg.only (i := 11) rfl (Reg.wanted_free rfl) (by kernel_rfl) (fun K hK => ?_)
          go_simp
          refine hK.out _ _ ?_ (fun hH2 => ?_)
          · exact ⟨M6.r11.c0, M6.r11.c1, M6.r11.c2⟩
          clear hK hH
          have hH := hH2; clear hH2
          try simp only [Act.put, List.setIfInBounds_toArray, List.set_cons_zero, List.set_cons_succ]
          refine Reg.only (i := 12) rfl (Reg.wanted_free rfl) (by kernel_rfl) (fun K hK => ?_)
          go_simp
          refine hK.out _ _ ?_ (fun hH2 => ?_)
          · exact hH
          clear hK hH
          have hH := hH2; clear hH2
          try simp only [Act.put, List.setIfInBounds_toArray, List.set_cons_zero, List.set_cons_succ]
          refine Reg.only (i := 13) rfl (Reg.wanted_free rfl) (by kernel_rfl) (fun K hK => ?_)
          go_simp
          refine hK.out _ _ ?_ (fun hH2 => ?_)
          · exact hH
          clear hK hH
          have hH := hH2; clear hH2
          try simp only [Act.put, List.setIfInBounds_toArray, List.set_cons_zero, List.set_cons_succ]
          refine wpAnyH_done (by kernel_rfl) ?_ _
          refine NoPanic.normal ?_
          exact cont wr.heap.size _ a4 c4 ⟨r6, M6, hL5, fun ad e => by have := o4 ad e; have e2 : (wr.alloc (.cells #[.int .i64 0, .string ⟨#[]⟩, .bool false] 25)).drew.heap.size = wr.heap.size + 1 := World.size_alloc wr _; rw [e2] at this; omega, by omega⟩
      clear HM p0 p1 p2
      rintro n16 W5 a4 c4 ⟨r4, M5, hL5, o4, l16⟩
      have c0 := r4.c0
      have c1 := r4.c1
      have c2 := r4.c2
      have m0 := M5.r11.c0
      have m1 := M5.r11.c1
      have m2 := M5.r11.c2
      have mf := M5.r11.fz
      have M6 := M5.set (Ln.feed (1 + n) T C).1.1 (Ln.feed (1 + n) T C).1.2
      have hL6 : Lines (set3 W5 n11 (.int .i64 (1 + (n : Int))) (.string (bs (Ln.feed (1 + n) T C).1.1)) (.bool (Ln.feed (1 + n) T C).1.2)) a4 (Ln.feed (1 + n) T C).2.length (Ln.feed (1 + n) T C).2 :=
        Rd.keep hL5 (by rw [set3_size]; exact Nat.le_refl _) (fun ad e h0 _ => set3_other (by have := o4 ad e; omega) _ _ _)
      unfold set3 at M6 hL6
      go_wp2_with (at_builtin; go_must (refine wpList_append_owns _ rfl _ _ 30 rfl (n11 + 1) 36 i0 (.agg #[.string ⟨#[]⟩, .bool false]) 2 24 Try.underlying30 hi hz0 hz1 hz2 rfl (by decide) _ _ _ rfl M6.ow a4 _ c4 (lineCells (Ln.feed (1 + n) T C).2) rfl hL6 (lineCells_one _) (by simp only [maxLen]; omega) (by omega) (by have := M6.r11.lt; omega) ?_); intro v' w6 hown' hgrow)
      have M7 : CM w w6 n7 n9 n11 (1 + (n : Int)) F (Ln.feed (1 + n) T C).1.1 (Ln.feed (1 + n) T C).1.2 v' (L ++ (Ln.feed (1 + n) T C).2) al := M6.app (by unfold OwnLines; rw [lineCells_append, List.length_append]; exact hown') hgrow
      have HM7 := Lib.hid M7
      clear M7 hown' hgrow M6 M5 hL6 hL5 r4 c0 c1 c2 m0 m1 m2 mf
      go_roundg gk'
      case measure => omega
      case rel => exact ⟨t, i + 1, _, _, _, rfl, by go_num, by omega, t3, by omega, HCU.out, HM7.out⟩
    · have hend := cut_end HFk.out (show s.length ≤ k ∨ g = true by rcases g with _ | _ <;> simp_all)
      rw [HF.out] at hend
      subst hend
      obtain ⟨a12, c12, rfl, _, _, hL12⟩ := HM.out.ow.form
      have q0 := HM.out.r9.c0
      have q1 := HM.out.r9.c1
      have q2 := HM.out.r9.c2
      have l11 := HM.out.r11.lt
      have hl := HM.out.hl
      have hsame := fun W h1 h2 => sameLines_any a12 al c12 cl L W h1 h2 (by omega)
      have hsame2 := fun W ax cx h1 h2 => sameLines_any ax al cx cl L W h1 h2 (by omega)
      have key : k < s.length ∧ g = true ∨ ¬ k < B.size := by
        have := HZ.out
        rcases g with _ | _
        · right; simp at hgo; omega
        · by_cases h : k < s.length
          · exact .inl ⟨h, rfl⟩
          · right; omega
      have HL12 := Lib.hid hL12
      have HLl := Lib.hid hl
      clear hgo hL12 hl
      rcases key with ⟨hlt, rfl⟩ | hge
      all_goals
        first
        | (have hkB : k < B.size := by rw [HZ.out]; exact hlt
           have hkB2 : (k : Int) < (B.size : Int) := by omega)
        | (have hkB2 : ¬ (k : Int) < (B.size : Int) := by omega)
        go_wp2_with fail
        refine (hsame _ HL12.out HLl.out).mono ?_
        rintro e w3 ⟨rfl, nq, rfl⟩
        obtain ⟨gg, hMg, hFg⟩ : ∃ gg : Bool, CM w wr n7 n9 n11 (1 + (n : Int)) ((T, gg), L) T gg (.slice a12 L.length c12) L al ∧ Ln.feed (1 + n) [] s = ((T, gg), L) := ⟨_, HM.out, HF.out⟩
        have M2 := hMg.drewN nq
        have HF := Lib.hid hFg
        clear hMg hFg HM
        obtain ⟨W2, hW2⟩ : ∃ W2, W2 = wr.drewN nq := ⟨_, rfl⟩
        rw [← hW2] at M2 ⊢
        have e1 : ¬ n7 = n11 := by have := M2.o2; have := M2.o3; omega
        have e2 : ¬ n9 = n11 := by have := M2.o3; omega
        clear hW2 p0 p1 p2 q0 q1 q2
        have p0 := M2.r7.c0
        have p1 := M2.r7.c1
        have p2 := M2.r7.c2
        have m0 := M2.r11.c0
        have m1 := M2.r11.c1
        have m2 := M2.r11.c2
        have mf := M2.r11.fz
        have M3 := M2.set [] false
        unfold set3 at M3
        have M4 : CM w _ n7 n9 n11 (1 + (n : Int)) ((T, gg), L) [] false (.slice none 0 0) [] al := ⟨M3.r7, M3.r9, M3.r11, M3.hl, M3.ha, Owns.nil _ _ _ _, M3.bl, M3.o1, M3.o2, M3.o3⟩
        have HM4 := Lib.hid M4
        clear M2 M3 M4
        go_wp2_with fail
        clear p0 p1 p2 m0 m1 m2 mf
        go_loopg [12, 19, 20] s.length (fun gk s12 s19 s20 W => CutJ w n7 n9 n11 n s ((T, gg), L) al gk s12 s19 s20 W)
        case atStart => exact ⟨0, s, [], rfl, congrArg Value.string HB.out, by omega, Nat.le_refl _, by simp, by simp, HM4.out⟩
        case round =>
          obtain ⟨q, c, L', rfl, rfl, hcq, hcg, hLc', hfd, hm⟩ := hrel
          have HFq := Lib.hid hfd
          have HMq := Lib.hid hm
          have p0 := hm.r11.c0
          have p1 := hm.r11.c1
          have p2 := hm.r11.c2
          have hon := fun W => HON.out c W (by omega)
          have hfo := Ln.feed_one (lim := 1 + n) c []
          have hqB : (q : Int) ≤ (B.size : Int) := by have := HZ.out; omega
          clear hfd hm
          rcases ho : (Ln.one (1 + n) [] c).line with _ | x
          · have hFin : (Ln.one (1 + n) [] c).next = (T, gg) ∧ L' = L := by
              have h1 := HFq.out
              have h2 := HF.out
              rw [ho] at hfo
              simp only [] at hfo
              rw [hfo, h2, List.append_nil] at h1
              have h3 := congrArg (·.1) h1
              have h4 := congrArg (·.2) h1
              exact ⟨h3.symm, h4.symm⟩
            obtain ⟨hn1, rfl⟩ := hFin
            rw [ho, hn1] at hon
            simp only [Option.getD_none, Option.isSome_none] at hon
            clear hn1 hfo ho
            go_wp2_with fail
            refine (hon _).mono ?_
            rintro e w3 ⟨rfl, h3⟩
            have M3 := HMq.out.below h3
            obtain ⟨a13, c13, rfl, _, _, hL13⟩ := M3.ow.form
            have m0 := M3.r11.c0
            have m1 := M3.r11.c1
            have m2 := M3.r11.c2
            have mf := M3.r11.fz
            have q0 := M3.r9.c0
            have q1 := M3.r9.c1
            have q2 := M3.r9.c2
            have l13 := M3.r11.lt
            have l9 := M3.r9.lt
            have l14 : ¬ w3.heap.size = n11 := by omega
            have M5 := ((M3.set T gg).alloc (.cells #[.int .i64 (1 + (n : Int)), .string (bs T), .bool gg] 25)).alloc (.cells #[.string (bs []), .bool false] 36)
            obtain ⟨a14, c14, ea, _, _, hL14⟩ := M5.ow.form
            cases ea
            have hl5 := M5.hl
            have b5 := M5.bl
            unfold set3 at hL14 hl5 b5
            have HA := Lib.hid hL14
            have HB5 := Lib.hid hl5
            clear hon p0 p1 p2 M5 M3 hL13 hL14 hl5 h3
            go_wp2_with fail
            refine (hsame2 _ _ _ HA.out HB5.out).mono ?_
            rintro e w4 ⟨rfl, nq2, rfl⟩
            go_wp2_with fail
            refine (awake07_any _).mono ?_
            rintro e w5 ⟨rfl, g5⟩
            have b6 := below_drewN b5 nq2
            go_wp2_with fail
            go_ret
            exact ⟨rfl, b6.trans (g5.mono b6.size)⟩
          · rw [ho] at hon hfo
            obtain ⟨hsh, hnx⟩ := Ln.one_shorter c [] x ho
            rw [hnx] at hon
            simp only [Option.getD_some, Option.isSome_some] at hon
            obtain ⟨g', rfl⟩ : ∃ g', gk = g' + 1 := ⟨gk - 1, by omega⟩
            have HFO := Lib.hid hfo
            have HSH := Lib.hid hsh
            clear hfo hnx hsh ho
            go_wp2_with fail
            refine (hon _).mono ?_
            rintro e w3 ⟨rfl, h3⟩
            have M3 := HMq.out.below h3
            have m0 := M3.r11.c0
            have m1 := M3.r11.c1
            have m2 := M3.r11.c2
            have mf := M3.r11.fz
            have l13 := M3.r11.lt
            have l14 : ¬ w3.heap.size = n11 := by omega
            have M5 := ((M3.set [] false).alloc (.cells #[.int .i64 (1 + (n : Int)), .string (bs []), .bool false] 25)).alloc (.cells #[.string (bs x.1), .bool x.2] 36)
            unfold set3 at M5
            have HM5 := Lib.hid M5
            clear hon p0 p1 p2 M5 M3 h3
            go_wp2_with (at_builtin; go_must (refine wpList_append_owns _ rfl _ _ 30 rfl (n11 + 1) 36 i0 (.agg #[.string ⟨#[]⟩, .bool false]) 2 24 Try.underlying30 hi hz0 hz1 hz2 rfl (by decide) _ _ _ rfl (HM5.out.ow.alloc _) _ 1 1 [.string (bs x.1), .bool x.2] rfl (Rd.pair_at _ _ _ _ _ (by simp [World.setCell])) (by simp [Value.oneCell']) (by simp only [maxLen]; omega) (by omega) (by simp [World.setCell]; omega) ?_); intro v' w6 hown' hgrow)
            have M7 : CM w w6 n7 n9 n11 (1 + (n : Int)) ((T, gg), L) [] false v' (L' ++ [x]) al := (HM5.out.alloc _).app (by unfold OwnLines; rw [lineCells_append, List.length_append]; exact hown') hgrow
            have HM7 := Lib.hid M7
            clear M7 hown' hgrow m0 m1 m2 mf
            go_roundg g'
            case measure => omega
            case rel =>
              have hs := HSH.out
              refine ⟨q + 1, (Ln.one (1 + n) [] c).rest, L' ++ [x], by go_num, rfl, by omega, by omega, by simp only [List.length_append, List.length_cons, List.length_nil]; omega, ?_, HM7.out⟩
              rw [HFq.out, HFO.out]; simp
end Go.Proofs.Yteppipkokeaijaa
