/- The statement DotsCommon, walked: it returns true. -/
import Derived.Test.YtldjljblcjplaaaLawBack
namespace Go.Proofs.Ytldjljblcjplaaa.Dots
theorem same_le_left : ∀ (x y : List Bs), same x y ≤ x.length
  | [], _ => by simp [same]
  | _ :: _, [] => by simp [same]
  | a :: x, b :: y => by
    have := same_le_left x y
    by_cases e : a = b <;> simp [same, e]; omega
theorem same_comm : ∀ (x y : List Bs), same x y = same y x
  | [], [] => rfl
  | [], _ :: _ => rfl
  | _ :: _, [] => rfl
  | a :: x, b :: y => by
    have := same_comm x y
    by_cases e : a = b
    · simp [same, e, this]
    · simp [same, e]; exact fun h => e h.symm
theorem same_take : ∀ (x y : List Bs), x.take (same x y) = y.take (same x y)
  | [], y => by simp [same]
  | _ :: _, [] => by simp [same]
  | a :: x, b :: y => by
    have := same_take x y
    by_cases e : a = b <;> simp [same, e, this]
theorem same_next : ∀ (x y : List Bs), same x y < x.length → (x.take (same x y + 1)).isPrefixOf y = false
  | [], y, h => by simp at h
  | _ :: _, [], h => by simp [same]
  | a :: x, b :: y, h => by
    by_cases e : a = b
    · have := same_next x y (by simp [same, e] at h; exact h)
      simp [same, e]
      simpa using this
    · simp [same, e, List.isPrefixOf]
end Go.Proofs.Ytldjljblcjplaaa.Dots

namespace Go.Proofs.Ytldjljblcjplaaa
open Go.RowKit Str Mem
set_option linter.unusedVariables false
set_option linter.unusedSimpArgs false

structure CommonFacts (k m t : List (List UInt8)) (op oq : Bool) (p q c : ByteArray) : Prop where
  made : Dots.make k op = (p.data.toList, 0)
  made2 : Dots.make m oq = (q.data.toList, 0)
  com : Dots.common p.data.toList q.data.toList = (c.data.toList, 0)
  com2 : Dots.common q.data.toList p.data.toList = (c.data.toList, 0)
  segs : segsL c.data.toList = t
  segsE : segsE c.data.toList = 0
  u1 : Dots.under p.data.toList c.data.toList = (true, 0)
  u2 : Dots.under q.data.toList c.data.toList = (true, 0)
  len : t.length ≤ k.length
  sp : p.size ≤ 128
  sq : q.size ≤ 128
  sc : c.size ≤ 128
  below : ∀ x, k[t.length]? = some x → ∃ b : ByteArray, b.size ≤ 128 ∧ x.length ≤ 3 ∧ Dots.join c.data.toList x = (b.data.toList, 0) ∧ Dots.under p.data.toList b.data.toList = (true, 0) ∧ Dots.under q.data.toList b.data.toList = (false, 0)

theorem commonFacts {k m : List (List UInt8)} (op oq : Bool) (hk : Dots.Names k) (hm : Dots.Names m) (hs : ∀ s ∈ k, s.length ≤ 3) (ht : ∀ s ∈ m, s.length ≤ 3) (h8 : k.length ≤ 8) (h9 : m.length ≤ 8) :
    ∃ t p q c, CommonFacts k m t op oq p q c := by
  have b1 := Dots.small_built hs (by omega) op
  have b2 := Dots.small_built ht (by omega) oq
  have bt := fun n => Dots.small_built (k := k.take n) (fun s h => hs s (List.mem_of_mem_take h)) (by simp; omega) false
  have hsl := Dots.same_le_left k m
  have hst := Dots.same_take k m
  have hsn := Dots.same_next k m
  have hcm := Dots.common_names hk hm b1 b2
  have hcm2 := Dots.common_names hm hk b2 b1
  rw [Dots.same_comm m k, ← hst] at hcm2
  obtain ⟨s, hse⟩ : ∃ s, s = Dots.same k m := ⟨_, rfl⟩
  rw [← hse] at hsl hst hsn hcm hcm2
  clear hse
  refine ⟨k.take s, bs (Dots.built k op), bs (Dots.built m oq), bs (Dots.built (k.take s) false), ?_⟩
  constructor
  · exact Dots.make_names hk b1
  · exact Dots.make_names hm b2
  · exact hcm
  · exact hcm2
  · exact Dots.segsL_names (hk.take s) (bt s)
  · exact Dots.segsE_names (hk.take s) (bt s)
  · show Dots.under (Dots.built k op) (Dots.built (k.take s) false) = _
    rw [Dots.under_made hk (hk.take s) op b1 (bt s), prefix_take]
  · show Dots.under (Dots.built m oq) (Dots.built (k.take s) false) = _
    rw [Dots.under_made hm (hk.take s) oq b2 (bt s), hst, prefix_take]
  · simp; omega
  · rw [size_data]; exact b1
  · rw [size_data]; exact b2
  · rw [size_data]; exact bt s
  · intro x hx
    have hl : (k.take s).length = s := by simp; omega
    rw [hl] at hx
    obtain ⟨hlt, rfl⟩ := List.getElem?_eq_some_iff.1 hx
    have he : k.take s ++ [k[s]] = k.take (s + 1) := List.take_append_getElem hlt
    refine ⟨bs (Dots.built (k.take (s + 1)) false), by rw [size_data]; exact bt _, hs _ (List.getElem_mem _), ?_, ?_, ?_⟩
    · show Dots.join (Dots.built (k.take s) false) k[s] = (Dots.built (k.take (s + 1)) false, 0)
      rw [← he]
      exact Dots.join_names (hk.take s) (hk _ (List.getElem_mem _)) (by rw [he]; exact bt _)
    · show Dots.under (Dots.built k op) (Dots.built (k.take (s + 1)) false) = _
      rw [Dots.under_made hk (hk.take _) op b1 (bt _), prefix_take]
    · show Dots.under (Dots.built m oq) (Dots.built (k.take (s + 1)) false) = _
      rw [Dots.under_made hm (hk.take _) oq b2 (bt _), hsn hlt]

set_option maxRecDepth 20000 in
set_option maxHeartbeats 4000000 in
theorem lawCommon_any (a b : Option Addr) (c d : Nat) (xs ys : List Int) (op oq : Bool) (w : World) (h : Ints w a xs.length xs) (h' : Ints w b ys.length ys) (hl : xs.length ≤ maxLen) (hl' : ys.length ≤ maxLen)
    (hb : ∀ n ∈ xs, -9223372036854775808 ≤ n ∧ n ≤ 9223372036854775807) (hb' : ∀ n ∈ ys, -9223372036854775808 ≤ n ∧ n ≤ 9223372036854775807) :
    Calls Try.prog 8 #[.slice a xs.length c, .slice b ys.length d, .bool op, .bool oq] w fun e w' => e = .returned (.bool true) ∧ Below w.heap.size w w' := by
  have m1 := fun w h => made_any a c xs w h hl hb
  have m2 := fun w h => made_any b d ys w h hl' hb'
  have hk := madeOf_names xs
  have hs := madeOf_short xs
  have h8 := madeOf_length xs
  have hk2 := madeOf_names ys
  have hs2 := madeOf_short ys
  have h82 := madeOf_length ys
  obtain ⟨k, hml⟩ : ∃ l, l = madeOf xs := ⟨_, rfl⟩
  obtain ⟨m, hmm⟩ : ∃ l, l = madeOf ys := ⟨_, rfl⟩
  rw [← hml] at hk hs h8 m1
  rw [← hmm] at hk2 hs2 h82 m2
  have hbod := Dots.small_body hs (by omega)
  have hbod2 := Dots.small_body hs2 (by omega)
  obtain ⟨t, p, q, cc, F⟩ := commonFacts op oq hk hk2 hs hs2 h8 h82
  clear hml hmm hb hb' hk hs hk2 hs2
  have k1 := fun w a c h => make_any a c k op w h (by omega) (by unfold maxLen; omega)
  have k2 := fun w a c h => make_any a c m oq w h (by omega) (by unfold maxLen; omega)
  rw [F.made, bs_data] at k1
  rw [F.made2, bs_data] at k2
  have sp := F.sp
  have sq := F.sq
  have sc := F.sc
  have hlen := F.len
  have k3 := fun w => common_any p q w
  rw [F.com, bs_data] at k3
  have k4 := fun w => common_any q p w
  rw [F.com2, bs_data] at k4
  have k5 := fun w => (segsAny cc w).mono fun e w' h => SegsOf.one h
  rw [F.segs, F.segsE] at k5
  have k6 := fun w => lawUnder_is p cc true w (by omega) (by omega) F.u1
  have k7 := fun w => lawUnder_is q cc true w (by omega) (by omega) F.u2
  have dd : (cc.toList == cc.toList) = true := by simp
  go_enter Try.func8, Try.ntmps8
  go_wp2_with fail
  refine (m1 _ h).mono ?_
  rintro e w1 ⟨v, rfl, ⟨al, cl, rfl, hl1, hl2, hS⟩, h1⟩
  go_wp2_with fail
  refine (k1 _ _ _ hS).mono ?_
  rintro e w2 ⟨rfl, h2⟩
  have g2 := h1.trans (h2.mono h1.size)
  go_wp2_with fail
  refine (m2 _ (h'.below g2)).mono ?_
  rintro e w3 ⟨v, rfl, ⟨al2, cl2, rfl, hl12, hl22, hS2⟩, h3⟩
  have g3 := g2.trans (h3.mono g2.size)
  go_wp2_with fail
  refine (k2 _ _ _ hS2).mono ?_
  rintro e w4 ⟨rfl, h4⟩
  have g4 := g3.trans (h4.mono g3.size)
  go_wp2_with fail
  refine (k3 _).mono ?_
  rintro e w5 ⟨rfl, h5⟩
  have g5 := g4.trans (h5.mono g4.size)
  go_wp2_with fail
  refine (k4 _).mono ?_
  rintro e w6 ⟨rfl, h6⟩
  have g6 := g5.trans (h6.mono g5.size)
  go_wp2_with fail
  refine (k5 _).mono ?_
  rintro e w7 ⟨at5, ct, rfl, hSt, h7⟩
  have g7 := g6.trans (h7.mono g6.size)
  go_wp2_with fail
  refine (k6 _).mono ?_
  rintro e w8 ⟨rfl, h8⟩
  have g8 := g7.trans (h8.mono g7.size)
  go_wp2_with fail
  refine (k7 _).mono ?_
  rintro e w9 ⟨rfl, h9⟩
  have g9 := g8.trans (h9.mono g8.size)
  go_wp2_with fail
  refine (m1 _ (h.below g9)).mono ?_
  rintro e w10 ⟨v, rfl, ⟨al3, cl3, rfl, hl13, hl23, hS3⟩, h10⟩
  have g10 := g9.trans (h10.mono g9.size)
  by_cases hlt : t.length < k.length
  · obtain ⟨ad, x, rfl, _, hls, hcell⟩ := hS3.get hlt
    obtain ⟨bb, sb, hx3, J, U1, U2⟩ := F.below x hls
    have j1 := fun w => join_any cc (bs x) w (by omega) (by rw [size_data]; show x.length ≤ _; omega)
    have e4 : (bs x).data.toList = x := rfl
    rw [e4, J, bs_data] at j1
    have j2 := fun w => under_any p bb w (by omega) (by omega)
    rw [U1] at j2
    have j3 := fun w => under_any q bb w (by omega) (by omega)
    rw [U2] at j3
    clear J U1 U2 hls
    go_wp2_with fail
    refine (j1 _).mono ?_
    rintro e w11 ⟨rfl, h11⟩
    have g11 := g10.trans (h11.mono g10.size)
    go_wp2_with fail
    refine (j2 _).mono ?_
    rintro e w12 ⟨rfl, h12⟩
    have g12 := g11.trans (h12.mono g11.size)
    go_wp2_with fail
    refine (j3 _).mono ?_
    rintro e w13 ⟨rfl, h13⟩
    have g13 := g12.trans (h13.mono g12.size)
    go_wp2_with fail
    refine (awake_any _).mono ?_
    rintro e w14 ⟨rfl, h14⟩
    have g14 := g13.trans (h14.mono g13.size)
    go_wp2_with fail
    go_ret
    exact ⟨rfl, g14⟩
  · have hle : ((t.length : Int) == (k.length : Int)) = true := by have : t.length = k.length := by omega
                                                                   rw [this]; simp
    go_wp2_with fail
    refine (awake_any _).mono ?_
    rintro e w14 ⟨rfl, h14⟩
    have g14 := g10.trans (h14.mono g10.size)
    go_wp2_with fail
    go_ret
    exact ⟨rfl, g14⟩

end Go.Proofs.Ytldjljblcjplaaa
