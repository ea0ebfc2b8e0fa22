/- The statement DotsKnown, walked: it returns true. -/
import Derived.Test.YtldjljblcjplaaaLawCommon
namespace Go.Proofs.Ytldjljblcjplaaa
open Go.RowKit Str Mem
set_option linter.unusedVariables false
set_option linter.unusedSimpArgs false

theorem normalIs (s : ByteArray) (b : Bool) (w : World) (h : Dots.normal s.data.toList = b) : Calls Try.prog 12 #[.string s] w fun e w' => e = .returned (.bool b) ∧ Below w.heap.size w w' := by
  have := normal_any s w
  rwa [h] at this
theorem cleanIs (s : ByteArray) (r : List UInt8) (n : Int) (w : World) (hs : s.size ≤ 100000) (h : Dots.clean s.data.toList = (r, n)) : Calls Try.prog 11 #[.string s] w fun e w' => e = .returned (.tuple #[.string (bs r), .int .i64 n]) ∧ Below w.heap.size w w' := by
  have := clean_any s w hs
  rwa [h] at this
theorem segsIs (s : ByteArray) (l : List (List UInt8)) (w : World) (h : segsL s.data.toList = l) (h' : segsE s.data.toList = 0) : Calls Try.prog 19 #[.string s] w fun e w' => ∃ a c, e = .returned (.tuple #[.slice a l.length c, .int .i64 0]) ∧ Strs w' a l.length l ∧ Below w.heap.size w w' := by
  have := (segsAny s w).mono fun e w' h => SegsOf.one h
  rwa [h, h'] at this
theorem sameIs (a b : Option Addr) (c d : Nat) (l : List (List UInt8)) (w : World) (hl : Strs w a l.length l) (hm : Strs w b l.length l) (hn : l.length ≤ 100) : Calls Try.prog 17 #[.slice a l.length c, .slice b l.length d] w fun e w' => e = .returned (.bool true) ∧ Below w.heap.size w w' := by
  have := sameTexts_any a b c d l l w hl hm (by unfold maxLen; omega)
  rwa [beq_self_eq_true] at this
theorem underIs (p d : ByteArray) (b : Bool) (n : Int) (w : World) (hp : p.size ≤ 100000) (hd : d.size ≤ 100000) (h : Dots.under p.data.toList d.data.toList = (b, n)) : Calls Try.prog 24 #[.string p, .string d] w fun e w' => e = .returned (.tuple #[.bool b, .int .i64 n]) ∧ Below w.heap.size w w' := by
  have := under_any p d w hp hd
  rwa [h] at this
theorem parentIs (s : ByteArray) (r : List UInt8) (n : Int) (w : World) (h : Dots.parent s.data.toList = (r, n)) : Calls Try.prog 22 #[.string s] w fun e w' => e = .returned (.tuple #[.string (bs r), .int .i64 n]) ∧ Below w.heap.size w w' := by
  have := parent_any s w
  rwa [h] at this
theorem joinIs (s t : ByteArray) (r : List UInt8) (n : Int) (w : World) (hs : s.size ≤ 100000) (ht : t.size ≤ 100000) (h : Dots.join s.data.toList t.data.toList = (r, n)) : Calls Try.prog 26 #[.string s, .string t] w fun e w' => e = .returned (.tuple #[.string (bs r), .int .i64 n]) ∧ Below w.heap.size w w' := by
  have := join_any s t w hs ht
  rwa [h] at this
theorem makeIs (a : Option Addr) (c : Nat) (l : List (List UInt8)) (op : Bool) (p : ByteArray) (w : World) (hS : Strs w a l.length l) (h1 : l.length ≤ 100) (h2 : (Dots.body l).length ≤ 100) (h : Dots.make l op = (p.data.toList, 0)) : Calls Try.prog 15 #[.slice a l.length c, .bool op] w fun e w' => e = .returned (.tuple #[.string p, .int .i64 0]) ∧ Below w.heap.size w w' := by
  have := make_any a c l op w hS (by omega) (by unfold maxLen; omega)
  rwa [h, bs_data] at this
theorem textIs (s : ByteArray) (w : World) : Calls Try.prog 34 #[.string s, .int .i64 0, .string s] w fun e w' => e = .returned (.bool true) ∧ Below w.heap.size w w' :=
  (lawText_yes s w).mono fun e w' ⟨h1, h2⟩ => ⟨h1, h2 ▸ Below.refl _ _⟩

/-- A row of two texts, new. -/
theorem two_strs (w : World) (t : TypeId) (x y : List UInt8) : Strs (w.alloc (.cells #[.string ⟨x.toArray⟩, .string ⟨y.toArray⟩] t)) (some ⟨w.heap.size, 0, none⟩) 2 [x, y] :=
  ⟨rfl, fun _ => ⟨_, rfl, by simp, fun j u hu => by
    rw [add_flat, cell_of_row _ w.heap.size _ #[.string ⟨x.toArray⟩, .string ⟨y.toArray⟩] t (0, 0) (heap_alloc_new w _)]
    rcases j with _ | _ | j
    · simpa [sv] using hu
    · simpa [sv] using hu
    · simp at hu⟩⟩

set_option maxRecDepth 20000 in
set_option maxHeartbeats 4000000 in
theorem lawKnown_any (w : World) : Calls Try.prog 9 #[] w fun e w' => e = .returned (.bool true) ∧ Below w.heap.size w w' := by
  have g0 : Below w.heap.size w w := Below.refl _ _
  go_enter Try.func9, Try.ntmps9
  go_wp2_with fail
  refine (normalIs _ true _ (by decide)).mono ?_
  rintro e w1 ⟨rfl, h1⟩
  have g1 := g0.trans (h1.mono g0.size)
  go_wp2_with fail
  refine (normalIs _ true _ (by decide)).mono ?_
  rintro e w2 ⟨rfl, h2⟩
  have g2 := g1.trans (h2.mono g1.size)
  go_wp2_with fail
  refine (normalIs _ false _ (by decide)).mono ?_
  rintro e w3 ⟨rfl, h3⟩
  have g3 := g2.trans (h3.mono g2.size)
  go_wp2_with fail
  refine (normalIs _ false _ (by decide)).mono ?_
  rintro e w4 ⟨rfl, h4⟩
  have g4 := g3.trans (h4.mono g3.size)
  go_wp2_with fail
  refine (normalIs _ false _ (by decide)).mono ?_
  rintro e w5 ⟨rfl, h5⟩
  have g5 := g4.trans (h5.mono g4.size)
  go_wp2_with fail
  refine (normalIs _ false _ (by decide)).mono ?_
  rintro e w6 ⟨rfl, h6⟩
  have g6 := g5.trans (h6.mono g5.size)
  go_wp2_with fail
  refine (normalIs _ true _ (by decide)).mono ?_
  rintro e w7 ⟨rfl, h7⟩
  have g7 := g6.trans (h7.mono g6.size)
  go_wp2_with fail
  refine (cleanIs _ [] 18 _ (by decide) (by decide)).mono ?_
  rintro e w8 ⟨rfl, h8⟩
  have g8 := g7.trans (h8.mono g7.size)
  go_wp2_with fail
  refine (cleanIs _ [] 3 _ (by decide) (by decide)).mono ?_
  rintro e w9 ⟨rfl, h9⟩
  have g9 := g8.trans (h9.mono g8.size)
  go_wp2_with fail
  refine (segsIs _ [] _ (by decide) (by decide)).mono ?_
  rintro e w10 ⟨al, alc, rfl, hSal, h10⟩
  have g10 := g9.trans (h10.mono g9.size)
  go_wp2_with fail
  refine (segsIs _ [[97], [98]] _ (by decide) (by decide)).mono ?_
  rintro e w11 ⟨am, amc, rfl, hSam, h11⟩
  have g11 := g10.trans (h11.mono g10.size)
  go_wp2_with fail
  refine (segsIs _ [[97], [98]] _ (by decide) (by decide)).mono ?_
  rintro e w12 ⟨an, anc, rfl, hSan, h12⟩
  have g12 := g11.trans (h12.mono g11.size)
  replace hSam := hSam.below h12
  go_wp2_with fail
  refine (lawClean_yes _ _ _ (by decide) (by decide)).mono ?_
  rintro e w13 ⟨rfl, h13⟩
  have g13 := g12.trans (h13.mono g12.size)
  replace hSam := hSam.below h13
  replace hSan := hSan.below h13
  go_wp2_with fail
  refine (lawClean_yes _ _ _ (by decide) (by decide)).mono ?_
  rintro e w14 ⟨rfl, h14⟩
  have g14 := g13.trans (h14.mono g13.size)
  replace hSam := hSam.below h14
  replace hSan := hSan.below h14
  go_wp2_with fail
  refine (lawClean_yes _ _ _ (by decide) (by decide)).mono ?_
  rintro e w15 ⟨rfl, h15⟩
  have g15 := g14.trans (h15.mono g14.size)
  replace hSam := hSam.below h15
  replace hSan := hSan.below h15
  go_wp2_with fail
  refine (sameIs _ _ _ _ [[97], [98]] _ (hSam.alloc _) (two_strs _ _ _ _) (by decide)).mono ?_
  rintro e w16 ⟨rfl, h16⟩
  have g16 := (g15.alloc g15.size _).trans (h16.mono (by simp; exact Nat.le_trans g15.size (Nat.le_succ _)))
  replace hSam := (hSam.alloc _).below h16
  replace hSan := (hSan.alloc _).below h16
  go_wp2_with fail
  refine (sameIs _ _ _ _ [[97], [98]] _ hSan hSam (by decide)).mono ?_
  rintro e w17 ⟨rfl, h17⟩
  have g17 := g16.trans (h17.mono g16.size)
  go_wp2_with fail
  refine (underIs _ _ false 3 _ (by decide) (by decide) (by decide)).mono ?_
  rintro e w18 ⟨rfl, h18⟩
  have g18 := g17.trans (h18.mono g17.size)
  go_wp2_with fail
  refine (parentIs _ [] 6 _ (by decide)).mono ?_
  rintro e w19 ⟨rfl, h19⟩
  have g19 := g18.trans (h19.mono g18.size)
  go_wp2_with fail
  refine (joinIs _ _ [] 3 _ (by decide) (by decide) (by decide)).mono ?_
  rintro e w20 ⟨rfl, h20⟩
  have g20 := g19.trans (h20.mono g19.size)
  go_wp2_with fail
  refine (lawUnder_is _ _ true _ (by decide) (by decide) (by decide)).mono ?_
  rintro e w21 ⟨rfl, h21⟩
  have g21 := g20.trans (h21.mono g20.size)
  go_wp2_with fail
  refine (lawUnder_is _ _ true _ (by decide) (by decide) (by decide)).mono ?_
  rintro e w22 ⟨rfl, h22⟩
  have g22 := g21.trans (h22.mono g21.size)
  go_wp2_with fail
  refine (lawUnder_is _ _ true _ (by decide) (by decide) (by decide)).mono ?_
  rintro e w23 ⟨rfl, h23⟩
  have g23 := g22.trans (h23.mono g22.size)
  go_wp2_with fail
  refine (lawParent_yes _ _ _ (by decide)).mono ?_
  rintro e w24 ⟨rfl, h24⟩
  have g24 := g23.trans (h24.mono g23.size)
  go_wp2_with fail
  refine (lawParent_yes _ _ _ (by decide)).mono ?_
  rintro e w25 ⟨rfl, h25⟩
  have g25 := g24.trans (h25.mono g24.size)
  go_wp2_with fail
  refine (lawParent_yes _ _ _ (by decide)).mono ?_
  rintro e w26 ⟨rfl, h26⟩
  have g26 := g25.trans (h26.mono g25.size)
  go_wp2_with fail
  refine (lawJoin_yes _ _ _ _ (by decide) (by decide) (by decide)).mono ?_
  rintro e w27 ⟨rfl, h27⟩
  have g27 := g26.trans (h27.mono g26.size)
  go_wp2_with fail
  refine (lawJoin_yes _ _ _ _ (by decide) (by decide) (by decide)).mono ?_
  rintro e w28 ⟨rfl, h28⟩
  have g28 := g27.trans (h28.mono g27.size)
  go_wp2_with fail
  refine (makeIs _ _ [[97], [98]] true ⟨#[47, 97, 47, 98, 47]⟩ _ (two_strs _ _ _ _) (by decide) (by decide) (by decide)).mono ?_
  rintro e w29 ⟨rfl, h29⟩
  have g29 := (g28.alloc g28.size _).trans (h29.mono (by simp; exact Nat.le_trans g28.size (Nat.le_succ _)))
  go_wp2_with fail
  refine (makeIs _ _ [] true ⟨#[47]⟩ _ (Rd.nil _ _ _) (by decide) (by decide) (by decide)).mono ?_
  rintro e w30 ⟨rfl, h30⟩
  have g30 := g29.trans (h30.mono g29.size)
  go_wp2_with fail
  refine (textIs _ _).mono ?_
  rintro e w31 ⟨rfl, h31⟩
  have g31 := g30.trans (h31.mono g30.size)
  go_wp2_with fail
  refine (textIs _ _).mono ?_
  rintro e w32 ⟨rfl, h32⟩
  have g32 := g31.trans (h32.mono g31.size)
  go_wp2_with fail
  refine (lawCommon_yes _ _ _ _ (by decide)).mono ?_
  rintro e w33 ⟨rfl, h33⟩
  have g33 := g32.trans (h33.mono g32.size)
  go_wp2_with fail
  refine (lawCommon_yes _ _ _ _ (by decide)).mono ?_
  rintro e w34 ⟨rfl, h34⟩
  have g34 := g33.trans (h34.mono g33.size)
  go_wp2_with fail
  refine (lawCommon_yes _ _ _ _ (by decide)).mono ?_
  rintro e w35 ⟨rfl, h35⟩
  have g35 := g34.trans (h35.mono g34.size)
  go_wp2_with fail
  refine (awake_any _).mono ?_
  rintro e w36 ⟨rfl, h36⟩
  have g36 := g35.trans (h36.mono g35.size)
  go_wp2_with fail
  go_ret
  exact ⟨rfl, g36⟩

end Go.Proofs.Ytldjljblcjplaaa
