/- The library's insertion of a row of integers, by a comparison that is a closure of the program. -/
import Derived.Test.YtefilalapkdegaaFitMem
import Derived.Test.YtefilalapkdegaaInts
import Derived.Test.YtefilalapkdegaaRouteSort
import Derived.Test.YtefilalapkdegaaRouteKinds
namespace Go.Proofs.Ytefilalapkdegaa
open Go.RowKit Str Mem
set_option linter.unusedVariables false
set_option linter.unusedSimpArgs false

theorem swap_list {α : Type} (A T : List α) (s e : α) : (((A ++ s :: e :: T).set (A.length + 1) s).set A.length e) = A ++ e :: s :: T := by
  rw [List.set_append, if_neg (by omega), show A.length + 1 - A.length = 1 by omega]
  rw [List.set_append, if_neg (by omega), Nat.sub_self]
  rfl
theorem set_iv (Y : List Int) (rest : List Value) (j : Nat) (x : Int) (hj : j < Y.length) : (Y.map iv ++ rest).set j (iv x) = (Y.set j x).map iv ++ rest := by
  rw [List.set_append, if_pos (by simpa using hj), List.map_set]
theorem row_iv {w : World} {g : Nat} {T : TypeId} {Y : List Int} {rest : List Value} (h : w.heap[g]? = some (.cells (Y.map iv ++ rest).toArray T (0, 0))) {j : Nat} {x : Int} (hx : Y[j]? = some x) : w.cell? ⟨g, j, none⟩ = some (.int .i64 x) := by
  obtain ⟨h1, h2⟩ := List.getElem?_eq_some_iff.1 hx
  rw [row_cell h, List.getElem?_append_left (by simpa using h1), List.getElem?_map, hx]; rfl

/-- What is asked of the comparison: it says which of two of the elements is less, and leaves all that lies. -/
def CmpOk (f : Nat) (lb : Array Value) (lt : Int → Int → Bool) (X : List Int) (g : Nat) (u w0 : World) : Prop :=
  ∀ x ∈ X, ∀ y ∈ X, ∀ wr, Kp g u wr → Below w0.heap.size w0 wr → Calls Try.prog f (#[.int .i64 x, .int .i64 y] ++ lb) wr fun e w' => ∃ v : Int, e = .returned (.int .i64 v) ∧ decide (v < 0) = lt x y ∧ Below wr.heap.size wr w'

section
variable (lt : Int → Int → Bool)
/-- The row while the element number m is on its way: it stands at jj. -/
def way (pre M post : List Int) (m jj : Nat) (e : Int) : List Int := (pre ++ (Route.sorted lt (M.take m)).take jj) ++ e :: ((Route.sorted lt (M.take m)).drop jj ++ (M.drop (m + 1) ++ post))
def done (pre M post : List Int) (m : Nat) : List Int := pre ++ (Route.sorted lt (M.take m) ++ (M.drop m ++ post))
theorem done_way {pre M post : List Int} {m : Nat} {e : Int} (he : M[m]? = some e) : done lt pre M post m = way lt pre M post m m e := by
  obtain ⟨h1, h2⟩ := List.getElem?_eq_some_iff.1 he
  have hl : (Route.sorted lt (M.take m)).length = m := by rw [Route.sorted_length]; simp; omega
  unfold done way
  rw [List.take_of_length_le (l := Route.sorted lt (M.take m)) (by omega), List.drop_eq_nil_of_le (show (Route.sorted lt (M.take m)).length ≤ m by omega), List.drop_eq_getElem_cons h1, h2]
  simp
theorem way_done {pre M post : List Int} {m jj : Nat} {e : Int} (he : M[m]? = some e) (hj : jj ≤ m) (h1 : ∀ x ∈ (Route.sorted lt (M.take m)).drop jj, lt e x = true) (h2 : jj = 0 ∨ ∃ x, (Route.sorted lt (M.take m))[jj - 1]? = some x ∧ lt e x = false) : way lt pre M post m jj e = done lt pre M post (m + 1) := by
  obtain ⟨g1, g2⟩ := List.getElem?_eq_some_iff.1 he
  have hl : (Route.sorted lt (M.take m)).length = m := by rw [Route.sorted_length]; simp; omega
  have hs : Route.sorted lt (M.take (m + 1)) = Route.insR lt (Route.sorted lt (M.take m)) e := by
    rw [← List.take_append_getElem g1, Route.sorted_snoc, g2]
  unfold done way
  rw [hs, Route.insR_at lt (by omega) h1 h2]
  simp
theorem way_swap {pre M post : List Int} {m jj : Nat} {e s : Int} (hj : 0 < jj) (hs : (Route.sorted lt (M.take m))[jj - 1]? = some s) :
    ((way lt pre M post m jj e).set (pre.length + jj) s).set (pre.length + jj - 1) e = way lt pre M post m (jj - 1) e := by
  obtain ⟨g1, g2⟩ := List.getElem?_eq_some_iff.1 hs
  have h1 : (Route.sorted lt (M.take m)).take jj = (Route.sorted lt (M.take m)).take (jj - 1) ++ [s] := by
    conv => lhs; rw [show jj = jj - 1 + 1 by omega]
    rw [← List.take_append_getElem g1, g2]
  have h2 : (Route.sorted lt (M.take m)).drop (jj - 1) = s :: (Route.sorted lt (M.take m)).drop jj := by
    rw [List.drop_eq_getElem_cons g1, g2, show jj - 1 + 1 = jj by omega]
  have hA : (pre ++ (Route.sorted lt (M.take m)).take (jj - 1)).length = pre.length + (jj - 1) := by simp; omega
  have := swap_list (pre ++ (Route.sorted lt (M.take m)).take (jj - 1)) ((Route.sorted lt (M.take m)).drop jj ++ (M.drop (m + 1) ++ post)) s e
  rw [hA, show pre.length + (jj - 1) + 1 = pre.length + jj by omega, show pre.length + (jj - 1) = pre.length + jj - 1 by omega] at this
  unfold way
  rw [h1, h2]
  simp only [List.append_assoc, List.cons_append, List.nil_append] at this ⊢
  exact this
theorem way_get {pre M post : List Int} {m jj : Nat} {e : Int} (hj : jj ≤ (Route.sorted lt (M.take m)).length) : (way lt pre M post m jj e)[pre.length + jj]? = some e := by
  unfold way
  rw [List.getElem?_append_right (by simp; omega)]
  simp [Nat.min_eq_left hj]
theorem way_before {pre M post : List Int} {m jj : Nat} {e s : Int} (hj : 0 < jj) (hs : (Route.sorted lt (M.take m))[jj - 1]? = some s) : (way lt pre M post m jj e)[pre.length + jj - 1]? = some s := by
  obtain ⟨g1, g2⟩ := List.getElem?_eq_some_iff.1 hs
  unfold way
  rw [List.getElem?_append_left (by simp; omega), List.getElem?_append_right (by omega), List.getElem?_take_of_lt (by omega), show pre.length + jj - 1 - pre.length = jj - 1 by omega, hs]
theorem way_length {pre M post : List Int} {m jj : Nat} {e : Int} (hm : m < M.length) (hj : jj ≤ m) : (way lt pre M post m jj e).length = (pre ++ (M ++ post)).length := by
  have hl : (Route.sorted lt (M.take m)).length = m := by rw [Route.sorted_length]; simp; omega
  unfold way
  simp [hl]
  omega
end

def InsO (w u : World) (lt : Int → Int → Bool) (pre M post : List Int) (g : Nat) (rest : List Value) (i : Value) (wr : World) : Prop :=
  ∃ m I : Nat, i = .int .i64 I ∧ I = pre.length + m ∧ 1 ≤ m ∧ m ≤ max M.length 1 ∧ wr.heap[g]? = some (.cells ((done lt pre M post m).map iv ++ rest).toArray 3 (0, 0)) ∧ Kp g u wr ∧ Below w.heap.size w wr
def InsI (w u : World) (lt : Int → Int → Bool) (pre M post : List Int) (g : Nat) (rest : List Value) (m : Nat) (e : Int) (j : Value) (wr : World) : Prop :=
  ∃ jj J : Nat, j = .int .i64 J ∧ J = pre.length + jj ∧ jj ≤ m ∧ (∀ x ∈ (Route.sorted lt (M.take m)).drop jj, lt e x = true) ∧ wr.heap[g]? = some (.cells ((way lt pre M post m jj e).map iv ++ rest).toArray 3 (0, 0)) ∧ Kp g u wr ∧ Below w.heap.size w wr

set_option maxRecDepth 20000 in
set_option maxHeartbeats 8000000 in
theorem ins_any (f : Nat) (lb : Array Value) (ef : ∀ args w, (callFunc f args).run Try.prog w = .ok (.enter f args) w) (lt : Int → Int → Bool) (pre M post : List Int) (g cap : Nat) (rest : List Value) (w u : World) (n a b : Nat) (hn : (pre ++ (M ++ post)).length = n) (ha : a = pre.length) (hb' : b = pre.length + M.length) (hX : n ≤ 100000) (hc : n ≤ cap)
    (w0 : World) (hcmp : CmpOk f lb lt (pre ++ (M ++ post)) g u w0) (hrow : w.heap[g]? = some (.cells ((pre ++ (M ++ post)).map iv ++ rest).toArray 3 (0, 0))) (hk : Kp g u w) (hg : g < u.heap.size) (hb : Below w0.heap.size w0 w) (hg0 : w0.heap.size ≤ g) :
    Calls Try.prog 88 #[.slice (some ⟨g, 0, none⟩) n cap, .int .i64 a, .int .i64 b, .func (.func f) #[] lb] w fun e w' =>
      (∃ v, e = .returned v) ∧ w'.heap[g]? = some (.cells ((pre ++ (Route.sorted lt M ++ post)).map iv ++ rest).toArray 3 (0, 0)) ∧ Kp g u w' ∧ Below w0.heap.size w0 w' := by
  have hn2 : pre.length + M.length + post.length = n := by rw [← hn]; simp; omega
  have hs1 : done lt pre M post 1 = pre ++ (M ++ post) := by
    unfold done
    rcases M with _ | ⟨x, r⟩
    · rfl
    · simp [Route.sorted, Route.insR, Route.insRev]
  have Ha := Lib.hid ha
  have Hb := Lib.hid hb'
  have hle : a ≤ b ∧ b ≤ n := by omega
  have Hn := Lib.hid hn
  have Hn2 := Lib.hid hn2
  clear ha hb' hn hn2
  go_enter Try.func88, Try.ntmps88
  go_wp2
  go_loopw [8, 9] (fun i _ wr => InsO w0 u lt pre M post g rest i wr) (fun i _ _ => b + 1 - (intOf i).toNat)
  case atStart => exact ⟨1, a + 1, by go_num, by rw [Ha.out], Nat.le_refl _, by omega, by rw [hs1]; exact hrow, hk, hb⟩
  case round =>
    obtain ⟨m, I, rfl, hI, hm1, hm, hrow, hk, hb⟩ := hrel
    have HI := Lib.hid hI
    clear hI
    by_cases hlt : m < M.length
    · have i1 : I < b := by rw [HI.out, Hb.out]; omega
      have i1' : (I : Int) < (b : Int) := by omega
      obtain ⟨e, he⟩ : ∃ e, M[m]? = some e := ⟨_, List.getElem?_eq_getElem hlt⟩
      have hl : (Route.sorted lt (M.take m)).length = m := by rw [Route.sorted_length]; simp; omega
      have hdw := done_way lt (pre := pre) (post := post) he
      have Hl := Lib.hid hl
      have He := Lib.hid he
      clear hl he
      go_wp2
      go_loopw [9] (fun j wr => InsI w0 u lt pre M post g rest m e j wr) (fun j _ => (intOf j).toNat)
      case atStart => exact ⟨m, I, rfl, HI.out, Nat.le_refl _, by rw [List.drop_eq_nil_of_le (by rw [Hl.out]; omega)]; simp, by rw [← hdw]; exact hrow, hk, hb⟩
      case round =>
        clear hrow hk hb hdw
        obtain ⟨jj, J, rfl, hJ, hjm, hall, hrow, hk, hb⟩ := hrel
        have HJ := Lib.hid hJ
        have Hall := Lib.hid hall
        clear hall
        by_cases hj0 : 0 < jj
        · have i2 : a < J := by rw [Ha.out, HJ.out]; omega
          have i2' : (a : Int) < (J : Int) := by omega
          have i3 : J < n := by have := Hn2.out; omega
          have i3' : (J : Int) < (n : Int) := by omega
          have i4 : (0 : Int) ≤ (J : Int) := by omega
          have i5 : (0 : Int) ≤ (J : Int) - 1 := by omega
          have i6 : (J : Int) - 1 < (n : Int) := by omega
          have i8 : (1 : Int) ≤ (J : Int) := by omega
          have i7 : ((J : Int) - 1).toNat = J - 1 := by omega
          have hw1 : IntKind.i64.wrap ((J : Int) - 1) = (J : Int) - 1 := IntWalk.i64_in _ ⟨by omega, by omega⟩
          have ad0 : (⟨g, 0, none⟩ : Addr).add J = ⟨g, J, none⟩ := by rw [add_flat, Nat.zero_add]
          have ad1 : (⟨g, 0, none⟩ : Addr).add (J - 1) = ⟨g, J - 1, none⟩ := by rw [add_flat, Nat.zero_add]
          obtain ⟨s, hs⟩ : ∃ s, (Route.sorted lt (M.take m))[jj - 1]? = some s := ⟨_, List.getElem?_eq_getElem (by rw [Hl.out]; omega)⟩
          have hwl := way_length lt (pre := pre) (post := post) (e := e) hlt hjm
          rw [Hn.out] at hwl
          have g0 := way_get lt (pre := pre) (post := post) (e := e) (by rw [Hl.out]; exact hjm)
          have g1 := way_before lt (pre := pre) (post := post) (e := e) hj0 hs
          rw [← hJ] at g0 g1
          have q0 := row_iv hrow g0
          have q1 := row_iv hrow g1
          have hin : e ∈ pre ++ (M ++ post) := by simp [List.mem_of_getElem? He.out]
          have his : s ∈ pre ++ (M ++ post) := by
            have := (Route.sorted_mem lt (M.take m) s).1 (List.mem_of_getElem? hs)
            simp [List.mem_of_mem_take this]
          have Hs := Lib.hid hs
          have G0 := Lib.hid g0
          have G1 := Lib.hid g1
          have Hin := Lib.hid (And.intro hin his)
          clear hs hin his g0 g1 hJ
          go_wp2
          refine wp_region_noPanic ?_
          refine wp_region_held_drew (S := fun w' => w'.cell? ⟨g, J, none⟩ = some (.int .i64 e) ∧ w'.cell? ⟨g, J - 1, none⟩ = some (.int .i64 s)) (by kernel_rfl) ?_ (fun hH => ?_)
          · exact ⟨q0, q1⟩
          refine Reg.take (i := 0) (u := ?iav0) rfl rfl rfl (by kernel_rfl) (by kernel_rfl) (by kernel_rfl) hH ?iay0 ?iar0
          case iay0 => (intro w hSw; (try dsimp only at hSw); go_simp; try (with_reducible rfl))
          case' iar0 => simp only [List.setIfInBounds_toArray, List.set_cons_zero, List.set_cons_succ]
          refine Reg.take (i := 1) (u := ?iav1) rfl rfl rfl (by kernel_rfl) (by kernel_rfl) (by kernel_rfl) hH ?iay1 ?iar1
          case iay1 => (intro w hSw; (try dsimp only at hSw); go_simp; try (with_reducible rfl))
          case' iar1 => simp only [List.setIfInBounds_toArray, List.set_cons_zero, List.set_cons_succ]
          refine Reg.take (i := 2) (u := ?iav2) rfl rfl rfl (by kernel_rfl) (by kernel_rfl) (by kernel_rfl) hH ?iay2 ?iar2
          case iay2 => (intro w hSw; (try dsimp only at hSw); go_simp; try (with_reducible rfl))
          case' iar2 => simp only [List.setIfInBounds_toArray, List.set_cons_zero, List.set_cons_succ]
          refine Reg.take (i := 3) (u := ?iav3) rfl rfl rfl (by kernel_rfl) (by kernel_rfl) (by kernel_rfl) hH ?iay3 ?iar3
          case iay3 => (intro w hSw; (try dsimp only at hSw); go_simp; try (with_reducible rfl))
          case' iar3 => simp only [List.setIfInBounds_toArray, List.set_cons_zero, List.set_cons_succ]
          refine Reg.takeIf (i := 4) (u := ?iav4) rfl rfl rfl rfl rfl (by kernel_rfl) (by kernel_rfl) (by kernel_rfl) hH ?iay4 ?iar4
          case iay4 => (intro w hSw; (try dsimp only at hSw); go_simp; try (with_reducible rfl))
          case' iar4 => simp only [List.setIfInBounds_toArray, List.set_cons_zero, List.set_cons_succ]
          refine Reg.takeIf (i := 5) (u := ?iav5) rfl rfl rfl rfl rfl (by kernel_rfl) (by kernel_rfl) (by kernel_rfl) hH ?iay5 ?iar5
          case iay5 => (intro w hSw; (try dsimp only at hSw); go_simp; try (with_reducible rfl))
          case' iar5 => simp only [List.setIfInBounds_toArray, List.set_cons_zero, List.set_cons_succ]
          refine Reg.takeIf (i := 6) (u := ?iav6) rfl rfl rfl rfl rfl (by kernel_rfl) (by kernel_rfl) (by kernel_rfl) hH ?iay6 ?iar6
          case iay6 => (intro w hSw; (try dsimp only at hSw); go_simp; try (with_reducible rfl))
          case' iar6 => simp only [List.setIfInBounds_toArray, List.set_cons_zero, List.set_cons_succ]
          refine Reg.takeIf (i := 9) (u := ?iav9) rfl rfl rfl rfl rfl (by kernel_rfl) (by kernel_rfl) (by kernel_rfl) hH ?iay9 ?iar9
          case iay9 => (intro w hSw; (try dsimp only at hSw); go_simp; try (with_reducible rfl))
          case' iar9 => simp only [List.setIfInBounds_toArray, List.set_cons_zero, List.set_cons_succ]
          refine Reg.takeIf (i := 10) (u := ?iav10) rfl rfl rfl rfl rfl (by kernel_rfl) (by kernel_rfl) (by kernel_rfl) hH ?iay10 ?iar10
          case iay10 => (intro w hSw; (try dsimp only at hSw); go_simp; try (with_reducible rfl))
          case' iar10 => simp only [List.setIfInBounds_toArray, List.set_cons_zero, List.set_cons_succ]
          refine Reg.takeIf (i := 11) (u := ?iav11) rfl rfl rfl rfl rfl (by kernel_rfl) (by kernel_rfl) (by kernel_rfl) hH ?iay11 ?iar11
          case iay11 => (intro w hSw; (try dsimp only at hSw); go_simp; try (with_reducible rfl))
          case' iar11 => simp only [List.setIfInBounds_toArray, List.set_cons_zero, List.set_cons_succ]
          refine Reg.takeIf (i := 7) (u := ?iav7) rfl rfl rfl rfl rfl (by kernel_rfl) (by kernel_rfl) (by kernel_rfl) hH ?iay7 ?iar7
          case iay7 => (intro w hSw; (try dsimp only at hSw); go_simp; try (with_reducible rfl))
          case' iar7 => simp only [List.setIfInBounds_toArray, List.set_cons_zero, List.set_cons_succ]
          refine Reg.takeIf (i := 12) (u := ?iav12) rfl rfl rfl rfl rfl (by kernel_rfl) (by kernel_rfl) (by kernel_rfl) hH ?iay12 ?iar12
          case iay12 => (intro w hSw; (try dsimp only at hSw); go_simp; try (with_reducible rfl))
          case' iar12 => simp only [List.setIfInBounds_toArray, List.set_cons_zero, List.set_cons_succ]
          refine Reg.takeIf (i := 8) (u := ?iav8) rfl rfl rfl rfl rfl (by kernel_rfl) (by kernel_rfl) (by kernel_rfl) hH ?iay8 ?iar8
          case iay8 => (intro w hSw; (try dsimp only at hSw); go_simp; try (with_reducible rfl))
          case' iar8 => simp only [List.setIfInBounds_toArray, List.set_cons_zero, List.set_cons_succ]
          refine Reg.takeIf (i := 13) (u := ?iav13) rfl rfl rfl rfl rfl (by kernel_rfl) (by kernel_rfl) (by kernel_rfl) hH ?iay13 ?iar13
          case iay13 => (intro w hSw; (try dsimp only at hSw); go_simp; try (with_reducible rfl))
          case' iar13 => simp only [List.setIfInBounds_toArray, List.set_cons_zero, List.set_cons_succ]
          refine Reg.only (i := 14) rfl (Reg.wanted_hit rfl rfl rfl) (by kernel_rfl) (fun K hK => ?_)
          go_simp
          refine (hcmp e Hin.out.1 s Hin.out.2 wr.drew hk.drew hb.drew).mono ?_
          rintro e6 w6 ⟨v, rfl, hv, g6⟩
          go_simp
          have hk6 := hk.drew.below g6 (Nat.le_refl _)
          have hb6 : Below w0.heap.size w0 w6 := hb.drew.trans (g6.mono (by have := hb.size; exact this))
          have hrow6 : w6.heap[g]? = _ := (g6.block g (by have := hk.size; show g < wr.heap.size; omega)).trans hrow
          have c0 := row_iv hrow6 G0.out
          have c1 := row_iv hrow6 G1.out
          refine hK.out _ _ ⟨c0, c1⟩ (fun hH2 => ?_)
          clear hK hH q0 q1
          have hH := hH2; clear hH2
          try simp only [Act.put, List.setIfInBounds_toArray, List.set_cons_zero, List.set_cons_succ]
          refine Reg.takeIf (i := 15) (u := ?ibv15) rfl rfl rfl rfl rfl (by kernel_rfl) (by kernel_rfl) (by kernel_rfl) hH ?iby15 ?ibr15
          case iby15 => (intro w hSw; (try dsimp only at hSw); go_simp; try (with_reducible rfl))
          case' ibr15 => simp only [List.setIfInBounds_toArray, List.set_cons_zero, List.set_cons_succ]
          refine Reg.take (i := 16) (u := ?ibv16) rfl rfl rfl (by kernel_rfl) (by kernel_rfl) (by kernel_rfl) hH ?iby16 ?ibr16
          case iby16 => (intro w hSw; (try dsimp only at hSw); go_simp; try (with_reducible rfl))
          case' ibr16 => simp only [List.setIfInBounds_toArray, List.set_cons_zero, List.set_cons_succ]
          refine wpAnyH_done (by kernel_rfl) ?_ _
          refine NoPanic.normal ?_
          clear hv
          rcases hls : lt e s with _ | _
          · have HD := Lib.hid (way_done lt (pre := pre) (post := post) (jj := jj) He.out hjm Hall.out (.inr ⟨s, Hs.out, hls⟩))
            clear hls
            go_wp2
            refine ⟨⟨m + 1, I + 1, by go_num, by rw [HI.out]; omega, by omega, by omega, by rw [← HD.out]; exact hrow6, hk6, hb6⟩, by simp [intOf]; omega⟩
          · have Hls := Lib.hid hls
            have hwl6 := hwl
            have fz : ∀ j, w6.frozen? ⟨g, j, none⟩ = false := fun j => row_frozen hrow6 j
            have hrowA := set_row hrow6 J (.int .i64 s)
            have fzA : ∀ j, (w6.setCell ⟨g, J, none⟩ (.int .i64 s)).frozen? ⟨g, j, none⟩ = false := fun j => row_frozen hrowA j
            have cA : (w6.setCell ⟨g, J, none⟩ (.int .i64 s)).cell? ⟨g, J - 1, none⟩ = some (.int .i64 s) := by
              rw [row_cell hrowA, List.getElem?_set_ne (by omega), ← row_cell hrow6]; exact c1
            have hrowB := set_row hrowA (J - 1) (.int .i64 e)
            rw [show (Value.int .i64 s) = iv s from rfl, show (Value.int .i64 e) = iv e from rfl, set_iv _ _ _ _ (by rw [hwl]; exact i3), set_iv _ _ _ _ (by rw [List.length_set, hwl]; omega)] at hrowB
            have HRB := Lib.hid hrowB
            clear hls hrowB hwl hwl6
            go_wp2
            refine wp_region_noPanic ?_
            refine wp_region_held_drew (S := fun _ => True) (by kernel_rfl) trivial (fun hH => ?_)
            refine Reg.take (i := 0) (u := ?icv0) rfl rfl rfl (by kernel_rfl) (by kernel_rfl) (by kernel_rfl) hH ?icy0 ?icr0
            case icy0 => (intro w hSw; (try dsimp only at hSw); go_simp; try (with_reducible rfl))
            case' icr0 => simp only [List.setIfInBounds_toArray, List.set_cons_zero, List.set_cons_succ]
            refine Reg.take (i := 1) (u := ?icv1) rfl rfl rfl (by kernel_rfl) (by kernel_rfl) (by kernel_rfl) hH ?icy1 ?icr1
            case icy1 => (intro w hSw; (try dsimp only at hSw); go_simp; try (with_reducible rfl))
            case' icr1 => simp only [List.setIfInBounds_toArray, List.set_cons_zero, List.set_cons_succ]
            refine Reg.take (i := 5) (u := ?icv5) rfl rfl rfl (by kernel_rfl) (by kernel_rfl) (by kernel_rfl) hH ?icy5 ?icr5
            case icy5 => (intro w hSw; (try dsimp only at hSw); go_simp; try (with_reducible rfl))
            case' icr5 => simp only [List.setIfInBounds_toArray, List.set_cons_zero, List.set_cons_succ]
            refine Reg.take (i := 6) (u := ?icv6) rfl rfl rfl (by kernel_rfl) (by kernel_rfl) (by kernel_rfl) hH ?icy6 ?icr6
            case icy6 => (intro w hSw; (try dsimp only at hSw); go_simp; try (with_reducible rfl))
            case' icr6 => simp only [List.setIfInBounds_toArray, List.set_cons_zero, List.set_cons_succ]
            refine Reg.take (i := 7) (u := ?icv7) rfl rfl rfl (by kernel_rfl) (by kernel_rfl) (by kernel_rfl) hH ?icy7 ?icr7
            case icy7 => (intro w hSw; (try dsimp only at hSw); go_simp; try (with_reducible rfl))
            case' icr7 => simp only [List.setIfInBounds_toArray, List.set_cons_zero, List.set_cons_succ]
            refine Reg.take (i := 8) (u := ?icv8) rfl rfl rfl (by kernel_rfl) (by kernel_rfl) (by kernel_rfl) hH ?icy8 ?icr8
            case icy8 => (intro w hSw; (try dsimp only at hSw); go_simp; try (with_reducible rfl))
            case' icr8 => simp only [List.setIfInBounds_toArray, List.set_cons_zero, List.set_cons_succ]
            refine Reg.take (i := 10) (u := ?icv10) rfl rfl rfl (by kernel_rfl) (by kernel_rfl) (by kernel_rfl) hH ?icy10 ?icr10
            case icy10 => (intro w hSw; (try dsimp only at hSw); go_simp; try (with_reducible rfl))
            case' icr10 => simp only [List.setIfInBounds_toArray, List.set_cons_zero, List.set_cons_succ]
            refine Reg.take (i := 11) (u := ?icv11) rfl rfl rfl (by kernel_rfl) (by kernel_rfl) (by kernel_rfl) hH ?icy11 ?icr11
            case icy11 => (intro w hSw; (try dsimp only at hSw); go_simp; try (with_reducible rfl))
            case' icr11 => simp only [List.setIfInBounds_toArray, List.set_cons_zero, List.set_cons_succ]
            refine Reg.take (i := 12) (u := ?icv12) rfl rfl rfl (by kernel_rfl) (by kernel_rfl) (by kernel_rfl) hH ?icy12 ?icr12
            case icy12 => (intro w hSw; (try dsimp only at hSw); go_simp; try (with_reducible rfl))
            case' icr12 => simp only [List.setIfInBounds_toArray, List.set_cons_zero, List.set_cons_succ]
            refine Reg.take (i := 2) (u := ?icv2) rfl rfl rfl (by kernel_rfl) (by kernel_rfl) (by kernel_rfl) hH ?icy2 ?icr2
            case icy2 => (intro w hSw; (try dsimp only at hSw); go_simp; try (with_reducible rfl))
            case' icr2 => simp only [List.setIfInBounds_toArray, List.set_cons_zero, List.set_cons_succ]
            refine Reg.take (i := 3) (u := ?icv3) rfl rfl rfl (by kernel_rfl) (by kernel_rfl) (by kernel_rfl) hH ?icy3 ?icr3
            case icy3 => (intro w hSw; (try dsimp only at hSw); go_simp; try (with_reducible rfl))
            case' icr3 => simp only [List.setIfInBounds_toArray, List.set_cons_zero, List.set_cons_succ]
            refine Reg.take (i := 4) (u := ?icv4) rfl rfl rfl (by kernel_rfl) (by kernel_rfl) (by kernel_rfl) hH ?icy4 ?icr4
            case icy4 => (intro w hSw; (try dsimp only at hSw); go_simp; try (with_reducible rfl))
            case' icr4 => simp only [List.setIfInBounds_toArray, List.set_cons_zero, List.set_cons_succ]
            refine Reg.pair (i := 9) (j := 13) (u := .int .i64 s) (x := .int .i64 e) (w1 := w6.drew) rfl rfl rfl rfl rfl rfl (by kernel_rfl) (by kernel_rfl) (by kernel_rfl) trivial trivial (by decide) (by decide) ?icy1 ?icy2 ?icy3 ?icy4 ?icgo
            case icy1 => (go_simp; try (with_reducible rfl))
            case icy2 => (go_simp; try (with_reducible rfl))
            case icy3 => (go_simp; try (with_reducible rfl))
            case icy4 => (go_simp; try (with_reducible rfl))
            case' icgo => simp only [List.setIfInBounds_toArray, List.set_cons_zero, List.set_cons_succ]
            refine Reg.only (i := 14) rfl (Reg.wanted_free rfl) (by kernel_rfl) (fun K hK => ?_)
            go_simp
            refine hK.out _ _ trivial (fun hH2 => ?_)
            clear hK hH
            have hH := hH2; clear hH2
            try simp only [Act.put, List.setIfInBounds_toArray, List.set_cons_zero, List.set_cons_succ]
            refine Reg.only (i := 15) rfl (Reg.wanted_free rfl) (by kernel_rfl) (fun K hK => ?_)
            go_simp
            refine hK.out _ _ trivial (fun hH2 => ?_)
            clear hK hH
            have hH := hH2; clear hH2
            try simp only [Act.put, List.setIfInBounds_toArray, List.set_cons_zero, List.set_cons_succ]
            refine Reg.only (i := 16) rfl (Reg.wanted_free rfl) (by kernel_rfl) (fun K hK => ?_)
            go_simp
            refine hK.out _ _ trivial (fun hH2 => ?_)
            clear hK hH
            have hH := hH2; clear hH2
            try simp only [Act.put, List.setIfInBounds_toArray, List.set_cons_zero, List.set_cons_succ]
            refine Reg.only (i := 17) rfl (Reg.wanted_free rfl) (by kernel_rfl) (fun K hK => ?_)
            go_simp
            refine hK.out _ _ trivial (fun hH2 => ?_)
            clear hK hH
            have hH := hH2; clear hH2
            try simp only [Act.put, List.setIfInBounds_toArray, List.set_cons_zero, List.set_cons_succ]
            refine wpAnyH_done (by kernel_rfl) ?_ _
            refine NoPanic.normal ?_
            go_wp2
            have e1 : ((way lt pre M post m jj e).set J s).set (J - 1) e = way lt pre M post m (jj - 1) e := by rw [HJ.out]; exact way_swap lt hj0 Hs.out
            have hz := HRB.out
            rw [e1] at hz
            refine ⟨⟨jj - 1, J - 1, by first | go_num | (congr 1; omega), by rw [HJ.out]; omega, by omega, ?_, hz, ((hk6.setD J _).setD (J - 1) _).drew, ((hb6.setCell (p := ⟨g, J, none⟩) hg0 _).setCell (p := ⟨g, J - 1, none⟩) hg0 _).drew⟩, by simp [intOf]; omega⟩
            obtain ⟨y1, y2⟩ := List.getElem?_eq_some_iff.1 Hs.out
            rw [List.drop_eq_getElem_cons y1, y2, show jj - 1 + 1 = jj by omega]
            rintro x hx
            rcases List.mem_cons.1 hx with rfl | h
            · exact Hls.out
            · exact Hall.out x h
        · have hjz : jj = 0 := by omega
          have i2 : J = a := by rw [Ha.out, HJ.out]; omega
          have i2' : ¬ (a : Int) < (J : Int) := by omega
          have i2a : (J : Int) ≤ (a : Int) := by omega
          have i2b : ¬ a < J := by omega
          have i2c : J ≤ a := by omega
          have HD := Lib.hid (way_done lt (pre := pre) (post := post) (jj := jj) He.out hjm Hall.out (.inl hjz))
          clear i2 hJ
          go_wp2
          refine wp_region_noPanic ?_
          refine wp_region_held_drew (S := fun _ => True) (by kernel_rfl) ?_ (fun hH => ?_)
          · trivial
          refine Reg.take (i := 0) (u := ?b1_v0) rfl rfl rfl (by kernel_rfl) (by kernel_rfl) (by kernel_rfl) hH ?b1_y0 ?b1_r0
          case b1_y0 => (intro w hSw; (try dsimp only at hSw); go_simp; try (with_reducible rfl))
          case' b1_r0 => simp only [List.setIfInBounds_toArray, List.set_cons_zero, List.set_cons_succ]
          refine Reg.take (i := 1) (u := ?b1_v1) rfl rfl rfl (by kernel_rfl) (by kernel_rfl) (by kernel_rfl) hH ?b1_y1 ?b1_r1
          case b1_y1 => (intro w hSw; (try dsimp only at hSw); go_simp; try (with_reducible rfl))
          case' b1_r1 => simp only [List.setIfInBounds_toArray, List.set_cons_zero, List.set_cons_succ]
          refine Reg.take (i := 2) (u := ?b1_v2) rfl rfl rfl (by kernel_rfl) (by kernel_rfl) (by kernel_rfl) hH ?b1_y2 ?b1_r2
          case b1_y2 => (intro w hSw; (try dsimp only at hSw); go_simp; try (with_reducible rfl))
          case' b1_r2 => simp only [List.setIfInBounds_toArray, List.set_cons_zero, List.set_cons_succ]
          refine Reg.take (i := 3) (u := ?b1_v3) rfl rfl rfl (by kernel_rfl) (by kernel_rfl) (by kernel_rfl) hH ?b1_y3 ?b1_r3
          case b1_y3 => (intro w hSw; (try dsimp only at hSw); go_simp; try (with_reducible rfl))
          case' b1_r3 => simp only [List.setIfInBounds_toArray, List.set_cons_zero, List.set_cons_succ]
          refine Reg.skip (i := 4) rfl rfl rfl rfl rfl (by first | exact Value.noConfusion | (intro h; cases h)) (by kernel_rfl) (by kernel_rfl) (by kernel_rfl) hH ?_
          simp only [List.setIfInBounds_toArray, List.set_cons_zero, List.set_cons_succ]
          refine Reg.skip (i := 5) rfl rfl rfl rfl rfl (by first | exact Value.noConfusion | (intro h; cases h)) (by kernel_rfl) (by kernel_rfl) (by kernel_rfl) hH ?_
          simp only [List.setIfInBounds_toArray, List.set_cons_zero, List.set_cons_succ]
          refine Reg.skip (i := 6) rfl rfl rfl rfl rfl (by first | exact Value.noConfusion | (intro h; cases h)) (by kernel_rfl) (by kernel_rfl) (by kernel_rfl) hH ?_
          simp only [List.setIfInBounds_toArray, List.set_cons_zero, List.set_cons_succ]
          refine Reg.skip (i := 7) rfl rfl rfl rfl rfl (by first | exact Value.noConfusion | (intro h; cases h)) (by kernel_rfl) (by kernel_rfl) (by kernel_rfl) hH ?_
          simp only [List.setIfInBounds_toArray, List.set_cons_zero, List.set_cons_succ]
          refine Reg.skip (i := 8) rfl rfl rfl rfl rfl (by first | exact Value.noConfusion | (intro h; cases h)) (by kernel_rfl) (by kernel_rfl) (by kernel_rfl) hH ?_
          simp only [List.setIfInBounds_toArray, List.set_cons_zero, List.set_cons_succ]
          refine Reg.skip (i := 9) rfl rfl rfl rfl rfl (by first | exact Value.noConfusion | (intro h; cases h)) (by kernel_rfl) (by kernel_rfl) (by kernel_rfl) hH ?_
          simp only [List.setIfInBounds_toArray, List.set_cons_zero, List.set_cons_succ]
          refine Reg.skip (i := 10) rfl rfl rfl rfl rfl (by first | exact Value.noConfusion | (intro h; cases h)) (by kernel_rfl) (by kernel_rfl) (by kernel_rfl) hH ?_
          simp only [List.setIfInBounds_toArray, List.set_cons_zero, List.set_cons_succ]
          refine Reg.skip (i := 11) rfl rfl rfl rfl rfl (by first | exact Value.noConfusion | (intro h; cases h)) (by kernel_rfl) (by kernel_rfl) (by kernel_rfl) hH ?_
          simp only [List.setIfInBounds_toArray, List.set_cons_zero, List.set_cons_succ]
          refine Reg.skip (i := 12) rfl rfl rfl rfl rfl (by first | exact Value.noConfusion | (intro h; cases h)) (by kernel_rfl) (by kernel_rfl) (by kernel_rfl) hH ?_
          simp only [List.setIfInBounds_toArray, List.set_cons_zero, List.set_cons_succ]
          refine Reg.skip (i := 13) rfl rfl rfl rfl rfl (by first | exact Value.noConfusion | (intro h; cases h)) (by kernel_rfl) (by kernel_rfl) (by kernel_rfl) hH ?_
          simp only [List.setIfInBounds_toArray, List.set_cons_zero, List.set_cons_succ]
          refine Reg.onlySkip (i := 14) rfl rfl rfl rfl rfl (by first | exact Value.noConfusion | (intro h; cases h)) (by kernel_rfl) hH ?_
          simp only [List.setIfInBounds_toArray, List.set_cons_zero, List.set_cons_succ]
          refine Reg.skip (i := 15) rfl rfl rfl rfl rfl (by first | exact Value.noConfusion | (intro h; cases h)) (by kernel_rfl) (by kernel_rfl) (by kernel_rfl) hH ?_
          simp only [List.setIfInBounds_toArray, List.set_cons_zero, List.set_cons_succ]
          refine Reg.take (i := 16) (u := ?b1_v16) rfl rfl rfl (by kernel_rfl) (by kernel_rfl) (by kernel_rfl) hH ?b1_y16 ?b1_r16
          case b1_y16 => (intro w hSw; (try dsimp only at hSw); go_simp; try (with_reducible rfl))
          case' b1_r16 => simp only [List.setIfInBounds_toArray, List.set_cons_zero, List.set_cons_succ]
          refine wpAnyH_done (by kernel_rfl) ?_ _
          refine NoPanic.normal ?_
          go_wp2
          refine ⟨⟨m + 1, I + 1, by go_num, by rw [HI.out]; omega, by omega, by omega, by rw [← HD.out]; exact hrow, hk.drew, hb.drew⟩, by simp [intOf]; omega⟩
    · have hmM : M.length ≤ m := by omega
      have hIb : ¬ I < b := by rw [HI.out, Hb.out]; omega
      have hIb' : (b : Int) ≤ (I : Int) := by omega
      have hdone : done lt pre M post m = pre ++ (Route.sorted lt M ++ post) := by
        unfold done
        rw [List.take_of_length_le hmM, List.drop_eq_nil_of_le hmM]; rfl
      rw [hdone] at hrow
      clear hdone
      go_wp2
      go_end0
      exact ⟨⟨_, rfl⟩, hrow, hk, hb⟩

end Go.Proofs.Ytefilalapkdegaa
