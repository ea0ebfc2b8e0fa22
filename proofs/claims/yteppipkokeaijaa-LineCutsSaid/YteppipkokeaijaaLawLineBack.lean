/- The law LineBack, walked. -/
import Derived.Test.YteppipkokeaijaaLawLineSplits
import Derived.Test.YteppipkokeaijaaKitNum
import Derived.Test.YteppipkokeaijaaReg
namespace Go.Proofs.Yteppipkokeaijaa
open Go.RowKit Str Mem
attribute [local go_sem] Oper.semAt_some
set_option linter.unusedVariables false
set_option linter.unusedSimpArgs false

def baseT : List UInt8 := [9, 71, 69, 84, 32, 47, 32, 97, 58, 32, 98, 255, 1, 120]
def madeL (n : Int) : List UInt8 × Bool := (baseT.take (n % 14).toNat, true)
def madeLs (l : List Int) : List (List UInt8 × Bool) := (l.take 20).map madeL
theorem madeL_len (n : Int) : (madeL n).1.length ≤ 13 := by
  have := Int.emod_lt_of_pos n (show (0 : Int) < 14 by omega)
  unfold madeL
  rw [List.length_take]
  simp only [baseT, List.length_cons, List.length_nil]
  omega
theorem madeL_ok (n : Int) : (madeL n).1.contains 10 = false ∧ Ln.clean (madeL n).1 = true ∧ okL (madeL n) = true := by
  have h1 := Int.emod_lt_of_pos n (show (0 : Int) < 14 by omega)
  have h2 := Int.emod_nonneg n (show (14 : Int) ≠ 0 by omega)
  obtain ⟨k, hk⟩ : ∃ k : Nat, (n % 14).toNat = k := ⟨_, rfl⟩
  unfold madeL
  rw [hk]
  have : k < 14 := by omega
  clear hk h1 h2
  have : ∀ k : Fin 14, (baseT.take k.val).contains 10 = false ∧ Ln.clean (baseT.take k.val) = true ∧ okL (baseT.take k.val, true) = true := by decide
  exact this ⟨k, by omega⟩
theorem madeLs_mem {l : List Int} {x : List UInt8 × Bool} (h : x ∈ madeLs l) : x.1.length ≤ 13 ∧ x.1.contains 10 = false ∧ Ln.clean x.1 = true ∧ okL x = true ∧ x = (x.1, true) := by
  obtain ⟨n, _, rfl⟩ := List.mem_map.1 h
  exact ⟨madeL_len n, (madeL_ok n).1, (madeL_ok n).2.1, (madeL_ok n).2.2, rfl⟩
theorem madeLs_len (l : List Int) : (madeLs l).length ≤ 20 := by unfold madeLs; simp; omega
theorem madeLs_succ {l : List Int} {k : Nat} {n : Int} (hk : k < 20) (h : l[k]? = some n) : madeLs (l.take (k + 1)) = madeLs (l.take k) ++ [madeL n] := by
  unfold madeLs
  rw [List.take_take, List.take_take, Nat.min_eq_right (by omega), Nat.min_eq_right (by omega), List.take_add_one, h]
  simp
theorem madeLs_take (l : List Int) {k : Nat} (hk : l.length ≤ k ∨ 20 ≤ k) : madeLs (l.take k) = madeLs l := by
  unfold madeLs
  rw [List.take_take]
  by_cases h : 20 ≤ k
  · rw [Nat.min_eq_left h]
  · rw [Nat.min_eq_right (by omega), List.take_of_length_le (by omega), List.take_of_length_le (by omega)]

set_option maxRecDepth 100000 in
set_option maxHeartbeats 4000000 in
theorem made_any (a : Option Addr) (c : Nat) (l : List Int) (w : World) (hI : Ints w a l.length l) (hn : l.length ≤ maxLen) :
    Calls Try.prog 27 #[.slice a l.length c] w fun e w' => ∃ v, e = .returned v ∧ OwnLines w' w.heap.size v (madeLs l) ∧ Below w.heap.size w w' := by
  unfold maxLen at hn
  obtain ⟨i0, hi, hz0, hz1, hz2⟩ := info_parts infoLine
  have hmod := fun n W => kitMod_any n 14 W (by omega) (by omega)
  obtain ⟨P, hP⟩ : ∃ P : Ending → World → Prop, P = fun e w' => ∃ v, e = .returned v ∧ OwnLines w' w.heap.size v (madeLs l) ∧ Below w.heap.size w w' := ⟨_, rfl⟩
  have HP := Lib.hid hP
  rw [← hP]
  clear hP
  go_enter Try.func27, Try.ntmps27
  go_wp2_with fail
  go_loopg [3, 4] 20 (fun g v i wr => ∃ k : Nat, i = .int .i64 k ∧ k + g = 20 ∧ k ≤ l.length ∧ OwnLines wr w.heap.size v (madeLs (l.take k)) ∧ Below w.heap.size w wr)
  case atStart => exact ⟨0, rfl, by omega, by omega, Owns.nil _ _ _ _, Below.refl _ _⟩
  case round =>
    obtain ⟨k, rfl, hk, hkl, hO, hb⟩ := hrel
    by_cases hlt : k < l.length ∧ k < 20
    · obtain ⟨h1, h2⟩ := hlt
      obtain ⟨g', rfl⟩ : ∃ g', gk = g' + 1 := ⟨gk - 1, by omega⟩
      obtain ⟨ad, n, rfl, hbb, hls, hcell⟩ := hI.get h1
      have hcw : wr.cell? (ad.add k) = some (.int .i64 n) := by rw [← hcell]; exact World.cell?_of_block (w := w) (hb.block _ (by rw [add_block]; exact hbb))
      have HS := Lib.hid (madeLs_succ h2 hls)
      have hml := madeLs_len (l.take k)
      have m1 := Int.emod_lt_of_pos n (show (0 : Int) < 14 by omega)
      have m2 := Int.emod_nonneg n (show (14 : Int) ≠ 0 by omega)
      have hg := fun W => good_any (madeL n).1 W
      have hex : ∀ b, (ByteArray.extract ⟨#[9, 71, 69, 84, 32, 47, 32, 97, 58, 32, 98, 255, 1, 120]⟩ 0 (n % 14).toNat) = b → b = bs (madeL n).1 := by
        rintro b rfl
        refine eq_of_data ?_
        rw [extract_to]; rfl
      have i1 : (k : Int) < (l.length : Int) := by omega
      have i2 : (0 : Int) ≤ (k : Int) := by omega
      have i3 : (k : Int) < 20 := by omega
      have HO := Lib.hid hO
      have HE := Lib.hid hex
      clear hls hO hex hcell
      go_wp2_with fail
      refine (hmod _ _).mono ?_
      rintro e w1 ⟨rfl, rfl⟩
      go_wp2_with fail
      rw [HE.out _ rfl]
      refine (hg _).mono ?_
      rintro e w2 ⟨rfl, h2⟩
      have HO2 := HO.out.below h2 (Nat.le_refl _)
      have hb2 := hb.trans (h2.mono hb.size)
      unfold lineV
      have hsz := hb2.size
      go_wp2_with (at_builtin; go_must (refine wpList_append_owns _ rfl _ _ 30 rfl w.heap.size 36 i0 (.agg #[.string ⟨#[]⟩, .bool false]) 2 24 Try.underlying30 hi hz0 hz1 hz2 rfl (by decide) _ _ _ rfl (HO2.alloc _) _ 1 1 [.string (bs (madeL n).1), .bool true] rfl (Rd.pair_at _ _ _ _ _ rfl) (by simp [Value.oneCell']) (by simp only [maxLen]; omega) (by omega) (by simp; omega) ?_); intro v' w4 hown' hgrow)
      have hK : Below w.heap.size w w4 := (hb2.alloc hb2.size _).grown hgrow (by have := hb2.size; simp; omega) (fun k hk => (HO2.lt k hk).1)
      have hO3 : OwnLines w4 w.heap.size v' (madeLs (l.take (k + 1))) := by
        rw [HS.out]
        unfold OwnLines
        rw [lineCells_append, List.length_append]
        exact hown'
      have HO3 := Lib.hid hO3
      clear hown' hgrow hO3
      go_roundg g'
      case measure => omega
      case rel => exact ⟨k + 1, by go_num, by omega, by omega, HO3.out, hK⟩
    · rw [madeLs_take l (by omega)] at hO
      have HO := Lib.hid hO
      clear hO
      by_cases h1 : k < l.length
      · have i1 : (k : Int) < (l.length : Int) := by omega
        have i2 : ¬ (k : Int) < 20 := by omega
        go_wp2_with fail
        rw [HP.out]
        exact ⟨_, rfl, HO.out, hb⟩
      · have i1 : ¬ (k : Int) < (l.length : Int) := by omega
        go_wp2_with fail
        rw [HP.out]
        exact ⟨_, rfl, HO.out, hb⟩

def restT : List UInt8 := [117, 110, 102, 105, 110, 105, 115, 104, 101, 100]
theorem restT_ok (n : Int) : (restT.take (n % 11).toNat).contains 10 = false ∧ (restT.take (n % 11).toNat).length ≤ 10 := by
  have h1 := Int.emod_lt_of_pos n (show (0 : Int) < 11 by omega)
  have h2 := Int.emod_nonneg n (show (11 : Int) ≠ 0 by omega)
  obtain ⟨k, hk⟩ : ∃ k : Nat, (n % 11).toNat = k := ⟨_, rfl⟩
  rw [hk]
  have : k < 11 := by omega
  clear hk h1 h2
  have : ∀ k : Fin 11, (restT.take k.val).contains 10 = false ∧ (restT.take k.val).length ≤ 10 := by decide
  exact this ⟨k, by omega⟩
theorem back_split (L : List (List UInt8 × Bool)) (last : List UInt8) (m : Nat) (h1 : 1 ≤ m) (h2 : m ≤ 1536) (hl : last.length ≤ m) (hln : last.contains 10 = false) (hL : ∀ x ∈ L, x.1.length + 1 ≤ m ∧ x.1.contains 10 = false ∧ Ln.clean x.1 = true ∧ x = (x.1, true)) :
    splitR (m : Int) (joinT L ++ last) = ⟨L, bs last, 0⟩ := by
  have e : Ln.feed m [] (joinT L ++ last) = ((last, false), L) := by
    have := Ln.feed_joined (lim := m) last hl hln (L.map (·.1)) (fun x hx => by
      obtain ⟨y, hy, rfl⟩ := List.mem_map.1 hx
      exact ⟨(hL y hy).1, (hL y hy).2.1, (hL y hy).2.2.1⟩)
    rw [List.map_map, List.map_map] at this
    have e2 : L.map ((fun x => (x, true)) ∘ (·.1)) = L := by
      conv => rhs; rw [← List.map_id L]
      exact List.map_congr_left (fun x hx => (hL x hx).2.2.2.symm)
    rw [e2] at this
    exact this
  have e0 : newR (m : Int) = ((m : Int), 0) := by unfold newR; rw [if_neg (by omega)]
  unfold splitR
  rw [e0, Int.toNat_natCast, e]
  rfl

set_option maxRecDepth 100000 in
set_option maxHeartbeats 4000000 in
theorem lawBack_any (a : Option Addr) (c : Nat) (l : List Int) (rest : Int) (w : World) (hI : Ints w a l.length l) (hn : l.length ≤ maxLen) :
    Calls Try.prog 7 #[.slice a l.length c, .int .i64 rest] w fun e w' => e = .returned (.bool true) ∧ Below w.heap.size w w' := by
  have hmade := fun W h => made_any a c l W h hn
  have hmem : ∀ x ∈ madeLs l, x.1.length ≤ 13 ∧ x.1.contains 10 = false ∧ Ln.clean x.1 = true ∧ okL x = true ∧ x = (x.1, true) := fun x hx => madeLs_mem hx
  have hlen := madeLs_len l
  obtain ⟨L, hL⟩ : ∃ L, madeLs l = L := ⟨_, rfl⟩
  rw [hL] at hmade hmem hlen
  have HM := Lib.hid hmem
  clear hL hmem
  have hmod := fun W => kitMod_any rest 11 W (by omega) (by omega)
  have m1 := Int.emod_lt_of_pos rest (show (0 : Int) < 11 by omega)
  have m2 := Int.emod_nonneg rest (show (11 : Int) ≠ 0 by omega)
  obtain ⟨hr1, hr2⟩ := restT_ok rest
  have hex : ∀ b, (ByteArray.extract ⟨#[117, 110, 102, 105, 110, 105, 115, 104, 101, 100]⟩ 0 (rest % 11).toNat) = b → b = bs (restT.take (rest % 11).toNat) := by
    rintro b rfl
    refine eq_of_data ?_
    rw [extract_to]; rfl
  have hll : (restT.take (rest % 11).toNat).length = min (rest % 11).toNat 10 := by rw [List.length_take]; rfl
  obtain ⟨last, hla⟩ : ∃ last, restT.take (rest % 11).toNat = last := ⟨_, rfl⟩
  rw [hla] at hr1 hr2 hex hll
  have HLL := Lib.hid hll
  have HR := Lib.hid hr1
  have HE := Lib.hid hex
  clear hla hr1 hex hll
  have hjv : joinV L = .tuple #[.string (bs (joinT L)), .int .i64 0] := by
    unfold joinV
    rw [if_pos (List.all_eq_true.2 fun x hx => (HM.out x hx).2.2.2.1)]
  have hjl := joinT_len L 13 (fun x hx => (HM.out x hx).1)
  go_enter Try.func7, Try.ntmps7
  go_wp2_with fail
  refine (hmade _ hI).mono ?_
  rintro e w1 ⟨v, rfl, hO, h1⟩
  obtain ⟨a1, c1, rfl, _, _, hL1⟩ := hO.form
  have hj := fun W h => join_any a1 c1 L W h (by omega) (fun x hx => Nat.le_trans (HM.out x hx).1 (by omega))
  rw [hjv] at hj
  clear hmade hjv hO
  go_wp2_with fail
  refine (hj _ hL1).mono ?_
  rintro e w2 ⟨rfl, h2⟩
  have hL2 := Rd.below hL1 h2
  have b2 := h1.trans (h2.mono h1.size)
  clear hj hL1 h1 h2
  go_wp2_with fail
  refine (hmod _).mono ?_
  rintro e w3 ⟨rfl, rfl⟩
  have hlz : (bs last).size = last.length := size_bs last
  go_wp2_with fail
  rw [HE.out _ rfl]
  go_wp2_with fail
  go_loopg [9, 10] L.length (fun g s9 s10 wr => ∃ (k m : Nat), s10 = .int .i64 k ∧ k + g = L.length ∧ s9 = .int .i64 m ∧ 1 ≤ m ∧ m ≤ 14 ∧ last.length ≤ m ∧ (∀ j x, j < k → L[j]? = some x → x.1.length + 1 ≤ m) ∧ wr = w2)
  case atStart =>
    refine ⟨0, max 1 last.length, rfl, by omega, ?_, by omega, by omega, by omega, fun j x hj => by omega, rfl⟩
    congr 1
    have := HLL.out
    omega
  case round =>
    obtain ⟨k, m, rfl, hk, rfl, q1, q2, q3, hsm, rfl⟩ := hrel
    have HS := Lib.hid hsm
    clear hsm
    by_cases hlt : k < L.length
    · obtain ⟨g', rfl⟩ : ∃ g', gk = g' + 1 := ⟨gk - 1, by omega⟩
      obtain ⟨x, hx⟩ : ∃ x, L[k]? = some x := ⟨_, List.getElem?_eq_getElem hlt⟩
      obtain ⟨ad, rfl, hadb, g0, g1⟩ := Lines.get hL2 k x hx
      have hx13 := (HM.out x (List.mem_of_getElem? hx)).1
      have HX := Lib.hid hx
      have hxz : (bs x.1).size = x.1.length := size_bs _
      clear hx g1
      have i0 : (0 : Int) ≤ (k : Int) := by omega
      have i1 : (k : Int) < (L.length : Int) := by omega
      go_wp2_with fail
      go_roundg g'
      case measure => omega
      case rel =>
        refine ⟨k + 1, max m (x.1.length + 1), by go_num, by omega, ?_, by omega, by omega, by omega, fun j y hj hy => ?_, rfl⟩
        · first | rfl | (congr 1; omega)
        · rcases Nat.lt_or_ge j k with h | h
          · have := HS.out j y h hy
            omega
          · obtain rfl : j = k := by omega
            have := HX.out
            rw [this] at hy; cases hy; omega
    · obtain rfl : k = L.length := by omega
      have hbk := back_split L last m q1 (by omega) q3 HR.out (fun x hx => by
        obtain ⟨j, hj⟩ := List.mem_iff_getElem?.1 hx
        obtain ⟨_, y2, y3, _, y5⟩ := HM.out x hx
        exact ⟨HS.out j x (List.getElem?_eq_some_iff.1 hj).1 hj, y2, y3, y5⟩)
      have hsp := fun W => (split_any (joinT L ++ last) (m : Int) W (by rw [List.length_append]; omega)).mono (fun e w' h => split_u h)
      rw [hbk] at hsp
      have hcat : bs (joinT L) ++ bs last = bs (joinT L ++ last) := bs_append _ _
      have hjs : (bs (joinT L)).size ≤ 1000 := by rw [size_bs]; omega
      clear hbk
      go_wp2_with fail
      refine (hsp _).mono ?_
      rintro e w3 ⟨a3, c3, rfl, hL3, h3⟩
      have b3 := b2.trans (h3.mono b2.size)
      have hL4 := Rd.below hL2 h3
      clear hsp hcat
      go_wp2_with fail
      refine (sameLines_any _ _ _ _ L _ hL3 hL4 (by omega)).mono ?_
      rintro e w4 ⟨rfl, nq, rfl⟩
      have b4 := below_drewN b3 nq
      go_wp2_with fail
      refine (awake07_any _).mono ?_
      rintro e w5 ⟨rfl, g5⟩
      go_wp2_with fail
      go_ret
      exact ⟨rfl, b4.trans (g5.mono b4.size)⟩
end Go.Proofs.Yteppipkokeaijaa
