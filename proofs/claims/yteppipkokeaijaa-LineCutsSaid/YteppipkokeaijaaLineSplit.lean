/- SameLines; Split, both. -/
import Derived.Test.YteppipkokeaijaaLineRefFeed
import Derived.Deep.QuietTactic
import Derived.BigQuiet
namespace Go.Proofs.Yteppipkokeaijaa
open Go.RowKit Str Mem
set_option linter.unusedVariables false
set_option linter.unusedSimpArgs false

/-- A slice that reads as a list of lines. -/
def Lines (w : World) (a : Option Addr) (n : Nat) (L : List (List UInt8 × Bool)) : Prop := Rd w 2 a n (lineCells L)
theorem OwnLines.form {w : World} {base : Nat} {v : Value} {L : List (List UInt8 × Bool)} (h : OwnLines w base v L) : ∃ a c, v = .slice a L.length c ∧ L.length ≤ c ∧ c ≤ maxLen ∧ Lines w a L.length L := Owns.form h

theorem lineCells_get : ∀ (L : List (List UInt8 × Bool)) (k : Nat) (x : List UInt8 × Bool), L[k]? = some x → (lineCells L)[k * 2]? = some (.string (bs x.1)) ∧ (lineCells L)[k * 2 + 1]? = some (.bool x.2)
  | [], k, x, h => by simp at h
  | y :: L, 0, x, h => by
    simp at h; subst h
    exact ⟨rfl, rfl⟩
  | y :: L, k + 1, x, h => by
    have := lineCells_get L k x (by simpa using h)
    have e : lineCells (y :: L) = [.string (bs y.1), .bool y.2] ++ lineCells L := rfl
    rw [e]
    refine ⟨?_, ?_⟩
    · rw [List.getElem?_append_right (by simp; omega)]
      have e2 : (k + 1) * 2 - [Value.string (bs y.1), Value.bool y.2].length = k * 2 := by simp; omega
      rw [e2]; exact this.1
    · rw [List.getElem?_append_right (by simp; omega)]
      have e2 : (k + 1) * 2 + 1 - [Value.string (bs y.1), Value.bool y.2].length = k * 2 + 1 := by simp; omega
      rw [e2]; exact this.2
theorem field1 {ad : Addr} (m : Nat) : (⟨(ad.add m).block, (ad.add m).off + 1, none⟩ : Addr) = ⟨ad.block, ad.off + m + 1, none⟩ := by
  unfold Addr.add; split <;> simp_all

theorem Lines.get {w : World} {a : Option Addr} {n : Nat} {L : List (List UInt8 × Bool)} (h : Lines w a n L) (k : Nat) (x : List UInt8 × Bool) (hk : L[k]? = some x) :
    ∃ ad : Addr, a = some ad ∧ ad.block < w.heap.size ∧ w.cell? (ad.add (k * 2)) = some (.string (bs x.1)) ∧ w.cell? ⟨(ad.add (k * 2)).block, (ad.add (k * 2)).off + 1, none⟩ = some (.bool x.2) := by
  obtain ⟨g0, g1⟩ := lineCells_get L k x hk
  have hn : L.length = n := by have := h.len; rw [lineCells_length] at this; omega
  have hlt : k < L.length := (List.getElem?_eq_some_iff.1 hk).1
  obtain ⟨ad, rfl, hb, hc⟩ := Rd.get h (by omega)
  refine ⟨ad, rfl, hb, hc _ _ g0, ?_⟩
  have := hc _ _ g1
  have e : (ad.add (k * 2 + 1) : Addr) = ⟨(ad.add (k * 2)).block, (ad.add (k * 2)).off + 1, none⟩ := by
    unfold Addr.add
    by_cases h0 : k * 2 = 0
    · have : k = 0 := by omega
      subst this
      simp
    · simp [h0, Nat.add_assoc]
  rwa [e] at this

theorem sameLines_any (a b : Option Addr) (c d : Nat) (L : List (List UInt8 × Bool)) (w : World) (hA : Lines w a L.length L) (hB : Lines w b L.length L) (hn : L.length ≤ 1000000) :
    Calls Try.prog 14 #[.slice a L.length c, .slice b L.length d] w fun e w' => e = .returned (.bool true) ∧ ∃ n, w' = w.drewN n := by
  go_enter Try.func14, Try.ntmps14
  go_wp2_with fail
  go_loopw [5] (fun i wr => ∃ k : Nat, i = .int .i64 k ∧ k ≤ L.length ∧ ∃ n, wr = w.drewN n) (fun i _ => L.length - (intOf i).toNat)
  case atStart => exact ⟨0, rfl, Nat.zero_le _, 0, rfl⟩
  case round =>
    obtain ⟨k, rfl, hk, n, rfl⟩ := hrel
    by_cases hlt : k < L.length
    · obtain ⟨x, hx⟩ : ∃ x, L[k]? = some x := ⟨_, List.getElem?_eq_getElem hlt⟩
      obtain ⟨ad, rfl, _, g0, g1⟩ := hA.get k x hx
      obtain ⟨bd, rfl, _, t0, t1⟩ := hB.get k x hx
      clear hx
      have i0 : (0 : Int) ≤ (k : Int) := by omega
      have i1 : (k : Int) < (L.length : Int) := by omega
      go_wp2
      go_quiet (fail)
      go_wp2
      go_roundw
      case rel => exact ⟨k + 1, by go_num, by omega, n + nq, by simp [World.drewN, Nat.add_assoc]⟩
      case measure => simp [intOf]; omega
    · obtain rfl : k = L.length := by omega
      go_wp2
      go_ret
      exact ⟨rfl, n, rfl⟩

/-- What Split returns. -/
def SplitPost (lim : Int) (s : List UInt8) (w : World) (e : Ending) (w' : World) : Prop :=
  Below w.heap.size w w' ∧ if (newR lim).2 ≠ 0 then e = .returned (.tuple #[.slice none 0 0, .string ⟨#[]⟩, .int .i64 2]) else
    if (Ln.feed lim.toNat [] s).1.2 = true then e = .returned (.tuple #[.slice none 0 0, .string ⟨#[]⟩, .int .i64 4])
    else ∃ v, e = .returned (.tuple #[v, .string (bs (Ln.feed lim.toNat [] s).1.1), .int .i64 0]) ∧ OwnLines w' w.heap.size v (Ln.feed lim.toNat [] s).2

theorem newR_ok {lim : Int} (h : (newR lim).2 = 0) : ∃ n : Nat, lim = n ∧ 1 ≤ n ∧ n ≤ 1536 ∧ newR lim = (lim, 0) := by
  unfold newR at *
  split at h
  · cases h
  · exact ⟨lim.toNat, by omega, by omega, by omega, by rw [if_neg (by omega)]⟩
theorem newR_bad {lim : Int} (h : (newR lim).2 ≠ 0) : newR lim = (0, 2) := by
  unfold newR at *
  split at h
  · rename_i h2; rw [if_pos h2]
  · exact absurd rfl h

set_option maxRecDepth 20000 in
set_option maxHeartbeats 1000000 in
theorem split_any (s : List UInt8) (lim : Int) (w : World) (hs : s.length ≤ 1000000) :
    Calls Try.prog 16 #[.string (bs s), .int .i64 lim] w fun e w' => SplitPost lim s w e w' := by
  have hn := fun W => new_any lim W
  obtain ⟨P, hP⟩ : ∃ P, P = SplitPost lim s w := ⟨_, rfl⟩
  have HP := Lib.hid hP
  rw [← hP]
  clear hP
  by_cases hK0 : (newR lim).2 = 0
  · obtain ⟨nl, rfl, hn1, hn2, hnr⟩ := newR_ok hK0
    rw [hnr] at hn
    unfold linesV at hn
    have hf := fun W => feed_any (nl : Int) [] s false W (by simp) hs
    unfold FeedPost at hf
    rw [refuse_nl hn1 hn2 (by simp) rfl] at hf
    simp only [if_true, Int.toNat_natCast] at hf
    have HK := Lib.hid hK0
    obtain ⟨F, hF⟩ : ∃ F, Ln.feed nl [] s = F := ⟨_, rfl⟩
    rw [hF] at hf
    have HF := Lib.hid hF
    clear hF hnr hK0
    obtain ⟨⟨U, g⟩, L⟩ := F
    unfold linesV at hf
    go_enter Try.func16, Try.ntmps16
    go_wp2_with fail
    refine (hn _).mono ?_
    rintro e w1 ⟨rfl, hb1⟩
    have hbl := hb1.alloc hb1.size (.cells #[.int .i64 (nl : Int), .string (bs ([] : List UInt8)), .bool false] 25)
    have hrow := World.alloc_heap_new w1 (.cells #[.int .i64 (nl : Int), .string (bs ([] : List UInt8)), .bool false] 25)
    have hsz := hb1.size
    clear hn hb1
    go_wp2_with fail
    refine (hf _).mono ?_
    rintro e w2 ⟨hb2, v, rfl, how⟩
    have hbl2 := hbl.trans (hb2.mono hbl.size)
    have hrow2 := (hb2.block _ (by simp)).trans hrow
    have c0 := cell_list hrow2 0
    have c1 := cell_list hrow2 1
    have c2 := cell_list hrow2 2
    have f0 := frozen_list hrow2
    simp only [List.getElem?_cons_zero, List.getElem?_cons_succ] at c0 c1 c2
    have hbl3 := set3_below hbl2 (show w.heap.size ≤ w1.heap.size from hsz) (.int .i64 (nl : Int)) (.string (bs U)) (.bool g)
    have how3 : Owns (set3 w2 w1.heap.size (.int .i64 (nl : Int)) (.string (bs U)) (.bool g)) (w1.alloc (.cells #[.int .i64 (nl : Int), .string (bs ([] : List UInt8)), .bool false] 25)).heap.size 36 2 v L.length (lineCells L) := ownsSetOld (ownsSetOld (ownsSetOld how (by simp) _) (by simp) _) (by simp) _
    unfold set3 at hbl3 how3
    have HB := Lib.hid hbl3
    have HO := Lib.hid how3
    clear hf hbl3 how3 hb2 hbl hbl2 how hrow hrow2
    rcases g with _ | _
    · go_wp2_with fail
      try go_quiet (fail)
      try go_wp2_with fail
      refine bodyPost_ret (v := .tuple #[v, .string (bs U), .int .i64 0]) (by simp [results, Try.results16, go_sem]) rfl ?_
      rw [HP.out]
      refine ⟨by first | exact HB.out | exact HB.out.drew | exact below_drewN HB.out _, ?_⟩
      rw [if_neg (by rw [HK.out]; simp), Int.toNat_natCast, HF.out]
      exact ⟨v, rfl, HO.out.mono (by simp; omega)⟩
    · go_wp2_with fail
      refine bodyPost_ret (v := .tuple #[.slice none 0 0, .string ⟨#[]⟩, .int .i64 4]) (by simp [results, Try.results16, go_sem]) rfl ?_
      rw [HP.out]
      refine ⟨HB.out, ?_⟩
      rw [if_neg (by rw [HK.out]; simp), Int.toNat_natCast, HF.out]
      rfl
  · have hnr := newR_bad hK0
    rw [hnr] at hn
    unfold linesV at hn
    have HK := Lib.hid hK0
    clear hK0 hnr
    go_enter Try.func16, Try.ntmps16
    go_wp2_with fail
    refine (hn _).mono ?_
    rintro e w1 ⟨rfl, hb1⟩
    go_wp2_with fail
    refine bodyPost_ret (v := .tuple #[.slice none 0 0, .string ⟨#[]⟩, .int .i64 2]) (by simp [results, Try.results16, go_sem]) rfl ?_
    rw [HP.out]
    refine ⟨hb1.alloc hb1.size _, ?_⟩
    rw [if_pos HK.out]

set_option maxRecDepth 20000 in
set_option maxHeartbeats 1000000 in
theorem refSplit_any (s : List UInt8) (lim : Int) (w : World) (hs : s.length ≤ 1000000) :
    Calls Try.prog 24 #[.string (bs s), .int .i64 lim] w fun e w' => SplitPost lim s w e w' := by
  have hn := fun W => refNew_any lim W
  obtain ⟨P, hP⟩ : ∃ P, P = SplitPost lim s w := ⟨_, rfl⟩
  have HP := Lib.hid hP
  rw [← hP]
  clear hP
  by_cases hK0 : (newR lim).2 = 0
  · obtain ⟨nl, rfl, hn1, hn2, hnr⟩ := newR_ok hK0
    rw [hnr] at hn
    unfold linesV at hn
    have hf := fun W => refFeed_any (nl : Int) [] s false W (by simp) hs
    unfold FeedPost at hf
    rw [refuse_nl hn1 hn2 (by simp) rfl] at hf
    simp only [if_true, Int.toNat_natCast] at hf
    have HK := Lib.hid hK0
    obtain ⟨F, hF⟩ : ∃ F, Ln.feed nl [] s = F := ⟨_, rfl⟩
    rw [hF] at hf
    have HF := Lib.hid hF
    clear hF hnr hK0
    obtain ⟨⟨U, g⟩, L⟩ := F
    unfold linesV at hf
    go_enter Try.func24, Try.ntmps24
    go_wp2_with fail
    refine (hn _).mono ?_
    rintro e w1 ⟨rfl, hb1⟩
    have hbl := hb1.alloc hb1.size (.cells #[.int .i64 (nl : Int), .string (bs ([] : List UInt8)), .bool false] 25)
    have hrow := World.alloc_heap_new w1 (.cells #[.int .i64 (nl : Int), .string (bs ([] : List UInt8)), .bool false] 25)
    have hsz := hb1.size
    clear hn hb1
    go_wp2_with fail
    refine (hf _).mono ?_
    rintro e w2 ⟨hb2, v, rfl, how⟩
    have hbl2 := hbl.trans (hb2.mono hbl.size)
    have hrow2 := (hb2.block _ (by simp)).trans hrow
    have c0 := cell_list hrow2 0
    have c1 := cell_list hrow2 1
    have c2 := cell_list hrow2 2
    have f0 := frozen_list hrow2
    simp only [List.getElem?_cons_zero, List.getElem?_cons_succ] at c0 c1 c2
    have hbl3 := set3_below hbl2 (show w.heap.size ≤ w1.heap.size from hsz) (.int .i64 (nl : Int)) (.string (bs U)) (.bool g)
    have how3 : Owns (set3 w2 w1.heap.size (.int .i64 (nl : Int)) (.string (bs U)) (.bool g)) (w1.alloc (.cells #[.int .i64 (nl : Int), .string (bs ([] : List UInt8)), .bool false] 25)).heap.size 36 2 v L.length (lineCells L) := ownsSetOld (ownsSetOld (ownsSetOld how (by simp) _) (by simp) _) (by simp) _
    unfold set3 at hbl3 how3
    have HB := Lib.hid hbl3
    have HO := Lib.hid how3
    clear hf hbl3 how3 hb2 hbl hbl2 how hrow hrow2
    rcases g with _ | _
    · go_wp2_with fail
      try go_quiet (fail)
      try go_wp2_with fail
      refine bodyPost_ret (v := .tuple #[v, .string (bs U), .int .i64 0]) (by simp [results, Try.results24, go_sem]) rfl ?_
      rw [HP.out]
      refine ⟨by first | exact HB.out | exact HB.out.drew | exact below_drewN HB.out _, ?_⟩
      rw [if_neg (by rw [HK.out]; simp), Int.toNat_natCast, HF.out]
      exact ⟨v, rfl, HO.out.mono (by simp; omega)⟩
    · go_wp2_with fail
      refine bodyPost_ret (v := .tuple #[.slice none 0 0, .string ⟨#[]⟩, .int .i64 4]) (by simp [results, Try.results24, go_sem]) rfl ?_
      rw [HP.out]
      refine ⟨HB.out, ?_⟩
      rw [if_neg (by rw [HK.out]; simp), Int.toNat_natCast, HF.out]
      rfl
  · have hnr := newR_bad hK0
    rw [hnr] at hn
    unfold linesV at hn
    have HK := Lib.hid hK0
    clear hK0 hnr
    go_enter Try.func24, Try.ntmps24
    go_wp2_with fail
    refine (hn _).mono ?_
    rintro e w1 ⟨rfl, hb1⟩
    go_wp2_with fail
    refine bodyPost_ret (v := .tuple #[.slice none 0 0, .string ⟨#[]⟩, .int .i64 2]) (by simp [results, Try.results24, go_sem]) rfl ?_
    rw [HP.out]
    refine ⟨hb1.alloc hb1.size _, ?_⟩
    rw [if_pos HK.out]
end Go.Proofs.Yteppipkokeaijaa
