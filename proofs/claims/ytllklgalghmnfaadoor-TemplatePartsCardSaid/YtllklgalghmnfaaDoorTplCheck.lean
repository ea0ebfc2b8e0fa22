/- template.Check: the error of parts. -/
import Derived.Test.YtllklgalghmnfaaDoorTplText
namespace Go.Proofs.YtllklgalghmnfaaDoor
open Go.RowKit Str Mem Tp
set_option linter.unusedVariables false
set_option linter.unusedSimpArgs false

/-- Is the last of the first k parts a literal? -/
def prevLit (L : List Part) (k : Nat) : Bool := match (L.take k).getLast? with
  | some q => q.k == 1
  | none => false
theorem prevLit_next (L : List Part) (k : Nat) (x : Part) (h : L[k]? = some x) : prevLit L (k + 1) = (x.k == 1) := by
  unfold prevLit
  rw [List.take_add_one, h, Option.toList_some, List.getLast?_concat]
theorem last_prev (ad : Addr) (L : List Part) (k : Nat) : ∃ pt, lastV (some ad) (L.take k) = .pointer (if prevLit L k = true then some pt else none) := by
  unfold lastV prevLit
  rcases (L.take k).getLast? with _ | q
  · exact ⟨ad, rfl⟩
  · by_cases hq : q.k = 1
    · exact ⟨_, by simp [hq]; rfl⟩
    · exact ⟨ad, by simp [hq]⟩
theorem checkTo_next (L : List Part) (k : Nat) (x : Part) (h : L[k]? = some x) : checkTo (L.drop k) (prevLit L k) = if oneE x ≠ 0 then oneE x else if x.k = 1 ∧ prevLit L k = true then 3 else checkTo (L.drop (k + 1)) (prevLit L (k + 1)) := by
  obtain ⟨hlt, hx⟩ := List.getElem?_eq_some_iff.1 h
  rw [List.drop_eq_getElem_cons hlt, checkTo, hx, prevLit_next L k x h]
theorem one_fit (p : Part) (h : oneE p = 0) (ht : p.t.length ≤ 100000) : fitW p := by
  unfold oneE at h
  split at h
  · cases h
  · split at h
    · cases h
    · rename_i h1 h2
      refine ⟨ht, fun hk => ?_, fun hk => ?_⟩
      · rcases hk with hk | hk <;> simp [lowR, highR, hk] at h2 <;> omega
      · simp [lowR, highR, hk] at h2; omega
theorem partCells_take (L : List Part) (k : Nat) (h : k ≤ L.length) : partCells (L.take k) = (partCells L).take (k * 3) := by
  have e : partCells L = partCells (L.take k) ++ partCells (L.drop k) := by rw [← partCells_append, List.take_append_drop]
  have hl : (partCells (L.take k)).length = k * 3 := by rw [partCells_len, List.length_take, Nat.min_eq_left h]
  have t : ((partCells (L.take k) ++ partCells (L.drop k)).take (k * 3)) = partCells (L.take k) := by
    rw [List.take_append_of_le_length (by omega), List.take_of_length_le (by omega)]
  rw [← e] at t
  exact t.symm

set_option maxRecDepth 100000 in
set_option maxHeartbeats 4000000 in
theorem check_any (a : Option Addr) (c : Nat) (L : List Part) (w : World) (hP : Parts w a L.length L) (hn : L.length ≤ 100000) (hc : L.length ≤ c) (hcm : c ≤ maxLen) (ht : ∀ p ∈ L, p.t.length ≤ 100000) (hN : Nm w) :
    Calls Tryd.prog 24 #[.slice a L.length c] w fun e w' => e = .returned (.int .i64 (checkR L)) ∧ Below w.heap.size w w' := by
  obtain ⟨V, hV⟩ : ∃ V, checkR L = V := ⟨_, rfl⟩
  rw [hV]
  have HV := Lib.hid hV
  clear hV
  unfold maxLen at hcm
  have HT := Lib.hid ht
  clear ht
  go_enter Tryd.func24, Tryd.ntmps24
  go_wp2_with fail
  go_loopg [8] L.length (fun g i wr => ∃ k : Nat, i = .int .i64 k ∧ k + g = L.length ∧ checkTo L false = checkTo (L.drop k) (prevLit L k) ∧ (∀ j x, j < k → L[j]? = some x → oneE x = 0) ∧ Below w.heap.size w wr)
  case atStart => exact ⟨0, rfl, by omega, rfl, fun j x h => by omega, Below.refl _ _⟩
  case round =>
    obtain ⟨k, rfl, hk, hct, hall, hbl⟩ := hrel
    have HCT := Lib.hid hct
    have HALL := Lib.hid hall
    clear hct hall
    by_cases hlt : k < L.length
    · obtain ⟨g', rfl⟩ : ∃ g', gk = g' + 1 := ⟨gk - 1, by omega⟩
      obtain ⟨x, hx⟩ : ∃ x, L[k]? = some x := ⟨_, List.getElem?_eq_getElem hlt⟩
      have hPr : Parts wr a L.length L := Rd.keep hP hbl.size (fun _ _ _ h => hbl.block _ h)
      obtain ⟨ad, rfl, had, g0, g1, g2⟩ := Parts.get (L := L) hPr k x hx
      obtain ⟨pt, hpt⟩ := last_prev ad L k
      have hPt : Parts wr (some ad) (L.take k).length (L.take k) := by
        unfold Parts
        rw [partCells_take L k (by omega), List.length_take, Nat.min_eq_left (by omega)]
        exact Rd.take hPr (by omega)
      have hla := fun W (h : Parts W (some ad) (L.take k).length (L.take k)) => last_any (some ad) c (L.take k) W h (by rw [List.length_take]; omega)
      rw [hpt] at hla
      rw [List.length_take, Nat.min_eq_left (by omega)] at hla hPt
      have ho := fun W => one_any x W
      have hli := fun W => literal_any x W
      unfold pv at ho hli
      have hnx := Lib.hid (checkTo_next L k x hx)
      have HX := Lib.hid hx
      have hrow := World.alloc_heap_new wr (.cells #[.int .i64 x.k, .string (bs x.t), .int .i64 x.n] 59)
      have hba := (Below.refl wr.heap.size wr).alloc (Nat.le_refl _) (.cells #[.int .i64 x.k, .string (bs x.t), .int .i64 x.n] 59)
      obtain ⟨E, hE⟩ : ∃ E, oneE x = E := ⟨_, rfl⟩
      rw [hE] at ho
      have HE := Lib.hid hE
      obtain ⟨pl, hpl⟩ : ∃ pl, prevLit L k = pl := ⟨_, rfl⟩
      rw [hpl] at hla
      have HPL := Lib.hid hpl
      have i0 : (0 : Int) ≤ (k : Int) := by omega
      have i1 : (k : Int) < (L.length : Int) := by omega
      have HPt := Lib.hid hPt
      have HPx := Lib.hid hP
      clear hx hE hpl hpt hPr hP hPt
      go_wp2_with fail
      refine (ho _).mono ?_
      rintro e w2 ⟨rfl, h2⟩
      have hb2 := hba.trans (h2.mono (by simp))
      have hrow2 := (h2.block _ (by simp)).trans hrow
      have c0 := cell_list (cs := [.int .i64 x.k, .string (bs x.t), .int .i64 x.n]) hrow2 0
      have c1 := cell_list (cs := [.int .i64 x.k, .string (bs x.t), .int .i64 x.n]) hrow2 1
      have c2 := cell_list (cs := [.int .i64 x.k, .string (bs x.t), .int .i64 x.n]) hrow2 2
      simp only [List.getElem?_cons_zero, List.getElem?_cons_succ] at c0 c1 c2
      by_cases hE0 : E = 0
      · subst hE0
        go_wp2_with fail
        refine (hli _).mono ?_
        rintro e w3 ⟨rfl, h3⟩
        have hb3 := hb2.trans (h3.mono hb2.size)
        have HPt3 : Parts w3 (some ad) k (L.take k) := Rd.below HPt.out hb3
        have hall2 : ∀ j y, j < k + 1 → L[j]? = some y → oneE y = 0 := fun j y hj hy => by
          by_cases hjk : j = k
          · rw [hjk, HX.out] at hy; injection hy with hy; rw [← hy]; exact HE.out
          · exact HALL.out j y (by omega) hy
        have HALL2 := Lib.hid hall2
        clear hall2
        rcases hlit : (x.k == 1) with _ | _
        · have HLIT := Lib.hid hlit
          clear hlit
          go_wp2_with fail
          go_roundg g'
          case measure => omega
          case rel => exact ⟨k + 1, by go_num, by omega, by rw [HCT.out, hnx.out, if_neg (by rw [HE.out]; simp), if_neg (by have h := HLIT.out; simp at h; simp [h])], HALL2.out, hbl.trans (hb3.mono hbl.size)⟩
        · have HLIT := Lib.hid hlit
          clear hlit
          have HP3 := Lib.hid HPt3
          clear HPt3
          go_wp2_with fail
          refine (hla _ HP3.out).mono ?_
          rintro e w4 ⟨rfl, h4⟩
          have hb4 := hb3.trans (h4.mono hb3.size)
          rcases pl with _ | _
          · simp only [Bool.false_eq_true, if_false]
            go_wp2_with fail
            go_roundg g'
            case measure => omega
            case rel => exact ⟨k + 1, by go_num, by omega, by rw [HCT.out, hnx.out, if_neg (by rw [HE.out]; simp), if_neg (by rw [HPL.out]; simp)], HALL2.out, hbl.trans (hb4.mono hbl.size)⟩
          · simp only [if_true]
            go_wp2_with fail
            go_ret
            have hk1 : x.k = 1 := by have h := HLIT.out; simpa using h
            have h3 : checkTo L false = 3 := by rw [HCT.out, hnx.out]; rw [HE.out]; simp [hk1, HPL.out]
            exact ⟨by rw [← HV.out]; unfold checkR; rw [h3]; rfl, hbl.trans (hb4.mono hbl.size)⟩
      · have hE1 : (E == 0) = false := by simpa using hE0
        go_wp2_with fail
        go_ret
        exact ⟨by rw [← HV.out]; unfold checkR; rw [HCT.out, hnx.out, HE.out, if_pos hE0, if_pos hE0]; rfl, hbl.trans (hb2.mono hbl.size)⟩
    · obtain rfl : k = L.length := by omega
      have hfit : ∀ p ∈ L, fitW p := fun p hp => by
        obtain ⟨j, hj, e⟩ := List.getElem_of_mem hp
        exact one_fit p (HALL.out j p hj (by rw [List.getElem?_eq_getElem hj, e])) (HT.out p hp)
      have htx := fun W h1 h2 => text_any a c L W h1 hn hfit h2
      have hPr : Parts wr a L.length L := Rd.keep hP hbl.size (fun _ _ _ h => hbl.block _ h)
      have hNr := hN.below hbl hN.lt
      obtain ⟨B, hB⟩ : ∃ B, bs (textP L) = B := ⟨_, rfl⟩
      have hBs : (B.size : Int) = ((textP L).length : Int) := by rw [← hB, size_bs]
      have HBs := Lib.hid hBs
      rw [hB] at htx
      have HH := Lib.hid hfit
      have hct := HCT.out
      rw [List.drop_length, checkTo] at hct
      have HC := Lib.hid hct
      clear hB hBs hfit hct HALL HCT
      go_wp2_with fail
      refine (htx _ hPr hNr).mono ?_
      rintro e w2 ⟨rfl, h2⟩
      by_cases h96 : 96 < B.size
      · have h96' : (96 : Int) < (B.size : Int) := by omega
        go_wp2_with fail
        go_ret
        exact ⟨by rw [← HV.out]; unfold checkR; rw [HC.out, if_neg (by simp), if_pos (by have := HBs.out; omega)]; rfl, hbl.trans (h2.mono hbl.size)⟩
      · have h96' : ¬ (96 : Int) < (B.size : Int) := by omega
        go_wp2_with fail
        go_ret
        exact ⟨by rw [← HV.out]; unfold checkR; rw [HC.out, if_neg (by simp), if_neg (by have := HBs.out; omega)]; rfl, hbl.trans (h2.mono hbl.size)⟩
end Go.Proofs.YtllklgalghmnfaaDoor
