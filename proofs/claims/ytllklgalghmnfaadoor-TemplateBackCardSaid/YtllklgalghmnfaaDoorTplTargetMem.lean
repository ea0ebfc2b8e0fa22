/- Targets, plainly: what ReadTarget returns. -/
import Derived.Test.YtllklgalghmnfaaDoorTplSame
import Derived.Test.YtllklgalghmnfaaDoorStrCut
import Derived.RegionTactic
namespace Go.Proofs.YtllklgalghmnfaaDoor
open Go.RowKit Str Mem Tp
set_option linter.unusedVariables false
set_option linter.unusedSimpArgs false

theorem tw_all {α : Type} {p : α → Bool} : ∀ {l : List α} {b : α}, b ∈ l.takeWhile p → p b = true
  | [], b, h => by simp at h
  | x :: l, b, h => by
    rw [List.takeWhile_cons] at h
    rcases hx : p x with _ | _
    · rw [hx] at h; simp at h
    · rw [hx] at h
      rcases List.mem_cons.1 h with rfl | h
      · exact hx
      · exact tw_all h
/-- The bytes of a host. -/
def hostB (b : UInt8) : Bool := !([47, 63, 36, 37, 92] : Tp.Bs).contains b
def isQ (q : Piece) : Bool := q.plain && (q.p.t == [63])
structure TR where
  sm : Bool
  ex : Bool
  h : Tp.Bs
  L : List Part
  hq : Bool
  M : List Part
  e : Int
  at' : Int
def TR.fault (e a : Int) : TR := ⟨false, false, [], [], false, [], e, a⟩
def pathOf (ps : List Piece) : List Part := joinP ((ps.takeWhile (fun q => !isQ q)).map (·.p))
def restR (ex : Bool) (h : Tp.Bs) (at' : Nat) (ps : List Piece) : TR :=
  if placeR (pathOf ps) = true then
    match ps.dropWhile (fun q => !isQ q) with
    | [] => ⟨false, ex, h, pathOf ps, false, [], 0, 0⟩
    | _ :: tl => ⟨false, ex, h, pathOf ps, true, joinP (tl.map (·.p)), 0, 0⟩
  else .fault 3 at'
def schemeS : Tp.Bs := [104, 116, 116, 112, 58, 47, 47]
def hostOf (s : Tp.Bs) : Tp.Bs := (s.drop 7).takeWhile hostB
def targetR (s : Tp.Bs) : TR :=
  if (parseR s).e ≠ 0 then .fault (parseR s).e (parseR s).at'
  else if s = [] then .fault 2 0
  else if s = [45] then ⟨true, false, [], [], false, [], 0, 0⟩
  else if schemeS.isPrefixOf s = true then
    if hostOf s = [] then .fault 3 7
    else restR true (hostOf s) (7 + (hostOf s).length) (pieces (s.drop (7 + (hostOf s).length)) (7 + (hostOf s).length)).1
  else restR false [] 0 (pieces s 0).1

theorem rd_plain {b : UInt8} {r : Tp.Bs} (h1 : b ≠ 92) (h2 : b ≠ 36) (h3 : b ≠ 37) : rd (b :: r) = .ok ⟨1, [b], 0⟩ 1 := by
  unfold rd
  dsimp only
  rw [if_neg h1, if_neg h2, if_neg h3]
theorem rd_isQ {b : UInt8} {r : Tp.Bs} {p : Part} {n : Nat} (h : rd (b :: r) = .ok p n) (k : Nat) : isQ ⟨p, k, n == 1⟩ = (b == 63) := by
  unfold rd at h
  dsimp only at h
  have two : ∀ (q : Part), (2 : Nat) = n → isQ ⟨q, k, n == 1⟩ = false := fun q e => by subst e; rfl
  by_cases h1 : b = 92
  · subst h1
    rw [if_pos rfl] at h
    rcases r with _ | ⟨x, r⟩
    · cases h
    · cases h; rfl
  rw [if_neg h1] at h
  by_cases h2 : b = 36
  · subst h2
    rw [if_pos rfl] at h
    rcases r with _ | ⟨x, r⟩
    · cases h
    · dsimp only at h
      by_cases hd : dig x = true
      · rw [if_pos hd] at h; cases h; rfl
      · rw [if_neg hd] at h; cases h
  rw [if_neg h2] at h
  by_cases h3 : b = 37
  · subst h3
    rw [if_pos rfl] at h
    rcases r with _ | ⟨x, r⟩
    · cases h
    · dsimp only at h
      by_cases hd : dig x = true
      · rw [if_pos hd] at h; cases h; rfl
      · rw [if_neg hd] at h
        by_cases hx : x = 123
        · rw [if_pos hx] at h
          unfold rdVar at h
          rcases hn : nameTo r with _ | nm
          · rw [hn] at h; cases h
          · rw [hn] at h
            dsimp only at h
            rcases hv : varNo nm with _ | i
            · rw [hv] at h; cases h
            · rw [hv] at h
              cases h
              show ((nm.length + 3 == 1) && _) = false
              have : (nm.length + 3 == 1) = false := by rw [beq_eq_false_iff_ne]; omega
              rw [this, Bool.false_and]
        · rw [if_neg hx] at h; cases h
  · rw [if_neg h3] at h
    cases h
    show ((true : Bool) && ([b] == [63])) = (b == 63)
    rw [Bool.true_and]
    rw [Bool.eq_iff_iff]
    simp
/-- The parts of pieces do not depend on where they begin. -/
theorem pcs_shift : ∀ (f : Nat) (r : Tp.Bs) (i j : Nat), (pcs f r i).1.map (·.p) = (pcs f r j).1.map (·.p) ∧ ((pcs f r i).2 = none → (pcs f r j).2 = none)
  | 0, r, i, j => ⟨rfl, fun _ => rfl⟩
  | f + 1, [], i, j => ⟨rfl, fun _ => rfl⟩
  | f + 1, b :: r, i, j => by
    rw [pcs_succ, pcs_succ]
    rcases h : rd (b :: r) with ⟨p, n⟩ | e
    · obtain ⟨h1, h2⟩ := pcs_shift f ((b :: r).drop n) (i + n) (j + n)
      exact ⟨by simp only [List.map_cons, h1], h2⟩
    · exact ⟨rfl, fun h => by cases h⟩
theorem parse_shift {r : Tp.Bs} {k : Nat} (hr : r.length ≤ 96) (h : (pieces r k).2 = none) : parseR r = ⟨joinP ((pieces r k).1.map (·.p)), 0, 0⟩ := by
  obtain ⟨h1, h2⟩ := pcs_shift r.length r k 0
  have h3 : (pieces r 0).2 = none := h2 h
  unfold parseR
  rw [if_neg (by omega), h3]
  show (⟨joinP ((pieces r 0).1.map (·.p)), 0, 0⟩ : PR) = _
  have : (pieces r 0).1.map (·.p) = (pieces r k).1.map (·.p) := h1.symm
  rw [this]
/-- Pieces of plain bytes. -/
def plainP : Tp.Bs → Nat → List Piece
  | [], _ => []
  | b :: r, i => ⟨⟨1, [b], 0⟩, i, true⟩ :: plainP r (i + 1)
theorem plainP_len : ∀ (u : Tp.Bs) (i : Nat), (plainP u i).length = u.length
  | [], i => rfl
  | b :: u, i => by show (plainP u (i + 1)).length + 1 = _; rw [plainP_len u (i + 1)]; rfl
theorem plainP_get : ∀ (u : Tp.Bs) (i k : Nat) (b : UInt8), u[k]? = some b → (plainP u i)[k]? = some ⟨⟨1, [b], 0⟩, i + k, true⟩
  | [], i, k, b, h => by simp at h
  | x :: u, i, 0, b, h => by simp at h; subst h; rfl
  | x :: u, i, k + 1, b, h => by
    have := plainP_get u (i + 1) k b (by simpa using h)
    show (plainP u (i + 1))[k]? = _
    rw [this]
    have e : i + 1 + k = i + (k + 1) := by omega
    rw [e]
theorem pieces_plain : ∀ (u r : Tp.Bs) (i : Nat), (∀ b ∈ u, b ≠ 92 ∧ b ≠ 36 ∧ b ≠ 37) → pieces (u ++ r) i = (plainP u i ++ (pieces r (i + u.length)).1, (pieces r (i + u.length)).2)
  | [], r, i, h => by simp [plainP]
  | b :: u, r, i, h => by
    obtain ⟨h1, h2, h3⟩ := h b (by simp)
    have ih := pieces_plain u r (i + 1) (fun x hx => h x (by simp [hx]))
    show pieces (b :: (u ++ r)) i = _
    rw [pieces_ok (rd_plain h1 h2 h3)]
    show (_ :: (pieces (u ++ r) (i + 1)).1, (pieces (u ++ r) (i + 1)).2) = _
    have e : i + 1 + u.length = i + (b :: u).length := by simp; omega
    rw [ih, e]
    rfl
theorem scheme_plain : ∀ b ∈ schemeS, b ≠ 92 ∧ b ≠ 36 ∧ b ≠ 37 := by decide
theorem host_plain {b : UInt8} (h : hostB b = true) : b ≠ 92 ∧ b ≠ 36 ∧ b ≠ 37 := by
  unfold hostB at h
  simp at h
  exact ⟨h.2.2.2.2, h.2.2.1, h.2.2.2.1⟩
/-- A text behind the scheme: its pieces begin with those of scheme and host. -/
theorem pieces_ext {s : Tp.Bs} (h : schemeS.isPrefixOf s = true) : s = (schemeS ++ hostOf s) ++ s.drop (7 + (hostOf s).length) ∧
    pieces s 0 = (plainP (schemeS ++ hostOf s) 0 ++ (pieces (s.drop (7 + (hostOf s).length)) (7 + (hostOf s).length)).1, (pieces (s.drop (7 + (hostOf s).length)) (7 + (hostOf s).length)).2) ∧ 7 + (hostOf s).length ≤ s.length := by
  obtain ⟨t, ht⟩ := List.isPrefixOf_iff_prefix.1 h
  have hd : s.drop 7 = t := by rw [← ht]; rfl
  have hs : s.drop 7 = hostOf s ++ (s.drop 7).dropWhile hostB := (List.takeWhile_append_dropWhile (p := hostB)).symm
  have hl : (hostOf s).length ≤ (s.drop 7).length := by have := congrArg List.length hs; rw [List.length_append] at this; omega
  have hdd : (s.drop 7).dropWhile hostB = s.drop (7 + (hostOf s).length) := by
    have := congrArg (List.drop (hostOf s).length) hs
    rw [List.drop_left, List.drop_drop] at this
    exact this.symm
  have hall : s = (schemeS ++ hostOf s) ++ s.drop (7 + (hostOf s).length) := by
    rw [List.append_assoc, ← hdd, ← hs, hd, ht]
  have h7 : 7 ≤ s.length := by rw [← ht]; simp [schemeS]
  refine ⟨hall, ?_, by rw [List.length_drop] at hl; omega⟩
  have hp := pieces_plain (schemeS ++ hostOf s) (s.drop (7 + (hostOf s).length)) 0 (fun b hb => by
    rcases List.mem_append.1 hb with hb | hb
    · exact scheme_plain b hb
    · exact host_plain (tw_all hb))
  have hz : 0 + (schemeS ++ hostOf s).length = 7 + (hostOf s).length := by rw [List.length_append]; show 0 + (7 + _) = _; omega
  rw [hz, ← hall] at hp
  exact hp
/-- No error: the pieces end well, and the text is short. -/
theorem parse_well {s : Tp.Bs} (h : (parseR s).e = 0) : s.length ≤ 96 ∧ (pieces s 0).2 = none ∧ parseR s = ⟨joinP ((pieces s 0).1.map (·.p)), 0, 0⟩ := by
  unfold parseR at h ⊢
  by_cases h96 : 96 < s.length
  · rw [if_pos h96] at h; cases h
  · rw [if_neg h96] at h ⊢
    rcases hp : (pieces s 0).2 with _ | ⟨e, k⟩
    · exact ⟨by omega, rfl, rfl⟩
    · rw [hp] at h
      exact absurd h (pcs_errne _ _ _ e k hp)

def cutSc (s : Tp.Bs) : Tp.Bs := if schemeS.isPrefixOf s = true then s.drop 7 else s
set_option maxRecDepth 100000 in
theorem cutScheme_any (s : Tp.Bs) (hs : s.length ≤ 100000) (w : World) :
    Calls Tryd.prog 52 #[.string (bs s), .string ⟨#[104, 116, 116, 112, 58, 47, 47]⟩] w fun e w' => e = .returned (.tuple #[.string (bs (cutSc s)), .bool (schemeS.isPrefixOf s)]) ∧ w = w' := by
  have hz0 : (bs s).size = s.length := size_bs s
  have hz : (bs s).size ≤ 100000 := by omega
  have hq := fun w => prefIn_any (bs s) ⟨#[104, 116, 116, 112, 58, 47, 47]⟩ (by unfold maxLen; omega) (by show 7 ≤ maxLen; simp [maxLen]) w
  rw [data_bs] at hq
  change ∀ w, Calls Tryd.prog 93 _ w fun e w' => e = .returned (.bool (schemeS.isPrefixOf s)) ∧ w = w' at hq
  have hl : schemeS.isPrefixOf s = true → 7 ≤ s.length := fun h => by
    obtain ⟨t, ht⟩ := List.isPrefixOf_iff_prefix.1 h
    rw [← ht]; simp [schemeS]
  have e1 : (bs s).extract 7 (bs s).size = bs (s.drop 7) := eq_of_data (by rw [extract_from, data_bs, data_bs])
  have H1 := Lib.hid e1
  clear e1
  obtain ⟨V, hV⟩ : ∃ V, cutSc s = V := ⟨_, rfl⟩
  unfold cutSc at hV
  rw [show cutSc s = V from hV]
  rcases hb : schemeS.isPrefixOf s with _ | _
  · rw [hb] at hq hV
    rw [if_neg (by simp)] at hV
    subst hV
    clear hb hl hz0
    obtain ⟨B, hB⟩ : ∃ B, bs s = B := ⟨_, rfl⟩
    rw [hB] at hq hz H1 ⊢
    go_enter Tryd.func52, Tryd.ntmps52
    go_wp2_with (first | (go_at_call 93; refine (hq _).mono ?_; rintro e w1 ⟨rfl, rfl⟩) | go_in)
    go_ret2
    exact ⟨rfl, rfl⟩
  · rw [hb] at hq hV
    rw [if_pos rfl] at hV
    have hz7 : 7 ≤ (bs s).size := by have := hl hb; omega
    clear hz0
    have HV := Lib.hid hV
    clear hb hl hV
    obtain ⟨B, hB⟩ : ∃ B, bs s = B := ⟨_, rfl⟩
    rw [hB] at hq hz H1 hz7 ⊢
    go_enter Tryd.func52, Tryd.ntmps52
    go_wp2_with (first | (go_at_call 93; refine (hq _).mono ?_; rintro e w1 ⟨rfl, rfl⟩) | go_in)
    go_ret2
    exact ⟨by rw [← HV.out, ← H1.out]; rfl, rfl⟩
set_option maxRecDepth 100000 in
theorem begins_any (s : Tp.Bs) (hs : s.length ≤ 100000) (w : World) :
    Calls Tryd.prog 55 #[.string (bs s), .string ⟨#[104, 116, 116, 112, 58, 47, 47]⟩] w fun e w' => e = .returned (.bool (schemeS.isPrefixOf s)) ∧ w = w' := by
  have hz : (bs s).size ≤ 100000 := by rw [size_bs]; omega
  have hp := Lib.hid (Lib.hasPrefix_raw (bs s) ⟨#[104, 116, 116, 112, 58, 47, 47]⟩)
  unfold Lib.hasPrefix at hp
  rw [data_bs] at hp
  have hv : (ByteArray.data ⟨#[104, 116, 116, 112, 58, 47, 47]⟩).toList.isPrefixOf s = schemeS.isPrefixOf s := rfl
  rw [hv] at hp
  obtain ⟨V, hV⟩ : ∃ V, schemeS.isPrefixOf s = V := ⟨_, rfl⟩
  rw [hV] at hp ⊢
  clear hV hv
  obtain ⟨B, hB⟩ : ∃ B, bs s = B := ⟨_, rfl⟩
  rw [hB] at hz hp ⊢
  have e7 : ByteArray.size ⟨#[104, 116, 116, 112, 58, 47, 47]⟩ = 7 := rfl
  have el : ByteArray.toList ⟨#[104, 116, 116, 112, 58, 47, 47]⟩ = [104, 116, 116, 112, 58, 47, 47] := by rw [toList_data]
  rw [e7, el] at hp
  clear e7 el hB
  go_enter Tryd.func55, Tryd.ntmps55
  go_wp2_with fail
  all_goals go_ret
  all_goals refine ⟨ret_bool ?_, rfl⟩
  all_goals rw [← hp.out]
  · have h7 : 7 ≤ B.size := by omega
    rw [decide_eq_true h7, Bool.true_and]
  · have h7 : ¬ 7 ≤ B.size := by omega
    rw [decide_eq_false h7, Bool.false_and]
end Go.Proofs.YtllklgalghmnfaaDoor
namespace Go.Proofs.YtllklgalghmnfaaDoor
open Go.RowKit Str Mem Tp
set_option linter.unusedVariables false
set_option linter.unusedSimpArgs false

def tz : List Value := [.bool false, .bool false, .string (bs []), .slice none 0 0, .bool false, .slice none 0 0]
def tg (ex : Bool) (h : Tp.Bs) (v : Value) (hq : Bool) (u : Value) : List Value := [.bool false, .bool ex, .string (bs h), v, .bool hq, u]
/-- The memory of ReadTarget: the two results, and the target with its path. -/
structure TM (w W : World) (n6 : Nat) (ex : Bool) (h : Tp.Bs) (v : Value) (hq : Bool) (u : Value) (L : List Part) : Prop where
  rt : W.heap[w.heap.size]? = some (.cells [.bool false, .bool false, .string (bs []), .slice none 0 0, .bool false, .slice none 0 0].toArray 30 (0, 0))
  rf : W.heap[w.heap.size + 1]? = some (.cells [.int .i64 0, .int .i64 0].toArray 26 (0, 0))
  tt : W.heap[n6]? = some (.cells [.bool false, .bool ex, .string (bs h), v, .bool hq, u].toArray 30 (0, 0))
  lt : w.heap.size + 1 < n6
  bl : Below w.heap.size w W
  ow : OwnParts W (n6 + 1) v L
theorem TM.below {w W W' : World} {n6 : Nat} {ex hq : Bool} {h : Tp.Bs} {v u : Value} {L : List Part} (m : TM w W n6 ex h v hq u L) (hb : Below W.heap.size W W') : TM w W' n6 ex h v hq u L :=
  ⟨(hb.block _ (lt_of_cells m.rt)).trans m.rt, (hb.block _ (lt_of_cells m.rf)).trans m.rf, (hb.block _ (lt_of_cells m.tt)).trans m.tt, m.lt, m.bl.trans (hb.mono m.bl.size), Owns.below m.ow hb (Nat.le_refl _)⟩
theorem TM.app {w W W' : World} {n6 : Nat} {ex hq : Bool} {h : Tp.Bs} {v v' u : Value} {L L' : List Part} (m : TM w W n6 ex h v hq u L) (ho : OwnParts W' (n6 + 1) v' L') (hg : W.grownBy W' v.ownBlock) : TM w (W'.setCell ⟨n6, 3, none⟩ v') n6 ex h v' hq u L' := by
  have hk : ∀ k, v.ownBlock = some k → n6 + 1 ≤ k ∧ k < W.heap.size := m.ow.lt
  have hl := m.lt
  refine ⟨?_, ?_, ?_, hl, ?_, ?_⟩
  · exact (Below.heap_setCell W' _ _ _ (by show w.heap.size ≠ n6; omega)).trans ((hg.block _ (lt_of_cells m.rt) (fun e => by have := hk _ e.symm; omega)).trans m.rt)
  · exact (Below.heap_setCell W' _ _ _ (by show w.heap.size + 1 ≠ n6; omega)).trans ((hg.block _ (lt_of_cells m.rf) (fun e => by have := hk _ e.symm; omega)).trans m.rf)
  · exact set_list ((hg.block _ (lt_of_cells m.tt) (fun e => by have := hk _ e.symm; omega)).trans m.tt) 3 v'
  · exact (m.bl.grown hg m.bl.size (fun k e => by have := hk k e; omega)).setCell (p := ⟨n6, 3, none⟩) (by show w.heap.size ≤ n6; omega) _
  · exact ownsSetOld ho (by show n6 < n6 + 1; omega) _
theorem TM.setEx {w W : World} {n6 : Nat} {ex hq : Bool} {h : Tp.Bs} {v u : Value} {L : List Part} (m : TM w W n6 ex h v hq u L) (ex' : Bool) (h' : Tp.Bs) : TM w ((W.setCell ⟨n6, 1, none⟩ (.bool ex')).setCell ⟨n6, 2, none⟩ (.string (bs h'))) n6 ex' h' v hq u L := by
  have hl := m.lt
  refine ⟨?_, ?_, ?_, hl, ?_, ?_⟩
  · exact (Below.heap_setCell _ _ _ _ (by show w.heap.size ≠ n6; omega)).trans ((Below.heap_setCell _ _ _ _ (by show w.heap.size ≠ n6; omega)).trans m.rt)
  · exact (Below.heap_setCell _ _ _ _ (by show w.heap.size + 1 ≠ n6; omega)).trans ((Below.heap_setCell _ _ _ _ (by show w.heap.size + 1 ≠ n6; omega)).trans m.rf)
  · exact set_list (set_list m.tt 1 _) 2 _
  · exact (m.bl.setCell (p := ⟨n6, 1, none⟩) (by show w.heap.size ≤ n6; omega) _).setCell (p := ⟨n6, 2, none⟩) (by show w.heap.size ≤ n6; omega) _
  · exact ownsSetOld (ownsSetOld m.ow (by show n6 < n6 + 1; omega) _) (by show n6 < n6 + 1; omega) _
theorem TM.setHq {w W : World} {n6 : Nat} {ex hq : Bool} {h : Tp.Bs} {v u : Value} {L : List Part} (m : TM w W n6 ex h v hq u L) (hq' : Bool) : TM w (W.setCell ⟨n6, 4, none⟩ (.bool hq')) n6 ex h v hq' u L := by
  have hl := m.lt
  refine ⟨?_, ?_, ?_, hl, ?_, ?_⟩
  · exact (Below.heap_setCell _ _ _ _ (by show w.heap.size ≠ n6; omega)).trans m.rt
  · exact (Below.heap_setCell _ _ _ _ (by show w.heap.size + 1 ≠ n6; omega)).trans m.rf
  · exact set_list m.tt 4 _
  · exact m.bl.setCell (p := ⟨n6, 4, none⟩) (by show w.heap.size ≤ n6; omega) _
  · exact ownsSetOld m.ow (by show n6 < n6 + 1; omega) _
theorem TM.setU {w W : World} {n6 : Nat} {ex hq : Bool} {h : Tp.Bs} {v u : Value} {L : List Part} (m : TM w W n6 ex h v hq u L) (u' : Value) : TM w (W.setCell ⟨n6, 5, none⟩ u') n6 ex h v hq u' L := by
  have hl := m.lt
  refine ⟨?_, ?_, ?_, hl, ?_, ?_⟩
  · exact (Below.heap_setCell _ _ _ _ (by show w.heap.size ≠ n6; omega)).trans m.rt
  · exact (Below.heap_setCell _ _ _ _ (by show w.heap.size + 1 ≠ n6; omega)).trans m.rf
  · exact set_list m.tt 5 _
  · exact m.bl.setCell (p := ⟨n6, 5, none⟩) (by show w.heap.size ≤ n6; omega) _
  · exact ownsSetOld m.ow (by show n6 < n6 + 1; omega) _
theorem TM.drew {w W : World} {n6 : Nat} {ex hq : Bool} {h : Tp.Bs} {v u : Value} {L : List Part} (m : TM w W n6 ex h v hq u L) : TM w W.drew n6 ex h v hq u L := ⟨m.rt, m.rf, m.tt, m.lt, m.bl.drew, Owns.drew m.ow⟩
def set6 (W : World) (g : Nat) (x0 x1 x2 x3 x4 x5 : Value) : World := (((((W.setCell ⟨g, 0, none⟩ x0).setCell ⟨g, 1, none⟩ x1).setCell ⟨g, 2, none⟩ x2).setCell ⟨g, 3, none⟩ x3).setCell ⟨g, 4, none⟩ x4).setCell ⟨g, 5, none⟩ x5
theorem set6_row {W : World} {g Ty : Nat} {o0 o1 o2 o3 o4 o5 : Value} (h : W.heap[g]? = some (.cells [o0, o1, o2, o3, o4, o5].toArray Ty (0, 0))) (x0 x1 x2 x3 x4 x5 : Value) : (set6 W g x0 x1 x2 x3 x4 x5).heap[g]? = some (.cells [x0, x1, x2, x3, x4, x5].toArray Ty (0, 0)) :=
  set_list (set_list (set_list (set_list (set_list (set_list h 0 x0) 1 x1) 2 x2) 3 x3) 4 x4) 5 x5
theorem set6_below {W a : World} {B g : Nat} (h : Below B a W) (hg : B ≤ g) (x0 x1 x2 x3 x4 x5 : Value) : Below B a (set6 W g x0 x1 x2 x3 x4 x5) :=
  (((((h.setCell (p := ⟨g, 0, none⟩) hg x0).setCell (p := ⟨g, 1, none⟩) hg x1).setCell (p := ⟨g, 2, none⟩) hg x2).setCell (p := ⟨g, 3, none⟩) hg x3).setCell (p := ⟨g, 4, none⟩) hg x4).setCell (p := ⟨g, 5, none⟩) hg x5
theorem set6_other (W : World) (g k : Nat) (hk : k ≠ g) (x0 x1 x2 x3 x4 x5 : Value) : (set6 W g x0 x1 x2 x3 x4 x5).heap[k]? = W.heap[k]? := by
  unfold set6
  rw [Below.heap_setCell _ _ _ _ (by exact hk), Below.heap_setCell _ _ _ _ (by exact hk), Below.heap_setCell _ _ _ _ (by exact hk), Below.heap_setCell _ _ _ _ (by exact hk), Below.heap_setCell _ _ _ _ (by exact hk), Below.heap_setCell _ _ _ _ (by exact hk)]
theorem tEnd {w W : World} {T F : Nat} {o0 o1 o2 o3 o4 o5 p0 p1 : Value} (hrt : W.heap[w.heap.size]? = some (.cells [o0, o1, o2, o3, o4, o5].toArray T (0, 0))) (hrf : W.heap[w.heap.size + 1]? = some (.cells [p0, p1].toArray F (0, 0))) (hb : Below w.heap.size w W) (x0 x1 x2 x3 x4 x5 y0 y1 : Value) :
    (set2 (set6 W w.heap.size x0 x1 x2 x3 x4 x5) (w.heap.size + 1) y0 y1).heap[w.heap.size]? = some (.cells [x0, x1, x2, x3, x4, x5].toArray T (0, 0)) ∧ (set2 (set6 W w.heap.size x0 x1 x2 x3 x4 x5) (w.heap.size + 1) y0 y1).heap[w.heap.size + 1]? = some (.cells [y0, y1].toArray F (0, 0)) ∧ Below w.heap.size w (set2 (set6 W w.heap.size x0 x1 x2 x3 x4 x5) (w.heap.size + 1) y0 y1) := by
  refine ⟨?_, ?_, ?_⟩
  · unfold set2
    rw [Below.heap_setCell _ _ _ _ (by show w.heap.size ≠ w.heap.size + 1; omega), Below.heap_setCell _ _ _ _ (by show w.heap.size ≠ w.heap.size + 1; omega)]
    exact set6_row hrt _ _ _ _ _ _
  · exact set2_row ((set6_other W _ _ (by omega) _ _ _ _ _ _).trans hrf) _ _
  · exact set2_below (set6_below hb (Nat.le_refl _) _ _ _ _ _ _) (by omega) _ _

theorem ownsEnd {W : World} {base g sz n : Nat} {e : TypeId} {v : Value} {xs : List Value} (h : Owns W base e sz v n xs) (hg : g + 1 < base) (x0 x1 x2 x3 x4 x5 y0 y1 : Value) : Owns (set2 (set6 W g x0 x1 x2 x3 x4 x5) (g + 1) y0 y1) base e sz v n xs := by
  unfold set2 set6
  exact ownsSetOld (ownsSetOld (ownsSetOld (ownsSetOld (ownsSetOld (ownsSetOld (ownsSetOld (ownsSetOld h (by show g < base; omega) _) (by show g < base; omega) _) (by show g < base; omega) _) (by show g < base; omega) _) (by show g < base; omega) _) (by show g < base; omega) _) (by show g + 1 < base; omega) _) (by show g + 1 < base; omega) _
theorem Parts.nil (w : World) (a : Option Addr) : Parts w a 0 [] := ⟨rfl, fun h => absurd h (Nat.lt_irrefl 0)⟩
theorem tw_end : ∀ {D : List Piece}, (∀ q ∈ D, isQ q = false) → D.takeWhile (fun q => !isQ q) = D ∧ D.dropWhile (fun q => !isQ q) = []
  | [], _ => ⟨rfl, rfl⟩
  | x :: D, h => by
    have hx := h x (by simp)
    obtain ⟨h1, h2⟩ := tw_end (D := D) (fun q hq => h q (by simp [hq]))
    rw [List.takeWhile_cons, List.dropWhile_cons, hx, h1, h2]
    exact ⟨rfl, rfl⟩
theorem tw_hit {q : Piece} {tl : List Piece} (hq : isQ q = true) : ∀ {D : List Piece}, (∀ q ∈ D, isQ q = false) → (D ++ q :: tl).takeWhile (fun q => !isQ q) = D ∧ (D ++ q :: tl).dropWhile (fun q => !isQ q) = q :: tl
  | [], _ => by
    rw [List.nil_append, List.takeWhile_cons, List.dropWhile_cons, hq]
    exact ⟨rfl, rfl⟩
  | x :: D, h => by
    have hx := h x (by simp)
    obtain ⟨h1, h2⟩ := tw_hit hq (D := D) (fun q hq => h q (by simp [hq]))
    rw [List.cons_append, List.takeWhile_cons, List.dropWhile_cons, hx]
    exact ⟨congrArg (x :: ·) h1, h2⟩
theorem rest_end {ex : Bool} {h : Tp.Bs} {at' : Nat} {D : List Piece} (hD : ∀ q ∈ D, isQ q = false) : restR ex h at' D = if placeR (joinP (D.map (·.p))) = true then ⟨false, ex, h, joinP (D.map (·.p)), false, [], 0, 0⟩ else .fault 3 at' := by
  obtain ⟨h1, h2⟩ := tw_end hD
  unfold restR pathOf
  rw [h1, h2]
theorem rest_hit {ex : Bool} {h : Tp.Bs} {at' : Nat} {D tl : List Piece} {q : Piece} (hD : ∀ q ∈ D, isQ q = false) (hq : isQ q = true) : restR ex h at' (D ++ q :: tl) = if placeR (joinP (D.map (·.p))) = true then ⟨false, ex, h, joinP (D.map (·.p)), true, joinP (tl.map (·.p)), 0, 0⟩ else .fault 3 at' := by
  obtain ⟨h1, h2⟩ := tw_hit (tl := tl) hq hD
  unfold restR pathOf
  rw [h1, h2]
/-- What holds between two rounds of the path's loop. -/
def TI (w : World) (s : Tp.Bs) (n6 : Nat) (ex : Bool) (h : Tp.Bs) (at0 : Nat) (g : Nat) (s7 : Value) (W : World) : Prop :=
  ∃ (k : Nat) (D : List Piece) (L : List Part) (v : Value), s7 = .int .i64 k ∧ k ≤ s.length ∧ s.length ≤ k + g ∧ (pieces (s.drop at0) at0).1 = D ++ (pieces (s.drop k) k).1 ∧ (pieces (s.drop k) k).2 = none ∧ (∀ q ∈ D, isQ q = false) ∧ L = joinP (D.map (·.p)) ∧ L.length ≤ k ∧ (∀ q ∈ L, q.t.length ≤ k) ∧ TM w W n6 ex h v false (.slice none 0 0) L
/-- What ReadTarget returns. -/
def TargetPost (r : TR) (w : World) (e : Ending) (w' : World) : Prop := ∃ pa pc qa qc, e = .returned (.tuple #[tgtV r.sm r.ex r.h pa r.L.length pc r.hq qa r.M.length qc, .agg #[.int .i64 r.e, .int .i64 r.at']]) ∧ Parts w' pa r.L.length r.L ∧ Parts w' qa r.M.length r.M ∧ Below w.heap.size w w'
/-- .. and the slices hold it. -/
def TargetCap (r : TR) (w : World) (e : Ending) (w' : World) : Prop := ∃ pa pc qa qc, e = .returned (.tuple #[tgtV r.sm r.ex r.h pa r.L.length pc r.hq qa r.M.length qc, .agg #[.int .i64 r.e, .int .i64 r.at']]) ∧ Parts w' pa r.L.length r.L ∧ Parts w' qa r.M.length r.M ∧ Below w.heap.size w w' ∧ r.L.length ≤ pc ∧ pc ≤ maxLen ∧ r.M.length ≤ qc ∧ qc ≤ maxLen
end Go.Proofs.YtllklgalghmnfaaDoor
