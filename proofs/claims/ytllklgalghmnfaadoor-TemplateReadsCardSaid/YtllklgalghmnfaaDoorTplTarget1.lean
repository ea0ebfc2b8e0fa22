/- The reference's ReadTarget: plain laws, memory. -/
import Derived.Test.YtllklgalghmnfaaDoorTplTargetMem
namespace Go.Proofs.YtllklgalghmnfaaDoor
open Go.RowKit Str Mem Tp
set_option linter.unusedVariables false
set_option linter.unusedSimpArgs false

theorem pieces_well {s : Tp.Bs} (h : (parseR s).e = 0) : piecesR s = ⟨(pieces s 0).1, 0, 0⟩ := by
  obtain ⟨h1, h2, _⟩ := parse_well h
  unfold piecesR
  rw [if_neg (by omega), h2]
theorem pieces_ill {s : Tp.Bs} (h : (parseR s).e ≠ 0) : (piecesR s).e = (parseR s).e ∧ (piecesR s).at' = (parseR s).at' := by
  rcases parse_pieces s with ⟨h1, h2⟩ | ⟨h1, h2, _⟩
  · rw [h2]; exact ⟨rfl, rfl⟩
  · rw [h2] at h; exact absurd rfl h
theorem head_at {r : Tp.Bs} {k : Nat} {q : Piece} {tl : List Piece} (h : (pieces r k).1 = q :: tl) : q.at' = k := by
  rcases r with _ | ⟨b, r⟩
  · cases h
  · rcases hr : rd (b :: r) with ⟨p, n⟩ | e
    · rw [pieces_ok hr] at h
      cases h
      rfl
    · rw [pieces_bad (by simp) hr] at h
      cases h
theorem dropWhile_head {α : Type} {p : α → Bool} : ∀ {l : List α} {x : α} {t : List α}, l.dropWhile p = x :: t → p x = false
  | [], x, t, h => by cases h
  | y :: l, x, t, h => by
    rw [List.dropWhile_cons] at h
    rcases hy : p y with _ | _
    · rw [hy] at h
      simp at h
      rw [← h.1]; exact hy
    · rw [hy] at h
      exact dropWhile_head h
theorem rd_two {b : UInt8} {r : Tp.Bs} {p : Part} {n : Nat} (h : rd (b :: r) = .ok p n) (hb : b = 36 ∨ b = 37 ∨ b = 92) : (n == 1) = false := by
  unfold rd at h
  dsimp only at h
  by_cases h1 : b = 92
  · rw [if_pos h1] at h
    rcases r with _ | ⟨x, r⟩
    · cases h
    · cases h; rfl
  rw [if_neg h1] at h
  by_cases h2 : b = 36
  · rw [if_pos h2] at h
    rcases r with _ | ⟨x, r⟩
    · cases h
    · dsimp only at h
      by_cases hd : dig x = true
      · rw [if_pos hd] at h; cases h; rfl
      · rw [if_neg hd] at h; cases h
  rw [if_neg h2] at h
  by_cases h3 : b = 37
  · rw [if_pos h3] at h
    rcases r with _ | ⟨x, r⟩
    · cases h
    · dsimp only at h
      by_cases hd : dig x = true
      · rw [if_pos hd] at h; cases h; rfl
      · rw [if_neg hd] at h
        by_cases hx : x = 123
        · rw [if_pos hx] at h
          unfold rdVar at h
          rcases hn : nameTo r with _ | nm
          · rw [hn] at h; cases h
          · rw [hn] at h
            dsimp only at h
            rcases hv : varNo nm with _ | i
            · rw [hv] at h; cases h
            · rw [hv] at h
              cases h
              rw [beq_eq_false_iff_ne]; omega
        · rw [if_neg hx] at h; cases h
  · rcases hb with h | h | h
    · exact absurd h h2
    · exact absurd h h3
    · exact absurd h h1
/-- Where the host ends. -/
theorem ext_stop {s : Tp.Bs} {hh : Tp.Bs} (hho : hostOf s = hh) : (pieces (s.drop (7 + hh.length)) (7 + hh.length)).1 = [] ∨
    ∃ q tl, (pieces (s.drop (7 + hh.length)) (7 + hh.length)).1 = q :: tl ∧ (q.plain = false ∨ (q.plain = true ∧ q.at' = 7 + hh.length ∧ (q.p.t = [47] ∨ q.p.t = [63]))) := by
  have hd : s.drop (7 + hh.length) = (s.drop 7).dropWhile hostB := by
    have hs : s.drop 7 = hostOf s ++ (s.drop 7).dropWhile hostB := (List.takeWhile_append_dropWhile (p := hostB)).symm
    have := congrArg (List.drop hh.length) hs
    rw [hho, List.drop_left, List.drop_drop] at this
    exact this
  rcases hr : s.drop (7 + hh.length) with _ | ⟨b, r⟩
  · exact .inl rfl
  · have hb : hostB b = false := dropWhile_head (hd.symm.trans hr)
    rcases hp : rd (b :: r) with ⟨p, n⟩ | e
    · right
      refine ⟨⟨p, 7 + hh.length, n == 1⟩, _, by rw [pieces_ok hp], ?_⟩
      unfold hostB at hb
      simp only [Bool.not_eq_false', List.contains_cons, List.contains_nil, Bool.or_false, Bool.or_eq_true, beq_iff_eq] at hb
      rcases hb with rfl | rfl | rfl | rfl | rfl
      · cases hp
        exact .inr ⟨rfl, rfl, .inl rfl⟩
      · cases hp
        exact .inr ⟨rfl, rfl, .inr rfl⟩
      · exact .inl (rd_two hp (.inl rfl))
      · exact .inl (rd_two hp (.inr (.inl rfl)))
      · exact .inl (rd_two hp (.inr (.inr rfl)))
    · left
      rw [pieces_bad (by simp) hp]
/-- A literal part that was joined has bytes. -/
def Lit (L : List Part) : Prop := ∀ q ∈ L, q.k = 1 → q.t ≠ []
theorem addP_lit {L : List Part} {p : Part} (h : Lit L) (hp : p.k = 1 → p.t ≠ []) : Lit (addP L p) := by
  have hold : Lit (L ++ [p]) := fun q hq => by
    rcases List.mem_append.1 hq with h1 | h1
    · exact h q h1
    · simp at h1; subst h1; exact hp
  unfold addP
  split
  · rename_i hk
    split
    · rename_i x hx
      split
      · intro q hq
        rcases List.mem_append.1 hq with h1 | h1
        · exact h q (List.dropLast_subset L h1)
        · simp at h1
          subst h1
          intro _
          show x.t ++ p.t ≠ []
          simp [hp hk]
      · exact hold
    · exact hold
  · exact hold
theorem joinP_lit : ∀ (l M : List Part), (∀ p ∈ l, p.k = 1 → p.t ≠ []) → Lit M → Lit (l.foldl addP M)
  | [], M, _, h => h
  | p :: l, M, hl, h => joinP_lit l (addP M p) (fun q hq => hl q (by simp [hq])) (addP_lit h (hl p (by simp)))
theorem rd_lit {r : Tp.Bs} {p : Part} {n : Nat} (h : rd r = .ok p n) : p.k = 1 → p.t ≠ [] := by
  intro hk
  rcases r with _ | ⟨b, r⟩
  · cases h
  unfold rd at h
  dsimp only at h
  by_cases h1 : b = 92
  · rw [if_pos h1] at h
    rcases r with _ | ⟨x, r⟩
    · cases h
    · cases h; simp
  rw [if_neg h1] at h
  by_cases h2 : b = 36
  · rw [if_pos h2] at h
    rcases r with _ | ⟨x, r⟩
    · cases h
    · dsimp only at h
      by_cases hd : dig x = true
      · rw [if_pos hd] at h; cases h; exact absurd hk (show ¬ (2 : Int) = 1 by decide)
      · rw [if_neg hd] at h; cases h
  rw [if_neg h2] at h
  by_cases h3 : b = 37
  · rw [if_pos h3] at h
    rcases r with _ | ⟨x, r⟩
    · cases h
    · dsimp only at h
      by_cases hd : dig x = true
      · rw [if_pos hd] at h; cases h; exact absurd hk (show ¬ (3 : Int) = 1 by decide)
      · rw [if_neg hd] at h
        by_cases hx : x = 123
        · rw [if_pos hx] at h
          unfold rdVar at h
          rcases hn : nameTo r with _ | nm
          · rw [hn] at h; cases h
          · rw [hn] at h
            dsimp only at h
            rcases hv : varNo nm with _ | i
            · rw [hv] at h; cases h
            · rw [hv] at h; cases h; exact absurd hk (show ¬ (4 : Int) = 1 by decide)
        · rw [if_neg hx] at h; cases h
  · rw [if_neg h3] at h; cases h; simp
theorem pcs_lit : ∀ (f : Nat) (r : Tp.Bs) (i : Nat), ∀ q ∈ (pcs f r i).1, q.p.k = 1 → q.p.t ≠ []
  | 0, r, i => by simp [pcs]
  | f + 1, [], i => by simp [pcs]
  | f + 1, b :: r, i => by
    rw [pcs_succ]
    rcases h : rd (b :: r) with ⟨p, n⟩ | e
    · intro q hq
      rcases List.mem_cons.1 hq with rfl | hq
      · exact rd_lit h
      · exact pcs_lit f _ _ q hq
    · simp
theorem TM.set1 {w W : World} {n6 : Nat} {ex hq : Bool} {h : Tp.Bs} {v u : Value} {L : List Part} (m : TM w W n6 ex h v hq u L) (ex' : Bool) : TM w (W.setCell ⟨n6, 1, none⟩ (.bool ex')) n6 ex' h v hq u L := by
  have hl := m.lt
  refine ⟨?_, ?_, ?_, hl, ?_, ?_⟩
  · exact (Below.heap_setCell _ _ _ _ (by show w.heap.size ≠ n6; omega)).trans m.rt
  · exact (Below.heap_setCell _ _ _ _ (by show w.heap.size + 1 ≠ n6; omega)).trans m.rf
  · exact set_list m.tt 1 _
  · exact m.bl.setCell (p := ⟨n6, 1, none⟩) (by show w.heap.size ≤ n6; omega) _
  · exact ownsSetOld m.ow (by show n6 < n6 + 1; omega) _
theorem TM.set2 {w W : World} {n6 : Nat} {ex hq : Bool} {h : Tp.Bs} {v u : Value} {L : List Part} (m : TM w W n6 ex h v hq u L) (h' : Tp.Bs) : TM w (W.setCell ⟨n6, 2, none⟩ (.string (bs h'))) n6 ex h' v hq u L := by
  have hl := m.lt
  refine ⟨?_, ?_, ?_, hl, ?_, ?_⟩
  · exact (Below.heap_setCell _ _ _ _ (by show w.heap.size ≠ n6; omega)).trans m.rt
  · exact (Below.heap_setCell _ _ _ _ (by show w.heap.size + 1 ≠ n6; omega)).trans m.rf
  · exact set_list m.tt 2 _
  · exact m.bl.setCell (p := ⟨n6, 2, none⟩) (by show w.heap.size ≤ n6; omega) _
  · exact ownsSetOld m.ow (by show n6 < n6 + 1; omega) _
theorem TM.setV {w W : World} {n6 : Nat} {ex hq : Bool} {h : Tp.Bs} {v v' u : Value} {L L' : List Part} (m : TM w W n6 ex h v hq u L) (ho : OwnParts W (n6 + 1) v' L') : TM w (W.setCell ⟨n6, 3, none⟩ v') n6 ex h v' hq u L' := by
  have hl := m.lt
  refine ⟨?_, ?_, ?_, hl, ?_, ?_⟩
  · exact (Below.heap_setCell _ _ _ _ (by show w.heap.size ≠ n6; omega)).trans m.rt
  · exact (Below.heap_setCell _ _ _ _ (by show w.heap.size + 1 ≠ n6; omega)).trans m.rf
  · exact set_list m.tt 3 _
  · exact m.bl.setCell (p := ⟨n6, 3, none⟩) (by show w.heap.size ≤ n6; omega) _
  · exact ownsSetOld ho (by show n6 < n6 + 1; omega) _
/-- The pieces that came first, kept through the walk: they lie in blocks of their own below the target. -/
structure RM (w W : World) (n6 : Nat) (ex : Bool) (h : Tp.Bs) (v : Value) (hq : Bool) (u : Value) (L : List Part) (a : Option Addr) (PS : List Piece) : Prop where
  tm : TM w W n6 ex h v hq u L
  ps : Pieces W a PS.length PS
  ab : ∀ ad : Addr, a = some ad → w.heap.size + 1 < ad.block ∧ ad.block < n6
theorem RM.below {w W W' : World} {n6 : Nat} {ex hq : Bool} {h : Tp.Bs} {v u : Value} {L : List Part} {a : Option Addr} {PS : List Piece} (m : RM w W n6 ex h v hq u L a PS) (hb : Below W.heap.size W W') : RM w W' n6 ex h v hq u L a PS :=
  ⟨m.tm.below hb, Rd.below m.ps hb, m.ab⟩
theorem RM.set1 {w W : World} {n6 : Nat} {ex hq : Bool} {h : Tp.Bs} {v u : Value} {L : List Part} {a : Option Addr} {PS : List Piece} (m : RM w W n6 ex h v hq u L a PS) (ex' : Bool) : RM w (W.setCell ⟨n6, 1, none⟩ (.bool ex')) n6 ex' h v hq u L a PS :=
  ⟨m.tm.set1 ex', Rd.setCell m.ps (fun ad e => by have := (m.ab ad e).2; show ad.block ≠ n6; omega) _, m.ab⟩
theorem RM.set2 {w W : World} {n6 : Nat} {ex hq : Bool} {h : Tp.Bs} {v u : Value} {L : List Part} {a : Option Addr} {PS : List Piece} (m : RM w W n6 ex h v hq u L a PS) (h' : Tp.Bs) : RM w (W.setCell ⟨n6, 2, none⟩ (.string (bs h'))) n6 ex h' v hq u L a PS :=
  ⟨m.tm.set2 h', Rd.setCell m.ps (fun ad e => by have := (m.ab ad e).2; show ad.block ≠ n6; omega) _, m.ab⟩
theorem RM.setV {w W : World} {n6 : Nat} {ex hq : Bool} {h : Tp.Bs} {v v' u : Value} {L L' : List Part} {a : Option Addr} {PS : List Piece} (m : RM w W n6 ex h v hq u L a PS) (ho : OwnParts W (n6 + 1) v' L') : RM w (W.setCell ⟨n6, 3, none⟩ v') n6 ex h v' hq u L' a PS :=
  ⟨m.tm.setV ho, Rd.setCell m.ps (fun ad e => by have := (m.ab ad e).2; show ad.block ≠ n6; omega) _, m.ab⟩
theorem RM.setHq {w W : World} {n6 : Nat} {ex hq : Bool} {h : Tp.Bs} {v u : Value} {L : List Part} {a : Option Addr} {PS : List Piece} (m : RM w W n6 ex h v hq u L a PS) (hq' : Bool) : RM w (W.setCell ⟨n6, 4, none⟩ (.bool hq')) n6 ex h v hq' u L a PS :=
  ⟨m.tm.setHq hq', Rd.setCell m.ps (fun ad e => by have := (m.ab ad e).2; show ad.block ≠ n6; omega) _, m.ab⟩
theorem RM.drew {w W : World} {n6 : Nat} {ex hq : Bool} {h : Tp.Bs} {v u : Value} {L : List Part} {a : Option Addr} {PS : List Piece} (m : RM w W n6 ex h v hq u L a PS) : RM w W.drew n6 ex h v hq u L a PS :=
  ⟨m.tm.drew, Rd.drew m.ps, m.ab⟩
theorem pieceCells_drop : ∀ (L : List Piece) (i : Nat), (pieceCells L).drop (i * 5) = pieceCells (L.drop i)
  | L, 0 => by simp
  | [], i + 1 => by simp [pieceCells]
  | x :: L, i + 1 => by
    have e : pieceCells (x :: L) = [.int .i64 x.p.k, .string (bs x.p.t), .int .i64 x.p.n, .int .i64 x.at', .bool x.plain] ++ pieceCells L := rfl
    have e2 : (i + 1) * 5 = 5 + i * 5 := by omega
    rw [e, e2, ← List.drop_drop]
    exact pieceCells_drop L i
theorem pieceCells_take : ∀ (L : List Piece) (i : Nat), (pieceCells L).take (i * 5) = pieceCells (L.take i)
  | L, 0 => by simp [pieceCells]
  | [], i + 1 => by simp [pieceCells]
  | x :: L, i + 1 => by
    have e : pieceCells (x :: L) = [.int .i64 x.p.k, .string (bs x.p.t), .int .i64 x.p.n, .int .i64 x.at', .bool x.plain] ++ pieceCells L := rfl
    have e1 : pieceCells (x :: L.take i) = [.int .i64 x.p.k, .string (bs x.p.t), .int .i64 x.p.n, .int .i64 x.at', .bool x.plain] ++ pieceCells (L.take i) := rfl
    rw [List.take_succ_cons, e, e1, ← pieceCells_take L i, List.take_append]
    have e2 : (i + 1) * 5 - [Value.int .i64 x.p.k, .string (bs x.p.t), .int .i64 x.p.n, .int .i64 x.at', .bool x.plain].length = i * 5 := by simp; omega
    rw [e2, List.take_of_length_le (by simp; omega)]
theorem Pieces.sub {w : World} {a : Option Addr} {PS : List Piece} (h : Pieces w a PS.length PS) {i j : Nat} (h1 : i ≤ j) (h2 : j ≤ PS.length) (a' : Option Addr) (ha : i < PS.length → a' = a.map (·.add (i * 5))) : Pieces w a' ((PS.drop i).take (j - i)).length ((PS.drop i).take (j - i)) := by
  have hd := Rd.drop h (k := i) (by omega) a' ha
  have ht := Rd.take hd (k := j - i) (by omega)
  rw [pieceCells_drop, pieceCells_take] at ht
  have hl : ((PS.drop i).take (j - i)).length = j - i := by simp; omega
  unfold Pieces
  rw [hl]
  exact ht
theorem mark_split {PS : List Piece} {at0 j : Nat} (h1 : at0 ≤ j) (h2 : j ≤ PS.length) (hn : ∀ i q, at0 ≤ i → i < j → PS[i]? = some q → isQ q = false) : PS.drop at0 = (PS.drop at0).take (j - at0) ++ PS.drop j ∧ (∀ q ∈ (PS.drop at0).take (j - at0), isQ q = false) ∧ ((PS.drop at0).take (j - at0)).length = j - at0 := by
  refine ⟨?_, ?_, by simp; omega⟩
  · have e : PS.drop j = (PS.drop at0).drop (j - at0) := by rw [List.drop_drop]; congr 1; omega
    rw [e, List.take_append_drop]
  · intro q hq
    obtain ⟨i, hi, rfl⟩ := List.getElem_of_mem hq
    have hi2 : i < j - at0 := by simp at hi; omega
    refine hn (at0 + i) _ (by omega) (by omega) ?_
    rw [List.getElem_take, List.getElem_drop]
    exact List.getElem?_eq_getElem _
def MI (PS : List Piece) (W2 : World) (at0 : Nat) (g : Nat) (s8 : Value) (W : World) : Prop :=
  ∃ j : Nat, s8 = .int .i64 j ∧ at0 ≤ j ∧ j ≤ PS.length ∧ PS.length ≤ j + g ∧ (∀ i q, at0 ≤ i → i < j → PS[i]? = some q → isQ q = false) ∧ W = W2
def HI (w : World) (n6 : Nat) (hh : Tp.Bs) (a : Option Addr) (PS : List Piece) (g : Nat) (s7 : Value) (W : World) : Prop :=
  ∃ j : Nat, s7 = .int .i64 (7 + (j : Int)) ∧ j ≤ hh.length ∧ hh.length ≤ j + g ∧ RM w W n6 true (hh.take j) (.slice none 0 0) false (.slice none 0 0) [] a PS
end Go.Proofs.YtllklgalghmnfaaDoor
