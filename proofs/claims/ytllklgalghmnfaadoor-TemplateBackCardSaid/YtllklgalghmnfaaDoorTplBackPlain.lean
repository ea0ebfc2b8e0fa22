/- Templates read back, plainly: parts of their text, a target of its text. -/
import Derived.Test.YtllklgalghmnfaaDoorTplTgtText
import Derived.Test.YtllklgalghmnfaaDoorTplTarget
import Derived.Test.YtllklgalghmnfaaDoorTplMade
namespace Go.Proofs.YtllklgalghmnfaaDoor
open Go.RowKit Str Mem Tp
set_option linter.unusedVariables false
set_option linter.unusedSimpArgs false

/-! ### What one part's text is read as -/
def units (p : Part) : List Part := if p.k = 1 then p.t.map (fun b => ⟨1, [b], 0⟩) else [p]
/-- A text's pieces, and what follows is read on. -/
def Reads (s : Tp.Bs) (U : List Part) : Prop := ∀ (r : Tp.Bs) (i : Nat), ∃ ps : List Piece, pieces (s ++ r) i = (ps ++ (pieces r (i + s.length)).1, (pieces r (i + s.length)).2) ∧ ps.map (·.p) = U ∧ ∀ q ∈ ps, isQ q = false
theorem Reads.nil : Reads [] [] := fun r i => ⟨[], rfl, rfl, by simp⟩
theorem Reads.app {s t : Tp.Bs} {U V : List Part} (h1 : Reads s U) (h2 : Reads t V) : Reads (s ++ t) (U ++ V) := fun r i => by
  obtain ⟨ps, e1, m1, q1⟩ := h1 (t ++ r) i
  obtain ⟨qs, e2, m2, q2⟩ := h2 r (i + s.length)
  refine ⟨ps ++ qs, ?_, by rw [List.map_append, m1, m2], fun q hq => ?_⟩
  · rw [List.append_assoc, e1, e2, List.length_append, Nat.add_assoc, List.append_assoc]
  · rcases List.mem_append.1 hq with hq | hq
    · exact q1 q hq
    · exact q2 q hq
theorem Reads.one {s : Tp.Bs} {p : Part} (h0 : s ≠ []) (h : ∀ r, rd (s ++ r) = .ok p s.length) (hq : s.head? ≠ some 63) : Reads s [p] := fun r i => by
  refine ⟨[⟨p, i, s.length == 1⟩], ?_, rfl, fun q hq2 => ?_⟩
  · rw [pieces_ok (h r), List.drop_left]
    rfl
  · rw [List.mem_singleton.1 hq2]
    rcases s with _ | ⟨b, s⟩
    · exact absurd rfl h0
    · rw [rd_isQ (h []) i, beq_eq_false_iff_ne]
      exact fun e => hq (by rw [e]; rfl)
theorem reads_esc : ∀ (s : Tp.Bs), Reads (esc s) (s.map fun b => ⟨1, [b], 0⟩)
  | [] => Reads.nil
  | b :: s => by
    have hb : Reads (if b = 36 ∨ b = 37 ∨ b = 92 ∨ b = 63 then [92, b] else [b]) [⟨1, [b], 0⟩] := by
      by_cases h : b = 36 ∨ b = 37 ∨ b = 92 ∨ b = 63
      · rw [if_pos h]
        exact Reads.one (by simp) (fun r => by show rd (92 :: b :: r) = _; unfold rd; rfl) (by simp)
      · rw [if_neg h]
        have h' : b ≠ 36 ∧ b ≠ 37 ∧ b ≠ 92 ∧ b ≠ 63 := ⟨fun e => h (.inl e), fun e => h (.inr (.inl e)), fun e => h (.inr (.inr (.inl e))), fun e => h (.inr (.inr (.inr e)))⟩
        exact Reads.one (by simp) (fun r => rd_plain h'.2.2.1 h'.1 h'.2.1) (by simpa using h'.2.2.2)
    exact hb.app (reads_esc s)
theorem reads_num (c : UInt8) (k n : Int) (h0 : 0 ≤ n) (h9 : n ≤ 9) (hk : c = 36 ∧ k = 2 ∨ c = 37 ∧ k = 3) : Reads [c, (48 + n).toNat.toUInt8] [⟨k, [], n⟩] := by
  rcases hk with ⟨rfl, rfl⟩ | ⟨rfl, rfl⟩
  all_goals
    rcases (by omega : n = 0 ∨ n = 1 ∨ n = 2 ∨ n = 3 ∨ n = 4 ∨ n = 5 ∨ n = 6 ∨ n = 7 ∨ n = 8 ∨ n = 9) with rfl | rfl | rfl | rfl | rfl | rfl | rfl | rfl | rfl | rfl
    all_goals exact Reads.one (by simp) (fun r => rfl) (by decide)
theorem reads_var (n : Int) (h0 : 1 ≤ n) (h9 : n ≤ 4) : Reads ([37, 123] ++ nmOf n.toNat ++ [125]) [⟨4, [], n⟩] := by
  rcases (by omega : n = 1 ∨ n = 2 ∨ n = 3 ∨ n = 4) with rfl | rfl | rfl | rfl
  all_goals exact Reads.one (by simp) (fun r => rfl) (by decide)
/-- What is right of a part, taken apart. -/
theorem oneE_zero {p : Part} (h : oneE p = 0) : (p.k = 1 ∧ p.n = 0 ∧ p.t ≠ []) ∨ ((p.k = 2 ∨ p.k = 3) ∧ p.t = [] ∧ 0 ≤ p.n ∧ p.n ≤ 9) ∨ (p.k = 4 ∧ p.t = [] ∧ 1 ≤ p.n ∧ p.n ≤ 4) := by
  unfold oneE lowR highR at h
  obtain ⟨k, t, n⟩ := p
  dsimp only at h ⊢
  by_cases h1 : k < 1 ∨ 4 < k
  · rw [if_pos h1] at h; cases h
  rw [if_neg h1] at h
  by_cases ht : t = []
  · rcases (by omega : k = 1 ∨ k = 2 ∨ k = 3 ∨ k = 4) with rfl | rfl | rfl | rfl <;> simp [ht] at h ⊢ <;> omega
  · rcases (by omega : k = 1 ∨ k = 2 ∨ k = 3 ∨ k = 4) with rfl | rfl | rfl | rfl <;> simp [ht] at h ⊢ <;> omega
theorem reads_part {p : Part} (h : oneE p = 0) : Reads (writeP p) (units p) := by
  obtain ⟨k, t, n⟩ := p
  rcases oneE_zero h with ⟨h1, h2, h3⟩ | ⟨h1, h2, h3, h4⟩ | ⟨h1, h2, h3, h4⟩
  · dsimp only at h1 h2 h3
    subst h1
    exact reads_esc t
  · dsimp only at h1 h2 h3 h4
    subst h2
    rcases h1 with rfl | rfl
    · exact reads_num 36 2 n h3 h4 (.inl ⟨rfl, rfl⟩)
    · exact reads_num 37 3 n h3 h4 (.inr ⟨rfl, rfl⟩)
  · dsimp only at h1 h2 h3 h4
    subst h2 h1
    exact reads_var n h3 h4
theorem checkTo_all : ∀ {L : List Part} {f : Bool}, checkTo L f = 0 → ∀ p ∈ L, oneE p = 0
  | [], _, _, p, hp => by simp at hp
  | q :: L, f, h, p, hp => by
    unfold checkTo at h
    split at h
    · rename_i h1; exact absurd h h1
    · rename_i h1
      split at h
      · cases h
      · rcases List.mem_cons.1 hp with rfl | hp
        · exact Classical.not_not.1 h1
        · exact checkTo_all h p hp
theorem reads_text : ∀ {L : List Part}, (∀ p ∈ L, oneE p = 0) → Reads (textP L) (L.flatMap units)
  | [], _ => Reads.nil
  | p :: L, h => (reads_part (h p (by simp))).app (reads_text (fun q hq => h q (by simp [hq])))

/-! ### The units join to the parts -/
theorem endsLit_snoc (A : List Part) (p : Part) : endsLit (A ++ [p]) = (p.k == 1) := by
  unfold endsLit
  rw [List.getLast?_concat]
theorem addP_new (A : List Part) (p : Part) (h : ¬ (p.k = 1 ∧ endsLit A = true)) : addP A p = A ++ [p] := by
  unfold addP
  by_cases h1 : p.k = 1
  · rw [if_pos h1]
    have h2 : endsLit A = false := by
      rcases e : endsLit A with _ | _
      · rfl
      · exact absurd ⟨h1, e⟩ h
    unfold endsLit at h2
    rcases hl : A.getLast? with _ | q
    · rfl
    · rw [hl] at h2
      dsimp only at h2 ⊢
      rw [if_neg (fun e => by rw [e] at h2; cases h2)]
  · rw [if_neg h1]
theorem addP_more (A : List Part) (u v : Tp.Bs) (n m : Int) : addP (A ++ [⟨1, u, n⟩]) ⟨1, v, m⟩ = A ++ [⟨1, u ++ v, n⟩] := by
  unfold addP
  rw [if_pos rfl, List.getLast?_concat]
  dsimp only
  rw [if_pos rfl, List.dropLast_concat]
theorem join_lit (A : List Part) : ∀ (t u : Tp.Bs), (t.map fun b => (⟨1, [b], 0⟩ : Part)).foldl addP (A ++ [⟨1, u, 0⟩]) = A ++ [⟨1, u ++ t, 0⟩]
  | [], u => by simp
  | b :: t, u => by
    rw [List.map_cons, List.foldl_cons, addP_more, join_lit A t (u ++ [b]), List.append_assoc]
    rfl
theorem join_units : ∀ (L A : List Part), checkTo L (endsLit A) = 0 → (L.flatMap units).foldl addP A = A ++ L
  | [], A, _ => by simp
  | p :: L, A, h => by
    unfold checkTo at h
    split at h
    · rename_i h1; exact absurd h h1
    · rename_i h1
      split at h
      · cases h
      · rename_i h2
        have hp : oneE p = 0 := Classical.not_not.1 h1
        rw [List.flatMap_cons, List.foldl_append]
        have hu : (units p).foldl addP A = A ++ [p] := by
          obtain ⟨k, t, n⟩ := p
          by_cases hk : k = 1
          · subst hk
            rcases oneE_zero hp with ⟨_, e2, e3⟩ | ⟨e1, _⟩ | ⟨e1, _⟩
            · dsimp only at e2 e3
              subst e2
              rcases t with _ | ⟨b, t⟩
              · exact absurd rfl e3
              · show ((b :: t).map fun b => (⟨1, [b], 0⟩ : Part)).foldl addP A = _
                rw [List.map_cons, List.foldl_cons, addP_new A ⟨1, [b], 0⟩ h2, join_lit A t [b]]
                rfl
            · dsimp only at e1; omega
            · dsimp only at e1; omega
          · unfold units
            rw [if_neg hk]
            show addP A _ = _
            exact addP_new A _ (fun e => hk e.1)
        rw [hu, join_units L (A ++ [p]) (by rw [endsLit_snoc]; exact h), List.append_assoc]
        rfl
theorem joinP_units {L : List Part} (h : checkTo L false = 0) : joinP (L.flatMap units) = L := by
  have := join_units L [] h
  simpa [joinP] using this
/-- Parts are read from their text. -/
theorem parse_text {L : List Part} (h : checkR L = 0) : parseR (textP L) = ⟨L, 0, 0⟩ := by
  obtain ⟨h1, h2⟩ := checkR_zero h
  obtain ⟨ps, e, m, _⟩ := reads_text (checkTo_all h1) [] 0
  rw [List.append_nil, pieces_nil, List.append_nil] at e
  unfold parseR
  rw [if_neg (by omega), e]
  dsimp only
  rw [m, joinP_units h1]

/-! ### A target is read from its text -/
def tailP (hq : Bool) (M : List Part) : Tp.Bs := if hq = true then 63 :: textP M else []
theorem outP_split (ex : Bool) (h : Tp.Bs) (L : List Part) (hq : Bool) (M : List Part) : outP ex h L hq M = (if ex = true then schemeS ++ h else []) ++ (textP L ++ tailP hq M) := by
  unfold outP tailP schemeS
  rw [List.append_assoc]
  cases hq <;> rfl
/-- The pieces of path and query. -/
theorem rest_back (ex : Bool) (h : Tp.Bs) (L : List Part) (hq : Bool) (M : List Part) (at' i : Nat) (hL : checkTo L false = 0) (hM : checkTo M false = 0) (hp : placeR L = true) (hm : hq = false → M = []) :
    restR ex h at' (pieces (textP L ++ tailP hq M) i).1 = ⟨false, ex, h, L, hq, M, 0, 0⟩ ∧ (pieces (textP L ++ tailP hq M) i).2 = none := by
  obtain ⟨ps, e, m, nq⟩ := reads_text (checkTo_all hL) (tailP hq M) i
  rw [e]
  rcases hq with _ | _
  · rw [hm rfl]
    show restR ex h at' (ps ++ (pieces [] (i + (textP L).length)).1) = _ ∧ (pieces [] (i + (textP L).length)).2 = none
    rw [pieces_nil, List.append_nil]
    refine ⟨?_, rfl⟩
    rw [rest_end nq, m, joinP_units hL, if_pos hp]
  · obtain ⟨qs, e2, m2, _⟩ := reads_text (checkTo_all hM) [] (i + (textP L).length + 1)
    rw [List.append_nil, pieces_nil, List.append_nil] at e2
    have e3 : pieces (tailP true M) (i + (textP L).length) = (⟨⟨1, [63], 0⟩, i + (textP L).length, true⟩ :: qs, none) := by
      show pieces (63 :: textP M) _ = _
      rw [pieces_ok (rd_plain (b := 63) (by decide) (by decide) (by decide))]
      show (_ :: (pieces (textP M) _).1, (pieces (textP M) _).2) = _
      rw [e2]
      rfl
    rw [e3]
    refine ⟨?_, rfl⟩
    rw [rest_hit nq (by rfl), m, joinP_units hL, if_pos hp, m2, joinP_units hM]
/-- What a path and a query begin with. -/
theorem begins (L : List Part) (hq : Bool) (M : List Part) (hp : placeR L = true) : textP L ++ tailP hq M = [] ∨ ∃ b r, textP L ++ tailP hq M = b :: r ∧ (b = 47 ∨ b = 63) := by
  rcases L with _ | ⟨p, L⟩
  · rcases hq with _ | _
    · exact .inl rfl
    · exact .inr ⟨63, textP M, rfl, .inr rfl⟩
  · obtain ⟨k, t, n⟩ := p
    unfold placeR at hp
    simp only [Bool.and_eq_true, beq_iff_eq] at hp
    obtain ⟨h1, h2⟩ := hp
    subst h1
    rcases t with _ | ⟨b, t⟩
    · simp at h2
    · simp only [List.head?_cons, Option.some.injEq] at h2
      subst h2
      exact .inr ⟨47, esc t ++ textP L ++ tailP hq M, rfl, .inl rfl⟩
theorem tw_pre {α : Type} {p : α → Bool} : ∀ {h X : List α}, (∀ b ∈ h, p b = true) → (X = [] ∨ ∃ b r, X = b :: r ∧ p b = false) → (h ++ X).takeWhile p = h
  | [], X, _, hX => by
    rcases hX with rfl | ⟨b, r, rfl, hb⟩
    · rfl
    · rw [List.nil_append, List.takeWhile_cons, hb]; rfl
  | a :: h, X, hh, hX => by
    rw [List.cons_append, List.takeWhile_cons, hh a (by simp), tw_pre (fun b hb => hh b (by simp [hb])) hX]
    rfl
structure TX where
  sm : Bool
  ex : Bool
  h : Tp.Bs
  L : List Part
  hq : Bool
  M : List Part
theorem host_of_any {h : Tp.Bs} (ha : anyH h = false) : ∀ b ∈ h, hostB b = true := fun b hb => by
  unfold anyH hasAny at ha
  have := List.any_eq_false.1 ha b hb
  unfold hostB
  simpa using this
theorem any_of_host {h : Tp.Bs} (ha : ∀ b ∈ h, hostB b = true) : anyH h = false := by
  unfold anyH hasAny
  rw [List.any_eq_false]
  intro b hb
  have := ha b hb
  unfold hostB at this
  simpa using this
theorem not_scheme {b : UInt8} {r : Tp.Bs} (hb : b = 47 ∨ b = 63) : schemeS.isPrefixOf (b :: r) = false := by
  rcases hb with rfl | rfl <;> rfl
theorem parse_zero {s : Tp.Bs} (h : s.length ≤ 96) (hp : (pieces s 0).2 = none) : (parseR s).e = 0 := by
  unfold parseR
  rw [if_neg (by omega), hp]
/-- A target is read from its text. -/
theorem target_text {sm ex : Bool} {h : Tp.Bs} {L : List Part} {hq : Bool} {M : List Part} (he : (tgtText sm ex h L hq M).2 = 0) : targetR (tgtText sm ex h L hq M).1 = ⟨sm, ex, h, L, hq, M, 0, 0⟩ := by
  unfold tgtText at he ⊢
  by_cases c1 : checkR L ≠ 0
  · rw [if_pos c1] at he; exact absurd he c1
  rw [if_neg c1] at he ⊢
  by_cases c2 : checkR M ≠ 0
  · rw [if_pos c2] at he; exact absurd he c2
  rw [if_neg c2] at he ⊢
  by_cases c3 : sm = (ex || !h.isEmpty || !L.isEmpty || hq || !M.isEmpty)
  · rw [if_pos c3] at he; cases he
  rw [if_neg c3] at he ⊢
  by_cases c4 : sm = true
  · rw [if_pos c4]
    subst c4
    have c5 : (ex || !h.isEmpty || !L.isEmpty || hq || !M.isEmpty) = false := by
      rcases hx : (ex || !h.isEmpty || !L.isEmpty || hq || !M.isEmpty) with _ | _
      · rfl
      · rw [hx] at c3; exact absurd rfl c3
    simp only [Bool.or_eq_false_iff, Bool.not_eq_false', List.isEmpty_iff] at c5
    obtain ⟨⟨⟨⟨rfl, rfl⟩, rfl⟩, rfl⟩, rfl⟩ := c5
    rfl
  rw [if_neg c4] at he ⊢
  by_cases c6 : ex = h.isEmpty ∨ anyH h = true ∨ placeR L = false ∨ (hq = false ∧ M.isEmpty = false)
  · rw [if_pos c6] at he; cases he
  rw [if_neg c6] at he ⊢
  by_cases c7 : 96 < (outP ex h L hq M).length
  · rw [if_pos c7] at he; cases he
  rw [if_neg c7]
  clear he
  dsimp only
  have hsm : sm = false := by simpa using c4
  subst hsm
  have hc1 := (checkR_zero (Classical.not_not.1 c1)).1
  have hc2 := (checkR_zero (Classical.not_not.1 c2)).1
  have hpl : placeR L = true := by
    rcases hx : placeR L with _ | _
    · exact absurd (.inr (.inr (.inl hx))) c6
    · rfl
  have hmm : hq = false → M = [] := fun hx => by
    rcases hy : M.isEmpty with _ | _
    · exact absurd (.inr (.inr (.inr ⟨hx, hy⟩))) c6
    · exact List.isEmpty_iff.1 hy
  have hah : anyH h = false := by
    rcases hx : anyH h with _ | _
    · rfl
    · exact absurd (.inr (.inl hx)) c6
  have hbg := begins L hq M hpl
  rw [outP_split] at c7 ⊢
  rcases ex with _ | _
  · have hh : h = [] := by
      rcases h with _ | ⟨b, h⟩
      · rfl
      · exact absurd (.inl rfl) c6
    subst hh
    rw [if_neg (by simp), List.nil_append] at c7 ⊢
    obtain ⟨g1, g2⟩ := rest_back false [] L hq M 0 0 hc1 hc2 hpl hmm
    have hne : textP L ++ tailP hq M ≠ [] := by
      rcases hbg with e | ⟨b, r, e, _⟩
      · exfalso
        rcases hq with _ | _
        · rw [hmm rfl] at c3
          rcases L with _ | ⟨p, L⟩
          · exact c3 rfl
          · obtain ⟨k, t, n⟩ := p
            unfold placeR at hpl
            simp only [Bool.and_eq_true, beq_iff_eq] at hpl
            obtain ⟨h1, h2⟩ := hpl
            subst h1
            rcases t with _ | ⟨b, t⟩
            · simp at h2
            · simp only [List.head?_cons, Option.some.injEq] at h2
              subst h2
              cases e
        · have := congrArg List.length e
          simp [tailP] at this
      · rw [e]; simp
    unfold targetR
    rw [if_neg (fun hx => hx (parse_zero (by omega) g2)), if_neg hne]
    rcases hbg with e | ⟨b, r, e, hb⟩
    · exact absurd e hne
    · rw [if_neg (by rw [e]; rcases hb with rfl | rfl <;> simp), if_neg (by rw [e, not_scheme hb]; simp)]
      exact g1
  · have hh : h ≠ [] := fun e => c6 (.inl (by rw [e]; rfl))
    rw [if_pos rfl] at c7 ⊢
    have hhost := host_of_any hah
    have hpre : schemeS.isPrefixOf ((schemeS ++ h) ++ (textP L ++ tailP hq M)) = true := by
      rw [List.append_assoc]
      exact List.isPrefixOf_iff_prefix.2 ⟨_, rfl⟩
    have hho : hostOf ((schemeS ++ h) ++ (textP L ++ tailP hq M)) = h := by
      unfold hostOf
      rw [List.append_assoc]
      show (h ++ (textP L ++ tailP hq M)).takeWhile hostB = h
      refine tw_pre hhost ?_
      rcases hbg with e | ⟨b, r, e, hb⟩
      · exact .inl e
      · exact .inr ⟨b, r, e, by rcases hb with rfl | rfl <;> rfl⟩
    have hdr : ((schemeS ++ h) ++ (textP L ++ tailP hq M)).drop (7 + h.length) = textP L ++ tailP hq M := by
      have : 7 + h.length = (schemeS ++ h).length := by rw [List.length_append]; rfl
      rw [this, List.drop_left]
    obtain ⟨_, p2, _⟩ := pieces_ext hpre
    rw [hho, hdr] at p2
    obtain ⟨g1, g2⟩ := rest_back true h L hq M (7 + h.length) (7 + h.length) hc1 hc2 hpl hmm
    have hpz := parse_zero (s := (schemeS ++ h) ++ (textP L ++ tailP hq M)) (Nat.le_of_not_lt c7) (by rw [p2]; exact g2)
    unfold targetR
    rw [if_neg (fun hx => hx hpz), if_neg (fun e => by rw [e] at hpre; cases hpre), if_neg (fun e => by rw [e] at hpre; cases hpre), if_pos hpre, hho, if_neg hh, hdr]
    exact g1

/-! ### What is read is right -/
theorem rd_one {r : Tp.Bs} {p : Part} {n : Nat} (h : rd r = .ok p n) : oneE p = 0 := by
  have hl : ∀ b : UInt8, oneE ⟨1, [b], 0⟩ = 0 := fun b => by simp [oneE, lowR, highR]
  have hd : ∀ (k : Int) (x : UInt8), (k = 2 ∨ k = 3) → dig x = true → oneE ⟨k, [], (x.toNat : Int) - 48⟩ = 0 := fun k x hk hx => by
    unfold dig at hx
    simp only [Bool.and_eq_true, decide_eq_true_eq] at hx
    have a1 : ¬ ((x.toNat : Int) - 48 < 0 ∨ 9 < (x.toNat : Int) - 48) := by omega
    rcases hk with rfl | rfl
    · show (if ((2 : Int) < 1 ∨ (4 : Int) < 2) then (10 : Int) else if ((x.toNat : Int) - 48 < 0 ∨ 9 < (x.toNat : Int) - 48) then 2 else if ((2 : Int) = 1) ≠ (([] : Tp.Bs) ≠ []) then 3 else 0) = 0
      rw [if_neg (by decide), if_neg a1]; simp
    · show (if ((3 : Int) < 1 ∨ (4 : Int) < 3) then (10 : Int) else if ((x.toNat : Int) - 48 < 0 ∨ 9 < (x.toNat : Int) - 48) then 2 else if ((3 : Int) = 1) ≠ (([] : Tp.Bs) ≠ []) then 3 else 0) = 0
      rw [if_neg (by decide), if_neg a1]; simp
  rcases r with _ | ⟨b, r⟩
  · cases h
  unfold rd at h
  dsimp only at h
  by_cases h1 : b = 92
  · rw [if_pos h1] at h
    rcases r with _ | ⟨x, r⟩
    · cases h
    · cases h; exact hl x
  rw [if_neg h1] at h
  by_cases h2 : b = 36
  · rw [if_pos h2] at h
    rcases r with _ | ⟨x, r⟩
    · cases h
    · dsimp only at h
      by_cases hx : dig x = true
      · rw [if_pos hx] at h; cases h; exact hd 2 x (.inl rfl) hx
      · rw [if_neg hx] at h; cases h
  rw [if_neg h2] at h
  by_cases h3 : b = 37
  · rw [if_pos h3] at h
    rcases r with _ | ⟨x, r⟩
    · cases h
    · dsimp only at h
      by_cases hx : dig x = true
      · rw [if_pos hx] at h; cases h; exact hd 3 x (.inr rfl) hx
      · rw [if_neg hx] at h
        by_cases hy : x = 123
        · rw [if_pos hy] at h
          unfold rdVar at h
          rcases hn : nameTo r with _ | nm
          · rw [hn] at h; cases h
          · rw [hn] at h
            dsimp only at h
            rcases hv : varNo nm with _ | i
            · rw [hv] at h; cases h
            · rw [hv] at h
              cases h
              have hi : i = 1 ∨ i = 2 ∨ i = 3 ∨ i = 4 := by
                unfold varNo at hv
                split at hv
                · cases hv; simp
                · split at hv
                  · cases hv; simp
                  · split at hv
                    · cases hv; simp
                    · split at hv
                      · cases hv; simp
                      · cases hv
              rcases hi with rfl | rfl | rfl | rfl <;> rfl
        · rw [if_neg hy] at h; cases h
  · rw [if_neg h3] at h
    cases h
    exact hl b
theorem pcs_one : ∀ (f : Nat) (r : Tp.Bs) (i : Nat), ∀ q ∈ (pcs f r i).1, oneE q.p = 0
  | 0, r, i, q, h => by simp [pcs] at h
  | f + 1, [], i, q, h => by simp [pcs] at h
  | f + 1, b :: r, i, q, h => by
    rw [pcs_succ] at h
    rcases hr : rd (b :: r) with ⟨p, n⟩ | e
    · rw [hr] at h
      dsimp only at h
      rcases List.mem_cons.1 h with rfl | h
      · exact rd_one hr
      · exact pcs_one f _ _ q h
    · rw [hr] at h; simp at h
theorem pieces_one (r : Tp.Bs) (i : Nat) : ∀ q ∈ (pieces r i).1, oneE q.p = 0 := pcs_one _ _ _
theorem checkTo_end {q : Part} : ∀ {A : List Part} {f : Bool}, checkTo (A ++ [q]) f = 0 → checkTo A f = 0 ∧ oneE q = 0 ∧ ¬ (q.k = 1 ∧ flagOf A f = true)
  | [], f, h => by
    show checkTo [] f = 0 ∧ _
    rw [List.nil_append] at h
    unfold checkTo at h
    split at h
    · rename_i h1; exact absurd h h1
    · rename_i h1
      split at h
      · cases h
      · rename_i h2
        exact ⟨rfl, Classical.not_not.1 h1, by simpa [flagOf] using h2⟩
  | p :: A, f, h => by
    rw [List.cons_append] at h
    unfold checkTo at h
    split at h
    · rename_i h1; exact absurd h h1
    · rename_i h1
      split at h
      · cases h
      · rename_i h2
        obtain ⟨a, b, c⟩ := checkTo_end h
        refine ⟨?_, b, ?_⟩
        · unfold checkTo
          rw [if_neg h1, if_neg h2]
          exact a
        · have : flagOf (p :: A) f = flagOf A (p.k == 1) := by
            unfold flagOf
            rcases A with _ | ⟨x, A⟩
            · rfl
            · rw [List.getLast?_cons_cons]
              cases h9 : (x :: A).getLast? with
              | none => simp at h9
              | some z => rfl
          rwa [this]
theorem addP_right {A : List Part} {p : Part} (hA : checkTo A false = 0) (hp : oneE p = 0) : checkTo (addP A p) false = 0 := by
  by_cases h : p.k = 1 ∧ endsLit A = true
  · obtain ⟨h1, h2⟩ := h
    rcases List.eq_nil_or_concat A with rfl | ⟨B, q, rfl⟩
    · cases h2
    · rw [List.concat_eq_append] at hA h2 ⊢
      rw [endsLit_snoc, beq_iff_eq] at h2
      obtain ⟨a, b, c⟩ := checkTo_end hA
      obtain ⟨k, t, n⟩ := p
      obtain ⟨k', u, m⟩ := q
      dsimp only at h1 h2
      subst h1 h2
      rw [addP_more]
      have hu : oneE ⟨1, u ++ t, m⟩ = 0 := by
        rcases oneE_zero b with ⟨_, e2, e3⟩ | ⟨e1, _⟩ | ⟨e1, _⟩
        · dsimp only at e2 e3
          subst e2
          have : u ++ t ≠ [] := fun e => e3 (List.append_eq_nil_iff.1 e).1
          simp [oneE, lowR, highR, this]
        · dsimp only at e1; omega
        · dsimp only at e1; omega
      exact checkTo_snoc _ hu B false a c
  · rw [addP_new A p h]
    refine checkTo_snoc p hp A false hA ?_
    have : flagOf A false = endsLit A := rfl
    rwa [this]
theorem foldl_right : ∀ (l A : List Part), checkTo A false = 0 → (∀ p ∈ l, oneE p = 0) → checkTo (l.foldl addP A) false = 0
  | [], A, h, _ => h
  | p :: l, A, h, hl => foldl_right l _ (addP_right h (hl p (by simp))) (fun q hq => hl q (by simp [hq]))
theorem joinP_right {l : List Part} (h : ∀ p ∈ l, oneE p = 0) : checkTo (joinP l) false = 0 := foldl_right l [] rfl h
theorem addP_some (A : List Part) (p : Part) : addP A p ≠ [] := by
  by_cases h : p.k = 1 ∧ endsLit A = true
  · obtain ⟨h1, h2⟩ := h
    rcases List.eq_nil_or_concat A with rfl | ⟨B, q, rfl⟩
    · cases h2
    · rw [List.concat_eq_append] at h2 ⊢
      rw [endsLit_snoc, beq_iff_eq] at h2
      obtain ⟨k, t, n⟩ := p
      obtain ⟨k', u, m⟩ := q
      dsimp only at h1 h2
      subst h1 h2
      rw [addP_more]
      simp
  · rw [addP_new A p h]; simp
theorem foldl_some : ∀ (l A : List Part), A ≠ [] → l.foldl addP A ≠ []
  | [], A, h => h
  | p :: l, A, h => foldl_some l _ (addP_some A p)
theorem joinP_some {p : Part} {l : List Part} : joinP (p :: l) ≠ [] := foldl_some l _ (addP_some [] p)
/-- A target that was read can be written, or its text is too long. -/
theorem rest_right {ex : Bool} {h : Tp.Bs} {at' : Nat} {ps : List Piece} (ho : ∀ q ∈ ps, oneE q.p = 0) (he : (restR ex h at' ps).e = 0) :
    ∃ L hq M, restR ex h at' ps = ⟨false, ex, h, L, hq, M, 0, 0⟩ ∧ checkTo L false = 0 ∧ checkTo M false = 0 ∧ placeR L = true ∧ (hq = false → M = []) ∧ (ps ≠ [] → L ≠ [] ∨ hq = true) := by
  unfold restR at he ⊢
  by_cases hp : placeR (pathOf ps) = true
  · rw [if_pos hp] at he ⊢
    have hL : checkTo (pathOf ps) false = 0 := joinP_right (fun p hp => by
      obtain ⟨q, hq, rfl⟩ := List.mem_map.1 hp
      exact ho q ((List.takeWhile_sublist _).subset hq))
    rcases hd : ps.dropWhile (fun q => !isQ q) with _ | ⟨d, tl⟩
    · refine ⟨pathOf ps, false, [], rfl, hL, rfl, hp, fun _ => rfl, fun hn => .inl ?_⟩
      have : ps.takeWhile (fun q => !isQ q) = ps := by
        have := List.takeWhile_append_dropWhile (p := fun q => !isQ q) (l := ps)
        rw [hd, List.append_nil] at this
        exact this
      unfold pathOf
      rw [this]
      rcases ps with _ | ⟨q, ps⟩
      · exact absurd rfl hn
      · exact joinP_some
    · have hM : checkTo (joinP (tl.map (·.p))) false = 0 := joinP_right (fun p hp => by
        obtain ⟨q, hq, rfl⟩ := List.mem_map.1 hp
        have h1 : q ∈ ps.dropWhile (fun q => !isQ q) := by rw [hd]; simp [hq]
        exact ho q ((List.dropWhile_sublist _).subset h1))
      exact ⟨pathOf ps, true, joinP (tl.map (fun q : Piece => q.p)), rfl, hL, hM, ⟨hp, ⟨fun h => Bool.noConfusion h, fun _ => Or.inr rfl⟩⟩⟩
  · rw [if_neg hp] at he; cases he
theorem checkR_or {L : List Part} (h : checkTo L false = 0) : checkR L = 0 ∨ checkR L = 4 := by
  unfold checkR
  rw [if_neg (fun hx => hx h)]
  split
  · exact .inr rfl
  · exact .inl rfl
theorem tgt_or {ex : Bool} {h : Tp.Bs} {L : List Part} {hq : Bool} {M : List Part} (hL : checkTo L false = 0) (hM : checkTo M false = 0) (hp : placeR L = true) (hm : hq = false → M = []) (hx : ex = true ∨ L ≠ [] ∨ hq = true) (hh : ex = !h.isEmpty) (ha : anyH h = false) :
    (tgtText false ex h L hq M).2 = 0 ∨ (tgtText false ex h L hq M).2 = 4 := by
  unfold tgtText
  rcases checkR_or hL with e | e
  · rw [if_neg (fun hx => hx e)]
    rcases checkR_or hM with e2 | e2
    · rw [if_neg (fun hx => hx e2)]
      have c3 : ¬ false = (ex || !h.isEmpty || !L.isEmpty || hq || !M.isEmpty) := by
        rcases hx with rfl | hx | rfl
        · simp
        · have : L.isEmpty = false := by cases L with
            | nil => exact absurd rfl hx
            | cons => rfl
          simp [this]
        · simp
      rw [if_neg c3, if_neg (by simp)]
      have c6 : ¬ (ex = h.isEmpty ∨ anyH h = true ∨ placeR L = false ∨ (hq = false ∧ M.isEmpty = false)) := by
        rintro (h1 | h1 | h1 | ⟨h1, h2⟩)
        · rw [h1] at hh; cases hz : h.isEmpty <;> rw [hz] at hh <;> cases hh
        · rw [ha] at h1; cases h1
        · rw [hp] at h1; cases h1
        · rw [hm h1] at h2; cases h2
      rw [if_neg c6]
      split
      · exact .inr rfl
      · exact .inl rfl
    · rw [if_pos (by omega)]; exact .inr e2
  · rw [if_pos (by omega)]; exact .inr e
theorem target_right {s : Tp.Bs} (he : (targetR s).e = 0) : (tgtText (targetR s).sm (targetR s).ex (targetR s).h (targetR s).L (targetR s).hq (targetR s).M).2 = 0 ∨ (tgtText (targetR s).sm (targetR s).ex (targetR s).h (targetR s).L (targetR s).hq (targetR s).M).2 = 4 := by
  by_cases h1 : (parseR s).e ≠ 0
  · have e : targetR s = .fault (parseR s).e (parseR s).at' := by unfold targetR; rw [if_pos h1]
    rw [e] at he
    exact absurd he h1
  by_cases h2 : s = []
  · subst h2; cases he
  by_cases h3 : s = [45]
  · subst h3; exact .inl rfl
  by_cases h4 : schemeS.isPrefixOf s = true
  · by_cases h5 : hostOf s = []
    · have e : targetR s = .fault 3 7 := by unfold targetR; rw [if_neg h1, if_neg h2, if_neg h3, if_pos h4, if_pos h5]
      rw [e] at he; cases he
    · have e : targetR s = restR true (hostOf s) (7 + (hostOf s).length) (pieces (s.drop (7 + (hostOf s).length)) (7 + (hostOf s).length)).1 := by unfold targetR; rw [if_neg h1, if_neg h2, if_neg h3, if_pos h4, if_neg h5]
      rw [e] at he ⊢
      obtain ⟨L, hq, M, e2, g1, g2, g3, g4, g5⟩ := rest_right (pieces_one _ _) he
      rw [e2]
      refine tgt_or g1 g2 g3 g4 (.inl rfl) ?_ (any_of_host (fun b hb => tw_all hb))
      rcases hh : hostOf s with _ | ⟨b, r⟩
      · exact absurd hh h5
      · rfl
  · have e : targetR s = restR false [] 0 (pieces s 0).1 := by unfold targetR; rw [if_neg h1, if_neg h2, if_neg h3, if_neg h4]
    rw [e] at he ⊢
    obtain ⟨L, hq, M, e2, g1, g2, g3, g4, g5⟩ := rest_right (pieces_one _ _) he
    rw [e2]
    refine tgt_or g1 g2 g3 g4 (.inr (g5 ?_)) rfl rfl
    have hw := (parse_well (Classical.not_not.1 h1)).2.1
    intro hn
    rcases s with _ | ⟨b, s⟩
    · exact h2 rfl
    · have hx : pieces (b :: s) 0 = pcs (s.length + 1) (b :: s) 0 := rfl
      rw [hx, pcs_succ] at hw hn
      rcases hr : rd (b :: s) with ⟨p, n⟩ | e
      · rw [hr] at hn; simp at hn
      · rw [hr] at hw; simp at hw
/-- .. and what is read of that text is the target again. -/
theorem target_back {s : Tp.Bs} (he : (targetR s).e = 0) (ht : (tgtText (targetR s).sm (targetR s).ex (targetR s).h (targetR s).L (targetR s).hq (targetR s).M).2 = 0) :
    targetR (tgtText (targetR s).sm (targetR s).ex (targetR s).h (targetR s).L (targetR s).hq (targetR s).M).1 = ⟨(targetR s).sm, (targetR s).ex, (targetR s).h, (targetR s).L, (targetR s).hq, (targetR s).M, 0, 0⟩ := target_text ht
end Go.Proofs.YtllklgalghmnfaaDoor
