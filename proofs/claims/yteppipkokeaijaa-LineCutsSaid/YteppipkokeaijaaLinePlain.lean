/- Lines, plainly: what one line takes of a chunk, what feeding gives, lines that are joined. No program. -/
import Derived.Test.YteppipkokeaijaaDotsPlain
namespace Go.Proofs.Yteppipkokeaijaa.Ln
set_option linter.unusedVariables false
set_option linter.unusedSectionVars false
abbrev Bs := List UInt8

/-! ### A line -/
def clean (s : Bs) : Bool := !(s.contains 13) && !(s.contains 0)
def mk (s : Bs) : Bs × Bool := if s.getLast? = some 13 then (s.dropLast, clean s.dropLast) else (s, false)
/-- A state: what there is of a line, and whether it is too long. -/
abbrev St := Bs × Bool
structure One where
  next : St
  line : Option (Bs × Bool)
  rest : Bs
def one (lim : Nat) : Bs → Bs → One
  | T, [] => ⟨(T, false), none, []⟩
  | T, b :: r => if b = 10 then ⟨([], false), some (mk T), r⟩ else if T.length = lim then ⟨([], true), none, []⟩ else one lim (T ++ [b]) r
def feed (lim : Nat) : Bs → Bs → St × List (Bs × Bool)
  | T, [] => ((T, false), [])
  | T, b :: r => if b = 10 then ((feed lim [] r).1, mk T :: (feed lim [] r).2) else if T.length = lim then (([], true), []) else feed lim (T ++ [b]) r
/-- The bytes ahead of the first LF, and those behind it. -/
def pre : Bs → Bs
  | [] => []
  | b :: r => if b = 10 then [] else b :: pre r
def post : Bs → Bs
  | [] => []
  | b :: r => if b = 10 then r else post r
def ends (c : Bs) : Bool := c.contains 10

section
variable {lim : Nat} {T c : Bs}
theorem one_long : ∀ (c T : Bs), T.length ≤ lim → lim < T.length + (pre c).length → one lim T c = ⟨([], true), none, []⟩
  | [], T, h, h2 => by simp [pre] at h2; omega
  | b :: r, T, h, h2 => by
    unfold pre at h2
    unfold one
    by_cases hb : b = 10
    · rw [if_pos hb] at h2; simp at h2; omega
    · rw [if_neg hb] at h2 ⊢
      by_cases hl : T.length = lim
      · rw [if_pos hl]
      · rw [if_neg hl]
        exact one_long r (T ++ [b]) (by simp; omega) (by simp at h2 ⊢; omega)
theorem one_line : ∀ (c T : Bs), T.length + (pre c).length ≤ lim → ends c = true → one lim T c = ⟨([], false), some (mk (T ++ pre c)), post c⟩
  | [], T, h, h2 => by simp [ends] at h2
  | b :: r, T, h, h2 => by
    unfold one pre post
    unfold pre at h
    by_cases hb : b = 10
    · rw [if_pos hb, if_pos hb, if_pos hb]; simp
    · rw [if_neg hb] at h
      rw [if_neg hb, if_neg hb, if_neg hb, if_neg (by simp at h; omega)]
      rw [one_line r (T ++ [b]) (by simp at h ⊢; omega) (by unfold ends at h2 ⊢; simpa [Ne.symm hb] using h2)]
      simp
theorem one_none : ∀ (c T : Bs), T.length + (pre c).length ≤ lim → ends c = false → one lim T c = ⟨(T ++ c, false), none, []⟩
  | [], T, h, h2 => by simp [one]
  | b :: r, T, h, h2 => by
    have hb : b ≠ 10 := by rintro rfl; simp [ends] at h2
    unfold one
    unfold pre at h
    rw [if_neg hb] at h
    rw [if_neg hb, if_neg (by simp at h; omega)]
    rw [one_none r (T ++ [b]) (by simp at h ⊢; omega) (by unfold ends at h2 ⊢; simpa [Ne.symm hb] using h2)]
    simp
theorem pre_all : ∀ (c : Bs), ends c = false → pre c = c
  | [], h => rfl
  | b :: r, h => by
    have hb : b ≠ 10 := by rintro rfl; simp [ends] at h
    unfold pre
    rw [if_neg hb, pre_all r (by unfold ends at h ⊢; simpa [Ne.symm hb] using h)]
/-- Feeding is one line after the other. -/
theorem feed_one : ∀ (c T : Bs), feed lim T c = match (one lim T c).line with
    | some x => ((feed lim [] (one lim T c).rest).1, x :: (feed lim [] (one lim T c).rest).2)
    | none => ((one lim T c).next, [])
  | [], T => by simp [feed, one]
  | b :: r, T => by
    rw [feed, one]
    by_cases hb : b = 10
    · rw [if_pos hb, if_pos hb]
    · rw [if_neg hb, if_neg hb]
      by_cases hl : T.length = lim
      · rw [if_pos hl, if_pos hl]
      · rw [if_neg hl, if_neg hl]; exact feed_one r (T ++ [b])
theorem one_shorter : ∀ (c T : Bs) (x : Bs × Bool), (one lim T c).line = some x → (one lim T c).rest.length < c.length ∧ (one lim T c).next = ([], false)
  | [], T, x, h => by simp [one] at h
  | b :: r, T, x, h => by
    unfold one at h ⊢
    by_cases hb : b = 10
    · rw [if_pos hb]; simp
    · rw [if_neg hb] at h ⊢
      by_cases hl : T.length = lim
      · rw [if_pos hl] at h; simp at h
      · rw [if_neg hl] at h ⊢
        have := one_shorter r (T ++ [b]) x h
        exact ⟨by simp; omega, this.2⟩
theorem one_rest_le : ∀ (c T : Bs), (one lim T c).rest.length ≤ c.length
  | [], T => by simp [one]
  | b :: r, T => by
    unfold one
    split
    · simp
    · split
      · simp
      · have := one_rest_le r (T ++ [b]); simp; omega
theorem feed_next_le : ∀ (c T : Bs), T.length ≤ lim → (feed lim T c).1.1.length ≤ lim
  | [], T, h => by simpa [feed]
  | b :: r, T, h => by
    unfold feed
    split
    · exact feed_next_le r [] (by simp)
    · split
      · simp
      · exact feed_next_le r _ (by simp; omega)
theorem feed_next_lf : ∀ (c T : Bs), T.contains 10 = false → (feed lim T c).1.1.contains 10 = false
  | [], T, h => by simpa [feed] using h
  | b :: r, T, h => by
    unfold feed
    split
    · exact feed_next_lf r [] (by simp)
    · rename_i hb
      split
      · simp
      · refine feed_next_lf r _ ?_
        rw [List.contains_eq_any_beq] at *
        simp at h ⊢
        exact ⟨h, fun e => hb e.symm⟩
theorem feed_long_nil : ∀ (c T : Bs), (feed lim T c).1.2 = true → (feed lim T c).1.1 = []
  | [], T, h => by simp [feed] at h
  | b :: r, T, h => by
    unfold feed at h ⊢
    split
    · rename_i hb; rw [if_pos hb] at h; exact feed_long_nil r [] h
    · rename_i hb
      rw [if_neg hb] at h
      split
      · rfl
      · rename_i hl; rw [if_neg hl] at h; exact feed_long_nil r _ h
/-- Chunk by chunk. -/
theorem feed_append : ∀ (a b T : Bs), feed lim T (a ++ b) = if (feed lim T a).1.2 = true then feed lim T a else ((feed lim (feed lim T a).1.1 b).1, (feed lim T a).2 ++ (feed lim (feed lim T a).1.1 b).2)
  | [], b, T => by simp [feed]
  | x :: r, b, T => by
    rw [List.cons_append]
    conv => lhs; unfold feed
    by_cases hx : x = 10
    · have e : feed lim T (x :: r) = ((feed lim [] r).1, mk T :: (feed lim [] r).2) := by conv => lhs; unfold feed
                                                                                          rw [if_pos hx]
      rw [if_pos hx, e, feed_append r b []]
      split <;> simp
    · by_cases hl : T.length = lim
      · have e : feed lim T (x :: r) = (([], true), []) := by conv => lhs; unfold feed
                                                              rw [if_neg hx, if_pos hl]
        rw [if_neg hx, if_pos hl, e]; simp
      · have e : feed lim T (x :: r) = feed lim (T ++ [x]) r := by conv => lhs; unfold feed
                                                                   rw [if_neg hx, if_neg hl]
        rw [if_neg hx, if_neg hl, e, feed_append r b (T ++ [x])]
theorem mk_len (s : Bs) : (mk s).1.length ≤ s.length := by unfold mk; split <;> simp
end

/-! ### What is refused -/
def most : Int := 1536
def check (lim : Int) (t : Bs) (lg : Bool) : Int := if lim < 1 ∨ most < lim then 2 else if lim < (t.length : Int) then 4 else if t.contains 10 = true ∨ (lg = true ∧ t ≠ []) then 3 else 0
end Go.Proofs.Yteppipkokeaijaa.Ln
