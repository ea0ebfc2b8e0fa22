/- template.expand, plainly; where Check errs. -/
import Derived.Test.YtllklgalghmnfaaDoorTplValueRow
namespace Go.Proofs.YtllklgalghmnfaaDoor
open Go.RowKit Str Mem Tp
set_option linter.unusedVariables false
set_option linter.unusedSimpArgs false

/-- What a part puts into the text, by a function of its value. -/
def pieceR (f : Tp.Bs → Tp.Bs) (R C : List Tp.Bs) (x1 x2 x3 x4 : Tp.Bs) (p : Part) : Tp.Bs := if p.k = 1 then p.t else f (valueR R C x1 x2 x3 x4 p)
/-- The text so far and more parts: none when it grows beyond what is asked. -/
def expTo (f : Tp.Bs → Tp.Bs) (R C : List Tp.Bs) (x1 x2 x3 x4 : Tp.Bs) (most : Int) : List Part → Tp.Bs → Option Tp.Bs
  | [], out => some out
  | p :: L, out => if most < (out ++ pieceR f R C x1 x2 x3 x4 p).length then none else expTo f R C x1 x2 x3 x4 most L (out ++ pieceR f R C x1 x2 x3 x4 p)
def expandR (f : Tp.Bs → Tp.Bs) (R C : List Tp.Bs) (x1 x2 x3 x4 : Tp.Bs) (most : Int) (L : List Part) : Tp.Bs × Int :=
  if checkR L ≠ 0 then ([], checkR L) else if 10 < R.length ∨ 10 < C.length ∨ most < 0 ∨ 1024 < most then ([], 2) else match expTo f R C x1 x2 x3 x4 most L [] with
    | some t => (t, 0)
    | none => ([], 4)
theorem checkR_fit (L : List Part) (h : checkR L = 0) (ht : ∀ p ∈ L, p.t.length ≤ 100000) : ∀ p ∈ L, oneE p = 0 ∧ fitW p := by
  have hc : checkTo L false = 0 := by
    unfold checkR at h
    split at h
    · exact h
    · rename_i h0; simpa using h0
  clear h
  have main : ∀ (L : List Part) (b : Bool), checkTo L b = 0 → ∀ p ∈ L, oneE p = 0 := by
    intro L
    induction L with
    | nil => intro b _ p hp; simp at hp
    | cons q L ih =>
      intro b h p hp
      unfold checkTo at h
      split at h
      · rename_i h0; exact absurd h h0
      · rename_i h0
        split at h
        · cases h
        · rcases List.mem_cons.1 hp with rfl | hp
          · simpa using h0
          · exact ih _ h p hp
  exact fun p hp => ⟨main L false hc p hp, one_fit p (main L false hc p hp) (ht p hp)⟩
theorem through_id (s : Tp.Bs) (w : World) : Calls Tryd.prog 65 #[.string (bs s)] w fun e w' => e = .returned (.string (bs s)) ∧ Below w.heap.size w w' := by
  go_enter Tryd.func65, Tryd.ntmps65
  go_wp2_with fail
  go_ret
  exact ⟨rfl, Below.refl _ _⟩

set_option maxRecDepth 100000 in
set_option maxHeartbeats 4000000 in
theorem expand_err (G : Nat) (most : Int) (a b e : Option Addr) (ca c d : Nat) (f : Tp.Bs → Tp.Bs) (L : List Part) (R C : List Tp.Bs) (x1 x2 x3 x4 : Tp.Bs) (w : World) (hP : Parts w a L.length L) (hn : L.length ≤ 100000) (hc : L.length ≤ ca) (hcm : ca ≤ maxLen) (ht : ∀ p ∈ L, p.t.length ≤ 100000) (hN : Nm w)
    (hE : checkR L ≠ 0) :
    Calls Tryd.prog 64 #[.slice a L.length ca, valsV b R.length c e C.length d x1 x2 x3 x4, .int .i64 most, .func (.func G) #[] #[]] w fun e w' => e = .returned (.tuple #[.string (bs (expandR f R C x1 x2 x3 x4 most L).1), .int .i64 (expandR f R C x1 x2 x3 x4 most L).2]) ∧ Below w.heap.size w w' := by
  have hb := (Below.refl _ w).alloc (Nat.le_refl _) (.cells #[.slice b R.length c, .slice e C.length d, .string (bs x1), .string (bs x2), .string (bs x3), .string (bs x4)] 53)
  have hP2 : Parts _ a L.length L := Rd.below hP hb
  have hN2 := hN.below hb hN.lt
  have hck := fun W h1 h2 => check_any a ca L W h1 hn hc hcm ht h2
  have hv : expandR f R C x1 x2 x3 x4 most L = ([], checkR L) := by unfold expandR; rw [if_pos hE]
  rw [hv]
  clear hv
  obtain ⟨V, hV⟩ : ∃ V, checkR L = V := ⟨_, rfl⟩
  rw [hV] at hck hE ⊢
  clear hV
  have hE1 : (V == 0) = false := by simpa using hE
  have HP := Lib.hid hP2
  have HN := Lib.hid hN2
  have HB := Lib.hid hb
  clear hP2 hN2 hP hN hb ht
  unfold valsV
  go_enter Tryd.func64, Tryd.ntmps64
  go_wp2_with fail
  refine (hck _ HP.out HN.out).mono ?_
  rintro e w2 ⟨rfl, h2⟩
  have hb2 := HB.out.trans (h2.mono HB.out.size)
  go_wp2_with fail
  refine bodyPost_ret (v := .tuple #[.string ⟨#[]⟩, .int .i64 V]) (by simp [results, Tryd.results64, go_sem]) rfl ⟨rfl, hb2⟩
end Go.Proofs.YtllklgalghmnfaaDoor
