/- Find over routes that are valid: what is found, as one value. -/
import Derived.Test.YtefilalapkdegaaRouteMade
import Derived.Test.YtefilalapkdegaaRouteLaw0
namespace Go.Proofs.Ytefilalapkdegaa
open Go.RowKit Str Mem
set_option linter.unusedVariables false
set_option linter.unusedSimpArgs false

theorem fit_len {op : Bool} : ∀ (r p : List (List UInt8)) (x : List (List UInt8) × List (List UInt8) × List UInt8), Route.fit op r p = some x → x.1.length ≤ r.length ∧ x.2.1.length ≤ r.length
  | [], [], x, h => by simp [Route.fit] at h; subst h; simp
  | [], _ :: _, x, h => by simp [Route.fit] at h
  | s :: r, [], x, h => by
    unfold Route.fit at h
    split at h
    · simp at h; subst h; simp
    · cases h
  | s :: r, y :: t, x, h => by
    unfold Route.fit at h
    split at h
    · simp at h; subst h; simp
    · split at h
      · obtain ⟨z, hz, rfl⟩ := Option.map_eq_some_iff.1 h
        have := fit_len r t z hz
        simp; omega
      · split at h
        · have := fit_len r t x h
          simp; omega
        · cases h
structure Valid (L : List RtV) : Prop where
  len : L.length ≤ 8
  ok : ∀ r ∈ L, r.err = 0
  plain : ∀ r ∈ L, r.kd = 1 ∧ r.t = []
theorem Good.valid {L : List RtV} (h : Good L) : Valid L := ⟨h.len, h.ok, h.plain⟩
def fdAt (L : List RtV) (p : List UInt8) : FD := match firstK L p with
  | none => ⟨false, [], 0, [], [], [], []⟩
  | some i => fdOf (lAt L i) 1 [] (Route.fit (Dots.isOpen p) (lAt L i) (Dots.segments p))
theorem fdAt_none {L : List RtV} {p : List UInt8} (h : firstK L p = none) : fdAt L p = ⟨false, [], 0, [], [], [], []⟩ := by unfold fdAt; rw [h]
theorem fdAt_some {L : List RtV} {p : List UInt8} {i : Nat} (h : firstK L p = some i) : fdAt L p = fdOf (lAt L i) 1 [] (Route.fit (Dots.isOpen p) (lAt L i) (Dots.segments p)) := by unfold fdAt; rw [h]
theorem Valid.allE {L : List RtV} {p : List UInt8} (h : Valid L) (hp : Dots.normal p = true) : allE L p = 0 := allE_ok (by have := h.len; omega) h.ok hp
theorem fdAt_same {A B : List RtV} {p : List UInt8} (hA : Valid A) (hB : Valid B) (hp : Dots.normal p = true) (hg : Good A)
    (hab : ∀ r ∈ A, (Route.fit (Dots.isOpen p) r.l (Dots.segments p)).isSome = true → ∃ r' ∈ B, r'.l = r.l) (hba : ∀ r ∈ B, (Route.fit (Dots.isOpen p) r.l (Dots.segments p)).isSome = true → ∃ r' ∈ A, r'.l = r.l) : fdAt A p = fdAt B p := by
  rcases first_same (hA.allE hp) (hB.allE hp) hg hab hba with ⟨h1, h2⟩ | ⟨i, j, r, r', h1, h2, h3, h4, h5⟩
  · rw [fdAt_none h1, fdAt_none h2]
  · rw [fdAt_some h1, fdAt_some h2, lAt_of h3, lAt_of h4, h5]
theorem fdAt_small {L : List RtV} {p : List UInt8} (h : Valid L) : (fdAt L p).l.length ≤ 100000 ∧ (fdAt L p).N.length ≤ 100000 ∧ (fdAt L p).V.length ≤ 100000 := by
  rcases hk : firstK L p with _ | i
  · rw [fdAt_none hk]; simp
  · rw [fdAt_some hk]
    have hl : (lAt L i).length ≤ 16 := by
      unfold lAt
      rcases hi : L[i]? with _ | r
      · simp
      · exact (Route.err_ok (h.ok r (List.mem_of_getElem? hi))).1
    rcases hf : Route.fit (Dots.isOpen p) (lAt L i) (Dots.segments p) with _ | ⟨N, V, R⟩
    · simp [fdOf]
    · have := fit_len _ _ _ hf
      simp only [fdOf]
      simp only at this
      omega
/-- Whether something is found. -/
theorem fdAt_b {L : List RtV} {p : List UInt8} (h : Valid L) (hp : Dots.normal p = true) : (fdAt L p).b = (firstK L p).isSome := by
  rcases hk : firstK L p with _ | i
  · rw [fdAt_none hk]; rfl
  · rw [fdAt_some hk]
    obtain ⟨hi, fi, _, _, r, hr⟩ := head_facts (h.allE hp) hk
    rw [fitsAt_of hr] at fi
    rw [lAt_of hr]
    rcases hf : Route.fit (Dots.isOpen p) r.l (Dots.segments p) with _ | ⟨N, V, R⟩
    · rw [hf] at fi; cases fi
    · rfl
theorem find_good (a : Option Addr) (c : Nat) (L : List RtV) (p : List UInt8) (w : World) (h : Rts w a L) (hv : Valid L) (hp : Dots.normal p = true) :
    Calls Try.prog 20 #[.slice a L.length c, .string (bs p)] w fun e w' => ∃ v, e = .returned (.tuple #[v, .int .i64 (findN L p), .int .i64 0]) ∧ FForm w' (fdAt L p) v ∧ Below w.heap.size w w' := by
  have hl8 := hv.len
  have h20 := fitTo_length L p L.length
  refine (vFind_any a c L (bs p) w h (by omega) (by rw [data_bs]; omega)).mono ?_
  rintro e w' hpst
  unfold FindPost at hpst
  rw [data_bs] at hpst
  obtain ⟨v, rfl, hf, hb⟩ := hpst
  refine ⟨v, by rw [hv.allE hp], ?_, hb⟩
  unfold FindIs at hf
  rcases hk : firstK L p with _ | i
  · rw [hk] at hf
    rw [fdAt_none hk]
    exact ⟨none, 0, none, 0, none, 0, hf, Rd.nil _ _ _, Rd.nil _ _ _, Rd.nil _ _ _⟩
  · rw [hk] at hf
    obtain ⟨r, hr, hf⟩ := hf
    obtain ⟨h1, h2⟩ := hv.plain r (List.mem_of_getElem? hr)
    rw [fdAt_some hk, lAt_of hr]
    have := hf.form
    rw [h1, h2] at this
    exact this
end Go.Proofs.Ytefilalapkdegaa
