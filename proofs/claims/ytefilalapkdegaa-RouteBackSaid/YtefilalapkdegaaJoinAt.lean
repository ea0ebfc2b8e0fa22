/- strings.Join of the rest of some segments, and what their lengths are. -/
import Derived.Test.YtefilalapkdegaaShelfJoin
import Derived.Test.YtefilalapkdegaaDotsMore
import Derived.Test.YtefilalapkdegaaMem
import Derived.Test.YtefilalapkdegaaStrPlain
import Derived.Test.YtefilalapkdegaaRefNormal
namespace Go.Proofs.Ytefilalapkdegaa
open Go.RowKit Str Mem
set_option linter.unusedVariables false
set_option linter.unusedSimpArgs false

theorem join_glue : ∀ l : List (List UInt8), Lib.join l [47] = Dots.glue l
  | [] => rfl
  | [x] => by rw [Lib.join_one]; rfl
  | x :: y :: r => by
    have ih := join_glue (y :: r)
    rw [Lib.join_cons] at ih ⊢
    show x ++ ([47] ++ y ++ Lib.joinTail [47] r) = x ++ 47 :: Dots.glue (y :: r)
    rw [← ih]
    simp
theorem glue_le (l : List (List UInt8)) : (Dots.glue l).length ≤ (Dots.body l).length := by
  rcases l with _ | ⟨x, r⟩
  · simp [Dots.glue]
  · rw [Dots.body_glue (x :: r) (by simp)]; simp
theorem body_drop_le (l : List (List UInt8)) (k : Nat) : (Dots.body (l.drop k)).length ≤ (Dots.body l).length := by
  have := Dots.body_append (l.take k) (l.drop k)
  rw [List.take_append_drop] at this
  rw [this, List.length_append]; omega
theorem body_count : ∀ l : List (List UInt8), l.length ≤ (Dots.body l).length
  | [] => by simp
  | x :: r => by rw [Dots.body_cons]; have := body_count r; simp; omega
theorem body_each : ∀ (l : List (List UInt8)) (s : List UInt8), s ∈ l → s.length ≤ (Dots.body l).length
  | [], s, h => by simp at h
  | x :: r, s, h => by
    rw [Dots.body_cons]
    rcases List.mem_cons.1 h with rfl | h
    · simp; omega
    · have := body_each r s h; simp; omega
theorem segs_body {p : List UInt8} (h : Dots.normal p = true) : (Dots.body (Dots.segments p)).length ≤ 128 := by
  have h1 := normal_small h
  obtain ⟨op, _, e⟩ := Dots.normal_segments h
  have : (Dots.built (Dots.segments p) op).length ≤ 128 := by rw [← e]; exact h1.2
  unfold Dots.built at this
  split at this
  · rw [List.length_append] at this; omega
  · exact this

theorem join_at {w : World} {g k sc : Nat} {P : List (List UInt8)} (hseg : Rd w 1 (some ⟨g, 0, none⟩) P.length (P.map sv)) (hk : k < P.length) (hsc : P.length ≤ sc) (hb : (Dots.body P).length ≤ 10000000000) :
    Calls Try.prog 41 #[.slice (some ⟨g, k, none⟩) (P.length - k) (sc - k), .string ⟨#[47]⟩] w fun e w' => e = .returned (.string ⟨(Dots.glue (P.drop k)).toArray⟩) ∧ Below w.heap.size w w' := by
  obtain ⟨ad, e0, hlt, hc⟩ := hseg.get (by omega)
  cases e0
  have hlen : ((P.drop k).map bs).length = P.length - k := by simp
  have hmap : ((P.drop k).map bs).map (fun x => x.data.toList) = P.drop k := by
    rw [List.map_map]
    conv => rhs; rw [← List.map_id (P.drop k)]
    exact List.map_congr_left fun s _ => data_bs s
  have hj := sh_strings_Join g k (sc - k) ((P.drop k).map bs) ⟨#[47]⟩ w
    (by
      intro j x hx
      rw [List.getElem?_map] at hx
      obtain ⟨s, hs, rfl⟩ := Option.map_eq_some_iff.1 hx
      rw [List.getElem?_drop] at hs
      have := hc (k + j) (sv s) (by rw [List.getElem?_map, hs]; rfl)
      rw [add_flat, Nat.zero_add] at this
      exact this)
    hlt (by rw [hlen]; have := body_count P; omega) (by rw [hlen]; omega)
    (by rw [hmap, show (⟨#[47]⟩ : ByteArray).data.toList = [47] from rfl, join_glue]; have := glue_le (P.drop k); have := body_drop_le P k; omega)
  rw [hlen, hmap, show (⟨#[47]⟩ : ByteArray).data.toList = [47] from rfl, join_glue] at hj
  exact hj
end Go.Proofs.Ytefilalapkdegaa
