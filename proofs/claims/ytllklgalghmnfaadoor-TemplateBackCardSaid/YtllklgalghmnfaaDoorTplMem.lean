/- Parts of templates in memory; literal, digit. -/
import Derived.Test.YtllklgalghmnfaaDoorTplPlain
import Derived.Test.YtllklgalghmnfaaDoorOwnsMore
import Derived.Test.YtllklgalghmnfaaDoorStrCut
import Derived.Test.YtllklgalghmnfaaDoorBuilder
import Derived.Maps.AppendAt
import Derived.Deep.DeepMust
namespace Go.Proofs.YtllklgalghmnfaaDoor
open Go.RowKit Str Mem Tp
set_option linter.unusedVariables false
set_option linter.unusedSimpArgs false

/-! ### Parts in memory -/
def pv (p : Part) : Value := .agg #[.int .i64 p.k, .string (bs p.t), .int .i64 p.n]
def pcells (p : Part) : List Value := [.int .i64 p.k, .string (bs p.t), .int .i64 p.n]
def partCells (L : List Part) : List Value := L.flatMap pcells
theorem partCells_len (L : List Part) : (partCells L).length = L.length * 3 := by
  induction L with
  | nil => rfl
  | cons x L ih => simp only [partCells, List.flatMap_cons, List.length_append, pcells, List.length_cons, List.length_nil] at ih ⊢; omega
theorem partCells_append (L M : List Part) : partCells (L ++ M) = partCells L ++ partCells M := by simp [partCells]
theorem partCells_one (L : List Part) : ∀ u ∈ partCells L, u.oneCell' = true := by
  intro u hu
  obtain ⟨x, _, h⟩ := List.mem_flatMap.1 hu
  simp [pcells] at h
  rcases h with rfl | rfl | rfl <;> rfl
def Parts (w : World) (a : Option Addr) (n : Nat) (L : List Part) : Prop := Rd w 3 a n (partCells L)
def OwnParts (w : World) (base : Nat) (v : Value) (L : List Part) : Prop := Owns w base 59 3 v L.length (partCells L)
theorem OwnParts.form {w : World} {base : Nat} {v : Value} {L : List Part} (h : OwnParts w base v L) : ∃ a c, v = .slice a L.length c ∧ L.length ≤ c ∧ c ≤ maxLen ∧ Parts w a L.length L := Owns.form h
theorem infoPart : (Tryd.prog.info? 59).map (fun i => (i.zero, i.size, i.bytes)) = some (some (.agg #[.int .i64 0, .string ⟨#[]⟩, .int .i64 0]), 3, 32) := by kernel_rfl
theorem add3 (b o k : Nat) : ((⟨b, o, none⟩ : Addr).add k) = ⟨b, o + k, none⟩ := add_flat b o k
theorem partCells_get : ∀ (L : List Part) (k : Nat) (x : Part), L[k]? = some x → (partCells L)[k * 3]? = some (.int .i64 x.k) ∧ (partCells L)[k * 3 + 1]? = some (.string (bs x.t)) ∧ (partCells L)[k * 3 + 2]? = some (.int .i64 x.n)
  | [], k, x, h => by simp at h
  | y :: L, 0, x, h => by
    simp at h; subst h
    exact ⟨rfl, rfl, rfl⟩
  | y :: L, k + 1, x, h => by
    have := partCells_get L k x (by simpa using h)
    have e : partCells (y :: L) = pcells y ++ partCells L := rfl
    have e2 : ∀ j, (partCells (y :: L))[(k + 1) * 3 + j]? = (partCells L)[k * 3 + j]? := fun j => by
      rw [e, List.getElem?_append_right (by simp [pcells]; omega)]
      congr 1
      simp [pcells]; omega
    refine ⟨?_, ?_, ?_⟩
    · have := e2 0; simp only [Nat.add_zero] at this; rw [this]; exact (partCells_get L k x (by simpa using h)).1
    · rw [e2 1]; exact (partCells_get L k x (by simpa using h)).2.1
    · rw [e2 2]; exact (partCells_get L k x (by simpa using h)).2.2

theorem literal_any (p : Part) (w : World) : Calls Tryd.prog 61 #[pv p] w fun e w' => e = .returned (.bool (p.k == 1)) ∧ Below w.heap.size w w' := by
  unfold pv
  go_enter Tryd.func61, Tryd.ntmps61
  go_wp2_with fail
  go_ret
  exact ⟨rfl, (Below.refl _ w).alloc (Nat.le_refl _) _⟩

def digS (r : Tp.Bs) : Bool := match r with
  | [] => false
  | b :: _ => dig b
theorem digit_any (r : Tp.Bs) (w : World) : Calls Tryd.prog 73 #[.string (bs r)] w fun e w' => e = .returned (.bool (digS r)) ∧ w' = w := by
  rcases r with _ | ⟨b, r⟩
  · have he : (bs ([] : Tp.Bs)).toList = [] := by rw [toList_data]
    go_enter Tryd.func73, Tryd.ntmps73
    go_wp2_with fail
    go_ret
    exact ⟨rfl, rfl⟩
  · obtain ⟨B, hB⟩ : ∃ B, B = bs (b :: r) := ⟨_, rfl⟩
    rw [← hB]
    have he : B.toList.isEmpty = false := by rw [hB, toList_data]; simp
    have h0 : 0 < B.size := by rw [hB, size_bs]; simp
    have hb0 : B[0] = b := by subst hB; rw [get_data _ 0 h0]; simp [data_bs]
    have hbn : (B[0].toNat : Int) = (b.toNat : Int) := by rw [hb0]
    have HBn := Lib.hid hbn
    have hd : digS (b :: r) = dig b := rfl
    rw [hd]
    clear hB hb0 hd hbn
    by_cases h1 : 48 ≤ b.toNat
    · have q1 : (48 : Int) ≤ (B[0].toNat : Int) := by rw [HBn.out]; omega
      by_cases h2 : b.toNat ≤ 57
      · have q2 : (B[0].toNat : Int) ≤ 57 := by rw [HBn.out]; omega
        have hr : dig b = true := by unfold dig; simp [h1, h2]
        rw [hr]
        clear hr
        go_enter Tryd.func73, Tryd.ntmps73
        go_wp2_with fail
        go_ret
        exact ⟨rfl, rfl⟩
      · have q2 : ¬ (B[0].toNat : Int) ≤ 57 := by rw [HBn.out]; omega
        have hr : dig b = false := by unfold dig; simp [h1, h2]
        rw [hr]
        clear hr
        go_enter Tryd.func73, Tryd.ntmps73
        go_wp2_with fail
        go_ret
        exact ⟨rfl, rfl⟩
    · have q1 : ¬ (48 : Int) ≤ (B[0].toNat : Int) := by rw [HBn.out]; omega
      have hr : dig b = false := by unfold dig; simp [h1]
      rw [hr]
      clear hr
      go_enter Tryd.func73, Tryd.ntmps73
      go_wp2_with fail
      go_ret
      exact ⟨rfl, rfl⟩
end Go.Proofs.YtllklgalghmnfaaDoor
