/- Clean, at every text of at most 100,000 bytes. -/
import Derived.Test.YtldjljblcjplaaaCleanWalk
namespace Go.Proofs.Ytldjljblcjplaaa
open Go.RowKit Str
set_option linter.unusedVariables false
set_option linter.unusedSimpArgs false

theorem clean_empty (s : ByteArray) (w : World) (h : s.toList.isEmpty = true) : Calls Try.prog 11 #[.string s] w fun e w' => e = .returned (.tuple #[.string ⟨#[]⟩, .int .i64 3]) ∧ Below w.heap.size w w' := by
  have h' : s.toList = [] := by simpa using h
  go_enter Try.func11, Try.ntmps11
  go_wp2
  exact bodyPost_ret (v := .tuple #[.string ⟨#[]⟩, .int .i64 3]) (by simp [results, Try.results11, go_sem]) rfl ⟨rfl, ((Below.refl _ _).alloc (Nat.le_refl _) _).alloc (by simp) _⟩

theorem clean_noslash (s : ByteArray) (w : World) (hne : s.toList.isEmpty = false) (h0 : 0 < s.size) (h : ((s[0].toNat : Int) != 47) = true) : Calls Try.prog 11 #[.string s] w fun e w' => e = .returned (.tuple #[.string ⟨#[]⟩, .int .i64 3]) ∧ Below w.heap.size w w' := by
  go_enter Try.func11, Try.ntmps11
  go_wp2
  exact bodyPost_ret (v := .tuple #[.string ⟨#[]⟩, .int .i64 3]) (by simp [results, Try.results11, go_sem]) rfl ⟨rfl, ((Below.refl _ _).alloc (Nat.le_refl _) _).alloc (by simp) _⟩

theorem head_eq (s : ByteArray) (h0 : 0 < s.size) : ((s[0].toNat : Int) != 47) = !Dots.isPath s.data.toList := by
  unfold Dots.isPath
  rw [head_data s h0, Bool.eq_iff_iff]
  simp only [bne_iff_ne, ne_eq, Bool.not_eq_true', beq_eq_false_iff_ne, Option.some.injEq]
  constructor
  · intro h e; apply h; rw [e]; rfl
  · intro h e; apply h; exact UInt8.toNat_inj.1 (by simpa using Int.ofNat_inj.1 e)

theorem clean_any (s : ByteArray) (w : World) (h1 : s.size ≤ 100000) :
    Calls Try.prog 11 #[.string s] w fun e w' => e = .returned (.tuple #[.string (bs (Dots.clean s.data.toList).1), .int .i64 (Dots.clean s.data.toList).2]) ∧ Below w.heap.size w w' := by
  rcases he : s.toList.isEmpty with _ | _
  · have h0 : 0 < s.size := size_pos (by intro e; rw [e] at he; cases he)
    have hh := head_eq s h0
    rcases hp : Dots.isPath s.data.toList with _ | _
    · rw [hp] at hh
      have : Dots.clean s.data.toList = ([], 3) := by unfold Dots.clean; rw [hp]; rfl
      rw [this]
      exact clean_noslash s w he h0 hh
    · rw [hp] at hh
      exact clean_loop s w h0 h1 he hh
  · have : Dots.clean s.data.toList = ([], 3) := by
      have : s.data.toList = [] := by rw [← toList_data]; simpa using he
      rw [this]; rfl
    rw [this]
    exact clean_empty s w he

end Go.Proofs.Ytldjljblcjplaaa
