/- The statement DotsCommon: for every input the law returns true, and its arguments read afterwards as they read before. No condition. -/
import Derived.Test.YtldjljblcjplaaaRows
import Derived.WalkKit
import Derived.ProofKit
import Derived.OpenShut
import Derived.ShutString
import Derived.Test.YtldjljblcjplaaaRowOpen
import Derived.Test.YtldjljblcjplaaaRowInts
import Derived.Test.YtldjljblcjplaaaLawCommon
namespace Go.Proofs.Ytldjljblcjplaaa.dotsCommon
open Go.ChangeShapes Go.WideShapes Go.ChangeAt Go.RowKit
set_option linter.unusedVariables false

theorem own : ownKnob Try.prog.godebug = none := by kernel_rfl
theorem laidOut : laidOutB Try.prog = true := by kernel_rfl

theorem walk (w : World) (a0 : Option Addr) (c0 : Nat) (l0 : List Int) (h0l : l0.length ≤ c0) (h0c : c0 ≤ maxLen) (h0 : Mem.Ints w a0 l0.length l0) (h0s : ∀ n ∈ l0, (Lit.int .i64 n).wf = true) (a1 : Option Addr) (c1 : Nat) (l1 : List Int) (h1l : l1.length ≤ c1) (h1c : c1 ≤ maxLen) (h1 : Mem.Ints w a1 l1.length l1) (h1s : ∀ n ∈ l1, (Lit.int .i64 n).wf = true) (x2 : Bool) (x3 : Bool) :
    Calls Try.prog 8 #[.slice a0 l0.length c0, .slice a1 l1.length c1, .bool x2, .bool x3] w fun e w' => e = .returned (.bool true) ∧ Below w.heap.size w w' := by
  exact lawCommon_any a0 a1 c0 c1 l0 l1 x2 x3 w h0 h1 (by omega) (by omega) (fun n hn => bounds_i64 (h0s n hn)) (fun n hn => bounds_i64 (h1s n hn))

set_option maxRecDepth 100000 in
theorem lifted (os : Os) (started : os.Started) (H : Type) (enc : TypeId × Value → H) :
    ReturnsInHanded {} Try.checked os 8 .any (Rows.dotsCommonSpec.pre6 enc Try.prog Try.f8 Rows.dotsCommonRow.domain false) (Rows.dotsCommonSpec.post enc Try.prog Try.f8 false true false false) := by
  refine returnsInHanded_of_change (C := Try.checked) own started (by kernel_rfl) Try.func8
    (ChangeSpec.witness6 (enc := enc) (C := Try.checked) false ⟨#[], #[.slice none 0 0, .slice none 0 0, .bool false, .bool false], []⟩ 8 (by kernel_rfl) (by kernel_rfl) (by kernel_rfl) (by kernel_rfl)) ?_
  intro W base args ds gs before hval0 hW hcnd _
  have hval : ∀ (j : Nat) t v, Try.f8.params[j]? = some t → args[j]? = some v → Value.okWide Try.prog W .any base t v := hval0
  have hW' := hW
  obtain ⟨p, q, hA0, hV, rfl, hfz, hnd⟩ := hW
  have hA : DataW.TrodAll enc Try.prog W 0 (fun _ => true) true Try.f8.params.toList args.toList ds p := hA0
  have hA1 := hA
  rw [Try.params8] at hA1 hval
  obtain ⟨rfl, rfl⟩ := trodVars_none hV
  have hlt : ∀ x ∈ p ++ [], x.block < W.heap.size := fun x hx => by simpa using hW'.lt x hx
  clear hA0 hval0
  obtain ⟨v0, vs0, d0, ds0, p0, q0, hargs, rfl, rfl, t0, r0⟩ := trodAll_cons hA1
  obtain ⟨v1, vs1, d1, ds1, p1, q1, rfl, rfl, rfl, t1, r1⟩ := trodAll_cons r0
  obtain ⟨v2, vs2, d2, ds2, p2, q2, rfl, rfl, rfl, t2, r2⟩ := trodAll_cons r1
  obtain ⟨v3, vs3, d3, ds3, p3, q3, rfl, rfl, rfl, t3, r3⟩ := trodAll_cons r2
  obtain ⟨rfl, rfl, rfl⟩ := trodAll_nil r3
  obtain rfl : args = #[v0, v1, v2, v3] := by cases args; simp_all
  simp only [List.append_nil] at hW' hA hlt
  obtain ⟨a0, c0, l0, rfl, h0l, h0c, h0, h0s⟩ := open_nums Try.underlying38 Try.underlying3 (by kernel_rfl) (hval 0 38 v0 rfl rfl) t0 (fun x hx => hlt x (by simp [hx]))
  obtain ⟨a1, c1, l1, rfl, h1l, h1c, h1, h1s⟩ := open_nums Try.underlying38 Try.underlying3 (by kernel_rfl) (hval 1 38 v1 rfl rfl) t1 (fun x hx => hlt x (by simp [hx]))
  obtain ⟨x2, rfl, rfl, rfl⟩ := open_bool Try.underlying4 (hval 2 4 v2 rfl rfl) t2
  obtain ⟨x3, rfl, rfl, rfl⟩ := open_bool Try.underlying4 (hval 3 4 v3 rfl rfl) t3
  refine (walk W a0 c0 l0 h0l h0c h0 h0s a1 c1 l1 h1l h1c h1 h1s x2 x3).mono fun e W' ⟨he, hg⟩ => ?_
  subst he
  exact ⟨_, rfl, post_stays laidOut (by kernel_rfl) hW' hA (fun _ _ _ => (trodAll_cons_mk (shut_bool Try.underlying4 _) trodAll_mk0)) rfl rfl rfl
    hg (ok_one (by kernel_rfl) rfl (okWide_bool_mk Try.underlying4 _))⟩

theorem over : Rows.dotsCommonRow.holds Try.pinned (OpenSpec.ofChange Rows.dotsCommonSpec) :=
  OpenClaim.holds_of_wide 8 Try.f8 rfl rfl rfl rfl rfl rfl rfl ⟨rfl, rfl, rfl, rfl, rfl⟩ rfl rfl rfl rfl rfl (by kernel_rfl) Try.func8 (by kernel_rfl)
    (of_decide_eq_true (by kernel_rfl)) (by unfold Func.isWrapper; first | (rw [if_pos (by decide +kernel)]; kernel_rfl) | (rw [if_neg (by decide +kernel)]; exact ⟨rfl, rfl⟩))
    (fun os started H enc _ => lifted os started H enc)

theorem proved : Rows.DotsCommonSaid :=
  over
end Go.Proofs.Ytldjljblcjplaaa.dotsCommon
