/- The statement RouteFinds: for every input the law returns true, and its arguments read afterwards as they read before. No condition. -/
import Derived.Test.YtefilalapkdegaaRows
import Derived.WalkKit
import Derived.ProofKit
import Derived.OpenShut
import Derived.ShutString
import Derived.Test.YtefilalapkdegaaRowOpen
import Derived.Test.YtefilalapkdegaaRowRts
import Derived.Test.YtefilalapkdegaaLawRouteFinds
namespace Go.Proofs.Ytefilalapkdegaa.routeFinds
open Go.ChangeShapes Go.WideShapes Go.ChangeAt Go.RowKit
set_option linter.unusedVariables false

theorem own : ownKnob Try.prog.godebug = none := by kernel_rfl
theorem laidOut : laidOutB Try.prog = true := by kernel_rfl

theorem walk (w : World) (a0 : Option Addr) (c0 : Nat) (l0 : List RtV) (h0l : l0.length ≤ c0) (h0c : c0 ≤ maxLen) (h0 : Mem.Rd w 3 a0 l0.length (l0.flatMap RtV.cells)) (h0s : ∀ r ∈ l0, Mem.Strs w r.a r.l.length r.l ∧ r.l.length ≤ r.c ∧ r.c ≤ maxLen) (x1 : ByteArray) (w1 : x1.size ≤ maxLen) :
    Calls Try.prog 6 #[.slice a0 l0.length c0, .string x1] w fun e w' => e = .returned (.bool true) ∧ Below w.heap.size w w' := by
  exact lawRouteFinds_any a0 c0 l0 x1 w h0 h0s

set_option maxRecDepth 100000 in
theorem lifted (os : Os) (started : os.Started) (H : Type) (enc : TypeId × Value → H) :
    ReturnsInHanded {} Try.checked os 6 .any (Rows.routeFindsSpec.pre6 enc Try.prog Try.f6 Rows.routeFindsRow.domain false) (Rows.routeFindsSpec.post enc Try.prog Try.f6 false true false false) := by
  refine returnsInHanded_of_change (C := Try.checked) own started (by kernel_rfl) Try.func6
    (ChangeSpec.witness6 (enc := enc) (C := Try.checked) false ⟨#[], #[.slice none 0 0, .string ByteArray.empty], []⟩ 8 (by kernel_rfl) (by kernel_rfl) (by kernel_rfl) (by kernel_rfl)) ?_
  intro W base args ds gs before hval0 hW hcnd _
  have hval : ∀ (j : Nat) t v, Try.f6.params[j]? = some t → args[j]? = some v → Value.okWide Try.prog W .any base t v := hval0
  have hW' := hW
  obtain ⟨p, q, hA0, hV, rfl, hfz, hnd⟩ := hW
  have hA : DataW.TrodAll enc Try.prog W 0 (fun _ => true) true Try.f6.params.toList args.toList ds p := hA0
  have hA1 := hA
  rw [Try.params6] at hA1 hval
  obtain ⟨rfl, rfl⟩ := trodVars_none hV
  have hlt : ∀ x ∈ p ++ [], x.block < W.heap.size := fun x hx => by simpa using hW'.lt x hx
  clear hA0 hval0
  obtain ⟨v0, vs0, d0, ds0, p0, q0, hargs, rfl, rfl, t0, r0⟩ := trodAll_cons hA1
  obtain ⟨v1, vs1, d1, ds1, p1, q1, rfl, rfl, rfl, t1, r1⟩ := trodAll_cons r0
  obtain ⟨rfl, rfl, rfl⟩ := trodAll_nil r1
  obtain rfl : args = #[v0, v1] := by cases args; simp_all
  simp only [List.append_nil] at hW' hA hlt
  obtain ⟨x1, rfl, rfl, rfl, w1⟩ := Go.ChangeMaps.open_string Try.underlying9 (hval 1 9 v1 rfl rfl) t1
  obtain ⟨a0, c0, l0, rfl, h0l, h0c, h0, h0s⟩ := open_routes t0 (hval 0 26 v0 rfl rfl) (fun x hx => hlt x (by simp [hx]))
  refine (walk W a0 c0 l0 h0l h0c h0 h0s x1 w1).mono fun e W' ⟨he, hg⟩ => ?_
  subst he
  exact ⟨_, rfl, post_stays laidOut (by kernel_rfl) hW' hA (fun _ _ _ => (trodAll_cons_mk (shut_bool Try.underlying4 _) trodAll_mk0)) rfl rfl rfl
    hg (ok_one (by kernel_rfl) rfl (okWide_bool_mk Try.underlying4 _))⟩

theorem over : Rows.routeFindsRow.holds Try.pinned (OpenSpec.ofChange Rows.routeFindsSpec) :=
  OpenClaim.holds_of_wide 6 Try.f6 rfl rfl rfl rfl rfl rfl rfl ⟨rfl, rfl, rfl, rfl, rfl⟩ rfl rfl rfl rfl rfl (by kernel_rfl) Try.func6 (by kernel_rfl)
    (of_decide_eq_true (by kernel_rfl)) (by unfold Func.isWrapper; first | (rw [if_pos (by decide +kernel)]; kernel_rfl) | (rw [if_neg (by decide +kernel)]; exact ⟨rfl, rfl⟩))
    (fun os started H enc _ => lifted os started H enc)

theorem proved : Rows.RouteFindsSaid :=
  over
end Go.Proofs.Ytefilalapkdegaa.routeFinds
