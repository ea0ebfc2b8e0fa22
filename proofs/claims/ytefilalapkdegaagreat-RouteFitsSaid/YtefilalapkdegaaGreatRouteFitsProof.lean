/- The statement RouteFits: for every input the law returns true, and its arguments read afterwards as they read before. No condition. -/
import Derived.Test.YtefilalapkdegaaGreatRows
import Derived.WalkKit
import Derived.ProofKit
import Derived.OpenShut
import Derived.ShutString
import Derived.Test.YtefilalapkdegaaGreatRowOpen
import Derived.Test.YtefilalapkdegaaGreatRowRoute
import Derived.Test.YtefilalapkdegaaGreatLawFits
namespace Go.Proofs.YtefilalapkdegaaGreat.routeFits
open Go.ChangeShapes Go.WideShapes Go.ChangeAt Go.RowKit
set_option linter.unusedVariables false

theorem own : ownKnob Tryz.prog.godebug = none := by kernel_rfl
theorem laidOut : laidOutB Tryz.prog = true := by kernel_rfl

theorem walk (w : World) (a0 : Option Addr) (c0 : Nat) (l0 : List (List UInt8)) (kd0 : Int) (tx0 : List UInt8) (h0l : l0.length ≤ c0) (h0c : c0 ≤ maxLen) (h0 : Mem.Strs w a0 l0.length l0) (a1 : Option Addr) (c1 : Nat) (l1 : List (List UInt8)) (kd1 : Int) (tx1 : List UInt8) (h1l : l1.length ≤ c1) (h1c : c1 ≤ maxLen) (h1 : Mem.Strs w a1 l1.length l1) (xp2 xr2 : ByteArray) (a2 : Option Addr) (c2 : Nat) (l2 : List (List UInt8)) (h2l : l2.length ≤ c2) (h2c : c2 ≤ maxLen) (h2 : Mem.Strs w a2 l2.length l2) :
    Calls Tryz.prog 3 #[rtv a0 l0.length c0 kd0 tx0, rtv a1 l1.length c1 kd1 tx1, askv xp2 xr2 a2 l2.length c2] w fun e w' => e = .returned (.bool true) ∧ Below w.heap.size w w' := by
  exact lawFits_any a0 a1 a2 c0 c1 c2 l0 l1 l2 kd0 kd1 tx0 tx1 xp2 xr2 w h0 h1 h2 h0l h0c h1l h1c

set_option maxRecDepth 100000 in
theorem lifted (os : Os) (started : os.Started) (H : Type) (enc : TypeId × Value → H) :
    ReturnsInHanded {} Tryz.checked os 3 .any (Rows.routeFitsSpec.pre6 enc Tryz.prog Tryz.f3 Rows.routeFitsRow.domain false) (Rows.routeFitsSpec.post enc Tryz.prog Tryz.f3 false true false false) := by
  refine returnsInHanded_of_change (C := Tryz.checked) own started (by kernel_rfl) Tryz.func3
    (ChangeSpec.witness6 (enc := enc) (C := Tryz.checked) false ⟨#[], #[.agg #[.slice none 0 0, .int .i64 0, .string ByteArray.empty], .agg #[.slice none 0 0, .int .i64 0, .string ByteArray.empty], .agg #[.string ByteArray.empty, .slice none 0 0, .string ByteArray.empty]], []⟩ 8 (by kernel_rfl) (by kernel_rfl) (by kernel_rfl) (by kernel_rfl)) ?_
  intro W base args ds gs before hval0 hW hcnd _
  have hval : ∀ (j : Nat) t v, Tryz.f3.params[j]? = some t → args[j]? = some v → Value.okWide Tryz.prog W .any base t v := hval0
  have hW' := hW
  obtain ⟨p, q, hA0, hV, rfl, hfz, hnd⟩ := hW
  have hA : DataW.TrodAll enc Tryz.prog W 0 (fun _ => true) true Tryz.f3.params.toList args.toList ds p := hA0
  have hA1 := hA
  rw [Tryz.params3] at hA1 hval
  obtain ⟨rfl, rfl⟩ := trodVars_none hV
  have hlt : ∀ x ∈ p ++ [], x.block < W.heap.size := fun x hx => by simpa using hW'.lt x hx
  clear hA0 hval0
  obtain ⟨v0, vs0, d0, ds0, p0, q0, hargs, rfl, rfl, t0, r0⟩ := trodAll_cons hA1
  obtain ⟨v1, vs1, d1, ds1, p1, q1, rfl, rfl, rfl, t1, r1⟩ := trodAll_cons r0
  obtain ⟨v2, vs2, d2, ds2, p2, q2, rfl, rfl, rfl, t2, r2⟩ := trodAll_cons r1
  obtain ⟨rfl, rfl, rfl⟩ := trodAll_nil r2
  obtain rfl : args = #[v0, v1, v2] := by cases args; simp_all
  simp only [List.append_nil] at hW' hA hlt
  obtain ⟨a0, c0, l0, kd0, tx0, rfl, h0l, h0c, h0⟩ := open_route t0 (hval 0 24 v0 rfl rfl) (fun x hx => hlt x (by simp [hx]))
  obtain ⟨a1, c1, l1, kd1, tx1, rfl, h1l, h1c, h1⟩ := open_route t1 (hval 1 24 v1 rfl rfl) (fun x hx => hlt x (by simp [hx]))
  obtain ⟨xp2, xr2, a2, c2, l2, rfl, h2l, h2c, h2⟩ := open_ask t2 (hval 2 26 v2 rfl rfl) (fun x hx => hlt x (by simp [hx]))
  refine (walk W a0 c0 l0 kd0 tx0 h0l h0c h0 a1 c1 l1 kd1 tx1 h1l h1c h1 xp2 xr2 a2 c2 l2 h2l h2c h2).mono fun e W' ⟨he, hg⟩ => ?_
  subst he
  exact ⟨_, rfl, post_stays laidOut (by kernel_rfl) hW' hA (fun _ _ _ => (trodAll_cons_mk (shut_bool Tryz.underlying4 _) trodAll_mk0)) rfl rfl rfl
    hg (ok_one (by kernel_rfl) rfl (okWide_bool_mk Tryz.underlying4 _))⟩

theorem over : Rows.routeFitsRow.holds Tryz.pinned (OpenSpec.ofChange Rows.routeFitsSpec) :=
  OpenClaim.holds_of_wide 3 Tryz.f3 rfl rfl rfl rfl rfl rfl rfl ⟨rfl, rfl, rfl, rfl, rfl⟩ rfl rfl rfl rfl rfl (by kernel_rfl) Tryz.func3 (by kernel_rfl)
    (of_decide_eq_true (by kernel_rfl)) (by unfold Func.isWrapper; first | (rw [if_pos (by decide +kernel)]; kernel_rfl) | (rw [if_neg (by decide +kernel)]; exact ⟨rfl, rfl⟩))
    (fun os started H enc _ => lifted os started H enc)

theorem proved : Rows.RouteFitsSaid :=
  over
end Go.Proofs.YtefilalapkdegaaGreat.routeFits
