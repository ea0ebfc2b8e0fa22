/- The statement InheritFinds: for every input the law returns true, and its arguments read afterwards as they read before. Condition: the arguments are together of bulk at most 1048576. -/
import Derived.Test.YtajnkapnndhbaaaRows
import Derived.WalkKit
import Derived.ProofKit
import Derived.OpenShut
import Derived.ShutString
import Derived.Test.YtajnkapnndhbaaaRowOpen
import Derived.Test.YtajnkapnndhbaaaRowDirs
import Derived.JoinedCond
import Derived.Test.YtajnkapnndhbaaaLawFinds
namespace Go.Proofs.Ytajnkapnndhbaaa.inheritFinds
open Go.ChangeShapes Go.WideShapes Go.ChangeAt Go.RowKit
set_option linter.unusedVariables false

theorem own : ownKnob Try.prog.godebug = none := by kernel_rfl
theorem laidOut : laidOutB Try.prog = true := by kernel_rfl

theorem walk (w : World) (a0 : Option Addr) (c0 : Nat) (l0 : List Mem.DirV) (rs0 : List (List Mem.RuleV)) (h0l : l0.length ≤ c0) (h0c : c0 ≤ maxLen) (h0 : DeepDirs w a0 l0 rs0) (h0s : ∀ R ∈ rs0, ∀ r ∈ R, r.conds.length ≤ 1048576) (x1 : ByteArray) (w1 : x1.size ≤ maxLen) (x2 : Int) (w2 : (Lit.int .i64 x2).wf = true) :
    Calls Try.prog 4 #[.slice a0 l0.length c0, .string x1, .int .i64 x2] w fun e w' => e = .returned (.bool true) ∧ Below w.heap.size w w' := by
  by_cases hL : l0.length ≤ maxLen
  · exact lawFinds_any a0 c0 l0 rs0 x1 x2 w h0 h0l hL h0s
  · omega

set_option maxRecDepth 100000 in
theorem lifted (os : Os) (started : os.Started) (H : Type) (enc : TypeId × Value → H) (F : Stop.Interp) :
    ReturnsInHanded {} Try.checked os 4 .any ((Rows.OpenSpec.upto Rows.inheritFindsSpec).pre6 enc Try.prog Try.f4 Rows.inheritFindsUptoRow.domain false) (((Rows.OpenSpec.upto Rows.inheritFindsSpec).at F).post enc Try.prog Try.f4 false true false false) := by
  refine returnsInHanded_of_cond (C := Try.checked) (s := Rows.OpenSpec.upto Rows.inheritFindsSpec) (k := Rows.uptoSmall) rfl own started (by kernel_rfl) Try.func4
    (OpenSpec.witness (enc := enc) (C := Try.checked) (s := Rows.OpenSpec.upto Rows.inheritFindsSpec) (k := Rows.uptoSmall) rfl false ⟨#[], #[.slice none 0 0, .string ByteArray.empty, .int .i64 0], []⟩ 8 (by kernel_rfl) (by kernel_rfl) (by kernel_rfl)
      (x := ([DataW.nil, DataW.lit (.string []), DataW.lit (.int .i64 0)], [], [])) (by kernel_rfl) rfl (by kernel_rfl)) ?_
  intro W base args ds gs before hval0 hW _ hk _
  have hval : ∀ (j : Nat) t v, Try.f4.params[j]? = some t → args[j]? = some v → Value.okWide Try.prog W .any base t v := hval0
  have hW' := hW
  obtain ⟨p, q, hA0, hV, rfl, hfz, hnd⟩ := hW
  have hA : DataW.TrodAll enc Try.prog W 0 (fun _ => true) true Try.f4.params.toList args.toList ds p := hA0
  have hA1 := hA
  rw [Try.params4] at hA1 hval
  obtain ⟨rfl, rfl⟩ := trodVars_none hV
  have hlt : ∀ x ∈ p ++ [], x.block < W.heap.size := fun x hx => by simpa using hW'.lt x hx
  clear hA0 hval0
  obtain ⟨v0, vs0, d0, ds0, p0, q0, hargs, rfl, rfl, t0, r0⟩ := trodAll_cons hA1
  obtain ⟨v1, vs1, d1, ds1, p1, q1, rfl, rfl, rfl, t1, r1⟩ := trodAll_cons r0
  obtain ⟨v2, vs2, d2, ds2, p2, q2, rfl, rfl, rfl, t2, r2⟩ := trodAll_cons r1
  obtain ⟨rfl, rfl, rfl⟩ := trodAll_nil r2
  obtain rfl : args = #[v0, v1, v2] := by cases args; simp_all
  simp only [List.append_nil] at hW' hA hlt hk
  have hb : Rows.uptoBulkAll [d0, d1, d2] ≤ 1048576 := of_decide_eq_true hk
  obtain ⟨x1, rfl, rfl, rfl, w1⟩ := Go.ChangeMaps.open_string Try.underlying9 (hval 1 9 v1 rfl rfl) t1
  obtain ⟨x2, rfl, rfl, rfl, w2⟩ := open_int Try.underlying3 (hval 2 3 v2 rfl rfl) t2
  obtain ⟨a0, c0, l0, rs0, rfl, h0l, h0c, h0, h0t⟩ := open_dirs t0 (hval 0 22 v0 rfl rfl) (fun x hx => hlt x (by simp [hx]))
  have h0s : ∀ R ∈ rs0, ∀ r ∈ R, r.conds.length ≤ 1048576 := fun R hR r hr => Nat.le_trans (h0t R hR r hr) (Nat.le_trans (bulk_part (by simp)) hb)
  refine (walk W a0 c0 l0 rs0 h0l h0c h0 h0s x1 w1 x2 w2).mono fun e W' ⟨he, hg⟩ => ?_
  subst he
  exact ⟨_, rfl, post_stays laidOut (by kernel_rfl) hW' hA (fun _ _ _ => (trodAll_cons_mk (shut_bool Try.underlying4 _) trodAll_mk0)) rfl rfl rfl
    hg (ok_one (by kernel_rfl) rfl (okWide_bool_mk Try.underlying4 _))⟩

theorem over : Rows.inheritFindsUptoRow.holds Try.pinned (Rows.OpenSpec.upto Rows.inheritFindsSpec) :=
  OpenClaim.holds_of_cond 4 Try.f4 rfl rfl rfl rfl rfl rfl rfl ⟨rfl, rfl, rfl, rfl, rfl⟩ rfl rfl rfl rfl rfl (by kernel_rfl) Try.func4 (by kernel_rfl)
    (of_decide_eq_true (by kernel_rfl)) (by unfold Func.isWrapper; first | (rw [if_pos (by decide +kernel)]; kernel_rfl) | (rw [if_neg (by decide +kernel)]; exact ⟨rfl, rfl⟩))
    (fun os started H enc _ F => lifted os started H enc F)

theorem proved : Rows.InheritFindsUptoSaid :=
  over
end Go.Proofs.Ytajnkapnndhbaaa.inheritFinds
