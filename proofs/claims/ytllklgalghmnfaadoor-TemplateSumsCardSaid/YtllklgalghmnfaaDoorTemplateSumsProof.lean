/- The statement TemplateSums: for every input the law returns true, and its arguments read afterwards as they read before. No condition. -/
import Derived.Test.YtllklgalghmnfaaDoorRows
import Derived.WalkKit
import Derived.ProofKit
import Derived.OpenShut
import Derived.ShutString
import Derived.Test.YtllklgalghmnfaaDoorRowOpen
import Derived.Test.YtllklgalghmnfaaDoorRowInts
import Derived.Test.YtllklgalghmnfaaDoorRowTpl
import Derived.Test.YtllklgalghmnfaaDoorRowTied
import Derived.Test.YtllklgalghmnfaaDoorTie
import Derived.Test.YtllklgalghmnfaaDoorCards
import Derived.SevenTiedAt
import Derived.Test.YtllklgalghmnfaaDoorLawTplSums
namespace Go.Proofs.YtllklgalghmnfaaDoor.templateSums
open Go.ChangeShapes Go.WideShapes Go.ChangeAt Go.RowKit
set_option linter.unusedVariables false

theorem own : ownKnob Tryd.prog.godebug = none := by kernel_rfl
theorem laidOut : laidOutB Tryd.prog = true := by kernel_rfl

theorem walk (w : World) (hN : Nm w) (a0 : Option Addr) (c0 : Nat) (l0 : List Int) (h0l : l0.length ≤ c0) (h0c : c0 ≤ maxLen) (h0 : Mem.Ints w a0 l0.length l0) (h0s : ∀ n ∈ l0, (Lit.int .i64 n).wf = true) (x1 : Int) (w1 : (Lit.int .i64 x1).wf = true) (va2 vb2 : Option Addr) (vc2 vd2 : Nat) (VR2 VC2 : List (List UInt8)) (y12 y22 y32 y42 : List UInt8) (k12 : VR2.length ≤ vc2) (k22 : vc2 ≤ maxLen) (k32 : Mem.Strs w va2 VR2.length VR2) (k42 : VC2.length ≤ vd2) (k52 : vd2 ≤ maxLen) (k62 : Mem.Strs w vb2 VC2.length VC2) :
    Calls Tryd.prog 8 #[.slice a0 l0.length c0, .int .i64 x1, valsV va2 VR2.length vc2 vb2 VC2.length vd2 y12 y22 y32 y42] w fun e w' => e = .returned (.bool true) ∧ Below w.heap.size w w' := by
  exact lawTplSums_any a0 c0 l0 x1 va2 vb2 vc2 vd2 VR2 VC2 y12 y22 y32 y42 w hN h0 k32 k62

set_option maxRecDepth 100000 in
theorem lifted (os : Os) (started : os.Started) (H : Type) (enc : TypeId × Value → H) :
    ReturnsInHanded {} Tryd.checked os 8 .any (fun w args => (Rows.templateSumsSpec.pre enc Tryd.prog Tryd.f8 [] false w args ∧ laidMetH Tryd.prog laidP w) ∧ sizedMet enc Tryd.prog Tryd.f8 (OpenSpec.ofChange Rows.templateSumsSpec) false w args) (Rows.templateSumsSpec.post enc Tryd.prog Tryd.f8 false true false false) := by
  refine returnsInHanded_of_change_and (C := Tryd.checked) (X := fun w _ => laidMetH Tryd.prog laidP w) (fun _ _ _ hh h => h.of_heap hh) own started (by kernel_rfl) Tryd.func8
    (ChangeSpec.witness_shaped (enc := enc) (C := Tryd.checked) (os := os) (X := fun w _ => laidMetH Tryd.prog laidP w) false (World.doorLaid Tryd.prog 400 os) #[.slice none 0 0, .int .i64 0, .agg #[.slice none 0 0, .slice none 0 0, .string ByteArray.empty, .string ByteArray.empty, .string ByteArray.empty, .string ByteArray.empty]] 8 rfl (World.shaped_of_RefB (by kernel_rfl) (by kernel_rfl)) (by kernel_rfl) (by kernel_rfl) (by kernel_rfl) (door_met os _)) ?_
  intro W base args ds gs before hval0 hW _ _ hL _
  have hN := nm_of_laid hL
  have hval : ∀ (j : Nat) t v, Tryd.f8.params[j]? = some t → args[j]? = some v → Value.okWide Tryd.prog W .any base t v := hval0
  have hW' := hW
  obtain ⟨p, q, hA0, hV, rfl, hfz, hnd⟩ := hW
  have hA : DataW.TrodAll enc Tryd.prog W 0 (fun _ => true) true Tryd.f8.params.toList args.toList ds p := hA0
  have hA1 := hA
  rw [Tryd.params8] at hA1 hval
  obtain ⟨rfl, rfl⟩ := trodVars_none hV
  have hlt : ∀ x ∈ p ++ [], x.block < W.heap.size := fun x hx => by simpa using hW'.lt x hx
  clear hA0 hval0
  obtain ⟨v0, vs0, d0, ds0, p0, q0, hargs, rfl, rfl, t0, r0⟩ := trodAll_cons hA1
  obtain ⟨v1, vs1, d1, ds1, p1, q1, rfl, rfl, rfl, t1, r1⟩ := trodAll_cons r0
  obtain ⟨v2, vs2, d2, ds2, p2, q2, rfl, rfl, rfl, t2, r2⟩ := trodAll_cons r1
  obtain ⟨rfl, rfl, rfl⟩ := trodAll_nil r2
  obtain rfl : args = #[v0, v1, v2] := by cases args; simp_all
  simp only [List.append_nil] at hW' hA hlt
  obtain ⟨a0, c0, l0, rfl, h0l, h0c, h0, h0s⟩ := open_nums Tryd.underlying43 Tryd.underlying3 (by kernel_rfl) (hval 0 43 v0 rfl rfl) t0 (fun x hx => hlt x (by simp [hx]))
  obtain ⟨x1, rfl, rfl, rfl, w1⟩ := open_int Tryd.underlying3 (hval 1 3 v1 rfl rfl) t1
  obtain ⟨va2, vb2, vc2, vd2, VR2, VC2, y12, y22, y32, y42, rfl, k12, k22, k32, k42, k52, k62⟩ := open_values t2 (hval 2 53 v2 rfl rfl) (fun x hx => hlt x (by simp [hx]))
  refine (walk W hN a0 c0 l0 h0l h0c h0 h0s x1 w1 va2 vb2 vc2 vd2 VR2 VC2 y12 y22 y32 y42 k12 k22 k32 k42 k52 k62).mono fun e W' ⟨he, hg⟩ => ?_
  subst he
  exact ⟨_, rfl, post_stays laidOut (by kernel_rfl) hW' hA (fun _ _ _ => (trodAll_cons_mk (shut_bool Tryd.underlying4 _) trodAll_mk0)) rfl rfl rfl
    hg (ok_one (by kernel_rfl) rfl (okWide_bool_mk Tryd.underlying4 _))⟩

theorem over : Rows.templateSumsRow.holds Tryd.pinned (OpenSpec.ofChange Rows.templateSumsSpec) :=
  OpenClaim.holds_of_wide 8 Tryd.f8 rfl rfl rfl rfl rfl rfl rfl ⟨rfl, rfl, rfl, rfl, rfl⟩ rfl rfl rfl rfl rfl (by kernel_rfl) Tryd.func8 (by kernel_rfl)
    (of_decide_eq_true (by kernel_rfl)) (by unfold Func.isWrapper; first | (rw [if_pos (by decide +kernel)]; kernel_rfl) | (rw [if_neg (by decide +kernel)]; exact ⟨rfl, rfl⟩))
    (fun os started H enc _ => lifted os started H enc)

theorem proved : Rows.TemplateSumsCardSaid :=
  Claim7.holds_tied_plain_at .later [] [.data] true (true, "d294207221f9bc14838f86ed649d9f4c9f77f38ace4cf3a956aead9adf63051a") false
    over (fun _ h => by cases h) (by kernel_rfl) (fun _ h => by cases h) templateSums_row_tie rfl ⟨rfl, rfl⟩ (by kernel_rfl) rfl
    (fun f fn hf hfn => by
      obtain rfl : f = 8 := Option.some.inj ((show Tryd.prog.funcNamed "waypost/waypostlaw25.TemplateSums" = some 8 by kernel_rfl).symm.trans hf) |>.symm
      obtain rfl : fn = Tryd.f8 := (Option.some.inj (Tryd.func8.symm.trans hfn)).symm
      exact ⟨by kernel_rfl, fun j t ht => by
        rw [Tryd.params8] at ht
        have hm : t ∈ [43, 3, 53] := by simpa using Array.mem_of_getElem? ht
        have hall : ([43, 3, 53].all fun u => !Tryd.prog.wantsStandIn u) = true := by kernel_rfl
        exact (show Tryd.prog.wantsStandIn t = false by simpa using List.all_eq_true.1 hall t hm)⟩)
    (by kernel_rfl)
end Go.Proofs.YtllklgalghmnfaaDoor.templateSums
