/- The statement TemplateExpands: for every input the law returns true, and its arguments read afterwards as they read before. No condition. -/
import Derived.Test.YtllklgalghmnfaaDoorRows
import Derived.WalkKit
import Derived.ProofKit
import Derived.OpenShut
import Derived.ShutString
import Derived.Test.YtllklgalghmnfaaDoorRowOpen
import Derived.Test.YtllklgalghmnfaaDoorRowTpl
import Derived.Test.YtllklgalghmnfaaDoorRowTied
import Derived.Test.YtllklgalghmnfaaDoorTie
import Derived.Test.YtllklgalghmnfaaDoorCards
import Derived.SevenTiedAt
import Derived.Test.YtllklgalghmnfaaDoorLawTplExpands
namespace Go.Proofs.YtllklgalghmnfaaDoor.templateExpands
open Go.ChangeShapes Go.WideShapes Go.ChangeAt Go.RowKit
set_option linter.unusedVariables false

theorem own : ownKnob Tryd.prog.godebug = none := by kernel_rfl
theorem laidOut : laidOutB Tryd.prog = true := by kernel_rfl

theorem walk (w : World) (hN : Nm w) (a0 : Option Addr) (c0 : Nat) (l0 : List Tp.Part) (h0l : l0.length ≤ c0) (h0c : c0 ≤ maxLen) (h0 : Parts w a0 l0.length l0) (h0t : ∀ p ∈ l0, p.t.length ≤ maxLen) (va1 vb1 : Option Addr) (vc1 vd1 : Nat) (VR1 VC1 : List (List UInt8)) (y11 y21 y31 y41 : List UInt8) (k11 : VR1.length ≤ vc1) (k21 : vc1 ≤ maxLen) (k31 : Mem.Strs w va1 VR1.length VR1) (k41 : VC1.length ≤ vd1) (k51 : vd1 ≤ maxLen) (k61 : Mem.Strs w vb1 VC1.length VC1) (x2 : Int) (w2 : (Lit.int .i64 x2).wf = true) :
    Calls Tryd.prog 6 #[.slice a0 l0.length c0, valsV va1 VR1.length vc1 vb1 VC1.length vd1 y11 y21 y31 y41, .int .i64 x2] w fun e w' => e = .returned (.bool true) ∧ Below w.heap.size w w' := by
  exact lawTplExpands_any a0 va1 vb1 c0 vc1 vd1 l0 VR1 VC1 y11 y21 y31 y41 x2 w hN h0 h0l h0c k31 k61

set_option maxRecDepth 100000 in
theorem lifted (os : Os) (started : os.Started) (H : Type) (enc : TypeId × Value → H) :
    ReturnsInHanded {} Tryd.checked os 6 .any (fun w args => (Rows.templateExpandsSpec.pre enc Tryd.prog Tryd.f6 [] false w args ∧ laidMetH Tryd.prog laidP w) ∧ sizedMet enc Tryd.prog Tryd.f6 (OpenSpec.ofChange Rows.templateExpandsSpec) false w args) (Rows.templateExpandsSpec.post enc Tryd.prog Tryd.f6 false true false false) := by
  refine returnsInHanded_of_change_and (C := Tryd.checked) (X := fun w _ => laidMetH Tryd.prog laidP w) (fun _ _ _ hh h => h.of_heap hh) own started (by kernel_rfl) Tryd.func6
    (ChangeSpec.witness_shaped (enc := enc) (C := Tryd.checked) (os := os) (X := fun w _ => laidMetH Tryd.prog laidP w) false (World.doorLaid Tryd.prog 400 os) #[.slice none 0 0, .agg #[.slice none 0 0, .slice none 0 0, .string ByteArray.empty, .string ByteArray.empty, .string ByteArray.empty, .string ByteArray.empty], .int .i64 0] 8 rfl (World.shaped_of_RefB (by kernel_rfl) (by kernel_rfl)) (by kernel_rfl) (by kernel_rfl) (by kernel_rfl) (door_met os _)) ?_
  intro W base args ds gs before hval0 hW _ _ hL _
  have hN := nm_of_laid hL
  have hval : ∀ (j : Nat) t v, Tryd.f6.params[j]? = some t → args[j]? = some v → Value.okWide Tryd.prog W .any base t v := hval0
  have hW' := hW
  obtain ⟨p, q, hA0, hV, rfl, hfz, hnd⟩ := hW
  have hA : DataW.TrodAll enc Tryd.prog W 0 (fun _ => true) true Tryd.f6.params.toList args.toList ds p := hA0
  have hA1 := hA
  rw [Tryd.params6] at hA1 hval
  obtain ⟨rfl, rfl⟩ := trodVars_none hV
  have hlt : ∀ x ∈ p ++ [], x.block < W.heap.size := fun x hx => by simpa using hW'.lt x hx
  clear hA0 hval0
  obtain ⟨v0, vs0, d0, ds0, p0, q0, hargs, rfl, rfl, t0, r0⟩ := trodAll_cons hA1
  obtain ⟨v1, vs1, d1, ds1, p1, q1, rfl, rfl, rfl, t1, r1⟩ := trodAll_cons r0
  obtain ⟨v2, vs2, d2, ds2, p2, q2, rfl, rfl, rfl, t2, r2⟩ := trodAll_cons r1
  obtain ⟨rfl, rfl, rfl⟩ := trodAll_nil r2
  obtain rfl : args = #[v0, v1, v2] := by cases args; simp_all
  simp only [List.append_nil] at hW' hA hlt
  obtain ⟨x2, rfl, rfl, rfl, w2⟩ := open_int Tryd.underlying3 (hval 2 3 v2 rfl rfl) t2
  obtain ⟨a0, c0, l0, rfl, h0l, h0c, h0, h0t⟩ := open_parts t0 (hval 0 23 v0 rfl rfl) (fun x hx => hlt x (by simp [hx]))
  obtain ⟨va1, vb1, vc1, vd1, VR1, VC1, y11, y21, y31, y41, rfl, k11, k21, k31, k41, k51, k61⟩ := open_values t1 (hval 1 53 v1 rfl rfl) (fun x hx => hlt x (by simp [hx]))
  refine (walk W hN a0 c0 l0 h0l h0c h0 h0t va1 vb1 vc1 vd1 VR1 VC1 y11 y21 y31 y41 k11 k21 k31 k41 k51 k61 x2 w2).mono fun e W' ⟨he, hg⟩ => ?_
  subst he
  exact ⟨_, rfl, post_stays laidOut (by kernel_rfl) hW' hA (fun _ _ _ => (trodAll_cons_mk (shut_bool Tryd.underlying4 _) trodAll_mk0)) rfl rfl rfl
    hg (ok_one (by kernel_rfl) rfl (okWide_bool_mk Tryd.underlying4 _))⟩

theorem over : Rows.templateExpandsRow.holds Tryd.pinned (OpenSpec.ofChange Rows.templateExpandsSpec) :=
  OpenClaim.holds_of_wide 6 Tryd.f6 rfl rfl rfl rfl rfl rfl rfl ⟨rfl, rfl, rfl, rfl, rfl⟩ rfl rfl rfl rfl rfl (by kernel_rfl) Tryd.func6 (by kernel_rfl)
    (of_decide_eq_true (by kernel_rfl)) (by unfold Func.isWrapper; first | (rw [if_pos (by decide +kernel)]; kernel_rfl) | (rw [if_neg (by decide +kernel)]; exact ⟨rfl, rfl⟩))
    (fun os started H enc _ => lifted os started H enc)

theorem proved : Rows.TemplateExpandsCardSaid :=
  Claim7.holds_tied_plain_at .later [] [.data] true (true, "d294207221f9bc14838f86ed649d9f4c9f77f38ace4cf3a956aead9adf63051a") false
    over (fun _ h => by cases h) (by kernel_rfl) (fun _ h => by cases h) templateExpands_row_tie rfl ⟨rfl, rfl⟩ (by kernel_rfl) rfl
    (fun f fn hf hfn => by
      obtain rfl : f = 6 := Option.some.inj ((show Tryd.prog.funcNamed "waypost/waypostlaw25.TemplateExpands" = some 6 by kernel_rfl).symm.trans hf) |>.symm
      obtain rfl : fn = Tryd.f6 := (Option.some.inj (Tryd.func6.symm.trans hfn)).symm
      exact ⟨by kernel_rfl, fun j t ht => by
        rw [Tryd.params6] at ht
        have hm : t ∈ [23, 53, 3] := by simpa using Array.mem_of_getElem? ht
        have hall : ([23, 53, 3].all fun u => !Tryd.prog.wantsStandIn u) = true := by kernel_rfl
        exact (show Tryd.prog.wantsStandIn t = false by simpa using List.all_eq_true.1 hall t hm)⟩)
    (by kernel_rfl)
end Go.Proofs.YtllklgalghmnfaaDoor.templateExpands
