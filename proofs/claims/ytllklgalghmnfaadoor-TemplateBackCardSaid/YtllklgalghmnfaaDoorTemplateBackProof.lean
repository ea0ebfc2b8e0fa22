/- The statement TemplateBack: for every input the law returns true, and its arguments read afterwards as they read before. No condition. -/
import Derived.Test.YtllklgalghmnfaaDoorRows
import Derived.WalkKit
import Derived.ProofKit
import Derived.OpenShut
import Derived.ShutString
import Derived.Test.YtllklgalghmnfaaDoorRowOpen
import Derived.Test.YtllklgalghmnfaaDoorRowInts
import Derived.Test.YtllklgalghmnfaaDoorRowTied
import Derived.Test.YtllklgalghmnfaaDoorTie
import Derived.Test.YtllklgalghmnfaaDoorCards
import Derived.SevenTiedAt
import Derived.Test.YtllklgalghmnfaaDoorLawTplBack
namespace Go.Proofs.YtllklgalghmnfaaDoor.templateBack
open Go.ChangeShapes Go.WideShapes Go.ChangeAt Go.RowKit
set_option linter.unusedVariables false

theorem own : ownKnob Tryd.prog.godebug = none := by kernel_rfl
theorem laidOut : laidOutB Tryd.prog = true := by kernel_rfl

theorem walk (w : World) (hN : Nm w) (a0 : Option Addr) (c0 : Nat) (l0 : List Int) (h0l : l0.length ≤ c0) (h0c : c0 ≤ maxLen) (h0 : Mem.Ints w a0 l0.length l0) (h0s : ∀ n ∈ l0, (Lit.int .i64 n).wf = true) (a1 : Option Addr) (c1 : Nat) (l1 : List Int) (h1l : l1.length ≤ c1) (h1c : c1 ≤ maxLen) (h1 : Mem.Ints w a1 l1.length l1) (h1s : ∀ n ∈ l1, (Lit.int .i64 n).wf = true) (x2 : Int) (w2 : (Lit.int .i64 x2).wf = true) (x3 : ByteArray) (w3 : x3.size ≤ maxLen) :
    Calls Tryd.prog 10 #[.slice a0 l0.length c0, .slice a1 l1.length c1, .int .i64 x2, .string x3] w fun e w' => e = .returned (.bool true) ∧ Below w.heap.size w w' := by
  exact lawTplBack_any a0 a1 c0 c1 l0 l1 x2 x3 w hN h0 h1

set_option maxRecDepth 100000 in
theorem lifted (os : Os) (started : os.Started) (H : Type) (enc : TypeId × Value → H) :
    ReturnsInHanded {} Tryd.checked os 10 .any (fun w args => (Rows.templateBackSpec.pre enc Tryd.prog Tryd.f10 [] false w args ∧ laidMetH Tryd.prog laidP w) ∧ sizedMet enc Tryd.prog Tryd.f10 (OpenSpec.ofChange Rows.templateBackSpec) false w args) (Rows.templateBackSpec.post enc Tryd.prog Tryd.f10 false true false false) := by
  refine returnsInHanded_of_change_and (C := Tryd.checked) (X := fun w _ => laidMetH Tryd.prog laidP w) (fun _ _ _ hh h => h.of_heap hh) own started (by kernel_rfl) Tryd.func10
    (ChangeSpec.witness_shaped (enc := enc) (C := Tryd.checked) (os := os) (X := fun w _ => laidMetH Tryd.prog laidP w) false (World.doorLaid Tryd.prog 400 os) #[.slice none 0 0, .slice none 0 0, .int .i64 0, .string ByteArray.empty] 8 rfl (World.shaped_of_RefB (by kernel_rfl) (by kernel_rfl)) (by kernel_rfl) (by kernel_rfl) (by kernel_rfl) (door_met os _)) ?_
  intro W base args ds gs before hval0 hW _ _ hL _
  have hN := nm_of_laid hL
  have hval : ∀ (j : Nat) t v, Tryd.f10.params[j]? = some t → args[j]? = some v → Value.okWide Tryd.prog W .any base t v := hval0
  have hW' := hW
  obtain ⟨p, q, hA0, hV, rfl, hfz, hnd⟩ := hW
  have hA : DataW.TrodAll enc Tryd.prog W 0 (fun _ => true) true Tryd.f10.params.toList args.toList ds p := hA0
  have hA1 := hA
  rw [Tryd.params10] at hA1 hval
  obtain ⟨rfl, rfl⟩ := trodVars_none hV
  have hlt : ∀ x ∈ p ++ [], x.block < W.heap.size := fun x hx => by simpa using hW'.lt x hx
  clear hA0 hval0
  obtain ⟨v0, vs0, d0, ds0, p0, q0, hargs, rfl, rfl, t0, r0⟩ := trodAll_cons hA1
  obtain ⟨v1, vs1, d1, ds1, p1, q1, rfl, rfl, rfl, t1, r1⟩ := trodAll_cons r0
  obtain ⟨v2, vs2, d2, ds2, p2, q2, rfl, rfl, rfl, t2, r2⟩ := trodAll_cons r1
  obtain ⟨v3, vs3, d3, ds3, p3, q3, rfl, rfl, rfl, t3, r3⟩ := trodAll_cons r2
  obtain ⟨rfl, rfl, rfl⟩ := trodAll_nil r3
  obtain rfl : args = #[v0, v1, v2, v3] := by cases args; simp_all
  simp only [List.append_nil] at hW' hA hlt
  obtain ⟨a0, c0, l0, rfl, h0l, h0c, h0, h0s⟩ := open_nums Tryd.underlying43 Tryd.underlying3 (by kernel_rfl) (hval 0 43 v0 rfl rfl) t0 (fun x hx => hlt x (by simp [hx]))
  obtain ⟨a1, c1, l1, rfl, h1l, h1c, h1, h1s⟩ := open_nums Tryd.underlying43 Tryd.underlying3 (by kernel_rfl) (hval 1 43 v1 rfl rfl) t1 (fun x hx => hlt x (by simp [hx]))
  obtain ⟨x2, rfl, rfl, rfl, w2⟩ := open_int Tryd.underlying3 (hval 2 3 v2 rfl rfl) t2
  obtain ⟨x3, rfl, rfl, rfl, w3⟩ := Go.ChangeMaps.open_string Tryd.underlying9 (hval 3 9 v3 rfl rfl) t3
  refine (walk W hN a0 c0 l0 h0l h0c h0 h0s a1 c1 l1 h1l h1c h1 h1s x2 w2 x3 w3).mono fun e W' ⟨he, hg⟩ => ?_
  subst he
  exact ⟨_, rfl, post_stays laidOut (by kernel_rfl) hW' hA (fun _ _ _ => (trodAll_cons_mk (shut_bool Tryd.underlying4 _) trodAll_mk0)) rfl rfl rfl
    hg (ok_one (by kernel_rfl) rfl (okWide_bool_mk Tryd.underlying4 _))⟩

theorem over : Rows.templateBackRow.holds Tryd.pinned (OpenSpec.ofChange Rows.templateBackSpec) :=
  OpenClaim.holds_of_wide 10 Tryd.f10 rfl rfl rfl rfl rfl rfl rfl ⟨rfl, rfl, rfl, rfl, rfl⟩ rfl rfl rfl rfl rfl (by kernel_rfl) Tryd.func10 (by kernel_rfl)
    (of_decide_eq_true (by kernel_rfl)) (by unfold Func.isWrapper; first | (rw [if_pos (by decide +kernel)]; kernel_rfl) | (rw [if_neg (by decide +kernel)]; exact ⟨rfl, rfl⟩))
    (fun os started H enc _ => lifted os started H enc)

theorem proved : Rows.TemplateBackCardSaid :=
  Claim7.holds_tied_plain_at .later [] [.data] true (true, "d294207221f9bc14838f86ed649d9f4c9f77f38ace4cf3a956aead9adf63051a") false
    over (fun _ h => by cases h) (by kernel_rfl) (fun _ h => by cases h) templateBack_row_tie rfl ⟨rfl, rfl⟩ (by kernel_rfl) rfl
    (fun f fn hf hfn => by
      obtain rfl : f = 10 := Option.some.inj ((show Tryd.prog.funcNamed "waypost/waypostlaw25.TemplateBack" = some 10 by kernel_rfl).symm.trans hf) |>.symm
      obtain rfl : fn = Tryd.f10 := (Option.some.inj (Tryd.func10.symm.trans hfn)).symm
      exact ⟨by kernel_rfl, fun j t ht => by
        rw [Tryd.params10] at ht
        have hm : t ∈ [43, 43, 3, 9] := by simpa using Array.mem_of_getElem? ht
        have hall : ([43, 43, 3, 9].all fun u => !Tryd.prog.wantsStandIn u) = true := by kernel_rfl
        exact (show Tryd.prog.wantsStandIn t = false by simpa using List.all_eq_true.1 hall t hm)⟩)
    (by kernel_rfl)
end Go.Proofs.YtllklgalghmnfaaDoor.templateBack
