/- A drawn region's condition may be made stronger on the way. -/
import Derived.Test.YtllklgalghmnfaaDoorReg
namespace Go.Proofs.YtllklgalghmnfaaDoor.Reg
open Go
section
variable {P : Program} {md : Region.Mode} {ops : Array Oper} {Q : Exit → Act → World → Prop} {S S' : World → Prop}
theorem under (h : ∀ w, S' w → S w) : ∀ (fuel : Nat) (listed : Array Bool) (a : Act) (w : World), wpAnyH P md ops Q S' fuel listed a w → wpAnyH P md ops Q S fuel listed a w
  | 0, _, _, _, hw => hw
  | fuel + 1, _, _, _, hw => ⟨hw.1, fun i hi => wpOp_mono (fun a' w' h' => ⟨h w' h'.1, under h fuel _ a' w' h'.2⟩) (hw.2 i hi)⟩
end
end Go.Proofs.YtllklgalghmnfaaDoor.Reg
