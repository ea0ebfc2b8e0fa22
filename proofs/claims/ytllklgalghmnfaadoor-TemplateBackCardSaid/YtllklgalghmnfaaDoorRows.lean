/-
  NARROWER THAN 'FOR EVERY INPUT', by the rows' own cells (each row's printed sentence says how): TemplateReads: laid · TemplateTargets: laid · TemplateParts: laid · TemplateExpands: laid · TemplateKnown: laid · TemplateSums: laid · TemplateSafe: laid · TemplateBack: laid.
  DERIVED. THE GIVEN ROWS OF THIS SEAT. 8 by the template 'for every input the law returns true; each argument reads behind the call as it read before'; 0 by the template 'total and deterministic' (their statements: YtllklgalghmnfaaDoorTotals.lean).
  GIVEN WITH THE SEED: the statements are not yours to turn. If you find one false, say at which input.
  Laid BY PROGRAM, IN A SANDBOX (cutbox-rows.mjs): the forced cells as the released guide's own fill.sh prints them over the translation f16bce30ac63a24f… (all of the seat's roots in one cut). By AI agents, Wed Nov 11 2026. No macro, syntax, notation, axiom, sorry.
-/
import Derived.Test.YtllklgalghmnfaaDoorChecked
import GoSem.Claim
import GoSem.ClaimJoined
import GoSem.ClaimMapViews
import Derived.JoinedTies
import Derived.KernelRfl
namespace Go.Proofs.YtllklgalghmnfaaDoor
/- THE CELL 'sum', in the pinned program and in every row, IS THE sha256 OF THE DUMP (.gsa) THAT YtllklgalghmnfaaDoorProg.lean LOADS. Nothing in Lean hashes anything: it is a label: what it is worth is what the hold of that sum in a sandbox is worth. -/
noncomputable def Tryd.pinned : Pinned := { name := "ytllklgalghmnfaadoor", sum := "f16bce30ac63a24f2d75c2da3713aaa614a12470db85c873fd5da97eca8b9e24", checked := Tryd.checked }
namespace Rows
def none {H : Type} : Left H := { results := [], args := [] }

/- WHAT THE LISTED PACKAGE-LEVEL VARIABLES READ AS WHEN THE CALL BEGINS. Each datum BY PROGRAM (the guide's laid-datum.mjs) off the statement by which the dump's own 'gosem.cut.vars' lays the variable. In a bare row this is a premise. The card (YtllklgalghmnfaaDoorCards.lean) ties it to the program's text. -/
def laid_waypost_template_names {H : Type} : DataW H := .agg [.lit (.string []), .lit (.string [80, 65, 84, 72]), .lit (.string [81, 85, 69, 82, 89]), .lit (.string [72, 79, 83, 84]), .lit (.string [77, 69, 84, 72, 79, 68])]

/-- 'waypostlaw25.TemplateReads': WHATEVER THE INPUT: true; the input reads as it did. -/
def templateReadsSpec : ChangeSpec := { name := "templateReads", fn := fun _ => fun
  | [d] => { results := [.lit (.bool true)], args := [d] }
  | _ => none }
def templateReadsRow : OpenClaim := { program := "ytllklgalghmnfaadoor", sum := "f16bce30ac63a24f2d75c2da3713aaa614a12470db85c873fd5da97eca8b9e24", func := "waypost/waypostlaw25.TemplateReads", spec := "templateReads", inPlace := ["internal/bytealg.IndexByteString", "internal/bytealg.IndexString", "internal/abi.NoEscape", "internal/bytealg.MakeNoZero"], unfollowed := true, recurses := true, named := ["waypost/template.names", "internal/bytealg.MaxLen"], apart := false, laid := [("waypost/template.names", laid_waypost_template_names)] }
def TemplateReadsSaid : Prop := templateReadsRow.holds Tryd.pinned (OpenSpec.ofChange templateReadsSpec)

/-- ITS FALSE NEIGHBOUR: 'it returns false'. Refute it at one input. -/
def templateReadsWrong : ChangeSpec := { name := "templateReads", fn := fun _ => fun
  | [d] => { results := [.lit (.bool false)], args := [d] }
  | _ => none }
def TemplateReadsWrongFalsely : Prop := templateReadsRow.holds Tryd.pinned (OpenSpec.ofChange templateReadsWrong)

/-- 'waypostlaw25.TemplateTargets': WHATEVER THE INPUT: true; the input reads as it did. -/
def templateTargetsSpec : ChangeSpec := { name := "templateTargets", fn := fun _ => fun
  | [d] => { results := [.lit (.bool true)], args := [d] }
  | _ => none }
def templateTargetsRow : OpenClaim := { program := "ytllklgalghmnfaadoor", sum := "f16bce30ac63a24f2d75c2da3713aaa614a12470db85c873fd5da97eca8b9e24", func := "waypost/waypostlaw25.TemplateTargets", spec := "templateTargets", inPlace := ["internal/bytealg.IndexByteString", "internal/bytealg.IndexString", "internal/abi.NoEscape", "internal/bytealg.MakeNoZero"], unfollowed := true, recurses := true, named := ["waypost/template.names", "internal/bytealg.MaxLen"], apart := false, laid := [("waypost/template.names", laid_waypost_template_names)] }
def TemplateTargetsSaid : Prop := templateTargetsRow.holds Tryd.pinned (OpenSpec.ofChange templateTargetsSpec)

/-- ITS FALSE NEIGHBOUR: 'it returns false'. Refute it at one input. -/
def templateTargetsWrong : ChangeSpec := { name := "templateTargets", fn := fun _ => fun
  | [d] => { results := [.lit (.bool false)], args := [d] }
  | _ => none }
def TemplateTargetsWrongFalsely : Prop := templateTargetsRow.holds Tryd.pinned (OpenSpec.ofChange templateTargetsWrong)

/-- 'waypostlaw25.TemplateParts': WHATEVER THE INPUT: true; the input reads as it did. -/
def templatePartsSpec : ChangeSpec := { name := "templateParts", fn := fun _ => fun
  | [d] => { results := [.lit (.bool true)], args := [d] }
  | _ => none }
def templatePartsRow : OpenClaim := { program := "ytllklgalghmnfaadoor", sum := "f16bce30ac63a24f2d75c2da3713aaa614a12470db85c873fd5da97eca8b9e24", func := "waypost/waypostlaw25.TemplateParts", spec := "templateParts", inPlace := ["internal/bytealg.IndexByteString", "internal/bytealg.IndexString", "internal/abi.NoEscape", "internal/bytealg.MakeNoZero"], unfollowed := true, recurses := true, named := ["waypost/template.names", "internal/bytealg.MaxLen"], apart := false, laid := [("waypost/template.names", laid_waypost_template_names)] }
def TemplatePartsSaid : Prop := templatePartsRow.holds Tryd.pinned (OpenSpec.ofChange templatePartsSpec)

/-- ITS FALSE NEIGHBOUR: 'it returns false'. Refute it at one input. -/
def templatePartsWrong : ChangeSpec := { name := "templateParts", fn := fun _ => fun
  | [d] => { results := [.lit (.bool false)], args := [d] }
  | _ => none }
def TemplatePartsWrongFalsely : Prop := templatePartsRow.holds Tryd.pinned (OpenSpec.ofChange templatePartsWrong)

/-- 'waypostlaw25.TemplateExpands': WHATEVER THE INPUT: true; the input reads as it did. -/
def templateExpandsSpec : ChangeSpec := { name := "templateExpands", fn := fun _ => fun
  | [d1, d2, d3] => { results := [.lit (.bool true)], args := [d1, d2, d3] }
  | _ => none }
def templateExpandsRow : OpenClaim := { program := "ytllklgalghmnfaadoor", sum := "f16bce30ac63a24f2d75c2da3713aaa614a12470db85c873fd5da97eca8b9e24", func := "waypost/waypostlaw25.TemplateExpands", spec := "templateExpands", inPlace := ["internal/bytealg.IndexByteString", "internal/bytealg.IndexString", "internal/abi.NoEscape", "internal/bytealg.MakeNoZero"], unfollowed := true, recurses := true, named := ["waypost/template.names", "internal/bytealg.MaxLen"], apart := false, laid := [("waypost/template.names", laid_waypost_template_names)] }
def TemplateExpandsSaid : Prop := templateExpandsRow.holds Tryd.pinned (OpenSpec.ofChange templateExpandsSpec)

/-- ITS FALSE NEIGHBOUR: 'it returns false'. Refute it at one input. -/
def templateExpandsWrong : ChangeSpec := { name := "templateExpands", fn := fun _ => fun
  | [d1, d2, d3] => { results := [.lit (.bool false)], args := [d1, d2, d3] }
  | _ => none }
def TemplateExpandsWrongFalsely : Prop := templateExpandsRow.holds Tryd.pinned (OpenSpec.ofChange templateExpandsWrong)

/-- 'waypostlaw25.TemplateKnown': WHATEVER THE INPUT: true; the input reads as it did. -/
def templateKnownSpec : ChangeSpec := { name := "templateKnown", fn := fun _ => fun
  | [] => { results := [.lit (.bool true)], args := [] }
  | _ => none }
def templateKnownRow : OpenClaim := { program := "ytllklgalghmnfaadoor", sum := "f16bce30ac63a24f2d75c2da3713aaa614a12470db85c873fd5da97eca8b9e24", func := "waypost/waypostlaw25.TemplateKnown", spec := "templateKnown", inPlace := ["internal/bytealg.IndexByteString", "internal/abi.NoEscape", "internal/bytealg.IndexString", "internal/bytealg.MakeNoZero"], unfollowed := true, recurses := true, named := ["waypost/template.names", "internal/bytealg.MaxLen"], apart := false, laid := [("waypost/template.names", laid_waypost_template_names)] }
def TemplateKnownSaid : Prop := templateKnownRow.holds Tryd.pinned (OpenSpec.ofChange templateKnownSpec)

/-- ITS FALSE NEIGHBOUR: 'it returns false'. Refute it at one input. -/
def templateKnownWrong : ChangeSpec := { name := "templateKnown", fn := fun _ => fun
  | [] => { results := [.lit (.bool false)], args := [] }
  | _ => none }
def TemplateKnownWrongFalsely : Prop := templateKnownRow.holds Tryd.pinned (OpenSpec.ofChange templateKnownWrong)

/-- 'waypostlaw25.TemplateSums': WHATEVER THE INPUT: true; the input reads as it did. -/
def templateSumsSpec : ChangeSpec := { name := "templateSums", fn := fun _ => fun
  | [d1, d2, d3] => { results := [.lit (.bool true)], args := [d1, d2, d3] }
  | _ => none }
def templateSumsRow : OpenClaim := { program := "ytllklgalghmnfaadoor", sum := "f16bce30ac63a24f2d75c2da3713aaa614a12470db85c873fd5da97eca8b9e24", func := "waypost/waypostlaw25.TemplateSums", spec := "templateSums", inPlace := ["internal/bytealg.IndexByteString", "internal/abi.NoEscape", "internal/bytealg.IndexString", "internal/bytealg.MakeNoZero"], unfollowed := true, recurses := true, named := ["waypost/template.names", "internal/bytealg.MaxLen"], apart := false, laid := [("waypost/template.names", laid_waypost_template_names)] }
def TemplateSumsSaid : Prop := templateSumsRow.holds Tryd.pinned (OpenSpec.ofChange templateSumsSpec)

/-- ITS FALSE NEIGHBOUR: 'it returns false'. Refute it at one input. -/
def templateSumsWrong : ChangeSpec := { name := "templateSums", fn := fun _ => fun
  | [d1, d2, d3] => { results := [.lit (.bool false)], args := [d1, d2, d3] }
  | _ => none }
def TemplateSumsWrongFalsely : Prop := templateSumsRow.holds Tryd.pinned (OpenSpec.ofChange templateSumsWrong)

/-- 'waypostlaw25.TemplateSafe': WHATEVER THE INPUT: true; the input reads as it did. -/
def templateSafeSpec : ChangeSpec := { name := "templateSafe", fn := fun _ => fun
  | [d] => { results := [.lit (.bool true)], args := [d] }
  | _ => none }
def templateSafeRow : OpenClaim := { program := "ytllklgalghmnfaadoor", sum := "f16bce30ac63a24f2d75c2da3713aaa614a12470db85c873fd5da97eca8b9e24", func := "waypost/waypostlaw25.TemplateSafe", spec := "templateSafe", inPlace := ["internal/bytealg.IndexByteString", "internal/abi.NoEscape", "internal/bytealg.IndexString", "internal/bytealg.MakeNoZero"], unfollowed := true, recurses := true, named := ["waypost/template.names", "internal/bytealg.MaxLen"], apart := false, laid := [("waypost/template.names", laid_waypost_template_names)] }
def TemplateSafeSaid : Prop := templateSafeRow.holds Tryd.pinned (OpenSpec.ofChange templateSafeSpec)

/-- ITS FALSE NEIGHBOUR: 'it returns false'. Refute it at one input. -/
def templateSafeWrong : ChangeSpec := { name := "templateSafe", fn := fun _ => fun
  | [d] => { results := [.lit (.bool false)], args := [d] }
  | _ => none }
def TemplateSafeWrongFalsely : Prop := templateSafeRow.holds Tryd.pinned (OpenSpec.ofChange templateSafeWrong)

/-- 'waypostlaw25.TemplateBack': WHATEVER THE INPUT: true; the input reads as it did. -/
def templateBackSpec : ChangeSpec := { name := "templateBack", fn := fun _ => fun
  | [d1, d2, d3, d4] => { results := [.lit (.bool true)], args := [d1, d2, d3, d4] }
  | _ => none }
def templateBackRow : OpenClaim := { program := "ytllklgalghmnfaadoor", sum := "f16bce30ac63a24f2d75c2da3713aaa614a12470db85c873fd5da97eca8b9e24", func := "waypost/waypostlaw25.TemplateBack", spec := "templateBack", inPlace := ["internal/bytealg.IndexByteString", "internal/abi.NoEscape", "internal/bytealg.IndexString", "internal/bytealg.MakeNoZero"], unfollowed := true, recurses := true, named := ["waypost/template.names", "internal/bytealg.MaxLen"], apart := false, laid := [("waypost/template.names", laid_waypost_template_names)] }
def TemplateBackSaid : Prop := templateBackRow.holds Tryd.pinned (OpenSpec.ofChange templateBackSpec)

/-- ITS FALSE NEIGHBOUR: 'it returns false'. Refute it at one input. -/
def templateBackWrong : ChangeSpec := { name := "templateBack", fn := fun _ => fun
  | [d1, d2, d3, d4] => { results := [.lit (.bool false)], args := [d1, d2, d3, d4] }
  | _ => none }
def TemplateBackWrongFalsely : Prop := templateBackRow.holds Tryd.pinned (OpenSpec.ofChange templateBackWrong)

/- THE SECOND FORM. 'bulk': how many values and letters a reading holds, each counted each time it is reached (what is shared counts as often as it is met; a slice's spare places count too). A statement '..UptoSaid' is the law's where the arguments, and the package variables that the reading takes, are together of bulk at most 1048576: NARROWER than '..Said'. Prove '..Said' where nothing that the law and all that it calls make is longer than what came in: it says more and counts as full. Else prove '..UptoSaid'. A law counts once. -/
mutual
def uptoBulk {H : Type} : DataW H → Nat
  | .lit (.string bytes) => bytes.length + 1
  | .lit _ => 1
  | .nil => 1
  | .ptr d => uptoBulk d + 1
  | .slice elems spare => uptoBulkAll elems + uptoBulkAll spare + 1
  | .agg parts => uptoBulkAll parts + 1
  | .iface _ d => uptoBulk d + 1
  | .map entries => uptoBulkEntries entries + 1
  | .held _ => 1
def uptoBulkAll {H : Type} : List (DataW H) → Nat
  | [] => 0
  | d :: r => uptoBulk d + uptoBulkAll r
def uptoBulkEntries {H : Type} : List (Lit × DataW H) → Nat
  | [] => 0
  | x :: r => uptoBulkEntry x + uptoBulkEntries r
def uptoBulkEntry {H : Type} : Lit × DataW H → Nat
  | (.string bytes, d) => bytes.length + uptoBulk d + 1
  | (_, d) => uptoBulk d + 1
 end
def uptoSmall : (H : Type) → List (DataW H) → Bool := fun _ ds => decide (uptoBulkAll ds ≤ 1048576)
def OpenSpec.upto (s : _root_.Go.ChangeSpec) : _root_.Go.OpenSpec := { _root_.Go.OpenSpec.ofChange s with cond := some uptoSmall }

/-- 'waypostlaw25.TemplateReads', WHERE WHAT IT READS IS OF BULK AT MOST 1048576: true; the input reads as it did. -/
def templateReadsUptoRow : OpenClaim := { program := "ytllklgalghmnfaadoor", sum := "f16bce30ac63a24f2d75c2da3713aaa614a12470db85c873fd5da97eca8b9e24", func := "waypost/waypostlaw25.TemplateReads", spec := "templateReads", inPlace := ["internal/bytealg.IndexByteString", "internal/bytealg.IndexString", "internal/abi.NoEscape", "internal/bytealg.MakeNoZero"], unfollowed := true, recurses := true, named := ["waypost/template.names", "internal/bytealg.MaxLen"], apart := false, laid := [("waypost/template.names", laid_waypost_template_names)], narrowed := true }
def TemplateReadsUptoSaid : Prop := templateReadsUptoRow.holds Tryd.pinned (OpenSpec.upto templateReadsSpec)

/-- 'waypostlaw25.TemplateTargets', WHERE WHAT IT READS IS OF BULK AT MOST 1048576: true; the input reads as it did. -/
def templateTargetsUptoRow : OpenClaim := { program := "ytllklgalghmnfaadoor", sum := "f16bce30ac63a24f2d75c2da3713aaa614a12470db85c873fd5da97eca8b9e24", func := "waypost/waypostlaw25.TemplateTargets", spec := "templateTargets", inPlace := ["internal/bytealg.IndexByteString", "internal/bytealg.IndexString", "internal/abi.NoEscape", "internal/bytealg.MakeNoZero"], unfollowed := true, recurses := true, named := ["waypost/template.names", "internal/bytealg.MaxLen"], apart := false, laid := [("waypost/template.names", laid_waypost_template_names)], narrowed := true }
def TemplateTargetsUptoSaid : Prop := templateTargetsUptoRow.holds Tryd.pinned (OpenSpec.upto templateTargetsSpec)

/-- 'waypostlaw25.TemplateParts', WHERE WHAT IT READS IS OF BULK AT MOST 1048576: true; the input reads as it did. -/
def templatePartsUptoRow : OpenClaim := { program := "ytllklgalghmnfaadoor", sum := "f16bce30ac63a24f2d75c2da3713aaa614a12470db85c873fd5da97eca8b9e24", func := "waypost/waypostlaw25.TemplateParts", spec := "templateParts", inPlace := ["internal/bytealg.IndexByteString", "internal/bytealg.IndexString", "internal/abi.NoEscape", "internal/bytealg.MakeNoZero"], unfollowed := true, recurses := true, named := ["waypost/template.names", "internal/bytealg.MaxLen"], apart := false, laid := [("waypost/template.names", laid_waypost_template_names)], narrowed := true }
def TemplatePartsUptoSaid : Prop := templatePartsUptoRow.holds Tryd.pinned (OpenSpec.upto templatePartsSpec)

/-- 'waypostlaw25.TemplateExpands', WHERE WHAT IT READS IS OF BULK AT MOST 1048576: true; the input reads as it did. -/
def templateExpandsUptoRow : OpenClaim := { program := "ytllklgalghmnfaadoor", sum := "f16bce30ac63a24f2d75c2da3713aaa614a12470db85c873fd5da97eca8b9e24", func := "waypost/waypostlaw25.TemplateExpands", spec := "templateExpands", inPlace := ["internal/bytealg.IndexByteString", "internal/bytealg.IndexString", "internal/abi.NoEscape", "internal/bytealg.MakeNoZero"], unfollowed := true, recurses := true, named := ["waypost/template.names", "internal/bytealg.MaxLen"], apart := false, laid := [("waypost/template.names", laid_waypost_template_names)], narrowed := true }
def TemplateExpandsUptoSaid : Prop := templateExpandsUptoRow.holds Tryd.pinned (OpenSpec.upto templateExpandsSpec)

/-- 'waypostlaw25.TemplateKnown', WHERE WHAT IT READS IS OF BULK AT MOST 1048576: true; the input reads as it did. -/
def templateKnownUptoRow : OpenClaim := { program := "ytllklgalghmnfaadoor", sum := "f16bce30ac63a24f2d75c2da3713aaa614a12470db85c873fd5da97eca8b9e24", func := "waypost/waypostlaw25.TemplateKnown", spec := "templateKnown", inPlace := ["internal/bytealg.IndexByteString", "internal/abi.NoEscape", "internal/bytealg.IndexString", "internal/bytealg.MakeNoZero"], unfollowed := true, recurses := true, named := ["waypost/template.names", "internal/bytealg.MaxLen"], apart := false, laid := [("waypost/template.names", laid_waypost_template_names)], narrowed := true }
def TemplateKnownUptoSaid : Prop := templateKnownUptoRow.holds Tryd.pinned (OpenSpec.upto templateKnownSpec)

/-- 'waypostlaw25.TemplateSums', WHERE WHAT IT READS IS OF BULK AT MOST 1048576: true; the input reads as it did. -/
def templateSumsUptoRow : OpenClaim := { program := "ytllklgalghmnfaadoor", sum := "f16bce30ac63a24f2d75c2da3713aaa614a12470db85c873fd5da97eca8b9e24", func := "waypost/waypostlaw25.TemplateSums", spec := "templateSums", inPlace := ["internal/bytealg.IndexByteString", "internal/abi.NoEscape", "internal/bytealg.IndexString", "internal/bytealg.MakeNoZero"], unfollowed := true, recurses := true, named := ["waypost/template.names", "internal/bytealg.MaxLen"], apart := false, laid := [("waypost/template.names", laid_waypost_template_names)], narrowed := true }
def TemplateSumsUptoSaid : Prop := templateSumsUptoRow.holds Tryd.pinned (OpenSpec.upto templateSumsSpec)

/-- 'waypostlaw25.TemplateSafe', WHERE WHAT IT READS IS OF BULK AT MOST 1048576: true; the input reads as it did. -/
def templateSafeUptoRow : OpenClaim := { program := "ytllklgalghmnfaadoor", sum := "f16bce30ac63a24f2d75c2da3713aaa614a12470db85c873fd5da97eca8b9e24", func := "waypost/waypostlaw25.TemplateSafe", spec := "templateSafe", inPlace := ["internal/bytealg.IndexByteString", "internal/abi.NoEscape", "internal/bytealg.IndexString", "internal/bytealg.MakeNoZero"], unfollowed := true, recurses := true, named := ["waypost/template.names", "internal/bytealg.MaxLen"], apart := false, laid := [("waypost/template.names", laid_waypost_template_names)], narrowed := true }
def TemplateSafeUptoSaid : Prop := templateSafeUptoRow.holds Tryd.pinned (OpenSpec.upto templateSafeSpec)

/-- 'waypostlaw25.TemplateBack', WHERE WHAT IT READS IS OF BULK AT MOST 1048576: true; the input reads as it did. -/
def templateBackUptoRow : OpenClaim := { program := "ytllklgalghmnfaadoor", sum := "f16bce30ac63a24f2d75c2da3713aaa614a12470db85c873fd5da97eca8b9e24", func := "waypost/waypostlaw25.TemplateBack", spec := "templateBack", inPlace := ["internal/bytealg.IndexByteString", "internal/abi.NoEscape", "internal/bytealg.IndexString", "internal/bytealg.MakeNoZero"], unfollowed := true, recurses := true, named := ["waypost/template.names", "internal/bytealg.MaxLen"], apart := false, laid := [("waypost/template.names", laid_waypost_template_names)], narrowed := true }
def TemplateBackUptoSaid : Prop := templateBackUptoRow.holds Tryd.pinned (OpenSpec.upto templateBackSpec)

end Rows
end Go.Proofs.YtllklgalghmnfaaDoor
