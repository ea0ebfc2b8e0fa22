/-
  DERIVED. GIVEN WITH THE SEED: THE CARDS: each row of YtllklgalghmnfaaDoorRows.lean that lists a variable, with what it lists TIED to the program's text (the seventh form; the later family's looks); each row that meets fmt, with fmt's text TOLD by the authors' own Lean function (tested against real Go, not proved from fmt's source: count such statements apart). THE CARD IS WHAT COUNTS. Prove the row's statement (the work); the ties are given (YtllklgalghmnfaaDoorTie.lean); close each card by the builder's one call (the guide's Derived/Test/ToyasCard.lean, 'card_holds'). Laid BY PROGRAM, IN A SANDBOX (cutbox-door.mjs). By AI agents, Wed Nov 11 2026. No macro, syntax, notation, axiom, sorry.
-/
import Derived.Test.YtllklgalghmnfaaDoorRows
import GoSem.ClaimSeven
namespace Go.Proofs.YtllklgalghmnfaaDoor
namespace Rows

/-- THE TIED CARD OF 'waypostlaw25.TemplateReads'. -/
def templateReadsCard : Claim7 := { stood := { row := templateReadsRow, standIns := [], harness := (true, "d294207221f9bc14838f86ed649d9f4c9f77f38ace4cf3a956aead9adf63051a"), looks := false }, kinds := [], alts := [], laidByText := true, laidKinds := [.data], laidTests := true, laidLooks := .later }
def TemplateReadsCardSaid : Prop := Claim7.holds Tryd.pinned (.plain (OpenSpec.ofChange templateReadsSpec)) templateReadsCard

/-- THE TIED CARD OF 'waypostlaw25.TemplateTargets'. -/
def templateTargetsCard : Claim7 := { stood := { row := templateTargetsRow, standIns := [], harness := (true, "d294207221f9bc14838f86ed649d9f4c9f77f38ace4cf3a956aead9adf63051a"), looks := false }, kinds := [], alts := [], laidByText := true, laidKinds := [.data], laidTests := true, laidLooks := .later }
def TemplateTargetsCardSaid : Prop := Claim7.holds Tryd.pinned (.plain (OpenSpec.ofChange templateTargetsSpec)) templateTargetsCard

/-- THE TIED CARD OF 'waypostlaw25.TemplateParts'. -/
def templatePartsCard : Claim7 := { stood := { row := templatePartsRow, standIns := [], harness := (true, "d294207221f9bc14838f86ed649d9f4c9f77f38ace4cf3a956aead9adf63051a"), looks := false }, kinds := [], alts := [], laidByText := true, laidKinds := [.data], laidTests := true, laidLooks := .later }
def TemplatePartsCardSaid : Prop := Claim7.holds Tryd.pinned (.plain (OpenSpec.ofChange templatePartsSpec)) templatePartsCard

/-- THE TIED CARD OF 'waypostlaw25.TemplateExpands'. -/
def templateExpandsCard : Claim7 := { stood := { row := templateExpandsRow, standIns := [], harness := (true, "d294207221f9bc14838f86ed649d9f4c9f77f38ace4cf3a956aead9adf63051a"), looks := false }, kinds := [], alts := [], laidByText := true, laidKinds := [.data], laidTests := true, laidLooks := .later }
def TemplateExpandsCardSaid : Prop := Claim7.holds Tryd.pinned (.plain (OpenSpec.ofChange templateExpandsSpec)) templateExpandsCard

/-- THE TIED CARD OF 'waypostlaw25.TemplateKnown'. -/
def templateKnownCard : Claim7 := { stood := { row := templateKnownRow, standIns := [], harness := (true, "d294207221f9bc14838f86ed649d9f4c9f77f38ace4cf3a956aead9adf63051a"), looks := false }, kinds := [], alts := [], laidByText := true, laidKinds := [.data], laidTests := true, laidLooks := .later }
def TemplateKnownCardSaid : Prop := Claim7.holds Tryd.pinned (.plain (OpenSpec.ofChange templateKnownSpec)) templateKnownCard

/-- THE TIED CARD OF 'waypostlaw25.TemplateSums'. -/
def templateSumsCard : Claim7 := { stood := { row := templateSumsRow, standIns := [], harness := (true, "d294207221f9bc14838f86ed649d9f4c9f77f38ace4cf3a956aead9adf63051a"), looks := false }, kinds := [], alts := [], laidByText := true, laidKinds := [.data], laidTests := true, laidLooks := .later }
def TemplateSumsCardSaid : Prop := Claim7.holds Tryd.pinned (.plain (OpenSpec.ofChange templateSumsSpec)) templateSumsCard

/-- THE TIED CARD OF 'waypostlaw25.TemplateSafe'. -/
def templateSafeCard : Claim7 := { stood := { row := templateSafeRow, standIns := [], harness := (true, "d294207221f9bc14838f86ed649d9f4c9f77f38ace4cf3a956aead9adf63051a"), looks := false }, kinds := [], alts := [], laidByText := true, laidKinds := [.data], laidTests := true, laidLooks := .later }
def TemplateSafeCardSaid : Prop := Claim7.holds Tryd.pinned (.plain (OpenSpec.ofChange templateSafeSpec)) templateSafeCard

/-- THE TIED CARD OF 'waypostlaw25.TemplateBack'. -/
def templateBackCard : Claim7 := { stood := { row := templateBackRow, standIns := [], harness := (true, "d294207221f9bc14838f86ed649d9f4c9f77f38ace4cf3a956aead9adf63051a"), looks := false }, kinds := [], alts := [], laidByText := true, laidKinds := [.data], laidTests := true, laidLooks := .later }
def TemplateBackCardSaid : Prop := Claim7.holds Tryd.pinned (.plain (OpenSpec.ofChange templateBackSpec)) templateBackCard

/-- THE SECOND FORM's CARD OF 'waypostlaw25.TemplateReads'. -/
def templateReadsUptoCard : Claim7 := { stood := { row := templateReadsUptoRow, standIns := [], harness := (true, "d294207221f9bc14838f86ed649d9f4c9f77f38ace4cf3a956aead9adf63051a"), looks := false }, kinds := [], alts := [], laidByText := true, laidKinds := [.data], laidTests := true, laidLooks := .later }
def TemplateReadsUptoCardSaid : Prop := Claim7.holds Tryd.pinned (.plain (OpenSpec.upto templateReadsSpec)) templateReadsUptoCard

/-- THE SECOND FORM's CARD OF 'waypostlaw25.TemplateTargets'. -/
def templateTargetsUptoCard : Claim7 := { stood := { row := templateTargetsUptoRow, standIns := [], harness := (true, "d294207221f9bc14838f86ed649d9f4c9f77f38ace4cf3a956aead9adf63051a"), looks := false }, kinds := [], alts := [], laidByText := true, laidKinds := [.data], laidTests := true, laidLooks := .later }
def TemplateTargetsUptoCardSaid : Prop := Claim7.holds Tryd.pinned (.plain (OpenSpec.upto templateTargetsSpec)) templateTargetsUptoCard

/-- THE SECOND FORM's CARD OF 'waypostlaw25.TemplateParts'. -/
def templatePartsUptoCard : Claim7 := { stood := { row := templatePartsUptoRow, standIns := [], harness := (true, "d294207221f9bc14838f86ed649d9f4c9f77f38ace4cf3a956aead9adf63051a"), looks := false }, kinds := [], alts := [], laidByText := true, laidKinds := [.data], laidTests := true, laidLooks := .later }
def TemplatePartsUptoCardSaid : Prop := Claim7.holds Tryd.pinned (.plain (OpenSpec.upto templatePartsSpec)) templatePartsUptoCard

/-- THE SECOND FORM's CARD OF 'waypostlaw25.TemplateExpands'. -/
def templateExpandsUptoCard : Claim7 := { stood := { row := templateExpandsUptoRow, standIns := [], harness := (true, "d294207221f9bc14838f86ed649d9f4c9f77f38ace4cf3a956aead9adf63051a"), looks := false }, kinds := [], alts := [], laidByText := true, laidKinds := [.data], laidTests := true, laidLooks := .later }
def TemplateExpandsUptoCardSaid : Prop := Claim7.holds Tryd.pinned (.plain (OpenSpec.upto templateExpandsSpec)) templateExpandsUptoCard

/-- THE SECOND FORM's CARD OF 'waypostlaw25.TemplateKnown'. -/
def templateKnownUptoCard : Claim7 := { stood := { row := templateKnownUptoRow, standIns := [], harness := (true, "d294207221f9bc14838f86ed649d9f4c9f77f38ace4cf3a956aead9adf63051a"), looks := false }, kinds := [], alts := [], laidByText := true, laidKinds := [.data], laidTests := true, laidLooks := .later }
def TemplateKnownUptoCardSaid : Prop := Claim7.holds Tryd.pinned (.plain (OpenSpec.upto templateKnownSpec)) templateKnownUptoCard

/-- THE SECOND FORM's CARD OF 'waypostlaw25.TemplateSums'. -/
def templateSumsUptoCard : Claim7 := { stood := { row := templateSumsUptoRow, standIns := [], harness := (true, "d294207221f9bc14838f86ed649d9f4c9f77f38ace4cf3a956aead9adf63051a"), looks := false }, kinds := [], alts := [], laidByText := true, laidKinds := [.data], laidTests := true, laidLooks := .later }
def TemplateSumsUptoCardSaid : Prop := Claim7.holds Tryd.pinned (.plain (OpenSpec.upto templateSumsSpec)) templateSumsUptoCard

/-- THE SECOND FORM's CARD OF 'waypostlaw25.TemplateSafe'. -/
def templateSafeUptoCard : Claim7 := { stood := { row := templateSafeUptoRow, standIns := [], harness := (true, "d294207221f9bc14838f86ed649d9f4c9f77f38ace4cf3a956aead9adf63051a"), looks := false }, kinds := [], alts := [], laidByText := true, laidKinds := [.data], laidTests := true, laidLooks := .later }
def TemplateSafeUptoCardSaid : Prop := Claim7.holds Tryd.pinned (.plain (OpenSpec.upto templateSafeSpec)) templateSafeUptoCard

/-- THE SECOND FORM's CARD OF 'waypostlaw25.TemplateBack'. -/
def templateBackUptoCard : Claim7 := { stood := { row := templateBackUptoRow, standIns := [], harness := (true, "d294207221f9bc14838f86ed649d9f4c9f77f38ace4cf3a956aead9adf63051a"), looks := false }, kinds := [], alts := [], laidByText := true, laidKinds := [.data], laidTests := true, laidLooks := .later }
def TemplateBackUptoCardSaid : Prop := Claim7.holds Tryd.pinned (.plain (OpenSpec.upto templateBackSpec)) templateBackUptoCard
end Rows
end Go.Proofs.YtllklgalghmnfaaDoor
