/-
  No cell of these rows narrows 'for every input' (looked for: loops, veiled, ifaces, maps, wideKeys, modest, calm, conditions, laid).
  DERIVED. THE GIVEN ROWS OF THIS SEAT. 7 by the template 'for every input the law returns true; each argument reads behind the call as it read before'; 0 by the template 'total and deterministic' (their statements: YtldjljblcjplaaaTotals.lean).
  GIVEN WITH THE SEED: the statements are not yours to turn. If you find one false, say at which input.
  Laid BY PROGRAM, IN A SANDBOX (cutbox-rows.mjs): the forced cells as the released guide's own fill.sh prints them over the translation 53dae3f47c2697ce… (all of the seat's roots in one cut). By AI agents, Wed Nov 11 2026. No macro, syntax, notation, axiom, sorry.
-/
import Derived.Test.YtldjljblcjplaaaChecked
import GoSem.Claim
import GoSem.ClaimJoined
import GoSem.ClaimMapViews
import Derived.JoinedTies
import Derived.KernelRfl
namespace Go.Proofs.Ytldjljblcjplaaa
/- THE CELL 'sum', in the pinned program and in every row, IS THE sha256 OF THE DUMP (.gsa) THAT YtldjljblcjplaaaProg.lean LOADS. Nothing in Lean hashes anything: it is a label: what it is worth is what the hold of that sum in a sandbox is worth. -/
noncomputable def Try.pinned : Pinned := { name := "ytldjljblcjplaaa", sum := "53dae3f47c2697ceaa403adfe389326a0cd37a7ef51597b9b1444079e70979b0", checked := Try.checked }
namespace Rows
def none {H : Type} : Left H := { results := [], args := [] }

/-- 'waypostlaw14.DotsCleans': WHATEVER THE INPUT: true; the input reads as it did. -/
def dotsCleansSpec : ChangeSpec := { name := "dotsCleans", fn := fun _ => fun
  | [d] => { results := [.lit (.bool true)], args := [d] }
  | _ => none }
def dotsCleansRow : OpenClaim := { program := "ytldjljblcjplaaa", sum := "53dae3f47c2697ceaa403adfe389326a0cd37a7ef51597b9b1444079e70979b0", func := "waypost/waypostlaw14.DotsCleans", spec := "dotsCleans", inPlace := ["internal/bytealg.IndexByteString", "internal/bytealg.IndexString", "internal/abi.NoEscape"], unfollowed := true, recurses := true, named := ["internal/bytealg.MaxLen"], apart := false }
def DotsCleansSaid : Prop := dotsCleansRow.holds Try.pinned (OpenSpec.ofChange dotsCleansSpec)

/-- ITS FALSE NEIGHBOUR: 'it returns false'. Refute it at one input. -/
def dotsCleansWrong : ChangeSpec := { name := "dotsCleans", fn := fun _ => fun
  | [d] => { results := [.lit (.bool false)], args := [d] }
  | _ => none }
def DotsCleansWrongFalsely : Prop := dotsCleansRow.holds Try.pinned (OpenSpec.ofChange dotsCleansWrong)

/-- 'waypostlaw14.DotsMakes': WHATEVER THE INPUT: true; the input reads as it did. -/
def dotsMakesSpec : ChangeSpec := { name := "dotsMakes", fn := fun _ => fun
  | [d1, d2] => { results := [.lit (.bool true)], args := [d1, d2] }
  | _ => none }
def dotsMakesRow : OpenClaim := { program := "ytldjljblcjplaaa", sum := "53dae3f47c2697ceaa403adfe389326a0cd37a7ef51597b9b1444079e70979b0", func := "waypost/waypostlaw14.DotsMakes", spec := "dotsMakes", inPlace := ["internal/bytealg.IndexByteString", "internal/bytealg.IndexString", "internal/abi.NoEscape"], unfollowed := true, recurses := true, named := ["internal/bytealg.MaxLen"], apart := false }
def DotsMakesSaid : Prop := dotsMakesRow.holds Try.pinned (OpenSpec.ofChange dotsMakesSpec)

/-- ITS FALSE NEIGHBOUR: 'it returns false'. Refute it at one input. -/
def dotsMakesWrong : ChangeSpec := { name := "dotsMakes", fn := fun _ => fun
  | [d1, d2] => { results := [.lit (.bool false)], args := [d1, d2] }
  | _ => none }
def DotsMakesWrongFalsely : Prop := dotsMakesRow.holds Try.pinned (OpenSpec.ofChange dotsMakesWrong)

/-- 'waypostlaw14.DotsPaths': WHATEVER THE INPUT: true; the input reads as it did. -/
def dotsPathsSpec : ChangeSpec := { name := "dotsPaths", fn := fun _ => fun
  | [d] => { results := [.lit (.bool true)], args := [d] }
  | _ => none }
def dotsPathsRow : OpenClaim := { program := "ytldjljblcjplaaa", sum := "53dae3f47c2697ceaa403adfe389326a0cd37a7ef51597b9b1444079e70979b0", func := "waypost/waypostlaw14.DotsPaths", spec := "dotsPaths", inPlace := ["internal/bytealg.IndexByteString", "internal/bytealg.IndexString", "internal/abi.NoEscape"], unfollowed := true, recurses := true, named := ["internal/bytealg.MaxLen"], apart := false }
def DotsPathsSaid : Prop := dotsPathsRow.holds Try.pinned (OpenSpec.ofChange dotsPathsSpec)

/-- ITS FALSE NEIGHBOUR: 'it returns false'. Refute it at one input. -/
def dotsPathsWrong : ChangeSpec := { name := "dotsPaths", fn := fun _ => fun
  | [d] => { results := [.lit (.bool false)], args := [d] }
  | _ => none }
def DotsPathsWrongFalsely : Prop := dotsPathsRow.holds Try.pinned (OpenSpec.ofChange dotsPathsWrong)

/-- 'waypostlaw14.DotsTwo': WHATEVER THE INPUT: true; the input reads as it did. -/
def dotsTwoSpec : ChangeSpec := { name := "dotsTwo", fn := fun _ => fun
  | [d1, d2] => { results := [.lit (.bool true)], args := [d1, d2] }
  | _ => none }
def dotsTwoRow : OpenClaim := { program := "ytldjljblcjplaaa", sum := "53dae3f47c2697ceaa403adfe389326a0cd37a7ef51597b9b1444079e70979b0", func := "waypost/waypostlaw14.DotsTwo", spec := "dotsTwo", inPlace := ["internal/bytealg.IndexByteString", "internal/bytealg.IndexString", "internal/abi.NoEscape"], unfollowed := true, recurses := true, named := ["internal/bytealg.MaxLen"], apart := false }
def DotsTwoSaid : Prop := dotsTwoRow.holds Try.pinned (OpenSpec.ofChange dotsTwoSpec)

/-- ITS FALSE NEIGHBOUR: 'it returns false'. Refute it at one input. -/
def dotsTwoWrong : ChangeSpec := { name := "dotsTwo", fn := fun _ => fun
  | [d1, d2] => { results := [.lit (.bool false)], args := [d1, d2] }
  | _ => none }
def DotsTwoWrongFalsely : Prop := dotsTwoRow.holds Try.pinned (OpenSpec.ofChange dotsTwoWrong)

/-- 'waypostlaw14.DotsBack': WHATEVER THE INPUT: true; the input reads as it did. -/
def dotsBackSpec : ChangeSpec := { name := "dotsBack", fn := fun _ => fun
  | [d1, d2, d3] => { results := [.lit (.bool true)], args := [d1, d2, d3] }
  | _ => none }
def dotsBackRow : OpenClaim := { program := "ytldjljblcjplaaa", sum := "53dae3f47c2697ceaa403adfe389326a0cd37a7ef51597b9b1444079e70979b0", func := "waypost/waypostlaw14.DotsBack", spec := "dotsBack", inPlace := ["internal/bytealg.IndexByteString", "internal/bytealg.IndexString", "internal/abi.NoEscape"], unfollowed := true, recurses := true, named := ["internal/bytealg.MaxLen"], apart := false }
def DotsBackSaid : Prop := dotsBackRow.holds Try.pinned (OpenSpec.ofChange dotsBackSpec)

/-- ITS FALSE NEIGHBOUR: 'it returns false'. Refute it at one input. -/
def dotsBackWrong : ChangeSpec := { name := "dotsBack", fn := fun _ => fun
  | [d1, d2, d3] => { results := [.lit (.bool false)], args := [d1, d2, d3] }
  | _ => none }
def DotsBackWrongFalsely : Prop := dotsBackRow.holds Try.pinned (OpenSpec.ofChange dotsBackWrong)

/-- 'waypostlaw14.DotsCommon': WHATEVER THE INPUT: true; the input reads as it did. -/
def dotsCommonSpec : ChangeSpec := { name := "dotsCommon", fn := fun _ => fun
  | [d1, d2, d3, d4] => { results := [.lit (.bool true)], args := [d1, d2, d3, d4] }
  | _ => none }
def dotsCommonRow : OpenClaim := { program := "ytldjljblcjplaaa", sum := "53dae3f47c2697ceaa403adfe389326a0cd37a7ef51597b9b1444079e70979b0", func := "waypost/waypostlaw14.DotsCommon", spec := "dotsCommon", inPlace := ["internal/bytealg.IndexByteString", "internal/bytealg.IndexString", "internal/abi.NoEscape"], unfollowed := true, recurses := true, named := ["internal/bytealg.MaxLen"], apart := false }
def DotsCommonSaid : Prop := dotsCommonRow.holds Try.pinned (OpenSpec.ofChange dotsCommonSpec)

/-- ITS FALSE NEIGHBOUR: 'it returns false'. Refute it at one input. -/
def dotsCommonWrong : ChangeSpec := { name := "dotsCommon", fn := fun _ => fun
  | [d1, d2, d3, d4] => { results := [.lit (.bool false)], args := [d1, d2, d3, d4] }
  | _ => none }
def DotsCommonWrongFalsely : Prop := dotsCommonRow.holds Try.pinned (OpenSpec.ofChange dotsCommonWrong)

/-- 'waypostlaw14.DotsKnown': WHATEVER THE INPUT: true; the input reads as it did. -/
def dotsKnownSpec : ChangeSpec := { name := "dotsKnown", fn := fun _ => fun
  | [] => { results := [.lit (.bool true)], args := [] }
  | _ => none }
def dotsKnownRow : OpenClaim := { program := "ytldjljblcjplaaa", sum := "53dae3f47c2697ceaa403adfe389326a0cd37a7ef51597b9b1444079e70979b0", func := "waypost/waypostlaw14.DotsKnown", spec := "dotsKnown", inPlace := ["internal/bytealg.IndexByteString", "internal/bytealg.IndexString", "internal/abi.NoEscape"], unfollowed := true, recurses := true, named := ["internal/bytealg.MaxLen"], apart := false }
def DotsKnownSaid : Prop := dotsKnownRow.holds Try.pinned (OpenSpec.ofChange dotsKnownSpec)

/-- ITS FALSE NEIGHBOUR: 'it returns false'. Refute it at one input. -/
def dotsKnownWrong : ChangeSpec := { name := "dotsKnown", fn := fun _ => fun
  | [] => { results := [.lit (.bool false)], args := [] }
  | _ => none }
def DotsKnownWrongFalsely : Prop := dotsKnownRow.holds Try.pinned (OpenSpec.ofChange dotsKnownWrong)

/- THE SECOND FORM. 'bulk': how many values and letters a reading holds, each counted each time it is reached (what is shared counts as often as it is met; a slice's spare places count too). A statement '..UptoSaid' is the law's where the arguments, and the package variables that the reading takes, are together of bulk at most 1048576: NARROWER than '..Said'. Prove '..Said' where nothing that the law and all that it calls make is longer than what came in: it says more and counts as full. Else prove '..UptoSaid'. A law counts once. -/
mutual
def uptoBulk {H : Type} : DataW H → Nat
  | .lit (.string bytes) => bytes.length + 1
  | .lit _ => 1
  | .nil => 1
  | .ptr d => uptoBulk d + 1
  | .slice elems spare => uptoBulkAll elems + uptoBulkAll spare + 1
  | .agg parts => uptoBulkAll parts + 1
  | .iface _ d => uptoBulk d + 1
  | .map entries => uptoBulkEntries entries + 1
  | .held _ => 1
def uptoBulkAll {H : Type} : List (DataW H) → Nat
  | [] => 0
  | d :: r => uptoBulk d + uptoBulkAll r
def uptoBulkEntries {H : Type} : List (Lit × DataW H) → Nat
  | [] => 0
  | x :: r => uptoBulkEntry x + uptoBulkEntries r
def uptoBulkEntry {H : Type} : Lit × DataW H → Nat
  | (.string bytes, d) => bytes.length + uptoBulk d + 1
  | (_, d) => uptoBulk d + 1
 end
def uptoSmall : (H : Type) → List (DataW H) → Bool := fun _ ds => decide (uptoBulkAll ds ≤ 1048576)
def OpenSpec.upto (s : _root_.Go.ChangeSpec) : _root_.Go.OpenSpec := { _root_.Go.OpenSpec.ofChange s with cond := some uptoSmall }

/-- 'waypostlaw14.DotsCleans', WHERE WHAT IT READS IS OF BULK AT MOST 1048576: true; the input reads as it did. -/
def dotsCleansUptoRow : OpenClaim := { program := "ytldjljblcjplaaa", sum := "53dae3f47c2697ceaa403adfe389326a0cd37a7ef51597b9b1444079e70979b0", func := "waypost/waypostlaw14.DotsCleans", spec := "dotsCleans", inPlace := ["internal/bytealg.IndexByteString", "internal/bytealg.IndexString", "internal/abi.NoEscape"], unfollowed := true, recurses := true, named := ["internal/bytealg.MaxLen"], apart := false, narrowed := true }
def DotsCleansUptoSaid : Prop := dotsCleansUptoRow.holds Try.pinned (OpenSpec.upto dotsCleansSpec)

/-- 'waypostlaw14.DotsMakes', WHERE WHAT IT READS IS OF BULK AT MOST 1048576: true; the input reads as it did. -/
def dotsMakesUptoRow : OpenClaim := { program := "ytldjljblcjplaaa", sum := "53dae3f47c2697ceaa403adfe389326a0cd37a7ef51597b9b1444079e70979b0", func := "waypost/waypostlaw14.DotsMakes", spec := "dotsMakes", inPlace := ["internal/bytealg.IndexByteString", "internal/bytealg.IndexString", "internal/abi.NoEscape"], unfollowed := true, recurses := true, named := ["internal/bytealg.MaxLen"], apart := false, narrowed := true }
def DotsMakesUptoSaid : Prop := dotsMakesUptoRow.holds Try.pinned (OpenSpec.upto dotsMakesSpec)

/-- 'waypostlaw14.DotsPaths', WHERE WHAT IT READS IS OF BULK AT MOST 1048576: true; the input reads as it did. -/
def dotsPathsUptoRow : OpenClaim := { program := "ytldjljblcjplaaa", sum := "53dae3f47c2697ceaa403adfe389326a0cd37a7ef51597b9b1444079e70979b0", func := "waypost/waypostlaw14.DotsPaths", spec := "dotsPaths", inPlace := ["internal/bytealg.IndexByteString", "internal/bytealg.IndexString", "internal/abi.NoEscape"], unfollowed := true, recurses := true, named := ["internal/bytealg.MaxLen"], apart := false, narrowed := true }
def DotsPathsUptoSaid : Prop := dotsPathsUptoRow.holds Try.pinned (OpenSpec.upto dotsPathsSpec)

/-- 'waypostlaw14.DotsTwo', WHERE WHAT IT READS IS OF BULK AT MOST 1048576: true; the input reads as it did. -/
def dotsTwoUptoRow : OpenClaim := { program := "ytldjljblcjplaaa", sum := "53dae3f47c2697ceaa403adfe389326a0cd37a7ef51597b9b1444079e70979b0", func := "waypost/waypostlaw14.DotsTwo", spec := "dotsTwo", inPlace := ["internal/bytealg.IndexByteString", "internal/bytealg.IndexString", "internal/abi.NoEscape"], unfollowed := true, recurses := true, named := ["internal/bytealg.MaxLen"], apart := false, narrowed := true }
def DotsTwoUptoSaid : Prop := dotsTwoUptoRow.holds Try.pinned (OpenSpec.upto dotsTwoSpec)

/-- 'waypostlaw14.DotsBack', WHERE WHAT IT READS IS OF BULK AT MOST 1048576: true; the input reads as it did. -/
def dotsBackUptoRow : OpenClaim := { program := "ytldjljblcjplaaa", sum := "53dae3f47c2697ceaa403adfe389326a0cd37a7ef51597b9b1444079e70979b0", func := "waypost/waypostlaw14.DotsBack", spec := "dotsBack", inPlace := ["internal/bytealg.IndexByteString", "internal/bytealg.IndexString", "internal/abi.NoEscape"], unfollowed := true, recurses := true, named := ["internal/bytealg.MaxLen"], apart := false, narrowed := true }
def DotsBackUptoSaid : Prop := dotsBackUptoRow.holds Try.pinned (OpenSpec.upto dotsBackSpec)

/-- 'waypostlaw14.DotsCommon', WHERE WHAT IT READS IS OF BULK AT MOST 1048576: true; the input reads as it did. -/
def dotsCommonUptoRow : OpenClaim := { program := "ytldjljblcjplaaa", sum := "53dae3f47c2697ceaa403adfe389326a0cd37a7ef51597b9b1444079e70979b0", func := "waypost/waypostlaw14.DotsCommon", spec := "dotsCommon", inPlace := ["internal/bytealg.IndexByteString", "internal/bytealg.IndexString", "internal/abi.NoEscape"], unfollowed := true, recurses := true, named := ["internal/bytealg.MaxLen"], apart := false, narrowed := true }
def DotsCommonUptoSaid : Prop := dotsCommonUptoRow.holds Try.pinned (OpenSpec.upto dotsCommonSpec)

/-- 'waypostlaw14.DotsKnown', WHERE WHAT IT READS IS OF BULK AT MOST 1048576: true; the input reads as it did. -/
def dotsKnownUptoRow : OpenClaim := { program := "ytldjljblcjplaaa", sum := "53dae3f47c2697ceaa403adfe389326a0cd37a7ef51597b9b1444079e70979b0", func := "waypost/waypostlaw14.DotsKnown", spec := "dotsKnown", inPlace := ["internal/bytealg.IndexByteString", "internal/bytealg.IndexString", "internal/abi.NoEscape"], unfollowed := true, recurses := true, named := ["internal/bytealg.MaxLen"], apart := false, narrowed := true }
def DotsKnownUptoSaid : Prop := dotsKnownUptoRow.holds Try.pinned (OpenSpec.upto dotsKnownSpec)

end Rows
end Go.Proofs.Ytldjljblcjplaaa
