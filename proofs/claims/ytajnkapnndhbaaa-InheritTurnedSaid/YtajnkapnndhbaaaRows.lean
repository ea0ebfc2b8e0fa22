/-
  No cell of these rows narrows 'for every input' (looked for: loops, veiled, ifaces, maps, wideKeys, modest, calm, conditions, laid).
  DERIVED. THE GIVEN ROWS OF THIS SEAT. 6 by the template 'for every input the law returns true; each argument reads behind the call as it read before'; 0 by the template 'total and deterministic' (their statements: YtajnkapnndhbaaaTotals.lean).
  GIVEN WITH THE SEED: the statements are not yours to turn. If you find one false, say at which input.
  Laid BY PROGRAM, IN A SANDBOX (cutbox-rows.mjs): the forced cells as the released guide's own fill.sh prints them over the translation 5df2508b0f650bb1… (all of the seat's roots in one cut). By AI agents, Wed Nov 11 2026. No macro, syntax, notation, axiom, sorry.
-/
import Derived.Test.YtajnkapnndhbaaaChecked
import GoSem.Claim
import GoSem.ClaimJoined
import GoSem.ClaimMapViews
import Derived.JoinedTies
import Derived.KernelRfl
namespace Go.Proofs.Ytajnkapnndhbaaa
/- THE CELL 'sum', in the pinned program and in every row, IS THE sha256 OF THE DUMP (.gsa) THAT YtajnkapnndhbaaaProg.lean LOADS. Nothing in Lean hashes anything: it is a label: what it is worth is what the hold of that sum in a sandbox is worth. -/
noncomputable def Try.pinned : Pinned := { name := "ytajnkapnndhbaaa", sum := "5df2508b0f650bb1a503157390c58b3bf5aba21e6e5c6759e54e89ba7f5962e3", checked := Try.checked }
namespace Rows
def none {H : Type} : Left H := { results := [], args := [] }

/-- 'waypostlaw30.InheritSets': WHATEVER THE INPUT: true; the input reads as it did. -/
def inheritSetsSpec : ChangeSpec := { name := "inheritSets", fn := fun _ => fun
  | [d1, d2, d3, d4] => { results := [.lit (.bool true)], args := [d1, d2, d3, d4] }
  | _ => none }
def inheritSetsRow : OpenClaim := { program := "ytajnkapnndhbaaa", sum := "5df2508b0f650bb1a503157390c58b3bf5aba21e6e5c6759e54e89ba7f5962e3", func := "waypost/waypostlaw30.InheritSets", spec := "inheritSets", inPlace := ["internal/bytealg.IndexByteString", "internal/bytealg.IndexString"], unfollowed := true, recurses := true, named := ["internal/bytealg.MaxLen"], apart := false }
def InheritSetsSaid : Prop := inheritSetsRow.holds Try.pinned (OpenSpec.ofChange inheritSetsSpec)

/-- ITS FALSE NEIGHBOUR: 'it returns false'. Refute it at one input. -/
def inheritSetsWrong : ChangeSpec := { name := "inheritSets", fn := fun _ => fun
  | [d1, d2, d3, d4] => { results := [.lit (.bool false)], args := [d1, d2, d3, d4] }
  | _ => none }
def InheritSetsWrongFalsely : Prop := inheritSetsRow.holds Try.pinned (OpenSpec.ofChange inheritSetsWrong)

/-- 'waypostlaw30.InheritFinds': WHATEVER THE INPUT: true; the input reads as it did. -/
def inheritFindsSpec : ChangeSpec := { name := "inheritFinds", fn := fun _ => fun
  | [d1, d2, d3] => { results := [.lit (.bool true)], args := [d1, d2, d3] }
  | _ => none }
def inheritFindsRow : OpenClaim := { program := "ytajnkapnndhbaaa", sum := "5df2508b0f650bb1a503157390c58b3bf5aba21e6e5c6759e54e89ba7f5962e3", func := "waypost/waypostlaw30.InheritFinds", spec := "inheritFinds", inPlace := ["internal/bytealg.IndexByteString", "internal/bytealg.IndexString"], unfollowed := true, recurses := true, named := ["internal/bytealg.MaxLen"], apart := false }
def InheritFindsSaid : Prop := inheritFindsRow.holds Try.pinned (OpenSpec.ofChange inheritFindsSpec)

/-- ITS FALSE NEIGHBOUR: 'it returns false'. Refute it at one input. -/
def inheritFindsWrong : ChangeSpec := { name := "inheritFinds", fn := fun _ => fun
  | [d1, d2, d3] => { results := [.lit (.bool false)], args := [d1, d2, d3] }
  | _ => none }
def InheritFindsWrongFalsely : Prop := inheritFindsRow.holds Try.pinned (OpenSpec.ofChange inheritFindsWrong)

/-- 'waypostlaw30.InheritKnown': WHATEVER THE INPUT: true; the input reads as it did. -/
def inheritKnownSpec : ChangeSpec := { name := "inheritKnown", fn := fun _ => fun
  | [] => { results := [.lit (.bool true)], args := [] }
  | _ => none }
def inheritKnownRow : OpenClaim := { program := "ytajnkapnndhbaaa", sum := "5df2508b0f650bb1a503157390c58b3bf5aba21e6e5c6759e54e89ba7f5962e3", func := "waypost/waypostlaw30.InheritKnown", spec := "inheritKnown", inPlace := ["internal/bytealg.IndexByteString", "internal/bytealg.IndexString"], unfollowed := true, recurses := true, named := ["internal/bytealg.MaxLen"], apart := false }
def InheritKnownSaid : Prop := inheritKnownRow.holds Try.pinned (OpenSpec.ofChange inheritKnownSpec)

/-- ITS FALSE NEIGHBOUR: 'it returns false'. Refute it at one input. -/
def inheritKnownWrong : ChangeSpec := { name := "inheritKnown", fn := fun _ => fun
  | [] => { results := [.lit (.bool false)], args := [] }
  | _ => none }
def InheritKnownWrongFalsely : Prop := inheritKnownRow.holds Try.pinned (OpenSpec.ofChange inheritKnownWrong)

/-- 'waypostlaw30.InheritOnce': WHATEVER THE INPUT: true; the input reads as it did. -/
def inheritOnceSpec : ChangeSpec := { name := "inheritOnce", fn := fun _ => fun
  | [d1, d2] => { results := [.lit (.bool true)], args := [d1, d2] }
  | _ => none }
def inheritOnceRow : OpenClaim := { program := "ytajnkapnndhbaaa", sum := "5df2508b0f650bb1a503157390c58b3bf5aba21e6e5c6759e54e89ba7f5962e3", func := "waypost/waypostlaw30.InheritOnce", spec := "inheritOnce", inPlace := ["internal/bytealg.IndexByteString", "internal/bytealg.IndexString"], unfollowed := true, recurses := true, named := ["internal/bytealg.MaxLen"], apart := false }
def InheritOnceSaid : Prop := inheritOnceRow.holds Try.pinned (OpenSpec.ofChange inheritOnceSpec)

/-- ITS FALSE NEIGHBOUR: 'it returns false'. Refute it at one input. -/
def inheritOnceWrong : ChangeSpec := { name := "inheritOnce", fn := fun _ => fun
  | [d1, d2] => { results := [.lit (.bool false)], args := [d1, d2] }
  | _ => none }
def InheritOnceWrongFalsely : Prop := inheritOnceRow.holds Try.pinned (OpenSpec.ofChange inheritOnceWrong)

/-- 'waypostlaw30.InheritTurned': WHATEVER THE INPUT: true; the input reads as it did. -/
def inheritTurnedSpec : ChangeSpec := { name := "inheritTurned", fn := fun _ => fun
  | [d1, d2, d3] => { results := [.lit (.bool true)], args := [d1, d2, d3] }
  | _ => none }
def inheritTurnedRow : OpenClaim := { program := "ytajnkapnndhbaaa", sum := "5df2508b0f650bb1a503157390c58b3bf5aba21e6e5c6759e54e89ba7f5962e3", func := "waypost/waypostlaw30.InheritTurned", spec := "inheritTurned", inPlace := ["internal/bytealg.IndexByteString", "internal/bytealg.IndexString"], unfollowed := true, recurses := true, named := ["internal/bytealg.MaxLen"], apart := false }
def InheritTurnedSaid : Prop := inheritTurnedRow.holds Try.pinned (OpenSpec.ofChange inheritTurnedSpec)

/-- ITS FALSE NEIGHBOUR: 'it returns false'. Refute it at one input. -/
def inheritTurnedWrong : ChangeSpec := { name := "inheritTurned", fn := fun _ => fun
  | [d1, d2, d3] => { results := [.lit (.bool false)], args := [d1, d2, d3] }
  | _ => none }
def InheritTurnedWrongFalsely : Prop := inheritTurnedRow.holds Try.pinned (OpenSpec.ofChange inheritTurnedWrong)

/-- 'waypostlaw30.InheritChains': WHATEVER THE INPUT: true; the input reads as it did. -/
def inheritChainsSpec : ChangeSpec := { name := "inheritChains", fn := fun _ => fun
  | [d1, d2] => { results := [.lit (.bool true)], args := [d1, d2] }
  | _ => none }
def inheritChainsRow : OpenClaim := { program := "ytajnkapnndhbaaa", sum := "5df2508b0f650bb1a503157390c58b3bf5aba21e6e5c6759e54e89ba7f5962e3", func := "waypost/waypostlaw30.InheritChains", spec := "inheritChains", inPlace := ["internal/bytealg.IndexByteString", "internal/bytealg.IndexString"], unfollowed := true, recurses := true, named := ["internal/bytealg.MaxLen"], apart := false }
def InheritChainsSaid : Prop := inheritChainsRow.holds Try.pinned (OpenSpec.ofChange inheritChainsSpec)

/-- ITS FALSE NEIGHBOUR: 'it returns false'. Refute it at one input. -/
def inheritChainsWrong : ChangeSpec := { name := "inheritChains", fn := fun _ => fun
  | [d1, d2] => { results := [.lit (.bool false)], args := [d1, d2] }
  | _ => none }
def InheritChainsWrongFalsely : Prop := inheritChainsRow.holds Try.pinned (OpenSpec.ofChange inheritChainsWrong)

/- THE SECOND FORM. 'bulk': how many values and letters a reading holds, each counted each time it is reached (what is shared counts as often as it is met; a slice's spare places count too). A statement '..UptoSaid' is the law's where the arguments, and the package variables that the reading takes, are together of bulk at most 1048576: NARROWER than '..Said'. Prove '..Said' where nothing that the law and all that it calls make is longer than what came in: it says more and counts as full. Else prove '..UptoSaid'. A law counts once. -/
mutual
def uptoBulk {H : Type} : DataW H → Nat
  | .lit (.string bytes) => bytes.length + 1
  | .lit _ => 1
  | .nil => 1
  | .ptr d => uptoBulk d + 1
  | .slice elems spare => uptoBulkAll elems + uptoBulkAll spare + 1
  | .agg parts => uptoBulkAll parts + 1
  | .iface _ d => uptoBulk d + 1
  | .map entries => uptoBulkEntries entries + 1
  | .held _ => 1
def uptoBulkAll {H : Type} : List (DataW H) → Nat
  | [] => 0
  | d :: r => uptoBulk d + uptoBulkAll r
def uptoBulkEntries {H : Type} : List (Lit × DataW H) → Nat
  | [] => 0
  | x :: r => uptoBulkEntry x + uptoBulkEntries r
def uptoBulkEntry {H : Type} : Lit × DataW H → Nat
  | (.string bytes, d) => bytes.length + uptoBulk d + 1
  | (_, d) => uptoBulk d + 1
 end
def uptoSmall : (H : Type) → List (DataW H) → Bool := fun _ ds => decide (uptoBulkAll ds ≤ 1048576)
def OpenSpec.upto (s : _root_.Go.ChangeSpec) : _root_.Go.OpenSpec := { _root_.Go.OpenSpec.ofChange s with cond := some uptoSmall }

/-- 'waypostlaw30.InheritSets', WHERE WHAT IT READS IS OF BULK AT MOST 1048576: true; the input reads as it did. -/
def inheritSetsUptoRow : OpenClaim := { program := "ytajnkapnndhbaaa", sum := "5df2508b0f650bb1a503157390c58b3bf5aba21e6e5c6759e54e89ba7f5962e3", func := "waypost/waypostlaw30.InheritSets", spec := "inheritSets", inPlace := ["internal/bytealg.IndexByteString", "internal/bytealg.IndexString"], unfollowed := true, recurses := true, named := ["internal/bytealg.MaxLen"], apart := false, narrowed := true }
def InheritSetsUptoSaid : Prop := inheritSetsUptoRow.holds Try.pinned (OpenSpec.upto inheritSetsSpec)

/-- 'waypostlaw30.InheritFinds', WHERE WHAT IT READS IS OF BULK AT MOST 1048576: true; the input reads as it did. -/
def inheritFindsUptoRow : OpenClaim := { program := "ytajnkapnndhbaaa", sum := "5df2508b0f650bb1a503157390c58b3bf5aba21e6e5c6759e54e89ba7f5962e3", func := "waypost/waypostlaw30.InheritFinds", spec := "inheritFinds", inPlace := ["internal/bytealg.IndexByteString", "internal/bytealg.IndexString"], unfollowed := true, recurses := true, named := ["internal/bytealg.MaxLen"], apart := false, narrowed := true }
def InheritFindsUptoSaid : Prop := inheritFindsUptoRow.holds Try.pinned (OpenSpec.upto inheritFindsSpec)

/-- 'waypostlaw30.InheritKnown', WHERE WHAT IT READS IS OF BULK AT MOST 1048576: true; the input reads as it did. -/
def inheritKnownUptoRow : OpenClaim := { program := "ytajnkapnndhbaaa", sum := "5df2508b0f650bb1a503157390c58b3bf5aba21e6e5c6759e54e89ba7f5962e3", func := "waypost/waypostlaw30.InheritKnown", spec := "inheritKnown", inPlace := ["internal/bytealg.IndexByteString", "internal/bytealg.IndexString"], unfollowed := true, recurses := true, named := ["internal/bytealg.MaxLen"], apart := false, narrowed := true }
def InheritKnownUptoSaid : Prop := inheritKnownUptoRow.holds Try.pinned (OpenSpec.upto inheritKnownSpec)

/-- 'waypostlaw30.InheritOnce', WHERE WHAT IT READS IS OF BULK AT MOST 1048576: true; the input reads as it did. -/
def inheritOnceUptoRow : OpenClaim := { program := "ytajnkapnndhbaaa", sum := "5df2508b0f650bb1a503157390c58b3bf5aba21e6e5c6759e54e89ba7f5962e3", func := "waypost/waypostlaw30.InheritOnce", spec := "inheritOnce", inPlace := ["internal/bytealg.IndexByteString", "internal/bytealg.IndexString"], unfollowed := true, recurses := true, named := ["internal/bytealg.MaxLen"], apart := false, narrowed := true }
def InheritOnceUptoSaid : Prop := inheritOnceUptoRow.holds Try.pinned (OpenSpec.upto inheritOnceSpec)

/-- 'waypostlaw30.InheritTurned', WHERE WHAT IT READS IS OF BULK AT MOST 1048576: true; the input reads as it did. -/
def inheritTurnedUptoRow : OpenClaim := { program := "ytajnkapnndhbaaa", sum := "5df2508b0f650bb1a503157390c58b3bf5aba21e6e5c6759e54e89ba7f5962e3", func := "waypost/waypostlaw30.InheritTurned", spec := "inheritTurned", inPlace := ["internal/bytealg.IndexByteString", "internal/bytealg.IndexString"], unfollowed := true, recurses := true, named := ["internal/bytealg.MaxLen"], apart := false, narrowed := true }
def InheritTurnedUptoSaid : Prop := inheritTurnedUptoRow.holds Try.pinned (OpenSpec.upto inheritTurnedSpec)

/-- 'waypostlaw30.InheritChains', WHERE WHAT IT READS IS OF BULK AT MOST 1048576: true; the input reads as it did. -/
def inheritChainsUptoRow : OpenClaim := { program := "ytajnkapnndhbaaa", sum := "5df2508b0f650bb1a503157390c58b3bf5aba21e6e5c6759e54e89ba7f5962e3", func := "waypost/waypostlaw30.InheritChains", spec := "inheritChains", inPlace := ["internal/bytealg.IndexByteString", "internal/bytealg.IndexString"], unfollowed := true, recurses := true, named := ["internal/bytealg.MaxLen"], apart := false, narrowed := true }
def InheritChainsUptoSaid : Prop := inheritChainsUptoRow.holds Try.pinned (OpenSpec.upto inheritChainsSpec)

end Rows
end Go.Proofs.Ytajnkapnndhbaaa
