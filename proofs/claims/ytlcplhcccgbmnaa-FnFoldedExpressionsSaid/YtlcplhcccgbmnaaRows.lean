/-
  No cell of these rows narrows 'for every input' (looked for: loops, veiled, ifaces, maps, wideKeys, modest, calm, conditions, laid).
  DERIVED. THE GIVEN ROWS OF THIS SEAT. 5 by the template 'for every input the law returns true; each argument reads behind the call as it read before'; 0 by the template 'total and deterministic' (their statements: YtlcplhcccgbmnaaTotals.lean).
  GIVEN WITH THE SEED: the statements are not yours to turn. If you find one false, say at which input.
  Laid BY PROGRAM, IN A SANDBOX (cutbox-rows.mjs): the forced cells as the released guide's own fill.sh prints them over the translation 2002ac3f8f614f07… (all of the seat's roots in one cut). By AI agents, Wed Nov 11 2026. No macro, syntax, notation, axiom, sorry.
-/
import Derived.Test.YtlcplhcccgbmnaaChecked
import GoSem.Claim
import GoSem.ClaimJoined
import GoSem.ClaimMapViews
import Derived.JoinedTies
import Derived.KernelRfl
namespace Go.Proofs.Ytlcplhcccgbmnaa
/- THE CELL 'sum', in the pinned program and in every row, IS THE sha256 OF THE DUMP (.gsa) THAT YtlcplhcccgbmnaaProg.lean LOADS. Nothing in Lean hashes anything: it is a label: what it is worth is what the hold of that sum in a sandbox is worth. -/
noncomputable def Try.pinned : Pinned := { name := "ytlcplhcccgbmnaa", sum := "2002ac3f8f614f070d7135df8c1b6b1ddad35b4b2ecb3e7d749085a62b86eef1", checked := Try.checked }
namespace Rows
def none {H : Type} : Left H := { results := [], args := [] }

/-- 'laws.FnInputsPut': WHATEVER THE INPUT: true; the input reads as it did. -/
def fnInputsPutSpec : ChangeSpec := { name := "fnInputsPut", fn := fun _ => fun
  | [d1, d2] => { results := [.lit (.bool true)], args := [d1, d2] }
  | _ => none }
def fnInputsPutRow : OpenClaim := { program := "ytlcplhcccgbmnaa", sum := "2002ac3f8f614f070d7135df8c1b6b1ddad35b4b2ecb3e7d749085a62b86eef1", func := "loop.example/g01127/laws.FnInputsPut", spec := "fnInputsPut", unfollowed := true, recurses := true, apart := false }
def FnInputsPutSaid : Prop := fnInputsPutRow.holds Try.pinned (OpenSpec.ofChange fnInputsPutSpec)

/-- ITS FALSE NEIGHBOUR: 'it returns false'. Refute it at one input. -/
def fnInputsPutWrong : ChangeSpec := { name := "fnInputsPut", fn := fun _ => fun
  | [d1, d2] => { results := [.lit (.bool false)], args := [d1, d2] }
  | _ => none }
def FnInputsPutWrongFalsely : Prop := fnInputsPutRow.holds Try.pinned (OpenSpec.ofChange fnInputsPutWrong)

/-- 'laws.FnValuesOfNodes': WHATEVER THE INPUT: true; the input reads as it did. -/
def fnValuesOfNodesSpec : ChangeSpec := { name := "fnValuesOfNodes", fn := fun _ => fun
  | [d1, d2] => { results := [.lit (.bool true)], args := [d1, d2] }
  | _ => none }
def fnValuesOfNodesRow : OpenClaim := { program := "ytlcplhcccgbmnaa", sum := "2002ac3f8f614f070d7135df8c1b6b1ddad35b4b2ecb3e7d749085a62b86eef1", func := "loop.example/g01127/laws.FnValuesOfNodes", spec := "fnValuesOfNodes", unfollowed := true, recurses := true, apart := false }
def FnValuesOfNodesSaid : Prop := fnValuesOfNodesRow.holds Try.pinned (OpenSpec.ofChange fnValuesOfNodesSpec)

/-- ITS FALSE NEIGHBOUR: 'it returns false'. Refute it at one input. -/
def fnValuesOfNodesWrong : ChangeSpec := { name := "fnValuesOfNodes", fn := fun _ => fun
  | [d1, d2] => { results := [.lit (.bool false)], args := [d1, d2] }
  | _ => none }
def FnValuesOfNodesWrongFalsely : Prop := fnValuesOfNodesRow.holds Try.pinned (OpenSpec.ofChange fnValuesOfNodesWrong)

/-- 'laws.FnAskedBits': WHATEVER THE INPUT: true; the input reads as it did. -/
def fnAskedBitsSpec : ChangeSpec := { name := "fnAskedBits", fn := fun _ => fun
  | [d1, d2] => { results := [.lit (.bool true)], args := [d1, d2] }
  | _ => none }
def fnAskedBitsRow : OpenClaim := { program := "ytlcplhcccgbmnaa", sum := "2002ac3f8f614f070d7135df8c1b6b1ddad35b4b2ecb3e7d749085a62b86eef1", func := "loop.example/g01127/laws.FnAskedBits", spec := "fnAskedBits", unfollowed := true, recurses := true, apart := false }
def FnAskedBitsSaid : Prop := fnAskedBitsRow.holds Try.pinned (OpenSpec.ofChange fnAskedBitsSpec)

/-- ITS FALSE NEIGHBOUR: 'it returns false'. Refute it at one input. -/
def fnAskedBitsWrong : ChangeSpec := { name := "fnAskedBits", fn := fun _ => fun
  | [d1, d2] => { results := [.lit (.bool false)], args := [d1, d2] }
  | _ => none }
def FnAskedBitsWrongFalsely : Prop := fnAskedBitsRow.holds Try.pinned (OpenSpec.ofChange fnAskedBitsWrong)

/-- 'laws.FnFoldedExpressions': WHATEVER THE INPUT: true; the input reads as it did. -/
def fnFoldedExpressionsSpec : ChangeSpec := { name := "fnFoldedExpressions", fn := fun _ => fun
  | [d1, d2] => { results := [.lit (.bool true)], args := [d1, d2] }
  | _ => none }
def fnFoldedExpressionsRow : OpenClaim := { program := "ytlcplhcccgbmnaa", sum := "2002ac3f8f614f070d7135df8c1b6b1ddad35b4b2ecb3e7d749085a62b86eef1", func := "loop.example/g01127/laws.FnFoldedExpressions", spec := "fnFoldedExpressions", unfollowed := true, recurses := true, apart := false }
def FnFoldedExpressionsSaid : Prop := fnFoldedExpressionsRow.holds Try.pinned (OpenSpec.ofChange fnFoldedExpressionsSpec)

/-- ITS FALSE NEIGHBOUR: 'it returns false'. Refute it at one input. -/
def fnFoldedExpressionsWrong : ChangeSpec := { name := "fnFoldedExpressions", fn := fun _ => fun
  | [d1, d2] => { results := [.lit (.bool false)], args := [d1, d2] }
  | _ => none }
def FnFoldedExpressionsWrongFalsely : Prop := fnFoldedExpressionsRow.holds Try.pinned (OpenSpec.ofChange fnFoldedExpressionsWrong)

/-- 'laws.FnSharedAndExpanded': WHATEVER THE INPUT: true; the input reads as it did. -/
def fnSharedAndExpandedSpec : ChangeSpec := { name := "fnSharedAndExpanded", fn := fun _ => fun
  | [d1, d2] => { results := [.lit (.bool true)], args := [d1, d2] }
  | _ => none }
def fnSharedAndExpandedRow : OpenClaim := { program := "ytlcplhcccgbmnaa", sum := "2002ac3f8f614f070d7135df8c1b6b1ddad35b4b2ecb3e7d749085a62b86eef1", func := "loop.example/g01127/laws.FnSharedAndExpanded", spec := "fnSharedAndExpanded", unfollowed := true, recurses := true, apart := false }
def FnSharedAndExpandedSaid : Prop := fnSharedAndExpandedRow.holds Try.pinned (OpenSpec.ofChange fnSharedAndExpandedSpec)

/-- ITS FALSE NEIGHBOUR: 'it returns false'. Refute it at one input. -/
def fnSharedAndExpandedWrong : ChangeSpec := { name := "fnSharedAndExpanded", fn := fun _ => fun
  | [d1, d2] => { results := [.lit (.bool false)], args := [d1, d2] }
  | _ => none }
def FnSharedAndExpandedWrongFalsely : Prop := fnSharedAndExpandedRow.holds Try.pinned (OpenSpec.ofChange fnSharedAndExpandedWrong)

/- THE SECOND FORM. 'bulk': how many values and letters a reading holds, each counted each time it is reached (what is shared counts as often as it is met; a slice's spare places count too). A statement '..UptoSaid' is the law's where the arguments, and the package variables that the reading takes, are together of bulk at most 1048576: NARROWER than '..Said'. Prove '..Said' where nothing that the law and all that it calls make is longer than what came in: it says more and counts as full. Else prove '..UptoSaid'. A law counts once. -/
mutual
def uptoBulk {H : Type} : DataW H → Nat
  | .lit (.string bytes) => bytes.length + 1
  | .lit _ => 1
  | .nil => 1
  | .ptr d => uptoBulk d + 1
  | .slice elems spare => uptoBulkAll elems + uptoBulkAll spare + 1
  | .agg parts => uptoBulkAll parts + 1
  | .iface _ d => uptoBulk d + 1
  | .map entries => uptoBulkEntries entries + 1
  | .held _ => 1
def uptoBulkAll {H : Type} : List (DataW H) → Nat
  | [] => 0
  | d :: r => uptoBulk d + uptoBulkAll r
def uptoBulkEntries {H : Type} : List (Lit × DataW H) → Nat
  | [] => 0
  | x :: r => uptoBulkEntry x + uptoBulkEntries r
def uptoBulkEntry {H : Type} : Lit × DataW H → Nat
  | (.string bytes, d) => bytes.length + uptoBulk d + 1
  | (_, d) => uptoBulk d + 1
 end
def uptoSmall : (H : Type) → List (DataW H) → Bool := fun _ ds => decide (uptoBulkAll ds ≤ 1048576)
def OpenSpec.upto (s : _root_.Go.ChangeSpec) : _root_.Go.OpenSpec := { _root_.Go.OpenSpec.ofChange s with cond := some uptoSmall }

/-- 'laws.FnInputsPut', WHERE WHAT IT READS IS OF BULK AT MOST 1048576: true; the input reads as it did. -/
def fnInputsPutUptoRow : OpenClaim := { program := "ytlcplhcccgbmnaa", sum := "2002ac3f8f614f070d7135df8c1b6b1ddad35b4b2ecb3e7d749085a62b86eef1", func := "loop.example/g01127/laws.FnInputsPut", spec := "fnInputsPut", unfollowed := true, recurses := true, apart := false, narrowed := true }
def FnInputsPutUptoSaid : Prop := fnInputsPutUptoRow.holds Try.pinned (OpenSpec.upto fnInputsPutSpec)

/-- 'laws.FnValuesOfNodes', WHERE WHAT IT READS IS OF BULK AT MOST 1048576: true; the input reads as it did. -/
def fnValuesOfNodesUptoRow : OpenClaim := { program := "ytlcplhcccgbmnaa", sum := "2002ac3f8f614f070d7135df8c1b6b1ddad35b4b2ecb3e7d749085a62b86eef1", func := "loop.example/g01127/laws.FnValuesOfNodes", spec := "fnValuesOfNodes", unfollowed := true, recurses := true, apart := false, narrowed := true }
def FnValuesOfNodesUptoSaid : Prop := fnValuesOfNodesUptoRow.holds Try.pinned (OpenSpec.upto fnValuesOfNodesSpec)

/-- 'laws.FnAskedBits', WHERE WHAT IT READS IS OF BULK AT MOST 1048576: true; the input reads as it did. -/
def fnAskedBitsUptoRow : OpenClaim := { program := "ytlcplhcccgbmnaa", sum := "2002ac3f8f614f070d7135df8c1b6b1ddad35b4b2ecb3e7d749085a62b86eef1", func := "loop.example/g01127/laws.FnAskedBits", spec := "fnAskedBits", unfollowed := true, recurses := true, apart := false, narrowed := true }
def FnAskedBitsUptoSaid : Prop := fnAskedBitsUptoRow.holds Try.pinned (OpenSpec.upto fnAskedBitsSpec)

/-- 'laws.FnFoldedExpressions', WHERE WHAT IT READS IS OF BULK AT MOST 1048576: true; the input reads as it did. -/
def fnFoldedExpressionsUptoRow : OpenClaim := { program := "ytlcplhcccgbmnaa", sum := "2002ac3f8f614f070d7135df8c1b6b1ddad35b4b2ecb3e7d749085a62b86eef1", func := "loop.example/g01127/laws.FnFoldedExpressions", spec := "fnFoldedExpressions", unfollowed := true, recurses := true, apart := false, narrowed := true }
def FnFoldedExpressionsUptoSaid : Prop := fnFoldedExpressionsUptoRow.holds Try.pinned (OpenSpec.upto fnFoldedExpressionsSpec)

/-- 'laws.FnSharedAndExpanded', WHERE WHAT IT READS IS OF BULK AT MOST 1048576: true; the input reads as it did. -/
def fnSharedAndExpandedUptoRow : OpenClaim := { program := "ytlcplhcccgbmnaa", sum := "2002ac3f8f614f070d7135df8c1b6b1ddad35b4b2ecb3e7d749085a62b86eef1", func := "loop.example/g01127/laws.FnSharedAndExpanded", spec := "fnSharedAndExpanded", unfollowed := true, recurses := true, apart := false, narrowed := true }
def FnSharedAndExpandedUptoSaid : Prop := fnSharedAndExpandedUptoRow.holds Try.pinned (OpenSpec.upto fnSharedAndExpandedSpec)

end Rows
end Go.Proofs.Ytlcplhcccgbmnaa
