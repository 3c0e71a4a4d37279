/-
  No cell of these rows narrows 'for every input' (looked for: loops, veiled, ifaces, maps, wideKeys, modest, calm, conditions, laid).
  DERIVED. THE GIVEN ROWS OF THIS SEAT. 11 by the template 'for every input the law returns true; each argument reads behind the call as it read before'; 0 by the template 'total and deterministic' (their statements: YtpbabefbiddpjaaTotals.lean).
  GIVEN WITH THE SEED: the statements are not yours to turn. If you find one false, say at which input.
  Laid BY PROGRAM, IN A SANDBOX (cutbox-rows.mjs): the forced cells as the released guide's own fill.sh prints them over the translation 796af3a5c95aa32b… (all of the seat's roots in one cut). By AI agents, Wed Nov 11 2026. No macro, syntax, notation, axiom, sorry.
-/
import Derived.Test.YtpbabefbiddpjaaChecked
import GoSem.Claim
import GoSem.ClaimJoined
import GoSem.ClaimMapViews
import Derived.JoinedTies
import Derived.KernelRfl
namespace Go.Proofs.Ytpbabefbiddpjaa
/- THE CELL 'sum', in the pinned program and in every row, IS THE sha256 OF THE DUMP (.gsa) THAT YtpbabefbiddpjaaProg.lean LOADS. Nothing in Lean hashes anything: it is a label: what it is worth is what the hold of that sum in a sandbox is worth. -/
noncomputable def Try.pinned : Pinned := { name := "ytpbabefbiddpjaa", sum := "796af3a5c95aa32b6db3ee175011867670342413f4116f3125539a785c079a62", checked := Try.checked }
namespace Rows
def none {H : Type} : Left H := { results := [], args := [] }

/-- 'laws.FnExactConstants': WHATEVER THE INPUT: true; the input reads as it did. -/
def fnExactConstantsSpec : ChangeSpec := { name := "fnExactConstants", fn := fun _ => fun
  | [] => { results := [.lit (.bool true)], args := [] }
  | _ => none }
def fnExactConstantsRow : OpenClaim := { program := "ytpbabefbiddpjaa", sum := "796af3a5c95aa32b6db3ee175011867670342413f4116f3125539a785c079a62", func := "loop.example/g01127/laws.FnExactConstants", spec := "fnExactConstants", apart := false }
def FnExactConstantsSaid : Prop := fnExactConstantsRow.holds Try.pinned (OpenSpec.ofChange fnExactConstantsSpec)

/-- ITS FALSE NEIGHBOUR: 'it returns false'. Refute it at one input. -/
def fnExactConstantsWrong : ChangeSpec := { name := "fnExactConstants", fn := fun _ => fun
  | [] => { results := [.lit (.bool false)], args := [] }
  | _ => none }
def FnExactConstantsWrongFalsely : Prop := fnExactConstantsRow.holds Try.pinned (OpenSpec.ofChange fnExactConstantsWrong)

/-- 'laws.FnExactIsKnown': WHATEVER THE INPUT: true; the input reads as it did. -/
def fnExactIsKnownSpec : ChangeSpec := { name := "fnExactIsKnown", fn := fun _ => fun
  | [d] => { results := [.lit (.bool true)], args := [d] }
  | _ => none }
def fnExactIsKnownRow : OpenClaim := { program := "ytpbabefbiddpjaa", sum := "796af3a5c95aa32b6db3ee175011867670342413f4116f3125539a785c079a62", func := "loop.example/g01127/laws.FnExactIsKnown", spec := "fnExactIsKnown", apart := false }
def FnExactIsKnownSaid : Prop := fnExactIsKnownRow.holds Try.pinned (OpenSpec.ofChange fnExactIsKnownSpec)

/-- ITS FALSE NEIGHBOUR: 'it returns false'. Refute it at one input. -/
def fnExactIsKnownWrong : ChangeSpec := { name := "fnExactIsKnown", fn := fun _ => fun
  | [d] => { results := [.lit (.bool false)], args := [d] }
  | _ => none }
def FnExactIsKnownWrongFalsely : Prop := fnExactIsKnownRow.holds Try.pinned (OpenSpec.ofChange fnExactIsKnownWrong)

/-- 'laws.FnExactDoesKnow': WHATEVER THE INPUT: true; the input reads as it did. -/
def fnExactDoesKnowSpec : ChangeSpec := { name := "fnExactDoesKnow", fn := fun _ => fun
  | [d1, d2] => { results := [.lit (.bool true)], args := [d1, d2] }
  | _ => none }
def fnExactDoesKnowRow : OpenClaim := { program := "ytpbabefbiddpjaa", sum := "796af3a5c95aa32b6db3ee175011867670342413f4116f3125539a785c079a62", func := "loop.example/g01127/laws.FnExactDoesKnow", spec := "fnExactDoesKnow", apart := false }
def FnExactDoesKnowSaid : Prop := fnExactDoesKnowRow.holds Try.pinned (OpenSpec.ofChange fnExactDoesKnowSpec)

/-- ITS FALSE NEIGHBOUR: 'it returns false'. Refute it at one input. -/
def fnExactDoesKnowWrong : ChangeSpec := { name := "fnExactDoesKnow", fn := fun _ => fun
  | [d1, d2] => { results := [.lit (.bool false)], args := [d1, d2] }
  | _ => none }
def FnExactDoesKnowWrongFalsely : Prop := fnExactDoesKnowRow.holds Try.pinned (OpenSpec.ofChange fnExactDoesKnowWrong)

/-- 'laws.FnExactJoinKnown': WHATEVER THE INPUT: true; the input reads as it did. -/
def fnExactJoinKnownSpec : ChangeSpec := { name := "fnExactJoinKnown", fn := fun _ => fun
  | [d1, d2] => { results := [.lit (.bool true)], args := [d1, d2] }
  | _ => none }
def fnExactJoinKnownRow : OpenClaim := { program := "ytpbabefbiddpjaa", sum := "796af3a5c95aa32b6db3ee175011867670342413f4116f3125539a785c079a62", func := "loop.example/g01127/laws.FnExactJoinKnown", spec := "fnExactJoinKnown", apart := false }
def FnExactJoinKnownSaid : Prop := fnExactJoinKnownRow.holds Try.pinned (OpenSpec.ofChange fnExactJoinKnownSpec)

/-- ITS FALSE NEIGHBOUR: 'it returns false'. Refute it at one input. -/
def fnExactJoinKnownWrong : ChangeSpec := { name := "fnExactJoinKnown", fn := fun _ => fun
  | [d1, d2] => { results := [.lit (.bool false)], args := [d1, d2] }
  | _ => none }
def FnExactJoinKnownWrongFalsely : Prop := fnExactJoinKnownRow.holds Try.pinned (OpenSpec.ofChange fnExactJoinKnownWrong)

/-- 'laws.FnExactIsInstr': WHATEVER THE INPUT: true; the input reads as it did. -/
def fnExactIsInstrSpec : ChangeSpec := { name := "fnExactIsInstr", fn := fun _ => fun
  | [d] => { results := [.lit (.bool true)], args := [d] }
  | _ => none }
def fnExactIsInstrRow : OpenClaim := { program := "ytpbabefbiddpjaa", sum := "796af3a5c95aa32b6db3ee175011867670342413f4116f3125539a785c079a62", func := "loop.example/g01127/laws.FnExactIsInstr", spec := "fnExactIsInstr", apart := false }
def FnExactIsInstrSaid : Prop := fnExactIsInstrRow.holds Try.pinned (OpenSpec.ofChange fnExactIsInstrSpec)

/-- ITS FALSE NEIGHBOUR: 'it returns false'. Refute it at one input. -/
def fnExactIsInstrWrong : ChangeSpec := { name := "fnExactIsInstr", fn := fun _ => fun
  | [d] => { results := [.lit (.bool false)], args := [d] }
  | _ => none }
def FnExactIsInstrWrongFalsely : Prop := fnExactIsInstrRow.holds Try.pinned (OpenSpec.ofChange fnExactIsInstrWrong)

/-- 'laws.FnExactCostOfInstr': WHATEVER THE INPUT: true; the input reads as it did. -/
def fnExactCostOfInstrSpec : ChangeSpec := { name := "fnExactCostOfInstr", fn := fun _ => fun
  | [d] => { results := [.lit (.bool true)], args := [d] }
  | _ => none }
def fnExactCostOfInstrRow : OpenClaim := { program := "ytpbabefbiddpjaa", sum := "796af3a5c95aa32b6db3ee175011867670342413f4116f3125539a785c079a62", func := "loop.example/g01127/laws.FnExactCostOfInstr", spec := "fnExactCostOfInstr", apart := false }
def FnExactCostOfInstrSaid : Prop := fnExactCostOfInstrRow.holds Try.pinned (OpenSpec.ofChange fnExactCostOfInstrSpec)

/-- ITS FALSE NEIGHBOUR: 'it returns false'. Refute it at one input. -/
def fnExactCostOfInstrWrong : ChangeSpec := { name := "fnExactCostOfInstr", fn := fun _ => fun
  | [d] => { results := [.lit (.bool false)], args := [d] }
  | _ => none }
def FnExactCostOfInstrWrongFalsely : Prop := fnExactCostOfInstrRow.holds Try.pinned (OpenSpec.ofChange fnExactCostOfInstrWrong)

/-- 'laws.FnExactApplyOp': WHATEVER THE INPUT: true; the input reads as it did. -/
def fnExactApplyOpSpec : ChangeSpec := { name := "fnExactApplyOp", fn := fun _ => fun
  | [d1, d2, d3] => { results := [.lit (.bool true)], args := [d1, d2, d3] }
  | _ => none }
def fnExactApplyOpRow : OpenClaim := { program := "ytpbabefbiddpjaa", sum := "796af3a5c95aa32b6db3ee175011867670342413f4116f3125539a785c079a62", func := "loop.example/g01127/laws.FnExactApplyOp", spec := "fnExactApplyOp", apart := false }
def FnExactApplyOpSaid : Prop := fnExactApplyOpRow.holds Try.pinned (OpenSpec.ofChange fnExactApplyOpSpec)

/-- ITS FALSE NEIGHBOUR: 'it returns false'. Refute it at one input. -/
def fnExactApplyOpWrong : ChangeSpec := { name := "fnExactApplyOp", fn := fun _ => fun
  | [d1, d2, d3] => { results := [.lit (.bool false)], args := [d1, d2, d3] }
  | _ => none }
def FnExactApplyOpWrongFalsely : Prop := fnExactApplyOpRow.holds Try.pinned (OpenSpec.ofChange fnExactApplyOpWrong)

/-- 'laws.FnExactIsCode': WHATEVER THE INPUT: true; the input reads as it did. -/
def fnExactIsCodeSpec : ChangeSpec := { name := "fnExactIsCode", fn := fun _ => fun
  | [d] => { results := [.lit (.bool true)], args := [d] }
  | _ => none }
def fnExactIsCodeRow : OpenClaim := { program := "ytpbabefbiddpjaa", sum := "796af3a5c95aa32b6db3ee175011867670342413f4116f3125539a785c079a62", func := "loop.example/g01127/laws.FnExactIsCode", spec := "fnExactIsCode", unfollowed := true, recurses := true, apart := false }
def FnExactIsCodeSaid : Prop := fnExactIsCodeRow.holds Try.pinned (OpenSpec.ofChange fnExactIsCodeSpec)

/-- ITS FALSE NEIGHBOUR: 'it returns false'. Refute it at one input. -/
def fnExactIsCodeWrong : ChangeSpec := { name := "fnExactIsCode", fn := fun _ => fun
  | [d] => { results := [.lit (.bool false)], args := [d] }
  | _ => none }
def FnExactIsCodeWrongFalsely : Prop := fnExactIsCodeRow.holds Try.pinned (OpenSpec.ofChange fnExactIsCodeWrong)

/-- 'laws.FnExactIsExpr': WHATEVER THE INPUT: true; the input reads as it did. -/
def fnExactIsExprSpec : ChangeSpec := { name := "fnExactIsExpr", fn := fun _ => fun
  | [d] => { results := [.lit (.bool true)], args := [d] }
  | _ => none }
def fnExactIsExprRow : OpenClaim := { program := "ytpbabefbiddpjaa", sum := "796af3a5c95aa32b6db3ee175011867670342413f4116f3125539a785c079a62", func := "loop.example/g01127/laws.FnExactIsExpr", spec := "fnExactIsExpr", apart := false }
def FnExactIsExprSaid : Prop := fnExactIsExprRow.holds Try.pinned (OpenSpec.ofChange fnExactIsExprSpec)

/-- ITS FALSE NEIGHBOUR: 'it returns false'. Refute it at one input. -/
def fnExactIsExprWrong : ChangeSpec := { name := "fnExactIsExpr", fn := fun _ => fun
  | [d] => { results := [.lit (.bool false)], args := [d] }
  | _ => none }
def FnExactIsExprWrongFalsely : Prop := fnExactIsExprRow.holds Try.pinned (OpenSpec.ofChange fnExactIsExprWrong)

/-- 'laws.FnExactCodeCost': WHATEVER THE INPUT: true; the input reads as it did. -/
def fnExactCodeCostSpec : ChangeSpec := { name := "fnExactCodeCost", fn := fun _ => fun
  | [d] => { results := [.lit (.bool true)], args := [d] }
  | _ => none }
def fnExactCodeCostRow : OpenClaim := { program := "ytpbabefbiddpjaa", sum := "796af3a5c95aa32b6db3ee175011867670342413f4116f3125539a785c079a62", func := "loop.example/g01127/laws.FnExactCodeCost", spec := "fnExactCodeCost", unfollowed := true, recurses := true, apart := false }
def FnExactCodeCostSaid : Prop := fnExactCodeCostRow.holds Try.pinned (OpenSpec.ofChange fnExactCodeCostSpec)

/-- ITS FALSE NEIGHBOUR: 'it returns false'. Refute it at one input. -/
def fnExactCodeCostWrong : ChangeSpec := { name := "fnExactCodeCost", fn := fun _ => fun
  | [d] => { results := [.lit (.bool false)], args := [d] }
  | _ => none }
def FnExactCodeCostWrongFalsely : Prop := fnExactCodeCostRow.holds Try.pinned (OpenSpec.ofChange fnExactCodeCostWrong)

/-- 'laws.FnExactDepthOf': WHATEVER THE INPUT: true; the input reads as it did. -/
def fnExactDepthOfSpec : ChangeSpec := { name := "fnExactDepthOf", fn := fun _ => fun
  | [d] => { results := [.lit (.bool true)], args := [d] }
  | _ => none }
def fnExactDepthOfRow : OpenClaim := { program := "ytpbabefbiddpjaa", sum := "796af3a5c95aa32b6db3ee175011867670342413f4116f3125539a785c079a62", func := "loop.example/g01127/laws.FnExactDepthOf", spec := "fnExactDepthOf", apart := false }
def FnExactDepthOfSaid : Prop := fnExactDepthOfRow.holds Try.pinned (OpenSpec.ofChange fnExactDepthOfSpec)

/-- ITS FALSE NEIGHBOUR: 'it returns false'. Refute it at one input. -/
def fnExactDepthOfWrong : ChangeSpec := { name := "fnExactDepthOf", fn := fun _ => fun
  | [d] => { results := [.lit (.bool false)], args := [d] }
  | _ => none }
def FnExactDepthOfWrongFalsely : Prop := fnExactDepthOfRow.holds Try.pinned (OpenSpec.ofChange fnExactDepthOfWrong)

/- THE SECOND FORM. 'bulk': how many values and letters a reading holds, each counted each time it is reached (what is shared counts as often as it is met; a slice's spare places count too). A statement '..UptoSaid' is the law's where the arguments, and the package variables that the reading takes, are together of bulk at most 1048576: NARROWER than '..Said'. Prove '..Said' where nothing that the law and all that it calls make is longer than what came in: it says more and counts as full. Else prove '..UptoSaid'. A law counts once. -/
mutual
def uptoBulk {H : Type} : DataW H → Nat
  | .lit (.string bytes) => bytes.length + 1
  | .lit _ => 1
  | .nil => 1
  | .ptr d => uptoBulk d + 1
  | .slice elems spare => uptoBulkAll elems + uptoBulkAll spare + 1
  | .agg parts => uptoBulkAll parts + 1
  | .iface _ d => uptoBulk d + 1
  | .map entries => uptoBulkEntries entries + 1
  | .held _ => 1
def uptoBulkAll {H : Type} : List (DataW H) → Nat
  | [] => 0
  | d :: r => uptoBulk d + uptoBulkAll r
def uptoBulkEntries {H : Type} : List (Lit × DataW H) → Nat
  | [] => 0
  | x :: r => uptoBulkEntry x + uptoBulkEntries r
def uptoBulkEntry {H : Type} : Lit × DataW H → Nat
  | (.string bytes, d) => bytes.length + uptoBulk d + 1
  | (_, d) => uptoBulk d + 1
 end
def uptoSmall : (H : Type) → List (DataW H) → Bool := fun _ ds => decide (uptoBulkAll ds ≤ 1048576)
def OpenSpec.upto (s : _root_.Go.ChangeSpec) : _root_.Go.OpenSpec := { _root_.Go.OpenSpec.ofChange s with cond := some uptoSmall }

/-- 'laws.FnExactConstants', WHERE WHAT IT READS IS OF BULK AT MOST 1048576: true; the input reads as it did. -/
def fnExactConstantsUptoRow : OpenClaim := { program := "ytpbabefbiddpjaa", sum := "796af3a5c95aa32b6db3ee175011867670342413f4116f3125539a785c079a62", func := "loop.example/g01127/laws.FnExactConstants", spec := "fnExactConstants", apart := false, narrowed := true }
def FnExactConstantsUptoSaid : Prop := fnExactConstantsUptoRow.holds Try.pinned (OpenSpec.upto fnExactConstantsSpec)

/-- 'laws.FnExactIsKnown', WHERE WHAT IT READS IS OF BULK AT MOST 1048576: true; the input reads as it did. -/
def fnExactIsKnownUptoRow : OpenClaim := { program := "ytpbabefbiddpjaa", sum := "796af3a5c95aa32b6db3ee175011867670342413f4116f3125539a785c079a62", func := "loop.example/g01127/laws.FnExactIsKnown", spec := "fnExactIsKnown", apart := false, narrowed := true }
def FnExactIsKnownUptoSaid : Prop := fnExactIsKnownUptoRow.holds Try.pinned (OpenSpec.upto fnExactIsKnownSpec)

/-- 'laws.FnExactDoesKnow', WHERE WHAT IT READS IS OF BULK AT MOST 1048576: true; the input reads as it did. -/
def fnExactDoesKnowUptoRow : OpenClaim := { program := "ytpbabefbiddpjaa", sum := "796af3a5c95aa32b6db3ee175011867670342413f4116f3125539a785c079a62", func := "loop.example/g01127/laws.FnExactDoesKnow", spec := "fnExactDoesKnow", apart := false, narrowed := true }
def FnExactDoesKnowUptoSaid : Prop := fnExactDoesKnowUptoRow.holds Try.pinned (OpenSpec.upto fnExactDoesKnowSpec)

/-- 'laws.FnExactJoinKnown', WHERE WHAT IT READS IS OF BULK AT MOST 1048576: true; the input reads as it did. -/
def fnExactJoinKnownUptoRow : OpenClaim := { program := "ytpbabefbiddpjaa", sum := "796af3a5c95aa32b6db3ee175011867670342413f4116f3125539a785c079a62", func := "loop.example/g01127/laws.FnExactJoinKnown", spec := "fnExactJoinKnown", apart := false, narrowed := true }
def FnExactJoinKnownUptoSaid : Prop := fnExactJoinKnownUptoRow.holds Try.pinned (OpenSpec.upto fnExactJoinKnownSpec)

/-- 'laws.FnExactIsInstr', WHERE WHAT IT READS IS OF BULK AT MOST 1048576: true; the input reads as it did. -/
def fnExactIsInstrUptoRow : OpenClaim := { program := "ytpbabefbiddpjaa", sum := "796af3a5c95aa32b6db3ee175011867670342413f4116f3125539a785c079a62", func := "loop.example/g01127/laws.FnExactIsInstr", spec := "fnExactIsInstr", apart := false, narrowed := true }
def FnExactIsInstrUptoSaid : Prop := fnExactIsInstrUptoRow.holds Try.pinned (OpenSpec.upto fnExactIsInstrSpec)

/-- 'laws.FnExactCostOfInstr', WHERE WHAT IT READS IS OF BULK AT MOST 1048576: true; the input reads as it did. -/
def fnExactCostOfInstrUptoRow : OpenClaim := { program := "ytpbabefbiddpjaa", sum := "796af3a5c95aa32b6db3ee175011867670342413f4116f3125539a785c079a62", func := "loop.example/g01127/laws.FnExactCostOfInstr", spec := "fnExactCostOfInstr", apart := false, narrowed := true }
def FnExactCostOfInstrUptoSaid : Prop := fnExactCostOfInstrUptoRow.holds Try.pinned (OpenSpec.upto fnExactCostOfInstrSpec)

/-- 'laws.FnExactApplyOp', WHERE WHAT IT READS IS OF BULK AT MOST 1048576: true; the input reads as it did. -/
def fnExactApplyOpUptoRow : OpenClaim := { program := "ytpbabefbiddpjaa", sum := "796af3a5c95aa32b6db3ee175011867670342413f4116f3125539a785c079a62", func := "loop.example/g01127/laws.FnExactApplyOp", spec := "fnExactApplyOp", apart := false, narrowed := true }
def FnExactApplyOpUptoSaid : Prop := fnExactApplyOpUptoRow.holds Try.pinned (OpenSpec.upto fnExactApplyOpSpec)

/-- 'laws.FnExactIsCode', WHERE WHAT IT READS IS OF BULK AT MOST 1048576: true; the input reads as it did. -/
def fnExactIsCodeUptoRow : OpenClaim := { program := "ytpbabefbiddpjaa", sum := "796af3a5c95aa32b6db3ee175011867670342413f4116f3125539a785c079a62", func := "loop.example/g01127/laws.FnExactIsCode", spec := "fnExactIsCode", unfollowed := true, recurses := true, apart := false, narrowed := true }
def FnExactIsCodeUptoSaid : Prop := fnExactIsCodeUptoRow.holds Try.pinned (OpenSpec.upto fnExactIsCodeSpec)

/-- 'laws.FnExactIsExpr', WHERE WHAT IT READS IS OF BULK AT MOST 1048576: true; the input reads as it did. -/
def fnExactIsExprUptoRow : OpenClaim := { program := "ytpbabefbiddpjaa", sum := "796af3a5c95aa32b6db3ee175011867670342413f4116f3125539a785c079a62", func := "loop.example/g01127/laws.FnExactIsExpr", spec := "fnExactIsExpr", apart := false, narrowed := true }
def FnExactIsExprUptoSaid : Prop := fnExactIsExprUptoRow.holds Try.pinned (OpenSpec.upto fnExactIsExprSpec)

/-- 'laws.FnExactCodeCost', WHERE WHAT IT READS IS OF BULK AT MOST 1048576: true; the input reads as it did. -/
def fnExactCodeCostUptoRow : OpenClaim := { program := "ytpbabefbiddpjaa", sum := "796af3a5c95aa32b6db3ee175011867670342413f4116f3125539a785c079a62", func := "loop.example/g01127/laws.FnExactCodeCost", spec := "fnExactCodeCost", unfollowed := true, recurses := true, apart := false, narrowed := true }
def FnExactCodeCostUptoSaid : Prop := fnExactCodeCostUptoRow.holds Try.pinned (OpenSpec.upto fnExactCodeCostSpec)

/-- 'laws.FnExactDepthOf', WHERE WHAT IT READS IS OF BULK AT MOST 1048576: true; the input reads as it did. -/
def fnExactDepthOfUptoRow : OpenClaim := { program := "ytpbabefbiddpjaa", sum := "796af3a5c95aa32b6db3ee175011867670342413f4116f3125539a785c079a62", func := "loop.example/g01127/laws.FnExactDepthOf", spec := "fnExactDepthOf", apart := false, narrowed := true }
def FnExactDepthOfUptoSaid : Prop := fnExactDepthOfUptoRow.holds Try.pinned (OpenSpec.upto fnExactDepthOfSpec)

end Rows
end Go.Proofs.Ytpbabefbiddpjaa
