/-
  No cell of these rows narrows 'for every input' (looked for: loops, veiled, ifaces, maps, wideKeys, modest, calm, conditions, laid).
  DERIVED. THE GIVEN ROWS OF THIS SEAT. 32 by the template 'for every input the law returns true; each argument reads behind the call as it read before'; 0 by the template 'total and deterministic' (their statements: YtamahlhoainocaaTotals.lean).
  GIVEN WITH THE SEED: the statements are not yours to turn. If you find one false, say at which input.
  Laid BY PROGRAM, IN A SANDBOX (cutbox-rows.mjs): the forced cells as the released guide's own fill.sh prints them over the translation dd5fa56eac4a78a0… (all of the seat's roots in one cut). By AI agents, Wed Nov 11 2026. No macro, syntax, notation, axiom, sorry.
-/
import Derived.Test.YtamahlhoainocaaChecked
import GoSem.Claim
import GoSem.ClaimJoined
import GoSem.ClaimMapViews
import Derived.JoinedTies
import Derived.KernelRfl
namespace Go.Proofs.Ytamahlhoainocaa
/- THE CELL 'sum', in the pinned program and in every row, IS THE sha256 OF THE DUMP (.gsa) THAT YtamahlhoainocaaProg.lean LOADS. Nothing in Lean hashes anything: it is a label: what it is worth is what the hold of that sum in a sandbox is worth. -/
noncomputable def Try.pinned : Pinned := { name := "ytamahlhoainocaa", sum := "dd5fa56eac4a78a05657e6777dcc1dd3a927b887086f95fa93588162477b0746", checked := Try.checked }
namespace Rows
def none {H : Type} : Left H := { results := [], args := [] }

/-- 'laws.FnExactIsExpr': WHATEVER THE INPUT: true; the input reads as it did. -/
def fnExactIsExprSpec : ChangeSpec := { name := "fnExactIsExpr", fn := fun _ => fun
  | [d] => { results := [.lit (.bool true)], args := [d] }
  | _ => none }
def fnExactIsExprRow : OpenClaim := { program := "ytamahlhoainocaa", sum := "dd5fa56eac4a78a05657e6777dcc1dd3a927b887086f95fa93588162477b0746", func := "loop.example/g01127/laws.FnExactIsExpr", spec := "fnExactIsExpr", apart := false }
def FnExactIsExprSaid : Prop := fnExactIsExprRow.holds Try.pinned (OpenSpec.ofChange fnExactIsExprSpec)

/-- ITS FALSE NEIGHBOUR: 'it returns false'. Refute it at one input. -/
def fnExactIsExprWrong : ChangeSpec := { name := "fnExactIsExpr", fn := fun _ => fun
  | [d] => { results := [.lit (.bool false)], args := [d] }
  | _ => none }
def FnExactIsExprWrongFalsely : Prop := fnExactIsExprRow.holds Try.pinned (OpenSpec.ofChange fnExactIsExprWrong)

/-- 'laws.FnExactDepthOf': WHATEVER THE INPUT: true; the input reads as it did. -/
def fnExactDepthOfSpec : ChangeSpec := { name := "fnExactDepthOf", fn := fun _ => fun
  | [d] => { results := [.lit (.bool true)], args := [d] }
  | _ => none }
def fnExactDepthOfRow : OpenClaim := { program := "ytamahlhoainocaa", sum := "dd5fa56eac4a78a05657e6777dcc1dd3a927b887086f95fa93588162477b0746", func := "loop.example/g01127/laws.FnExactDepthOf", spec := "fnExactDepthOf", apart := false }
def FnExactDepthOfSaid : Prop := fnExactDepthOfRow.holds Try.pinned (OpenSpec.ofChange fnExactDepthOfSpec)

/-- ITS FALSE NEIGHBOUR: 'it returns false'. Refute it at one input. -/
def fnExactDepthOfWrong : ChangeSpec := { name := "fnExactDepthOf", fn := fun _ => fun
  | [d] => { results := [.lit (.bool false)], args := [d] }
  | _ => none }
def FnExactDepthOfWrongFalsely : Prop := fnExactDepthOfRow.holds Try.pinned (OpenSpec.ofChange fnExactDepthOfWrong)

/-- 'laws.FnExactIsTree': WHATEVER THE INPUT: true; the input reads as it did. -/
def fnExactIsTreeSpec : ChangeSpec := { name := "fnExactIsTree", fn := fun _ => fun
  | [d] => { results := [.lit (.bool true)], args := [d] }
  | _ => none }
def fnExactIsTreeRow : OpenClaim := { program := "ytamahlhoainocaa", sum := "dd5fa56eac4a78a05657e6777dcc1dd3a927b887086f95fa93588162477b0746", func := "loop.example/g01127/laws.FnExactIsTree", spec := "fnExactIsTree", unfollowed := true, recurses := true, apart := false }
def FnExactIsTreeSaid : Prop := fnExactIsTreeRow.holds Try.pinned (OpenSpec.ofChange fnExactIsTreeSpec)

/-- ITS FALSE NEIGHBOUR: 'it returns false'. Refute it at one input. -/
def fnExactIsTreeWrong : ChangeSpec := { name := "fnExactIsTree", fn := fun _ => fun
  | [d] => { results := [.lit (.bool false)], args := [d] }
  | _ => none }
def FnExactIsTreeWrongFalsely : Prop := fnExactIsTreeRow.holds Try.pinned (OpenSpec.ofChange fnExactIsTreeWrong)

/-- 'laws.FnExactCountOps': WHATEVER THE INPUT: true; the input reads as it did. -/
def fnExactCountOpsSpec : ChangeSpec := { name := "fnExactCountOps", fn := fun _ => fun
  | [d] => { results := [.lit (.bool true)], args := [d] }
  | _ => none }
def fnExactCountOpsRow : OpenClaim := { program := "ytamahlhoainocaa", sum := "dd5fa56eac4a78a05657e6777dcc1dd3a927b887086f95fa93588162477b0746", func := "loop.example/g01127/laws.FnExactCountOps", spec := "fnExactCountOps", apart := false }
def FnExactCountOpsSaid : Prop := fnExactCountOpsRow.holds Try.pinned (OpenSpec.ofChange fnExactCountOpsSpec)

/-- ITS FALSE NEIGHBOUR: 'it returns false'. Refute it at one input. -/
def fnExactCountOpsWrong : ChangeSpec := { name := "fnExactCountOps", fn := fun _ => fun
  | [d] => { results := [.lit (.bool false)], args := [d] }
  | _ => none }
def FnExactCountOpsWrongFalsely : Prop := fnExactCountOpsRow.holds Try.pinned (OpenSpec.ofChange fnExactCountOpsWrong)

/-- 'laws.FnExactUsesOf': WHATEVER THE INPUT: true; the input reads as it did. -/
def fnExactUsesOfSpec : ChangeSpec := { name := "fnExactUsesOf", fn := fun _ => fun
  | [d] => { results := [.lit (.bool true)], args := [d] }
  | _ => none }
def fnExactUsesOfRow : OpenClaim := { program := "ytamahlhoainocaa", sum := "dd5fa56eac4a78a05657e6777dcc1dd3a927b887086f95fa93588162477b0746", func := "loop.example/g01127/laws.FnExactUsesOf", spec := "fnExactUsesOf", apart := false }
def FnExactUsesOfSaid : Prop := fnExactUsesOfRow.holds Try.pinned (OpenSpec.ofChange fnExactUsesOfSpec)

/-- ITS FALSE NEIGHBOUR: 'it returns false'. Refute it at one input. -/
def fnExactUsesOfWrong : ChangeSpec := { name := "fnExactUsesOf", fn := fun _ => fun
  | [d] => { results := [.lit (.bool false)], args := [d] }
  | _ => none }
def FnExactUsesOfWrongFalsely : Prop := fnExactUsesOfRow.holds Try.pinned (OpenSpec.ofChange fnExactUsesOfWrong)

/-- 'laws.FnExactInputsOf': WHATEVER THE INPUT: true; the input reads as it did. -/
def fnExactInputsOfSpec : ChangeSpec := { name := "fnExactInputsOf", fn := fun _ => fun
  | [d] => { results := [.lit (.bool true)], args := [d] }
  | _ => none }
def fnExactInputsOfRow : OpenClaim := { program := "ytamahlhoainocaa", sum := "dd5fa56eac4a78a05657e6777dcc1dd3a927b887086f95fa93588162477b0746", func := "loop.example/g01127/laws.FnExactInputsOf", spec := "fnExactInputsOf", apart := false }
def FnExactInputsOfSaid : Prop := fnExactInputsOfRow.holds Try.pinned (OpenSpec.ofChange fnExactInputsOfSpec)

/-- ITS FALSE NEIGHBOUR: 'it returns false'. Refute it at one input. -/
def fnExactInputsOfWrong : ChangeSpec := { name := "fnExactInputsOf", fn := fun _ => fun
  | [d] => { results := [.lit (.bool false)], args := [d] }
  | _ => none }
def FnExactInputsOfWrongFalsely : Prop := fnExactInputsOfRow.holds Try.pinned (OpenSpec.ofChange fnExactInputsOfWrong)

/-- 'laws.FnExactExpandExpr': WHATEVER THE INPUT: true; the input reads as it did. -/
def fnExactExpandExprSpec : ChangeSpec := { name := "fnExactExpandExpr", fn := fun _ => fun
  | [d] => { results := [.lit (.bool true)], args := [d] }
  | _ => none }
def fnExactExpandExprRow : OpenClaim := { program := "ytamahlhoainocaa", sum := "dd5fa56eac4a78a05657e6777dcc1dd3a927b887086f95fa93588162477b0746", func := "loop.example/g01127/laws.FnExactExpandExpr", spec := "fnExactExpandExpr", recurses := true, apart := false }
def FnExactExpandExprSaid : Prop := fnExactExpandExprRow.holds Try.pinned (OpenSpec.ofChange fnExactExpandExprSpec)

/-- ITS FALSE NEIGHBOUR: 'it returns false'. Refute it at one input. -/
def fnExactExpandExprWrong : ChangeSpec := { name := "fnExactExpandExpr", fn := fun _ => fun
  | [d] => { results := [.lit (.bool false)], args := [d] }
  | _ => none }
def FnExactExpandExprWrongFalsely : Prop := fnExactExpandExprRow.holds Try.pinned (OpenSpec.ofChange fnExactExpandExprWrong)

/-- 'laws.FnExactSubExpr': WHATEVER THE INPUT: true; the input reads as it did. -/
def fnExactSubExprSpec : ChangeSpec := { name := "fnExactSubExpr", fn := fun _ => fun
  | [d1, d2] => { results := [.lit (.bool true)], args := [d1, d2] }
  | _ => none }
def fnExactSubExprRow : OpenClaim := { program := "ytamahlhoainocaa", sum := "dd5fa56eac4a78a05657e6777dcc1dd3a927b887086f95fa93588162477b0746", func := "loop.example/g01127/laws.FnExactSubExpr", spec := "fnExactSubExpr", apart := false }
def FnExactSubExprSaid : Prop := fnExactSubExprRow.holds Try.pinned (OpenSpec.ofChange fnExactSubExprSpec)

/-- ITS FALSE NEIGHBOUR: 'it returns false'. Refute it at one input. -/
def fnExactSubExprWrong : ChangeSpec := { name := "fnExactSubExpr", fn := fun _ => fun
  | [d1, d2] => { results := [.lit (.bool false)], args := [d1, d2] }
  | _ => none }
def FnExactSubExprWrongFalsely : Prop := fnExactSubExprRow.holds Try.pinned (OpenSpec.ofChange fnExactSubExprWrong)

/-- 'laws.FnExactPutInput': WHATEVER THE INPUT: true; the input reads as it did. -/
def fnExactPutInputSpec : ChangeSpec := { name := "fnExactPutInput", fn := fun _ => fun
  | [d1, d2, d3] => { results := [.lit (.bool true)], args := [d1, d2, d3] }
  | _ => none }
def fnExactPutInputRow : OpenClaim := { program := "ytamahlhoainocaa", sum := "dd5fa56eac4a78a05657e6777dcc1dd3a927b887086f95fa93588162477b0746", func := "loop.example/g01127/laws.FnExactPutInput", spec := "fnExactPutInput", apart := false }
def FnExactPutInputSaid : Prop := fnExactPutInputRow.holds Try.pinned (OpenSpec.ofChange fnExactPutInputSpec)

/-- ITS FALSE NEIGHBOUR: 'it returns false'. Refute it at one input. -/
def fnExactPutInputWrong : ChangeSpec := { name := "fnExactPutInput", fn := fun _ => fun
  | [d1, d2, d3] => { results := [.lit (.bool false)], args := [d1, d2, d3] }
  | _ => none }
def FnExactPutInputWrongFalsely : Prop := fnExactPutInputRow.holds Try.pinned (OpenSpec.ofChange fnExactPutInputWrong)

/-- 'laws.FnExactEvalExpr': WHATEVER THE INPUT: true; the input reads as it did. -/
def fnExactEvalExprSpec : ChangeSpec := { name := "fnExactEvalExpr", fn := fun _ => fun
  | [d1, d2, d3] => { results := [.lit (.bool true)], args := [d1, d2, d3] }
  | _ => none }
def fnExactEvalExprRow : OpenClaim := { program := "ytamahlhoainocaa", sum := "dd5fa56eac4a78a05657e6777dcc1dd3a927b887086f95fa93588162477b0746", func := "loop.example/g01127/laws.FnExactEvalExpr", spec := "fnExactEvalExpr", apart := false }
def FnExactEvalExprSaid : Prop := fnExactEvalExprRow.holds Try.pinned (OpenSpec.ofChange fnExactEvalExprSpec)

/-- ITS FALSE NEIGHBOUR: 'it returns false'. Refute it at one input. -/
def fnExactEvalExprWrong : ChangeSpec := { name := "fnExactEvalExpr", fn := fun _ => fun
  | [d1, d2, d3] => { results := [.lit (.bool false)], args := [d1, d2, d3] }
  | _ => none }
def FnExactEvalExprWrongFalsely : Prop := fnExactEvalExprRow.holds Try.pinned (OpenSpec.ofChange fnExactEvalExprWrong)

/-- 'laws.FnExactValuesOf': WHATEVER THE INPUT: true; the input reads as it did. -/
def fnExactValuesOfSpec : ChangeSpec := { name := "fnExactValuesOf", fn := fun _ => fun
  | [d1, d2, d3] => { results := [.lit (.bool true)], args := [d1, d2, d3] }
  | _ => none }
def fnExactValuesOfRow : OpenClaim := { program := "ytamahlhoainocaa", sum := "dd5fa56eac4a78a05657e6777dcc1dd3a927b887086f95fa93588162477b0746", func := "loop.example/g01127/laws.FnExactValuesOf", spec := "fnExactValuesOf", apart := false }
def FnExactValuesOfSaid : Prop := fnExactValuesOfRow.holds Try.pinned (OpenSpec.ofChange fnExactValuesOfSpec)

/-- ITS FALSE NEIGHBOUR: 'it returns false'. Refute it at one input. -/
def fnExactValuesOfWrong : ChangeSpec := { name := "fnExactValuesOf", fn := fun _ => fun
  | [d1, d2, d3] => { results := [.lit (.bool false)], args := [d1, d2, d3] }
  | _ => none }
def FnExactValuesOfWrongFalsely : Prop := fnExactValuesOfRow.holds Try.pinned (OpenSpec.ofChange fnExactValuesOfWrong)

/-- 'laws.FnExactShareExpr': WHATEVER THE INPUT: true; the input reads as it did. -/
def fnExactShareExprSpec : ChangeSpec := { name := "fnExactShareExpr", fn := fun _ => fun
  | [d] => { results := [.lit (.bool true)], args := [d] }
  | _ => none }
def fnExactShareExprRow : OpenClaim := { program := "ytamahlhoainocaa", sum := "dd5fa56eac4a78a05657e6777dcc1dd3a927b887086f95fa93588162477b0746", func := "loop.example/g01127/laws.FnExactShareExpr", spec := "fnExactShareExpr", unfollowed := true, recurses := true, apart := false }
def FnExactShareExprSaid : Prop := fnExactShareExprRow.holds Try.pinned (OpenSpec.ofChange fnExactShareExprSpec)

/-- ITS FALSE NEIGHBOUR: 'it returns false'. Refute it at one input. -/
def fnExactShareExprWrong : ChangeSpec := { name := "fnExactShareExpr", fn := fun _ => fun
  | [d] => { results := [.lit (.bool false)], args := [d] }
  | _ => none }
def FnExactShareExprWrongFalsely : Prop := fnExactShareExprRow.holds Try.pinned (OpenSpec.ofChange fnExactShareExprWrong)

/-- 'laws.FnExactFoldExpr': WHATEVER THE INPUT: true; the input reads as it did. -/
def fnExactFoldExprSpec : ChangeSpec := { name := "fnExactFoldExpr", fn := fun _ => fun
  | [d] => { results := [.lit (.bool true)], args := [d] }
  | _ => none }
def fnExactFoldExprRow : OpenClaim := { program := "ytamahlhoainocaa", sum := "dd5fa56eac4a78a05657e6777dcc1dd3a927b887086f95fa93588162477b0746", func := "loop.example/g01127/laws.FnExactFoldExpr", spec := "fnExactFoldExpr", apart := false }
def FnExactFoldExprSaid : Prop := fnExactFoldExprRow.holds Try.pinned (OpenSpec.ofChange fnExactFoldExprSpec)

/-- ITS FALSE NEIGHBOUR: 'it returns false'. Refute it at one input. -/
def fnExactFoldExprWrong : ChangeSpec := { name := "fnExactFoldExpr", fn := fun _ => fun
  | [d] => { results := [.lit (.bool false)], args := [d] }
  | _ => none }
def FnExactFoldExprWrongFalsely : Prop := fnExactFoldExprRow.holds Try.pinned (OpenSpec.ofChange fnExactFoldExprWrong)

/-- 'laws.FnExactTableOf': WHATEVER THE INPUT: true; the input reads as it did. -/
def fnExactTableOfSpec : ChangeSpec := { name := "fnExactTableOf", fn := fun _ => fun
  | [d] => { results := [.lit (.bool true)], args := [d] }
  | _ => none }
def fnExactTableOfRow : OpenClaim := { program := "ytamahlhoainocaa", sum := "dd5fa56eac4a78a05657e6777dcc1dd3a927b887086f95fa93588162477b0746", func := "loop.example/g01127/laws.FnExactTableOf", spec := "fnExactTableOf", unfollowed := true, recurses := true, apart := false }
def FnExactTableOfSaid : Prop := fnExactTableOfRow.holds Try.pinned (OpenSpec.ofChange fnExactTableOfSpec)

/-- ITS FALSE NEIGHBOUR: 'it returns false'. Refute it at one input. -/
def fnExactTableOfWrong : ChangeSpec := { name := "fnExactTableOf", fn := fun _ => fun
  | [d] => { results := [.lit (.bool false)], args := [d] }
  | _ => none }
def FnExactTableOfWrongFalsely : Prop := fnExactTableOfRow.holds Try.pinned (OpenSpec.ofChange fnExactTableOfWrong)

/-- 'laws.FnExactIsSymmetric': WHATEVER THE INPUT: true; the input reads as it did. -/
def fnExactIsSymmetricSpec : ChangeSpec := { name := "fnExactIsSymmetric", fn := fun _ => fun
  | [d] => { results := [.lit (.bool true)], args := [d] }
  | _ => none }
def fnExactIsSymmetricRow : OpenClaim := { program := "ytamahlhoainocaa", sum := "dd5fa56eac4a78a05657e6777dcc1dd3a927b887086f95fa93588162477b0746", func := "loop.example/g01127/laws.FnExactIsSymmetric", spec := "fnExactIsSymmetric", unfollowed := true, recurses := true, apart := false }
def FnExactIsSymmetricSaid : Prop := fnExactIsSymmetricRow.holds Try.pinned (OpenSpec.ofChange fnExactIsSymmetricSpec)

/-- ITS FALSE NEIGHBOUR: 'it returns false'. Refute it at one input. -/
def fnExactIsSymmetricWrong : ChangeSpec := { name := "fnExactIsSymmetric", fn := fun _ => fun
  | [d] => { results := [.lit (.bool false)], args := [d] }
  | _ => none }
def FnExactIsSymmetricWrongFalsely : Prop := fnExactIsSymmetricRow.holds Try.pinned (OpenSpec.ofChange fnExactIsSymmetricWrong)

/-- 'laws.FnExactKnownBits': WHATEVER THE INPUT: true; the input reads as it did. -/
def fnExactKnownBitsSpec : ChangeSpec := { name := "fnExactKnownBits", fn := fun _ => fun
  | [d] => { results := [.lit (.bool true)], args := [d] }
  | _ => none }
def fnExactKnownBitsRow : OpenClaim := { program := "ytamahlhoainocaa", sum := "dd5fa56eac4a78a05657e6777dcc1dd3a927b887086f95fa93588162477b0746", func := "loop.example/g01127/laws.FnExactKnownBits", spec := "fnExactKnownBits", unfollowed := true, recurses := true, apart := false }
def FnExactKnownBitsSaid : Prop := fnExactKnownBitsRow.holds Try.pinned (OpenSpec.ofChange fnExactKnownBitsSpec)

/-- ITS FALSE NEIGHBOUR: 'it returns false'. Refute it at one input. -/
def fnExactKnownBitsWrong : ChangeSpec := { name := "fnExactKnownBits", fn := fun _ => fun
  | [d] => { results := [.lit (.bool false)], args := [d] }
  | _ => none }
def FnExactKnownBitsWrongFalsely : Prop := fnExactKnownBitsRow.holds Try.pinned (OpenSpec.ofChange fnExactKnownBitsWrong)

/-- 'laws.FnExactCountDifferences': WHATEVER THE INPUT: true; the input reads as it did. -/
def fnExactCountDifferencesSpec : ChangeSpec := { name := "fnExactCountDifferences", fn := fun _ => fun
  | [d1, d2] => { results := [.lit (.bool true)], args := [d1, d2] }
  | _ => none }
def fnExactCountDifferencesRow : OpenClaim := { program := "ytamahlhoainocaa", sum := "dd5fa56eac4a78a05657e6777dcc1dd3a927b887086f95fa93588162477b0746", func := "loop.example/g01127/laws.FnExactCountDifferences", spec := "fnExactCountDifferences", unfollowed := true, recurses := true, apart := false }
def FnExactCountDifferencesSaid : Prop := fnExactCountDifferencesRow.holds Try.pinned (OpenSpec.ofChange fnExactCountDifferencesSpec)

/-- ITS FALSE NEIGHBOUR: 'it returns false'. Refute it at one input. -/
def fnExactCountDifferencesWrong : ChangeSpec := { name := "fnExactCountDifferences", fn := fun _ => fun
  | [d1, d2] => { results := [.lit (.bool false)], args := [d1, d2] }
  | _ => none }
def FnExactCountDifferencesWrongFalsely : Prop := fnExactCountDifferencesRow.holds Try.pinned (OpenSpec.ofChange fnExactCountDifferencesWrong)

/-- 'laws.FnExactDifferentBits': WHATEVER THE INPUT: true; the input reads as it did. -/
def fnExactDifferentBitsSpec : ChangeSpec := { name := "fnExactDifferentBits", fn := fun _ => fun
  | [d1, d2] => { results := [.lit (.bool true)], args := [d1, d2] }
  | _ => none }
def fnExactDifferentBitsRow : OpenClaim := { program := "ytamahlhoainocaa", sum := "dd5fa56eac4a78a05657e6777dcc1dd3a927b887086f95fa93588162477b0746", func := "loop.example/g01127/laws.FnExactDifferentBits", spec := "fnExactDifferentBits", unfollowed := true, recurses := true, apart := false }
def FnExactDifferentBitsSaid : Prop := fnExactDifferentBitsRow.holds Try.pinned (OpenSpec.ofChange fnExactDifferentBitsSpec)

/-- ITS FALSE NEIGHBOUR: 'it returns false'. Refute it at one input. -/
def fnExactDifferentBitsWrong : ChangeSpec := { name := "fnExactDifferentBits", fn := fun _ => fun
  | [d1, d2] => { results := [.lit (.bool false)], args := [d1, d2] }
  | _ => none }
def FnExactDifferentBitsWrongFalsely : Prop := fnExactDifferentBitsRow.holds Try.pinned (OpenSpec.ofChange fnExactDifferentBitsWrong)

/-- 'laws.FnExactAreEqual': WHATEVER THE INPUT: true; the input reads as it did. -/
def fnExactAreEqualSpec : ChangeSpec := { name := "fnExactAreEqual", fn := fun _ => fun
  | [d1, d2] => { results := [.lit (.bool true)], args := [d1, d2] }
  | _ => none }
def fnExactAreEqualRow : OpenClaim := { program := "ytamahlhoainocaa", sum := "dd5fa56eac4a78a05657e6777dcc1dd3a927b887086f95fa93588162477b0746", func := "loop.example/g01127/laws.FnExactAreEqual", spec := "fnExactAreEqual", unfollowed := true, recurses := true, apart := false }
def FnExactAreEqualSaid : Prop := fnExactAreEqualRow.holds Try.pinned (OpenSpec.ofChange fnExactAreEqualSpec)

/-- ITS FALSE NEIGHBOUR: 'it returns false'. Refute it at one input. -/
def fnExactAreEqualWrong : ChangeSpec := { name := "fnExactAreEqual", fn := fun _ => fun
  | [d1, d2] => { results := [.lit (.bool false)], args := [d1, d2] }
  | _ => none }
def FnExactAreEqualWrongFalsely : Prop := fnExactAreEqualRow.holds Try.pinned (OpenSpec.ofChange fnExactAreEqualWrong)

/-- 'laws.FnExactEqualAt': WHATEVER THE INPUT: true; the input reads as it did. -/
def fnExactEqualAtSpec : ChangeSpec := { name := "fnExactEqualAt", fn := fun _ => fun
  | [d1, d2, d3] => { results := [.lit (.bool true)], args := [d1, d2, d3] }
  | _ => none }
def fnExactEqualAtRow : OpenClaim := { program := "ytamahlhoainocaa", sum := "dd5fa56eac4a78a05657e6777dcc1dd3a927b887086f95fa93588162477b0746", func := "loop.example/g01127/laws.FnExactEqualAt", spec := "fnExactEqualAt", unfollowed := true, recurses := true, apart := false }
def FnExactEqualAtSaid : Prop := fnExactEqualAtRow.holds Try.pinned (OpenSpec.ofChange fnExactEqualAtSpec)

/-- ITS FALSE NEIGHBOUR: 'it returns false'. Refute it at one input. -/
def fnExactEqualAtWrong : ChangeSpec := { name := "fnExactEqualAt", fn := fun _ => fun
  | [d1, d2, d3] => { results := [.lit (.bool false)], args := [d1, d2, d3] }
  | _ => none }
def FnExactEqualAtWrongFalsely : Prop := fnExactEqualAtRow.holds Try.pinned (OpenSpec.ofChange fnExactEqualAtWrong)

/-- 'laws.FnExactFirstDifference': WHATEVER THE INPUT: true; the input reads as it did. -/
def fnExactFirstDifferenceSpec : ChangeSpec := { name := "fnExactFirstDifference", fn := fun _ => fun
  | [d1, d2] => { results := [.lit (.bool true)], args := [d1, d2] }
  | _ => none }
def fnExactFirstDifferenceRow : OpenClaim := { program := "ytamahlhoainocaa", sum := "dd5fa56eac4a78a05657e6777dcc1dd3a927b887086f95fa93588162477b0746", func := "loop.example/g01127/laws.FnExactFirstDifference", spec := "fnExactFirstDifference", unfollowed := true, recurses := true, apart := false }
def FnExactFirstDifferenceSaid : Prop := fnExactFirstDifferenceRow.holds Try.pinned (OpenSpec.ofChange fnExactFirstDifferenceSpec)

/-- ITS FALSE NEIGHBOUR: 'it returns false'. Refute it at one input. -/
def fnExactFirstDifferenceWrong : ChangeSpec := { name := "fnExactFirstDifference", fn := fun _ => fun
  | [d1, d2] => { results := [.lit (.bool false)], args := [d1, d2] }
  | _ => none }
def FnExactFirstDifferenceWrongFalsely : Prop := fnExactFirstDifferenceRow.holds Try.pinned (OpenSpec.ofChange fnExactFirstDifferenceWrong)

/-- 'laws.FnExactDependsOn': WHATEVER THE INPUT: true; the input reads as it did. -/
def fnExactDependsOnSpec : ChangeSpec := { name := "fnExactDependsOn", fn := fun _ => fun
  | [d1, d2] => { results := [.lit (.bool true)], args := [d1, d2] }
  | _ => none }
def fnExactDependsOnRow : OpenClaim := { program := "ytamahlhoainocaa", sum := "dd5fa56eac4a78a05657e6777dcc1dd3a927b887086f95fa93588162477b0746", func := "loop.example/g01127/laws.FnExactDependsOn", spec := "fnExactDependsOn", unfollowed := true, recurses := true, apart := false }
def FnExactDependsOnSaid : Prop := fnExactDependsOnRow.holds Try.pinned (OpenSpec.ofChange fnExactDependsOnSpec)

/-- ITS FALSE NEIGHBOUR: 'it returns false'. Refute it at one input. -/
def fnExactDependsOnWrong : ChangeSpec := { name := "fnExactDependsOn", fn := fun _ => fun
  | [d1, d2] => { results := [.lit (.bool false)], args := [d1, d2] }
  | _ => none }
def FnExactDependsOnWrongFalsely : Prop := fnExactDependsOnRow.holds Try.pinned (OpenSpec.ofChange fnExactDependsOnWrong)

/-- 'laws.FnExactAskedBits': WHATEVER THE INPUT: true; the input reads as it did. -/
def fnExactAskedBitsSpec : ChangeSpec := { name := "fnExactAskedBits", fn := fun _ => fun
  | [d1, d2] => { results := [.lit (.bool true)], args := [d1, d2] }
  | _ => none }
def fnExactAskedBitsRow : OpenClaim := { program := "ytamahlhoainocaa", sum := "dd5fa56eac4a78a05657e6777dcc1dd3a927b887086f95fa93588162477b0746", func := "loop.example/g01127/laws.FnExactAskedBits", spec := "fnExactAskedBits", apart := false }
def FnExactAskedBitsSaid : Prop := fnExactAskedBitsRow.holds Try.pinned (OpenSpec.ofChange fnExactAskedBitsSpec)

/-- ITS FALSE NEIGHBOUR: 'it returns false'. Refute it at one input. -/
def fnExactAskedBitsWrong : ChangeSpec := { name := "fnExactAskedBits", fn := fun _ => fun
  | [d1, d2] => { results := [.lit (.bool false)], args := [d1, d2] }
  | _ => none }
def FnExactAskedBitsWrongFalsely : Prop := fnExactAskedBitsRow.holds Try.pinned (OpenSpec.ofChange fnExactAskedBitsWrong)

/-- 'laws.FnExactRangeOf': WHATEVER THE INPUT: true; the input reads as it did. -/
def fnExactRangeOfSpec : ChangeSpec := { name := "fnExactRangeOf", fn := fun _ => fun
  | [d] => { results := [.lit (.bool true)], args := [d] }
  | _ => none }
def fnExactRangeOfRow : OpenClaim := { program := "ytamahlhoainocaa", sum := "dd5fa56eac4a78a05657e6777dcc1dd3a927b887086f95fa93588162477b0746", func := "loop.example/g01127/laws.FnExactRangeOf", spec := "fnExactRangeOf", unfollowed := true, recurses := true, apart := false }
def FnExactRangeOfSaid : Prop := fnExactRangeOfRow.holds Try.pinned (OpenSpec.ofChange fnExactRangeOfSpec)

/-- ITS FALSE NEIGHBOUR: 'it returns false'. Refute it at one input. -/
def fnExactRangeOfWrong : ChangeSpec := { name := "fnExactRangeOf", fn := fun _ => fun
  | [d] => { results := [.lit (.bool false)], args := [d] }
  | _ => none }
def FnExactRangeOfWrongFalsely : Prop := fnExactRangeOfRow.holds Try.pinned (OpenSpec.ofChange fnExactRangeOfWrong)

/-- 'laws.FnExactConstantOf': WHATEVER THE INPUT: true; the input reads as it did. -/
def fnExactConstantOfSpec : ChangeSpec := { name := "fnExactConstantOf", fn := fun _ => fun
  | [d] => { results := [.lit (.bool true)], args := [d] }
  | _ => none }
def fnExactConstantOfRow : OpenClaim := { program := "ytamahlhoainocaa", sum := "dd5fa56eac4a78a05657e6777dcc1dd3a927b887086f95fa93588162477b0746", func := "loop.example/g01127/laws.FnExactConstantOf", spec := "fnExactConstantOf", unfollowed := true, recurses := true, apart := false }
def FnExactConstantOfSaid : Prop := fnExactConstantOfRow.holds Try.pinned (OpenSpec.ofChange fnExactConstantOfSpec)

/-- ITS FALSE NEIGHBOUR: 'it returns false'. Refute it at one input. -/
def fnExactConstantOfWrong : ChangeSpec := { name := "fnExactConstantOf", fn := fun _ => fun
  | [d] => { results := [.lit (.bool false)], args := [d] }
  | _ => none }
def FnExactConstantOfWrongFalsely : Prop := fnExactConstantOfRow.holds Try.pinned (OpenSpec.ofChange fnExactConstantOfWrong)

/-- 'laws.FnExactDependWitness': WHATEVER THE INPUT: true; the input reads as it did. -/
def fnExactDependWitnessSpec : ChangeSpec := { name := "fnExactDependWitness", fn := fun _ => fun
  | [d1, d2] => { results := [.lit (.bool true)], args := [d1, d2] }
  | _ => none }
def fnExactDependWitnessRow : OpenClaim := { program := "ytamahlhoainocaa", sum := "dd5fa56eac4a78a05657e6777dcc1dd3a927b887086f95fa93588162477b0746", func := "loop.example/g01127/laws.FnExactDependWitness", spec := "fnExactDependWitness", unfollowed := true, recurses := true, apart := false }
def FnExactDependWitnessSaid : Prop := fnExactDependWitnessRow.holds Try.pinned (OpenSpec.ofChange fnExactDependWitnessSpec)

/-- ITS FALSE NEIGHBOUR: 'it returns false'. Refute it at one input. -/
def fnExactDependWitnessWrong : ChangeSpec := { name := "fnExactDependWitness", fn := fun _ => fun
  | [d1, d2] => { results := [.lit (.bool false)], args := [d1, d2] }
  | _ => none }
def FnExactDependWitnessWrongFalsely : Prop := fnExactDependWitnessRow.holds Try.pinned (OpenSpec.ofChange fnExactDependWitnessWrong)

/-- 'laws.FnExactClassesOf': WHATEVER THE INPUT: true; the input reads as it did. -/
def fnExactClassesOfSpec : ChangeSpec := { name := "fnExactClassesOf", fn := fun _ => fun
  | [d] => { results := [.lit (.bool true)], args := [d] }
  | _ => none }
def fnExactClassesOfRow : OpenClaim := { program := "ytamahlhoainocaa", sum := "dd5fa56eac4a78a05657e6777dcc1dd3a927b887086f95fa93588162477b0746", func := "loop.example/g01127/laws.FnExactClassesOf", spec := "fnExactClassesOf", unfollowed := true, recurses := true, apart := false }
def FnExactClassesOfSaid : Prop := fnExactClassesOfRow.holds Try.pinned (OpenSpec.ofChange fnExactClassesOfSpec)

/-- ITS FALSE NEIGHBOUR: 'it returns false'. Refute it at one input. -/
def fnExactClassesOfWrong : ChangeSpec := { name := "fnExactClassesOf", fn := fun _ => fun
  | [d] => { results := [.lit (.bool false)], args := [d] }
  | _ => none }
def FnExactClassesOfWrongFalsely : Prop := fnExactClassesOfRow.holds Try.pinned (OpenSpec.ofChange fnExactClassesOfWrong)

/-- 'laws.FnInputsPut': WHATEVER THE INPUT: true; the input reads as it did. -/
def fnInputsPutSpec : ChangeSpec := { name := "fnInputsPut", fn := fun _ => fun
  | [d1, d2] => { results := [.lit (.bool true)], args := [d1, d2] }
  | _ => none }
def fnInputsPutRow : OpenClaim := { program := "ytamahlhoainocaa", sum := "dd5fa56eac4a78a05657e6777dcc1dd3a927b887086f95fa93588162477b0746", func := "loop.example/g01127/laws.FnInputsPut", spec := "fnInputsPut", unfollowed := true, recurses := true, apart := false }
def FnInputsPutSaid : Prop := fnInputsPutRow.holds Try.pinned (OpenSpec.ofChange fnInputsPutSpec)

/-- ITS FALSE NEIGHBOUR: 'it returns false'. Refute it at one input. -/
def fnInputsPutWrong : ChangeSpec := { name := "fnInputsPut", fn := fun _ => fun
  | [d1, d2] => { results := [.lit (.bool false)], args := [d1, d2] }
  | _ => none }
def FnInputsPutWrongFalsely : Prop := fnInputsPutRow.holds Try.pinned (OpenSpec.ofChange fnInputsPutWrong)

/-- 'laws.FnValuesOfNodes': WHATEVER THE INPUT: true; the input reads as it did. -/
def fnValuesOfNodesSpec : ChangeSpec := { name := "fnValuesOfNodes", fn := fun _ => fun
  | [d1, d2] => { results := [.lit (.bool true)], args := [d1, d2] }
  | _ => none }
def fnValuesOfNodesRow : OpenClaim := { program := "ytamahlhoainocaa", sum := "dd5fa56eac4a78a05657e6777dcc1dd3a927b887086f95fa93588162477b0746", func := "loop.example/g01127/laws.FnValuesOfNodes", spec := "fnValuesOfNodes", unfollowed := true, recurses := true, apart := false }
def FnValuesOfNodesSaid : Prop := fnValuesOfNodesRow.holds Try.pinned (OpenSpec.ofChange fnValuesOfNodesSpec)

/-- ITS FALSE NEIGHBOUR: 'it returns false'. Refute it at one input. -/
def fnValuesOfNodesWrong : ChangeSpec := { name := "fnValuesOfNodes", fn := fun _ => fun
  | [d1, d2] => { results := [.lit (.bool false)], args := [d1, d2] }
  | _ => none }
def FnValuesOfNodesWrongFalsely : Prop := fnValuesOfNodesRow.holds Try.pinned (OpenSpec.ofChange fnValuesOfNodesWrong)

/-- 'laws.FnAskedBits': WHATEVER THE INPUT: true; the input reads as it did. -/
def fnAskedBitsSpec : ChangeSpec := { name := "fnAskedBits", fn := fun _ => fun
  | [d1, d2] => { results := [.lit (.bool true)], args := [d1, d2] }
  | _ => none }
def fnAskedBitsRow : OpenClaim := { program := "ytamahlhoainocaa", sum := "dd5fa56eac4a78a05657e6777dcc1dd3a927b887086f95fa93588162477b0746", func := "loop.example/g01127/laws.FnAskedBits", spec := "fnAskedBits", unfollowed := true, recurses := true, apart := false }
def FnAskedBitsSaid : Prop := fnAskedBitsRow.holds Try.pinned (OpenSpec.ofChange fnAskedBitsSpec)

/-- ITS FALSE NEIGHBOUR: 'it returns false'. Refute it at one input. -/
def fnAskedBitsWrong : ChangeSpec := { name := "fnAskedBits", fn := fun _ => fun
  | [d1, d2] => { results := [.lit (.bool false)], args := [d1, d2] }
  | _ => none }
def FnAskedBitsWrongFalsely : Prop := fnAskedBitsRow.holds Try.pinned (OpenSpec.ofChange fnAskedBitsWrong)

/-- 'laws.FnFoldedExpressions': WHATEVER THE INPUT: true; the input reads as it did. -/
def fnFoldedExpressionsSpec : ChangeSpec := { name := "fnFoldedExpressions", fn := fun _ => fun
  | [d1, d2] => { results := [.lit (.bool true)], args := [d1, d2] }
  | _ => none }
def fnFoldedExpressionsRow : OpenClaim := { program := "ytamahlhoainocaa", sum := "dd5fa56eac4a78a05657e6777dcc1dd3a927b887086f95fa93588162477b0746", func := "loop.example/g01127/laws.FnFoldedExpressions", spec := "fnFoldedExpressions", unfollowed := true, recurses := true, apart := false }
def FnFoldedExpressionsSaid : Prop := fnFoldedExpressionsRow.holds Try.pinned (OpenSpec.ofChange fnFoldedExpressionsSpec)

/-- ITS FALSE NEIGHBOUR: 'it returns false'. Refute it at one input. -/
def fnFoldedExpressionsWrong : ChangeSpec := { name := "fnFoldedExpressions", fn := fun _ => fun
  | [d1, d2] => { results := [.lit (.bool false)], args := [d1, d2] }
  | _ => none }
def FnFoldedExpressionsWrongFalsely : Prop := fnFoldedExpressionsRow.holds Try.pinned (OpenSpec.ofChange fnFoldedExpressionsWrong)

/-- 'laws.FnSharedAndExpanded': WHATEVER THE INPUT: true; the input reads as it did. -/
def fnSharedAndExpandedSpec : ChangeSpec := { name := "fnSharedAndExpanded", fn := fun _ => fun
  | [d1, d2] => { results := [.lit (.bool true)], args := [d1, d2] }
  | _ => none }
def fnSharedAndExpandedRow : OpenClaim := { program := "ytamahlhoainocaa", sum := "dd5fa56eac4a78a05657e6777dcc1dd3a927b887086f95fa93588162477b0746", func := "loop.example/g01127/laws.FnSharedAndExpanded", spec := "fnSharedAndExpanded", unfollowed := true, recurses := true, apart := false }
def FnSharedAndExpandedSaid : Prop := fnSharedAndExpandedRow.holds Try.pinned (OpenSpec.ofChange fnSharedAndExpandedSpec)

/-- ITS FALSE NEIGHBOUR: 'it returns false'. Refute it at one input. -/
def fnSharedAndExpandedWrong : ChangeSpec := { name := "fnSharedAndExpanded", fn := fun _ => fun
  | [d1, d2] => { results := [.lit (.bool false)], args := [d1, d2] }
  | _ => none }
def FnSharedAndExpandedWrongFalsely : Prop := fnSharedAndExpandedRow.holds Try.pinned (OpenSpec.ofChange fnSharedAndExpandedWrong)

/- THE SECOND FORM. 'bulk': how many values and letters a reading holds, each counted each time it is reached (what is shared counts as often as it is met; a slice's spare places count too). A statement '..UptoSaid' is the law's where the arguments, and the package variables that the reading takes, are together of bulk at most 1048576: NARROWER than '..Said'. Prove '..Said' where nothing that the law and all that it calls make is longer than what came in: it says more and counts as full. Else prove '..UptoSaid'. A law counts once. -/
mutual
def uptoBulk {H : Type} : DataW H → Nat
  | .lit (.string bytes) => bytes.length + 1
  | .lit _ => 1
  | .nil => 1
  | .ptr d => uptoBulk d + 1
  | .slice elems spare => uptoBulkAll elems + uptoBulkAll spare + 1
  | .agg parts => uptoBulkAll parts + 1
  | .iface _ d => uptoBulk d + 1
  | .map entries => uptoBulkEntries entries + 1
  | .held _ => 1
def uptoBulkAll {H : Type} : List (DataW H) → Nat
  | [] => 0
  | d :: r => uptoBulk d + uptoBulkAll r
def uptoBulkEntries {H : Type} : List (Lit × DataW H) → Nat
  | [] => 0
  | x :: r => uptoBulkEntry x + uptoBulkEntries r
def uptoBulkEntry {H : Type} : Lit × DataW H → Nat
  | (.string bytes, d) => bytes.length + uptoBulk d + 1
  | (_, d) => uptoBulk d + 1
 end
def uptoSmall : (H : Type) → List (DataW H) → Bool := fun _ ds => decide (uptoBulkAll ds ≤ 1048576)
def OpenSpec.upto (s : _root_.Go.ChangeSpec) : _root_.Go.OpenSpec := { _root_.Go.OpenSpec.ofChange s with cond := some uptoSmall }

/-- 'laws.FnExactIsExpr', WHERE WHAT IT READS IS OF BULK AT MOST 1048576: true; the input reads as it did. -/
def fnExactIsExprUptoRow : OpenClaim := { program := "ytamahlhoainocaa", sum := "dd5fa56eac4a78a05657e6777dcc1dd3a927b887086f95fa93588162477b0746", func := "loop.example/g01127/laws.FnExactIsExpr", spec := "fnExactIsExpr", apart := false, narrowed := true }
def FnExactIsExprUptoSaid : Prop := fnExactIsExprUptoRow.holds Try.pinned (OpenSpec.upto fnExactIsExprSpec)

/-- 'laws.FnExactDepthOf', WHERE WHAT IT READS IS OF BULK AT MOST 1048576: true; the input reads as it did. -/
def fnExactDepthOfUptoRow : OpenClaim := { program := "ytamahlhoainocaa", sum := "dd5fa56eac4a78a05657e6777dcc1dd3a927b887086f95fa93588162477b0746", func := "loop.example/g01127/laws.FnExactDepthOf", spec := "fnExactDepthOf", apart := false, narrowed := true }
def FnExactDepthOfUptoSaid : Prop := fnExactDepthOfUptoRow.holds Try.pinned (OpenSpec.upto fnExactDepthOfSpec)

/-- 'laws.FnExactIsTree', WHERE WHAT IT READS IS OF BULK AT MOST 1048576: true; the input reads as it did. -/
def fnExactIsTreeUptoRow : OpenClaim := { program := "ytamahlhoainocaa", sum := "dd5fa56eac4a78a05657e6777dcc1dd3a927b887086f95fa93588162477b0746", func := "loop.example/g01127/laws.FnExactIsTree", spec := "fnExactIsTree", unfollowed := true, recurses := true, apart := false, narrowed := true }
def FnExactIsTreeUptoSaid : Prop := fnExactIsTreeUptoRow.holds Try.pinned (OpenSpec.upto fnExactIsTreeSpec)

/-- 'laws.FnExactCountOps', WHERE WHAT IT READS IS OF BULK AT MOST 1048576: true; the input reads as it did. -/
def fnExactCountOpsUptoRow : OpenClaim := { program := "ytamahlhoainocaa", sum := "dd5fa56eac4a78a05657e6777dcc1dd3a927b887086f95fa93588162477b0746", func := "loop.example/g01127/laws.FnExactCountOps", spec := "fnExactCountOps", apart := false, narrowed := true }
def FnExactCountOpsUptoSaid : Prop := fnExactCountOpsUptoRow.holds Try.pinned (OpenSpec.upto fnExactCountOpsSpec)

/-- 'laws.FnExactUsesOf', WHERE WHAT IT READS IS OF BULK AT MOST 1048576: true; the input reads as it did. -/
def fnExactUsesOfUptoRow : OpenClaim := { program := "ytamahlhoainocaa", sum := "dd5fa56eac4a78a05657e6777dcc1dd3a927b887086f95fa93588162477b0746", func := "loop.example/g01127/laws.FnExactUsesOf", spec := "fnExactUsesOf", apart := false, narrowed := true }
def FnExactUsesOfUptoSaid : Prop := fnExactUsesOfUptoRow.holds Try.pinned (OpenSpec.upto fnExactUsesOfSpec)

/-- 'laws.FnExactInputsOf', WHERE WHAT IT READS IS OF BULK AT MOST 1048576: true; the input reads as it did. -/
def fnExactInputsOfUptoRow : OpenClaim := { program := "ytamahlhoainocaa", sum := "dd5fa56eac4a78a05657e6777dcc1dd3a927b887086f95fa93588162477b0746", func := "loop.example/g01127/laws.FnExactInputsOf", spec := "fnExactInputsOf", apart := false, narrowed := true }
def FnExactInputsOfUptoSaid : Prop := fnExactInputsOfUptoRow.holds Try.pinned (OpenSpec.upto fnExactInputsOfSpec)

/-- 'laws.FnExactExpandExpr', WHERE WHAT IT READS IS OF BULK AT MOST 1048576: true; the input reads as it did. -/
def fnExactExpandExprUptoRow : OpenClaim := { program := "ytamahlhoainocaa", sum := "dd5fa56eac4a78a05657e6777dcc1dd3a927b887086f95fa93588162477b0746", func := "loop.example/g01127/laws.FnExactExpandExpr", spec := "fnExactExpandExpr", recurses := true, apart := false, narrowed := true }
def FnExactExpandExprUptoSaid : Prop := fnExactExpandExprUptoRow.holds Try.pinned (OpenSpec.upto fnExactExpandExprSpec)

/-- 'laws.FnExactSubExpr', WHERE WHAT IT READS IS OF BULK AT MOST 1048576: true; the input reads as it did. -/
def fnExactSubExprUptoRow : OpenClaim := { program := "ytamahlhoainocaa", sum := "dd5fa56eac4a78a05657e6777dcc1dd3a927b887086f95fa93588162477b0746", func := "loop.example/g01127/laws.FnExactSubExpr", spec := "fnExactSubExpr", apart := false, narrowed := true }
def FnExactSubExprUptoSaid : Prop := fnExactSubExprUptoRow.holds Try.pinned (OpenSpec.upto fnExactSubExprSpec)

/-- 'laws.FnExactPutInput', WHERE WHAT IT READS IS OF BULK AT MOST 1048576: true; the input reads as it did. -/
def fnExactPutInputUptoRow : OpenClaim := { program := "ytamahlhoainocaa", sum := "dd5fa56eac4a78a05657e6777dcc1dd3a927b887086f95fa93588162477b0746", func := "loop.example/g01127/laws.FnExactPutInput", spec := "fnExactPutInput", apart := false, narrowed := true }
def FnExactPutInputUptoSaid : Prop := fnExactPutInputUptoRow.holds Try.pinned (OpenSpec.upto fnExactPutInputSpec)

/-- 'laws.FnExactEvalExpr', WHERE WHAT IT READS IS OF BULK AT MOST 1048576: true; the input reads as it did. -/
def fnExactEvalExprUptoRow : OpenClaim := { program := "ytamahlhoainocaa", sum := "dd5fa56eac4a78a05657e6777dcc1dd3a927b887086f95fa93588162477b0746", func := "loop.example/g01127/laws.FnExactEvalExpr", spec := "fnExactEvalExpr", apart := false, narrowed := true }
def FnExactEvalExprUptoSaid : Prop := fnExactEvalExprUptoRow.holds Try.pinned (OpenSpec.upto fnExactEvalExprSpec)

/-- 'laws.FnExactValuesOf', WHERE WHAT IT READS IS OF BULK AT MOST 1048576: true; the input reads as it did. -/
def fnExactValuesOfUptoRow : OpenClaim := { program := "ytamahlhoainocaa", sum := "dd5fa56eac4a78a05657e6777dcc1dd3a927b887086f95fa93588162477b0746", func := "loop.example/g01127/laws.FnExactValuesOf", spec := "fnExactValuesOf", apart := false, narrowed := true }
def FnExactValuesOfUptoSaid : Prop := fnExactValuesOfUptoRow.holds Try.pinned (OpenSpec.upto fnExactValuesOfSpec)

/-- 'laws.FnExactShareExpr', WHERE WHAT IT READS IS OF BULK AT MOST 1048576: true; the input reads as it did. -/
def fnExactShareExprUptoRow : OpenClaim := { program := "ytamahlhoainocaa", sum := "dd5fa56eac4a78a05657e6777dcc1dd3a927b887086f95fa93588162477b0746", func := "loop.example/g01127/laws.FnExactShareExpr", spec := "fnExactShareExpr", unfollowed := true, recurses := true, apart := false, narrowed := true }
def FnExactShareExprUptoSaid : Prop := fnExactShareExprUptoRow.holds Try.pinned (OpenSpec.upto fnExactShareExprSpec)

/-- 'laws.FnExactFoldExpr', WHERE WHAT IT READS IS OF BULK AT MOST 1048576: true; the input reads as it did. -/
def fnExactFoldExprUptoRow : OpenClaim := { program := "ytamahlhoainocaa", sum := "dd5fa56eac4a78a05657e6777dcc1dd3a927b887086f95fa93588162477b0746", func := "loop.example/g01127/laws.FnExactFoldExpr", spec := "fnExactFoldExpr", apart := false, narrowed := true }
def FnExactFoldExprUptoSaid : Prop := fnExactFoldExprUptoRow.holds Try.pinned (OpenSpec.upto fnExactFoldExprSpec)

/-- 'laws.FnExactTableOf', WHERE WHAT IT READS IS OF BULK AT MOST 1048576: true; the input reads as it did. -/
def fnExactTableOfUptoRow : OpenClaim := { program := "ytamahlhoainocaa", sum := "dd5fa56eac4a78a05657e6777dcc1dd3a927b887086f95fa93588162477b0746", func := "loop.example/g01127/laws.FnExactTableOf", spec := "fnExactTableOf", unfollowed := true, recurses := true, apart := false, narrowed := true }
def FnExactTableOfUptoSaid : Prop := fnExactTableOfUptoRow.holds Try.pinned (OpenSpec.upto fnExactTableOfSpec)

/-- 'laws.FnExactIsSymmetric', WHERE WHAT IT READS IS OF BULK AT MOST 1048576: true; the input reads as it did. -/
def fnExactIsSymmetricUptoRow : OpenClaim := { program := "ytamahlhoainocaa", sum := "dd5fa56eac4a78a05657e6777dcc1dd3a927b887086f95fa93588162477b0746", func := "loop.example/g01127/laws.FnExactIsSymmetric", spec := "fnExactIsSymmetric", unfollowed := true, recurses := true, apart := false, narrowed := true }
def FnExactIsSymmetricUptoSaid : Prop := fnExactIsSymmetricUptoRow.holds Try.pinned (OpenSpec.upto fnExactIsSymmetricSpec)

/-- 'laws.FnExactKnownBits', WHERE WHAT IT READS IS OF BULK AT MOST 1048576: true; the input reads as it did. -/
def fnExactKnownBitsUptoRow : OpenClaim := { program := "ytamahlhoainocaa", sum := "dd5fa56eac4a78a05657e6777dcc1dd3a927b887086f95fa93588162477b0746", func := "loop.example/g01127/laws.FnExactKnownBits", spec := "fnExactKnownBits", unfollowed := true, recurses := true, apart := false, narrowed := true }
def FnExactKnownBitsUptoSaid : Prop := fnExactKnownBitsUptoRow.holds Try.pinned (OpenSpec.upto fnExactKnownBitsSpec)

/-- 'laws.FnExactCountDifferences', WHERE WHAT IT READS IS OF BULK AT MOST 1048576: true; the input reads as it did. -/
def fnExactCountDifferencesUptoRow : OpenClaim := { program := "ytamahlhoainocaa", sum := "dd5fa56eac4a78a05657e6777dcc1dd3a927b887086f95fa93588162477b0746", func := "loop.example/g01127/laws.FnExactCountDifferences", spec := "fnExactCountDifferences", unfollowed := true, recurses := true, apart := false, narrowed := true }
def FnExactCountDifferencesUptoSaid : Prop := fnExactCountDifferencesUptoRow.holds Try.pinned (OpenSpec.upto fnExactCountDifferencesSpec)

/-- 'laws.FnExactDifferentBits', WHERE WHAT IT READS IS OF BULK AT MOST 1048576: true; the input reads as it did. -/
def fnExactDifferentBitsUptoRow : OpenClaim := { program := "ytamahlhoainocaa", sum := "dd5fa56eac4a78a05657e6777dcc1dd3a927b887086f95fa93588162477b0746", func := "loop.example/g01127/laws.FnExactDifferentBits", spec := "fnExactDifferentBits", unfollowed := true, recurses := true, apart := false, narrowed := true }
def FnExactDifferentBitsUptoSaid : Prop := fnExactDifferentBitsUptoRow.holds Try.pinned (OpenSpec.upto fnExactDifferentBitsSpec)

/-- 'laws.FnExactAreEqual', WHERE WHAT IT READS IS OF BULK AT MOST 1048576: true; the input reads as it did. -/
def fnExactAreEqualUptoRow : OpenClaim := { program := "ytamahlhoainocaa", sum := "dd5fa56eac4a78a05657e6777dcc1dd3a927b887086f95fa93588162477b0746", func := "loop.example/g01127/laws.FnExactAreEqual", spec := "fnExactAreEqual", unfollowed := true, recurses := true, apart := false, narrowed := true }
def FnExactAreEqualUptoSaid : Prop := fnExactAreEqualUptoRow.holds Try.pinned (OpenSpec.upto fnExactAreEqualSpec)

/-- 'laws.FnExactEqualAt', WHERE WHAT IT READS IS OF BULK AT MOST 1048576: true; the input reads as it did. -/
def fnExactEqualAtUptoRow : OpenClaim := { program := "ytamahlhoainocaa", sum := "dd5fa56eac4a78a05657e6777dcc1dd3a927b887086f95fa93588162477b0746", func := "loop.example/g01127/laws.FnExactEqualAt", spec := "fnExactEqualAt", unfollowed := true, recurses := true, apart := false, narrowed := true }
def FnExactEqualAtUptoSaid : Prop := fnExactEqualAtUptoRow.holds Try.pinned (OpenSpec.upto fnExactEqualAtSpec)

/-- 'laws.FnExactFirstDifference', WHERE WHAT IT READS IS OF BULK AT MOST 1048576: true; the input reads as it did. -/
def fnExactFirstDifferenceUptoRow : OpenClaim := { program := "ytamahlhoainocaa", sum := "dd5fa56eac4a78a05657e6777dcc1dd3a927b887086f95fa93588162477b0746", func := "loop.example/g01127/laws.FnExactFirstDifference", spec := "fnExactFirstDifference", unfollowed := true, recurses := true, apart := false, narrowed := true }
def FnExactFirstDifferenceUptoSaid : Prop := fnExactFirstDifferenceUptoRow.holds Try.pinned (OpenSpec.upto fnExactFirstDifferenceSpec)

/-- 'laws.FnExactDependsOn', WHERE WHAT IT READS IS OF BULK AT MOST 1048576: true; the input reads as it did. -/
def fnExactDependsOnUptoRow : OpenClaim := { program := "ytamahlhoainocaa", sum := "dd5fa56eac4a78a05657e6777dcc1dd3a927b887086f95fa93588162477b0746", func := "loop.example/g01127/laws.FnExactDependsOn", spec := "fnExactDependsOn", unfollowed := true, recurses := true, apart := false, narrowed := true }
def FnExactDependsOnUptoSaid : Prop := fnExactDependsOnUptoRow.holds Try.pinned (OpenSpec.upto fnExactDependsOnSpec)

/-- 'laws.FnExactAskedBits', WHERE WHAT IT READS IS OF BULK AT MOST 1048576: true; the input reads as it did. -/
def fnExactAskedBitsUptoRow : OpenClaim := { program := "ytamahlhoainocaa", sum := "dd5fa56eac4a78a05657e6777dcc1dd3a927b887086f95fa93588162477b0746", func := "loop.example/g01127/laws.FnExactAskedBits", spec := "fnExactAskedBits", apart := false, narrowed := true }
def FnExactAskedBitsUptoSaid : Prop := fnExactAskedBitsUptoRow.holds Try.pinned (OpenSpec.upto fnExactAskedBitsSpec)

/-- 'laws.FnExactRangeOf', WHERE WHAT IT READS IS OF BULK AT MOST 1048576: true; the input reads as it did. -/
def fnExactRangeOfUptoRow : OpenClaim := { program := "ytamahlhoainocaa", sum := "dd5fa56eac4a78a05657e6777dcc1dd3a927b887086f95fa93588162477b0746", func := "loop.example/g01127/laws.FnExactRangeOf", spec := "fnExactRangeOf", unfollowed := true, recurses := true, apart := false, narrowed := true }
def FnExactRangeOfUptoSaid : Prop := fnExactRangeOfUptoRow.holds Try.pinned (OpenSpec.upto fnExactRangeOfSpec)

/-- 'laws.FnExactConstantOf', WHERE WHAT IT READS IS OF BULK AT MOST 1048576: true; the input reads as it did. -/
def fnExactConstantOfUptoRow : OpenClaim := { program := "ytamahlhoainocaa", sum := "dd5fa56eac4a78a05657e6777dcc1dd3a927b887086f95fa93588162477b0746", func := "loop.example/g01127/laws.FnExactConstantOf", spec := "fnExactConstantOf", unfollowed := true, recurses := true, apart := false, narrowed := true }
def FnExactConstantOfUptoSaid : Prop := fnExactConstantOfUptoRow.holds Try.pinned (OpenSpec.upto fnExactConstantOfSpec)

/-- 'laws.FnExactDependWitness', WHERE WHAT IT READS IS OF BULK AT MOST 1048576: true; the input reads as it did. -/
def fnExactDependWitnessUptoRow : OpenClaim := { program := "ytamahlhoainocaa", sum := "dd5fa56eac4a78a05657e6777dcc1dd3a927b887086f95fa93588162477b0746", func := "loop.example/g01127/laws.FnExactDependWitness", spec := "fnExactDependWitness", unfollowed := true, recurses := true, apart := false, narrowed := true }
def FnExactDependWitnessUptoSaid : Prop := fnExactDependWitnessUptoRow.holds Try.pinned (OpenSpec.upto fnExactDependWitnessSpec)

/-- 'laws.FnExactClassesOf', WHERE WHAT IT READS IS OF BULK AT MOST 1048576: true; the input reads as it did. -/
def fnExactClassesOfUptoRow : OpenClaim := { program := "ytamahlhoainocaa", sum := "dd5fa56eac4a78a05657e6777dcc1dd3a927b887086f95fa93588162477b0746", func := "loop.example/g01127/laws.FnExactClassesOf", spec := "fnExactClassesOf", unfollowed := true, recurses := true, apart := false, narrowed := true }
def FnExactClassesOfUptoSaid : Prop := fnExactClassesOfUptoRow.holds Try.pinned (OpenSpec.upto fnExactClassesOfSpec)

/-- 'laws.FnInputsPut', WHERE WHAT IT READS IS OF BULK AT MOST 1048576: true; the input reads as it did. -/
def fnInputsPutUptoRow : OpenClaim := { program := "ytamahlhoainocaa", sum := "dd5fa56eac4a78a05657e6777dcc1dd3a927b887086f95fa93588162477b0746", func := "loop.example/g01127/laws.FnInputsPut", spec := "fnInputsPut", unfollowed := true, recurses := true, apart := false, narrowed := true }
def FnInputsPutUptoSaid : Prop := fnInputsPutUptoRow.holds Try.pinned (OpenSpec.upto fnInputsPutSpec)

/-- 'laws.FnValuesOfNodes', WHERE WHAT IT READS IS OF BULK AT MOST 1048576: true; the input reads as it did. -/
def fnValuesOfNodesUptoRow : OpenClaim := { program := "ytamahlhoainocaa", sum := "dd5fa56eac4a78a05657e6777dcc1dd3a927b887086f95fa93588162477b0746", func := "loop.example/g01127/laws.FnValuesOfNodes", spec := "fnValuesOfNodes", unfollowed := true, recurses := true, apart := false, narrowed := true }
def FnValuesOfNodesUptoSaid : Prop := fnValuesOfNodesUptoRow.holds Try.pinned (OpenSpec.upto fnValuesOfNodesSpec)

/-- 'laws.FnAskedBits', WHERE WHAT IT READS IS OF BULK AT MOST 1048576: true; the input reads as it did. -/
def fnAskedBitsUptoRow : OpenClaim := { program := "ytamahlhoainocaa", sum := "dd5fa56eac4a78a05657e6777dcc1dd3a927b887086f95fa93588162477b0746", func := "loop.example/g01127/laws.FnAskedBits", spec := "fnAskedBits", unfollowed := true, recurses := true, apart := false, narrowed := true }
def FnAskedBitsUptoSaid : Prop := fnAskedBitsUptoRow.holds Try.pinned (OpenSpec.upto fnAskedBitsSpec)

/-- 'laws.FnFoldedExpressions', WHERE WHAT IT READS IS OF BULK AT MOST 1048576: true; the input reads as it did. -/
def fnFoldedExpressionsUptoRow : OpenClaim := { program := "ytamahlhoainocaa", sum := "dd5fa56eac4a78a05657e6777dcc1dd3a927b887086f95fa93588162477b0746", func := "loop.example/g01127/laws.FnFoldedExpressions", spec := "fnFoldedExpressions", unfollowed := true, recurses := true, apart := false, narrowed := true }
def FnFoldedExpressionsUptoSaid : Prop := fnFoldedExpressionsUptoRow.holds Try.pinned (OpenSpec.upto fnFoldedExpressionsSpec)

/-- 'laws.FnSharedAndExpanded', WHERE WHAT IT READS IS OF BULK AT MOST 1048576: true; the input reads as it did. -/
def fnSharedAndExpandedUptoRow : OpenClaim := { program := "ytamahlhoainocaa", sum := "dd5fa56eac4a78a05657e6777dcc1dd3a927b887086f95fa93588162477b0746", func := "loop.example/g01127/laws.FnSharedAndExpanded", spec := "fnSharedAndExpanded", unfollowed := true, recurses := true, apart := false, narrowed := true }
def FnSharedAndExpandedUptoSaid : Prop := fnSharedAndExpandedUptoRow.holds Try.pinned (OpenSpec.upto fnSharedAndExpandedSpec)

end Rows
end Go.Proofs.Ytamahlhoainocaa
