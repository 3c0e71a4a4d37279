/-
  No cell of these rows narrows 'for every input' (looked for: loops, veiled, ifaces, maps, wideKeys, modest, calm, conditions, laid).
  DERIVED. THE GIVEN ROWS OF THIS SEAT. 21 by the template 'for every input the law returns true; each argument reads behind the call as it read before'; 0 by the template 'total and deterministic' (their statements: YtaddadknmipfeaaTotals.lean).
  GIVEN WITH THE SEED: the statements are not yours to turn. If you find one false, say at which input.
  Laid BY PROGRAM, IN A SANDBOX (cutbox-rows.mjs): the forced cells as the released guide's own fill.sh prints them over the translation 4ce4fe9a67a4df25… (all of the seat's roots in one cut). By AI agents, Wed Nov 11 2026. No macro, syntax, notation, axiom, sorry.
-/
import Derived.Test.YtaddadknmipfeaaChecked
import GoSem.Claim
import GoSem.ClaimJoined
import GoSem.ClaimMapViews
import Derived.JoinedTies
import Derived.KernelRfl
namespace Go.Proofs.Ytaddadknmipfeaa
/- THE CELL 'sum', in the pinned program and in every row, IS THE sha256 OF THE DUMP (.gsa) THAT YtaddadknmipfeaaProg.lean LOADS. Nothing in Lean hashes anything: it is a label: what it is worth is what the hold of that sum in a sandbox is worth. -/
noncomputable def Try.pinned : Pinned := { name := "ytaddadknmipfeaa", sum := "4ce4fe9a67a4df2518606050974326f4591cae1824440b932390229c510a2d60", checked := Try.checked }
namespace Rows
def none {H : Type} : Left H := { results := [], args := [] }

/-- 'laws.FnExactInputsOf': WHATEVER THE INPUT: true; the input reads as it did. -/
def fnExactInputsOfSpec : ChangeSpec := { name := "fnExactInputsOf", fn := fun _ => fun
  | [d] => { results := [.lit (.bool true)], args := [d] }
  | _ => none }
def fnExactInputsOfRow : OpenClaim := { program := "ytaddadknmipfeaa", sum := "4ce4fe9a67a4df2518606050974326f4591cae1824440b932390229c510a2d60", func := "loop.example/g01127/laws.FnExactInputsOf", spec := "fnExactInputsOf", apart := false }
def FnExactInputsOfSaid : Prop := fnExactInputsOfRow.holds Try.pinned (OpenSpec.ofChange fnExactInputsOfSpec)

/-- ITS FALSE NEIGHBOUR: 'it returns false'. Refute it at one input. -/
def fnExactInputsOfWrong : ChangeSpec := { name := "fnExactInputsOf", fn := fun _ => fun
  | [d] => { results := [.lit (.bool false)], args := [d] }
  | _ => none }
def FnExactInputsOfWrongFalsely : Prop := fnExactInputsOfRow.holds Try.pinned (OpenSpec.ofChange fnExactInputsOfWrong)

/-- 'laws.FnExactSubExpr': WHATEVER THE INPUT: true; the input reads as it did. -/
def fnExactSubExprSpec : ChangeSpec := { name := "fnExactSubExpr", fn := fun _ => fun
  | [d1, d2] => { results := [.lit (.bool true)], args := [d1, d2] }
  | _ => none }
def fnExactSubExprRow : OpenClaim := { program := "ytaddadknmipfeaa", sum := "4ce4fe9a67a4df2518606050974326f4591cae1824440b932390229c510a2d60", func := "loop.example/g01127/laws.FnExactSubExpr", spec := "fnExactSubExpr", apart := false }
def FnExactSubExprSaid : Prop := fnExactSubExprRow.holds Try.pinned (OpenSpec.ofChange fnExactSubExprSpec)

/-- ITS FALSE NEIGHBOUR: 'it returns false'. Refute it at one input. -/
def fnExactSubExprWrong : ChangeSpec := { name := "fnExactSubExpr", fn := fun _ => fun
  | [d1, d2] => { results := [.lit (.bool false)], args := [d1, d2] }
  | _ => none }
def FnExactSubExprWrongFalsely : Prop := fnExactSubExprRow.holds Try.pinned (OpenSpec.ofChange fnExactSubExprWrong)

/-- 'laws.FnExactPutInput': WHATEVER THE INPUT: true; the input reads as it did. -/
def fnExactPutInputSpec : ChangeSpec := { name := "fnExactPutInput", fn := fun _ => fun
  | [d1, d2, d3] => { results := [.lit (.bool true)], args := [d1, d2, d3] }
  | _ => none }
def fnExactPutInputRow : OpenClaim := { program := "ytaddadknmipfeaa", sum := "4ce4fe9a67a4df2518606050974326f4591cae1824440b932390229c510a2d60", func := "loop.example/g01127/laws.FnExactPutInput", spec := "fnExactPutInput", apart := false }
def FnExactPutInputSaid : Prop := fnExactPutInputRow.holds Try.pinned (OpenSpec.ofChange fnExactPutInputSpec)

/-- ITS FALSE NEIGHBOUR: 'it returns false'. Refute it at one input. -/
def fnExactPutInputWrong : ChangeSpec := { name := "fnExactPutInput", fn := fun _ => fun
  | [d1, d2, d3] => { results := [.lit (.bool false)], args := [d1, d2, d3] }
  | _ => none }
def FnExactPutInputWrongFalsely : Prop := fnExactPutInputRow.holds Try.pinned (OpenSpec.ofChange fnExactPutInputWrong)

/-- 'laws.FnExactAskedBits': WHATEVER THE INPUT: true; the input reads as it did. -/
def fnExactAskedBitsSpec : ChangeSpec := { name := "fnExactAskedBits", fn := fun _ => fun
  | [d1, d2] => { results := [.lit (.bool true)], args := [d1, d2] }
  | _ => none }
def fnExactAskedBitsRow : OpenClaim := { program := "ytaddadknmipfeaa", sum := "4ce4fe9a67a4df2518606050974326f4591cae1824440b932390229c510a2d60", func := "loop.example/g01127/laws.FnExactAskedBits", spec := "fnExactAskedBits", apart := false }
def FnExactAskedBitsSaid : Prop := fnExactAskedBitsRow.holds Try.pinned (OpenSpec.ofChange fnExactAskedBitsSpec)

/-- ITS FALSE NEIGHBOUR: 'it returns false'. Refute it at one input. -/
def fnExactAskedBitsWrong : ChangeSpec := { name := "fnExactAskedBits", fn := fun _ => fun
  | [d1, d2] => { results := [.lit (.bool false)], args := [d1, d2] }
  | _ => none }
def FnExactAskedBitsWrongFalsely : Prop := fnExactAskedBitsRow.holds Try.pinned (OpenSpec.ofChange fnExactAskedBitsWrong)

/-- 'laws.FnExactStepInstr': WHATEVER THE INPUT: true; the input reads as it did. -/
def fnExactStepInstrSpec : ChangeSpec := { name := "fnExactStepInstr", fn := fun _ => fun
  | [d1, d2] => { results := [.lit (.bool true)], args := [d1, d2] }
  | _ => none }
def fnExactStepInstrRow : OpenClaim := { program := "ytaddadknmipfeaa", sum := "4ce4fe9a67a4df2518606050974326f4591cae1824440b932390229c510a2d60", func := "loop.example/g01127/laws.FnExactStepInstr", spec := "fnExactStepInstr", unfollowed := true, recurses := true, apart := false }
def FnExactStepInstrSaid : Prop := fnExactStepInstrRow.holds Try.pinned (OpenSpec.ofChange fnExactStepInstrSpec)

/-- ITS FALSE NEIGHBOUR: 'it returns false'. Refute it at one input. -/
def fnExactStepInstrWrong : ChangeSpec := { name := "fnExactStepInstr", fn := fun _ => fun
  | [d1, d2] => { results := [.lit (.bool false)], args := [d1, d2] }
  | _ => none }
def FnExactStepInstrWrongFalsely : Prop := fnExactStepInstrRow.holds Try.pinned (OpenSpec.ofChange fnExactStepInstrWrong)

/-- 'laws.FnExactResultOf': WHATEVER THE INPUT: true; the input reads as it did. -/
def fnExactResultOfSpec : ChangeSpec := { name := "fnExactResultOf", fn := fun _ => fun
  | [d1, d2, d3, d4] => { results := [.lit (.bool true)], args := [d1, d2, d3, d4] }
  | _ => none }
def fnExactResultOfRow : OpenClaim := { program := "ytaddadknmipfeaa", sum := "4ce4fe9a67a4df2518606050974326f4591cae1824440b932390229c510a2d60", func := "loop.example/g01127/laws.FnExactResultOf", spec := "fnExactResultOf", unfollowed := true, recurses := true, apart := false }
def FnExactResultOfSaid : Prop := fnExactResultOfRow.holds Try.pinned (OpenSpec.ofChange fnExactResultOfSpec)

/-- ITS FALSE NEIGHBOUR: 'it returns false'. Refute it at one input. -/
def fnExactResultOfWrong : ChangeSpec := { name := "fnExactResultOf", fn := fun _ => fun
  | [d1, d2, d3, d4] => { results := [.lit (.bool false)], args := [d1, d2, d3, d4] }
  | _ => none }
def FnExactResultOfWrongFalsely : Prop := fnExactResultOfRow.holds Try.pinned (OpenSpec.ofChange fnExactResultOfWrong)

/-- 'laws.FnExactRunCode': WHATEVER THE INPUT: true; the input reads as it did. -/
def fnExactRunCodeSpec : ChangeSpec := { name := "fnExactRunCode", fn := fun _ => fun
  | [d1, d2] => { results := [.lit (.bool true)], args := [d1, d2] }
  | _ => none }
def fnExactRunCodeRow : OpenClaim := { program := "ytaddadknmipfeaa", sum := "4ce4fe9a67a4df2518606050974326f4591cae1824440b932390229c510a2d60", func := "loop.example/g01127/laws.FnExactRunCode", spec := "fnExactRunCode", unfollowed := true, recurses := true, apart := false }
def FnExactRunCodeSaid : Prop := fnExactRunCodeRow.holds Try.pinned (OpenSpec.ofChange fnExactRunCodeSpec)

/-- ITS FALSE NEIGHBOUR: 'it returns false'. Refute it at one input. -/
def fnExactRunCodeWrong : ChangeSpec := { name := "fnExactRunCode", fn := fun _ => fun
  | [d1, d2] => { results := [.lit (.bool false)], args := [d1, d2] }
  | _ => none }
def FnExactRunCodeWrongFalsely : Prop := fnExactRunCodeRow.holds Try.pinned (OpenSpec.ofChange fnExactRunCodeWrong)

/-- 'laws.FnExactTableOf': WHATEVER THE INPUT: true; the input reads as it did. -/
def fnExactTableOfSpec : ChangeSpec := { name := "fnExactTableOf", fn := fun _ => fun
  | [d] => { results := [.lit (.bool true)], args := [d] }
  | _ => none }
def fnExactTableOfRow : OpenClaim := { program := "ytaddadknmipfeaa", sum := "4ce4fe9a67a4df2518606050974326f4591cae1824440b932390229c510a2d60", func := "loop.example/g01127/laws.FnExactTableOf", spec := "fnExactTableOf", unfollowed := true, recurses := true, apart := false }
def FnExactTableOfSaid : Prop := fnExactTableOfRow.holds Try.pinned (OpenSpec.ofChange fnExactTableOfSpec)

/-- ITS FALSE NEIGHBOUR: 'it returns false'. Refute it at one input. -/
def fnExactTableOfWrong : ChangeSpec := { name := "fnExactTableOf", fn := fun _ => fun
  | [d] => { results := [.lit (.bool false)], args := [d] }
  | _ => none }
def FnExactTableOfWrongFalsely : Prop := fnExactTableOfRow.holds Try.pinned (OpenSpec.ofChange fnExactTableOfWrong)

/-- 'laws.FnExactIsSymmetric': WHATEVER THE INPUT: true; the input reads as it did. -/
def fnExactIsSymmetricSpec : ChangeSpec := { name := "fnExactIsSymmetric", fn := fun _ => fun
  | [d] => { results := [.lit (.bool true)], args := [d] }
  | _ => none }
def fnExactIsSymmetricRow : OpenClaim := { program := "ytaddadknmipfeaa", sum := "4ce4fe9a67a4df2518606050974326f4591cae1824440b932390229c510a2d60", func := "loop.example/g01127/laws.FnExactIsSymmetric", spec := "fnExactIsSymmetric", unfollowed := true, recurses := true, apart := false }
def FnExactIsSymmetricSaid : Prop := fnExactIsSymmetricRow.holds Try.pinned (OpenSpec.ofChange fnExactIsSymmetricSpec)

/-- ITS FALSE NEIGHBOUR: 'it returns false'. Refute it at one input. -/
def fnExactIsSymmetricWrong : ChangeSpec := { name := "fnExactIsSymmetric", fn := fun _ => fun
  | [d] => { results := [.lit (.bool false)], args := [d] }
  | _ => none }
def FnExactIsSymmetricWrongFalsely : Prop := fnExactIsSymmetricRow.holds Try.pinned (OpenSpec.ofChange fnExactIsSymmetricWrong)

/-- 'laws.FnExactKnownBits': WHATEVER THE INPUT: true; the input reads as it did. -/
def fnExactKnownBitsSpec : ChangeSpec := { name := "fnExactKnownBits", fn := fun _ => fun
  | [d] => { results := [.lit (.bool true)], args := [d] }
  | _ => none }
def fnExactKnownBitsRow : OpenClaim := { program := "ytaddadknmipfeaa", sum := "4ce4fe9a67a4df2518606050974326f4591cae1824440b932390229c510a2d60", func := "loop.example/g01127/laws.FnExactKnownBits", spec := "fnExactKnownBits", unfollowed := true, recurses := true, apart := false }
def FnExactKnownBitsSaid : Prop := fnExactKnownBitsRow.holds Try.pinned (OpenSpec.ofChange fnExactKnownBitsSpec)

/-- ITS FALSE NEIGHBOUR: 'it returns false'. Refute it at one input. -/
def fnExactKnownBitsWrong : ChangeSpec := { name := "fnExactKnownBits", fn := fun _ => fun
  | [d] => { results := [.lit (.bool false)], args := [d] }
  | _ => none }
def FnExactKnownBitsWrongFalsely : Prop := fnExactKnownBitsRow.holds Try.pinned (OpenSpec.ofChange fnExactKnownBitsWrong)

/-- 'laws.FnExactCountDifferences': WHATEVER THE INPUT: true; the input reads as it did. -/
def fnExactCountDifferencesSpec : ChangeSpec := { name := "fnExactCountDifferences", fn := fun _ => fun
  | [d1, d2] => { results := [.lit (.bool true)], args := [d1, d2] }
  | _ => none }
def fnExactCountDifferencesRow : OpenClaim := { program := "ytaddadknmipfeaa", sum := "4ce4fe9a67a4df2518606050974326f4591cae1824440b932390229c510a2d60", func := "loop.example/g01127/laws.FnExactCountDifferences", spec := "fnExactCountDifferences", unfollowed := true, recurses := true, apart := false }
def FnExactCountDifferencesSaid : Prop := fnExactCountDifferencesRow.holds Try.pinned (OpenSpec.ofChange fnExactCountDifferencesSpec)

/-- ITS FALSE NEIGHBOUR: 'it returns false'. Refute it at one input. -/
def fnExactCountDifferencesWrong : ChangeSpec := { name := "fnExactCountDifferences", fn := fun _ => fun
  | [d1, d2] => { results := [.lit (.bool false)], args := [d1, d2] }
  | _ => none }
def FnExactCountDifferencesWrongFalsely : Prop := fnExactCountDifferencesRow.holds Try.pinned (OpenSpec.ofChange fnExactCountDifferencesWrong)

/-- 'laws.FnExactDifferentBits': WHATEVER THE INPUT: true; the input reads as it did. -/
def fnExactDifferentBitsSpec : ChangeSpec := { name := "fnExactDifferentBits", fn := fun _ => fun
  | [d1, d2] => { results := [.lit (.bool true)], args := [d1, d2] }
  | _ => none }
def fnExactDifferentBitsRow : OpenClaim := { program := "ytaddadknmipfeaa", sum := "4ce4fe9a67a4df2518606050974326f4591cae1824440b932390229c510a2d60", func := "loop.example/g01127/laws.FnExactDifferentBits", spec := "fnExactDifferentBits", unfollowed := true, recurses := true, apart := false }
def FnExactDifferentBitsSaid : Prop := fnExactDifferentBitsRow.holds Try.pinned (OpenSpec.ofChange fnExactDifferentBitsSpec)

/-- ITS FALSE NEIGHBOUR: 'it returns false'. Refute it at one input. -/
def fnExactDifferentBitsWrong : ChangeSpec := { name := "fnExactDifferentBits", fn := fun _ => fun
  | [d1, d2] => { results := [.lit (.bool false)], args := [d1, d2] }
  | _ => none }
def FnExactDifferentBitsWrongFalsely : Prop := fnExactDifferentBitsRow.holds Try.pinned (OpenSpec.ofChange fnExactDifferentBitsWrong)

/-- 'laws.FnExactAreEqual': WHATEVER THE INPUT: true; the input reads as it did. -/
def fnExactAreEqualSpec : ChangeSpec := { name := "fnExactAreEqual", fn := fun _ => fun
  | [d1, d2] => { results := [.lit (.bool true)], args := [d1, d2] }
  | _ => none }
def fnExactAreEqualRow : OpenClaim := { program := "ytaddadknmipfeaa", sum := "4ce4fe9a67a4df2518606050974326f4591cae1824440b932390229c510a2d60", func := "loop.example/g01127/laws.FnExactAreEqual", spec := "fnExactAreEqual", unfollowed := true, recurses := true, apart := false }
def FnExactAreEqualSaid : Prop := fnExactAreEqualRow.holds Try.pinned (OpenSpec.ofChange fnExactAreEqualSpec)

/-- ITS FALSE NEIGHBOUR: 'it returns false'. Refute it at one input. -/
def fnExactAreEqualWrong : ChangeSpec := { name := "fnExactAreEqual", fn := fun _ => fun
  | [d1, d2] => { results := [.lit (.bool false)], args := [d1, d2] }
  | _ => none }
def FnExactAreEqualWrongFalsely : Prop := fnExactAreEqualRow.holds Try.pinned (OpenSpec.ofChange fnExactAreEqualWrong)

/-- 'laws.FnExactEqualAt': WHATEVER THE INPUT: true; the input reads as it did. -/
def fnExactEqualAtSpec : ChangeSpec := { name := "fnExactEqualAt", fn := fun _ => fun
  | [d1, d2, d3] => { results := [.lit (.bool true)], args := [d1, d2, d3] }
  | _ => none }
def fnExactEqualAtRow : OpenClaim := { program := "ytaddadknmipfeaa", sum := "4ce4fe9a67a4df2518606050974326f4591cae1824440b932390229c510a2d60", func := "loop.example/g01127/laws.FnExactEqualAt", spec := "fnExactEqualAt", unfollowed := true, recurses := true, apart := false }
def FnExactEqualAtSaid : Prop := fnExactEqualAtRow.holds Try.pinned (OpenSpec.ofChange fnExactEqualAtSpec)

/-- ITS FALSE NEIGHBOUR: 'it returns false'. Refute it at one input. -/
def fnExactEqualAtWrong : ChangeSpec := { name := "fnExactEqualAt", fn := fun _ => fun
  | [d1, d2, d3] => { results := [.lit (.bool false)], args := [d1, d2, d3] }
  | _ => none }
def FnExactEqualAtWrongFalsely : Prop := fnExactEqualAtRow.holds Try.pinned (OpenSpec.ofChange fnExactEqualAtWrong)

/-- 'laws.FnExactFirstDifference': WHATEVER THE INPUT: true; the input reads as it did. -/
def fnExactFirstDifferenceSpec : ChangeSpec := { name := "fnExactFirstDifference", fn := fun _ => fun
  | [d1, d2] => { results := [.lit (.bool true)], args := [d1, d2] }
  | _ => none }
def fnExactFirstDifferenceRow : OpenClaim := { program := "ytaddadknmipfeaa", sum := "4ce4fe9a67a4df2518606050974326f4591cae1824440b932390229c510a2d60", func := "loop.example/g01127/laws.FnExactFirstDifference", spec := "fnExactFirstDifference", unfollowed := true, recurses := true, apart := false }
def FnExactFirstDifferenceSaid : Prop := fnExactFirstDifferenceRow.holds Try.pinned (OpenSpec.ofChange fnExactFirstDifferenceSpec)

/-- ITS FALSE NEIGHBOUR: 'it returns false'. Refute it at one input. -/
def fnExactFirstDifferenceWrong : ChangeSpec := { name := "fnExactFirstDifference", fn := fun _ => fun
  | [d1, d2] => { results := [.lit (.bool false)], args := [d1, d2] }
  | _ => none }
def FnExactFirstDifferenceWrongFalsely : Prop := fnExactFirstDifferenceRow.holds Try.pinned (OpenSpec.ofChange fnExactFirstDifferenceWrong)

/-- 'laws.FnExactDependsOn': WHATEVER THE INPUT: true; the input reads as it did. -/
def fnExactDependsOnSpec : ChangeSpec := { name := "fnExactDependsOn", fn := fun _ => fun
  | [d1, d2] => { results := [.lit (.bool true)], args := [d1, d2] }
  | _ => none }
def fnExactDependsOnRow : OpenClaim := { program := "ytaddadknmipfeaa", sum := "4ce4fe9a67a4df2518606050974326f4591cae1824440b932390229c510a2d60", func := "loop.example/g01127/laws.FnExactDependsOn", spec := "fnExactDependsOn", unfollowed := true, recurses := true, apart := false }
def FnExactDependsOnSaid : Prop := fnExactDependsOnRow.holds Try.pinned (OpenSpec.ofChange fnExactDependsOnSpec)

/-- ITS FALSE NEIGHBOUR: 'it returns false'. Refute it at one input. -/
def fnExactDependsOnWrong : ChangeSpec := { name := "fnExactDependsOn", fn := fun _ => fun
  | [d1, d2] => { results := [.lit (.bool false)], args := [d1, d2] }
  | _ => none }
def FnExactDependsOnWrongFalsely : Prop := fnExactDependsOnRow.holds Try.pinned (OpenSpec.ofChange fnExactDependsOnWrong)

/-- 'laws.FnExactDependWitness': WHATEVER THE INPUT: true; the input reads as it did. -/
def fnExactDependWitnessSpec : ChangeSpec := { name := "fnExactDependWitness", fn := fun _ => fun
  | [d1, d2] => { results := [.lit (.bool true)], args := [d1, d2] }
  | _ => none }
def fnExactDependWitnessRow : OpenClaim := { program := "ytaddadknmipfeaa", sum := "4ce4fe9a67a4df2518606050974326f4591cae1824440b932390229c510a2d60", func := "loop.example/g01127/laws.FnExactDependWitness", spec := "fnExactDependWitness", unfollowed := true, recurses := true, apart := false }
def FnExactDependWitnessSaid : Prop := fnExactDependWitnessRow.holds Try.pinned (OpenSpec.ofChange fnExactDependWitnessSpec)

/-- ITS FALSE NEIGHBOUR: 'it returns false'. Refute it at one input. -/
def fnExactDependWitnessWrong : ChangeSpec := { name := "fnExactDependWitness", fn := fun _ => fun
  | [d1, d2] => { results := [.lit (.bool false)], args := [d1, d2] }
  | _ => none }
def FnExactDependWitnessWrongFalsely : Prop := fnExactDependWitnessRow.holds Try.pinned (OpenSpec.ofChange fnExactDependWitnessWrong)

/-- 'laws.FnExactRangeOf': WHATEVER THE INPUT: true; the input reads as it did. -/
def fnExactRangeOfSpec : ChangeSpec := { name := "fnExactRangeOf", fn := fun _ => fun
  | [d] => { results := [.lit (.bool true)], args := [d] }
  | _ => none }
def fnExactRangeOfRow : OpenClaim := { program := "ytaddadknmipfeaa", sum := "4ce4fe9a67a4df2518606050974326f4591cae1824440b932390229c510a2d60", func := "loop.example/g01127/laws.FnExactRangeOf", spec := "fnExactRangeOf", unfollowed := true, recurses := true, apart := false }
def FnExactRangeOfSaid : Prop := fnExactRangeOfRow.holds Try.pinned (OpenSpec.ofChange fnExactRangeOfSpec)

/-- ITS FALSE NEIGHBOUR: 'it returns false'. Refute it at one input. -/
def fnExactRangeOfWrong : ChangeSpec := { name := "fnExactRangeOf", fn := fun _ => fun
  | [d] => { results := [.lit (.bool false)], args := [d] }
  | _ => none }
def FnExactRangeOfWrongFalsely : Prop := fnExactRangeOfRow.holds Try.pinned (OpenSpec.ofChange fnExactRangeOfWrong)

/-- 'laws.FnExactConstantOf': WHATEVER THE INPUT: true; the input reads as it did. -/
def fnExactConstantOfSpec : ChangeSpec := { name := "fnExactConstantOf", fn := fun _ => fun
  | [d] => { results := [.lit (.bool true)], args := [d] }
  | _ => none }
def fnExactConstantOfRow : OpenClaim := { program := "ytaddadknmipfeaa", sum := "4ce4fe9a67a4df2518606050974326f4591cae1824440b932390229c510a2d60", func := "loop.example/g01127/laws.FnExactConstantOf", spec := "fnExactConstantOf", unfollowed := true, recurses := true, apart := false }
def FnExactConstantOfSaid : Prop := fnExactConstantOfRow.holds Try.pinned (OpenSpec.ofChange fnExactConstantOfSpec)

/-- ITS FALSE NEIGHBOUR: 'it returns false'. Refute it at one input. -/
def fnExactConstantOfWrong : ChangeSpec := { name := "fnExactConstantOf", fn := fun _ => fun
  | [d] => { results := [.lit (.bool false)], args := [d] }
  | _ => none }
def FnExactConstantOfWrongFalsely : Prop := fnExactConstantOfRow.holds Try.pinned (OpenSpec.ofChange fnExactConstantOfWrong)

/-- 'laws.FnExactJoinCode': WHATEVER THE INPUT: true; the input reads as it did. -/
def fnExactJoinCodeSpec : ChangeSpec := { name := "fnExactJoinCode", fn := fun _ => fun
  | [d1, d2] => { results := [.lit (.bool true)], args := [d1, d2] }
  | _ => none }
def fnExactJoinCodeRow : OpenClaim := { program := "ytaddadknmipfeaa", sum := "4ce4fe9a67a4df2518606050974326f4591cae1824440b932390229c510a2d60", func := "loop.example/g01127/laws.FnExactJoinCode", spec := "fnExactJoinCode", unfollowed := true, recurses := true, apart := false }
def FnExactJoinCodeSaid : Prop := fnExactJoinCodeRow.holds Try.pinned (OpenSpec.ofChange fnExactJoinCodeSpec)

/-- ITS FALSE NEIGHBOUR: 'it returns false'. Refute it at one input. -/
def fnExactJoinCodeWrong : ChangeSpec := { name := "fnExactJoinCode", fn := fun _ => fun
  | [d1, d2] => { results := [.lit (.bool false)], args := [d1, d2] }
  | _ => none }
def FnExactJoinCodeWrongFalsely : Prop := fnExactJoinCodeRow.holds Try.pinned (OpenSpec.ofChange fnExactJoinCodeWrong)

/-- 'laws.FnExactTraceOf': WHATEVER THE INPUT: true; the input reads as it did. -/
def fnExactTraceOfSpec : ChangeSpec := { name := "fnExactTraceOf", fn := fun _ => fun
  | [d1, d2] => { results := [.lit (.bool true)], args := [d1, d2] }
  | _ => none }
def fnExactTraceOfRow : OpenClaim := { program := "ytaddadknmipfeaa", sum := "4ce4fe9a67a4df2518606050974326f4591cae1824440b932390229c510a2d60", func := "loop.example/g01127/laws.FnExactTraceOf", spec := "fnExactTraceOf", unfollowed := true, recurses := true, apart := false }
def FnExactTraceOfSaid : Prop := fnExactTraceOfRow.holds Try.pinned (OpenSpec.ofChange fnExactTraceOfSpec)

/-- ITS FALSE NEIGHBOUR: 'it returns false'. Refute it at one input. -/
def fnExactTraceOfWrong : ChangeSpec := { name := "fnExactTraceOf", fn := fun _ => fun
  | [d1, d2] => { results := [.lit (.bool false)], args := [d1, d2] }
  | _ => none }
def FnExactTraceOfWrongFalsely : Prop := fnExactTraceOfRow.holds Try.pinned (OpenSpec.ofChange fnExactTraceOfWrong)

/- THE SECOND FORM. 'bulk': how many values and letters a reading holds, each counted each time it is reached (what is shared counts as often as it is met; a slice's spare places count too). A statement '..UptoSaid' is the law's where the arguments, and the package variables that the reading takes, are together of bulk at most 1048576: NARROWER than '..Said'. Prove '..Said' where nothing that the law and all that it calls make is longer than what came in: it says more and counts as full. Else prove '..UptoSaid'. A law counts once. -/
mutual
def uptoBulk {H : Type} : DataW H → Nat
  | .lit (.string bytes) => bytes.length + 1
  | .lit _ => 1
  | .nil => 1
  | .ptr d => uptoBulk d + 1
  | .slice elems spare => uptoBulkAll elems + uptoBulkAll spare + 1
  | .agg parts => uptoBulkAll parts + 1
  | .iface _ d => uptoBulk d + 1
  | .map entries => uptoBulkEntries entries + 1
  | .held _ => 1
def uptoBulkAll {H : Type} : List (DataW H) → Nat
  | [] => 0
  | d :: r => uptoBulk d + uptoBulkAll r
def uptoBulkEntries {H : Type} : List (Lit × DataW H) → Nat
  | [] => 0
  | x :: r => uptoBulkEntry x + uptoBulkEntries r
def uptoBulkEntry {H : Type} : Lit × DataW H → Nat
  | (.string bytes, d) => bytes.length + uptoBulk d + 1
  | (_, d) => uptoBulk d + 1
 end
def uptoSmall : (H : Type) → List (DataW H) → Bool := fun _ ds => decide (uptoBulkAll ds ≤ 1048576)
def OpenSpec.upto (s : _root_.Go.ChangeSpec) : _root_.Go.OpenSpec := { _root_.Go.OpenSpec.ofChange s with cond := some uptoSmall }

/-- 'laws.FnExactInputsOf', WHERE WHAT IT READS IS OF BULK AT MOST 1048576: true; the input reads as it did. -/
def fnExactInputsOfUptoRow : OpenClaim := { program := "ytaddadknmipfeaa", sum := "4ce4fe9a67a4df2518606050974326f4591cae1824440b932390229c510a2d60", func := "loop.example/g01127/laws.FnExactInputsOf", spec := "fnExactInputsOf", apart := false, narrowed := true }
def FnExactInputsOfUptoSaid : Prop := fnExactInputsOfUptoRow.holds Try.pinned (OpenSpec.upto fnExactInputsOfSpec)

/-- 'laws.FnExactSubExpr', WHERE WHAT IT READS IS OF BULK AT MOST 1048576: true; the input reads as it did. -/
def fnExactSubExprUptoRow : OpenClaim := { program := "ytaddadknmipfeaa", sum := "4ce4fe9a67a4df2518606050974326f4591cae1824440b932390229c510a2d60", func := "loop.example/g01127/laws.FnExactSubExpr", spec := "fnExactSubExpr", apart := false, narrowed := true }
def FnExactSubExprUptoSaid : Prop := fnExactSubExprUptoRow.holds Try.pinned (OpenSpec.upto fnExactSubExprSpec)

/-- 'laws.FnExactPutInput', WHERE WHAT IT READS IS OF BULK AT MOST 1048576: true; the input reads as it did. -/
def fnExactPutInputUptoRow : OpenClaim := { program := "ytaddadknmipfeaa", sum := "4ce4fe9a67a4df2518606050974326f4591cae1824440b932390229c510a2d60", func := "loop.example/g01127/laws.FnExactPutInput", spec := "fnExactPutInput", apart := false, narrowed := true }
def FnExactPutInputUptoSaid : Prop := fnExactPutInputUptoRow.holds Try.pinned (OpenSpec.upto fnExactPutInputSpec)

/-- 'laws.FnExactAskedBits', WHERE WHAT IT READS IS OF BULK AT MOST 1048576: true; the input reads as it did. -/
def fnExactAskedBitsUptoRow : OpenClaim := { program := "ytaddadknmipfeaa", sum := "4ce4fe9a67a4df2518606050974326f4591cae1824440b932390229c510a2d60", func := "loop.example/g01127/laws.FnExactAskedBits", spec := "fnExactAskedBits", apart := false, narrowed := true }
def FnExactAskedBitsUptoSaid : Prop := fnExactAskedBitsUptoRow.holds Try.pinned (OpenSpec.upto fnExactAskedBitsSpec)

/-- 'laws.FnExactStepInstr', WHERE WHAT IT READS IS OF BULK AT MOST 1048576: true; the input reads as it did. -/
def fnExactStepInstrUptoRow : OpenClaim := { program := "ytaddadknmipfeaa", sum := "4ce4fe9a67a4df2518606050974326f4591cae1824440b932390229c510a2d60", func := "loop.example/g01127/laws.FnExactStepInstr", spec := "fnExactStepInstr", unfollowed := true, recurses := true, apart := false, narrowed := true }
def FnExactStepInstrUptoSaid : Prop := fnExactStepInstrUptoRow.holds Try.pinned (OpenSpec.upto fnExactStepInstrSpec)

/-- 'laws.FnExactResultOf', WHERE WHAT IT READS IS OF BULK AT MOST 1048576: true; the input reads as it did. -/
def fnExactResultOfUptoRow : OpenClaim := { program := "ytaddadknmipfeaa", sum := "4ce4fe9a67a4df2518606050974326f4591cae1824440b932390229c510a2d60", func := "loop.example/g01127/laws.FnExactResultOf", spec := "fnExactResultOf", unfollowed := true, recurses := true, apart := false, narrowed := true }
def FnExactResultOfUptoSaid : Prop := fnExactResultOfUptoRow.holds Try.pinned (OpenSpec.upto fnExactResultOfSpec)

/-- 'laws.FnExactRunCode', WHERE WHAT IT READS IS OF BULK AT MOST 1048576: true; the input reads as it did. -/
def fnExactRunCodeUptoRow : OpenClaim := { program := "ytaddadknmipfeaa", sum := "4ce4fe9a67a4df2518606050974326f4591cae1824440b932390229c510a2d60", func := "loop.example/g01127/laws.FnExactRunCode", spec := "fnExactRunCode", unfollowed := true, recurses := true, apart := false, narrowed := true }
def FnExactRunCodeUptoSaid : Prop := fnExactRunCodeUptoRow.holds Try.pinned (OpenSpec.upto fnExactRunCodeSpec)

/-- 'laws.FnExactTableOf', WHERE WHAT IT READS IS OF BULK AT MOST 1048576: true; the input reads as it did. -/
def fnExactTableOfUptoRow : OpenClaim := { program := "ytaddadknmipfeaa", sum := "4ce4fe9a67a4df2518606050974326f4591cae1824440b932390229c510a2d60", func := "loop.example/g01127/laws.FnExactTableOf", spec := "fnExactTableOf", unfollowed := true, recurses := true, apart := false, narrowed := true }
def FnExactTableOfUptoSaid : Prop := fnExactTableOfUptoRow.holds Try.pinned (OpenSpec.upto fnExactTableOfSpec)

/-- 'laws.FnExactIsSymmetric', WHERE WHAT IT READS IS OF BULK AT MOST 1048576: true; the input reads as it did. -/
def fnExactIsSymmetricUptoRow : OpenClaim := { program := "ytaddadknmipfeaa", sum := "4ce4fe9a67a4df2518606050974326f4591cae1824440b932390229c510a2d60", func := "loop.example/g01127/laws.FnExactIsSymmetric", spec := "fnExactIsSymmetric", unfollowed := true, recurses := true, apart := false, narrowed := true }
def FnExactIsSymmetricUptoSaid : Prop := fnExactIsSymmetricUptoRow.holds Try.pinned (OpenSpec.upto fnExactIsSymmetricSpec)

/-- 'laws.FnExactKnownBits', WHERE WHAT IT READS IS OF BULK AT MOST 1048576: true; the input reads as it did. -/
def fnExactKnownBitsUptoRow : OpenClaim := { program := "ytaddadknmipfeaa", sum := "4ce4fe9a67a4df2518606050974326f4591cae1824440b932390229c510a2d60", func := "loop.example/g01127/laws.FnExactKnownBits", spec := "fnExactKnownBits", unfollowed := true, recurses := true, apart := false, narrowed := true }
def FnExactKnownBitsUptoSaid : Prop := fnExactKnownBitsUptoRow.holds Try.pinned (OpenSpec.upto fnExactKnownBitsSpec)

/-- 'laws.FnExactCountDifferences', WHERE WHAT IT READS IS OF BULK AT MOST 1048576: true; the input reads as it did. -/
def fnExactCountDifferencesUptoRow : OpenClaim := { program := "ytaddadknmipfeaa", sum := "4ce4fe9a67a4df2518606050974326f4591cae1824440b932390229c510a2d60", func := "loop.example/g01127/laws.FnExactCountDifferences", spec := "fnExactCountDifferences", unfollowed := true, recurses := true, apart := false, narrowed := true }
def FnExactCountDifferencesUptoSaid : Prop := fnExactCountDifferencesUptoRow.holds Try.pinned (OpenSpec.upto fnExactCountDifferencesSpec)

/-- 'laws.FnExactDifferentBits', WHERE WHAT IT READS IS OF BULK AT MOST 1048576: true; the input reads as it did. -/
def fnExactDifferentBitsUptoRow : OpenClaim := { program := "ytaddadknmipfeaa", sum := "4ce4fe9a67a4df2518606050974326f4591cae1824440b932390229c510a2d60", func := "loop.example/g01127/laws.FnExactDifferentBits", spec := "fnExactDifferentBits", unfollowed := true, recurses := true, apart := false, narrowed := true }
def FnExactDifferentBitsUptoSaid : Prop := fnExactDifferentBitsUptoRow.holds Try.pinned (OpenSpec.upto fnExactDifferentBitsSpec)

/-- 'laws.FnExactAreEqual', WHERE WHAT IT READS IS OF BULK AT MOST 1048576: true; the input reads as it did. -/
def fnExactAreEqualUptoRow : OpenClaim := { program := "ytaddadknmipfeaa", sum := "4ce4fe9a67a4df2518606050974326f4591cae1824440b932390229c510a2d60", func := "loop.example/g01127/laws.FnExactAreEqual", spec := "fnExactAreEqual", unfollowed := true, recurses := true, apart := false, narrowed := true }
def FnExactAreEqualUptoSaid : Prop := fnExactAreEqualUptoRow.holds Try.pinned (OpenSpec.upto fnExactAreEqualSpec)

/-- 'laws.FnExactEqualAt', WHERE WHAT IT READS IS OF BULK AT MOST 1048576: true; the input reads as it did. -/
def fnExactEqualAtUptoRow : OpenClaim := { program := "ytaddadknmipfeaa", sum := "4ce4fe9a67a4df2518606050974326f4591cae1824440b932390229c510a2d60", func := "loop.example/g01127/laws.FnExactEqualAt", spec := "fnExactEqualAt", unfollowed := true, recurses := true, apart := false, narrowed := true }
def FnExactEqualAtUptoSaid : Prop := fnExactEqualAtUptoRow.holds Try.pinned (OpenSpec.upto fnExactEqualAtSpec)

/-- 'laws.FnExactFirstDifference', WHERE WHAT IT READS IS OF BULK AT MOST 1048576: true; the input reads as it did. -/
def fnExactFirstDifferenceUptoRow : OpenClaim := { program := "ytaddadknmipfeaa", sum := "4ce4fe9a67a4df2518606050974326f4591cae1824440b932390229c510a2d60", func := "loop.example/g01127/laws.FnExactFirstDifference", spec := "fnExactFirstDifference", unfollowed := true, recurses := true, apart := false, narrowed := true }
def FnExactFirstDifferenceUptoSaid : Prop := fnExactFirstDifferenceUptoRow.holds Try.pinned (OpenSpec.upto fnExactFirstDifferenceSpec)

/-- 'laws.FnExactDependsOn', WHERE WHAT IT READS IS OF BULK AT MOST 1048576: true; the input reads as it did. -/
def fnExactDependsOnUptoRow : OpenClaim := { program := "ytaddadknmipfeaa", sum := "4ce4fe9a67a4df2518606050974326f4591cae1824440b932390229c510a2d60", func := "loop.example/g01127/laws.FnExactDependsOn", spec := "fnExactDependsOn", unfollowed := true, recurses := true, apart := false, narrowed := true }
def FnExactDependsOnUptoSaid : Prop := fnExactDependsOnUptoRow.holds Try.pinned (OpenSpec.upto fnExactDependsOnSpec)

/-- 'laws.FnExactDependWitness', WHERE WHAT IT READS IS OF BULK AT MOST 1048576: true; the input reads as it did. -/
def fnExactDependWitnessUptoRow : OpenClaim := { program := "ytaddadknmipfeaa", sum := "4ce4fe9a67a4df2518606050974326f4591cae1824440b932390229c510a2d60", func := "loop.example/g01127/laws.FnExactDependWitness", spec := "fnExactDependWitness", unfollowed := true, recurses := true, apart := false, narrowed := true }
def FnExactDependWitnessUptoSaid : Prop := fnExactDependWitnessUptoRow.holds Try.pinned (OpenSpec.upto fnExactDependWitnessSpec)

/-- 'laws.FnExactRangeOf', WHERE WHAT IT READS IS OF BULK AT MOST 1048576: true; the input reads as it did. -/
def fnExactRangeOfUptoRow : OpenClaim := { program := "ytaddadknmipfeaa", sum := "4ce4fe9a67a4df2518606050974326f4591cae1824440b932390229c510a2d60", func := "loop.example/g01127/laws.FnExactRangeOf", spec := "fnExactRangeOf", unfollowed := true, recurses := true, apart := false, narrowed := true }
def FnExactRangeOfUptoSaid : Prop := fnExactRangeOfUptoRow.holds Try.pinned (OpenSpec.upto fnExactRangeOfSpec)

/-- 'laws.FnExactConstantOf', WHERE WHAT IT READS IS OF BULK AT MOST 1048576: true; the input reads as it did. -/
def fnExactConstantOfUptoRow : OpenClaim := { program := "ytaddadknmipfeaa", sum := "4ce4fe9a67a4df2518606050974326f4591cae1824440b932390229c510a2d60", func := "loop.example/g01127/laws.FnExactConstantOf", spec := "fnExactConstantOf", unfollowed := true, recurses := true, apart := false, narrowed := true }
def FnExactConstantOfUptoSaid : Prop := fnExactConstantOfUptoRow.holds Try.pinned (OpenSpec.upto fnExactConstantOfSpec)

/-- 'laws.FnExactJoinCode', WHERE WHAT IT READS IS OF BULK AT MOST 1048576: true; the input reads as it did. -/
def fnExactJoinCodeUptoRow : OpenClaim := { program := "ytaddadknmipfeaa", sum := "4ce4fe9a67a4df2518606050974326f4591cae1824440b932390229c510a2d60", func := "loop.example/g01127/laws.FnExactJoinCode", spec := "fnExactJoinCode", unfollowed := true, recurses := true, apart := false, narrowed := true }
def FnExactJoinCodeUptoSaid : Prop := fnExactJoinCodeUptoRow.holds Try.pinned (OpenSpec.upto fnExactJoinCodeSpec)

/-- 'laws.FnExactTraceOf', WHERE WHAT IT READS IS OF BULK AT MOST 1048576: true; the input reads as it did. -/
def fnExactTraceOfUptoRow : OpenClaim := { program := "ytaddadknmipfeaa", sum := "4ce4fe9a67a4df2518606050974326f4591cae1824440b932390229c510a2d60", func := "loop.example/g01127/laws.FnExactTraceOf", spec := "fnExactTraceOf", unfollowed := true, recurses := true, apart := false, narrowed := true }
def FnExactTraceOfUptoSaid : Prop := fnExactTraceOfUptoRow.holds Try.pinned (OpenSpec.upto fnExactTraceOfSpec)

end Rows
end Go.Proofs.Ytaddadknmipfeaa
