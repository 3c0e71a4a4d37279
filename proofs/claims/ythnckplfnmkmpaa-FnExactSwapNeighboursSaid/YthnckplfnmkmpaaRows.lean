/-
  No cell of these rows narrows 'for every input' (looked for: loops, veiled, ifaces, maps, wideKeys, modest, calm, conditions, laid).
  DERIVED. THE GIVEN ROWS OF THIS SEAT. 6 by the template 'for every input the law returns true; each argument reads behind the call as it read before'; 0 by the template 'total and deterministic' (their statements: YthnckplfnmkmpaaTotals.lean).
  GIVEN WITH THE SEED: the statements are not yours to turn. If you find one false, say at which input.
  Laid BY PROGRAM, IN A SANDBOX (cutbox-rows.mjs): the forced cells as the released guide's own fill.sh prints them over the translation 4ee305e0f80b4886… (all of the seat's roots in one cut). By AI agents, Wed Nov 11 2026. No macro, syntax, notation, axiom, sorry.
-/
import Derived.Test.YthnckplfnmkmpaaChecked
import GoSem.Claim
import GoSem.ClaimJoined
import GoSem.ClaimMapViews
import Derived.JoinedTies
import Derived.KernelRfl
namespace Go.Proofs.Ythnckplfnmkmpaa
/- THE CELL 'sum', in the pinned program and in every row, IS THE sha256 OF THE DUMP (.gsa) THAT YthnckplfnmkmpaaProg.lean LOADS. Nothing in Lean hashes anything: it is a label: what it is worth is what the hold of that sum in a sandbox is worth. -/
noncomputable def Try.pinned : Pinned := { name := "ythnckplfnmkmpaa", sum := "4ee305e0f80b4886af7e9243b26f7702071c6949feeb838473848e63ac259216", checked := Try.checked }
namespace Rows
def none {H : Type} : Left H := { results := [], args := [] }

/-- 'laws.FnExactFoldExpr': WHATEVER THE INPUT: true; the input reads as it did. -/
def fnExactFoldExprSpec : ChangeSpec := { name := "fnExactFoldExpr", fn := fun _ => fun
  | [d] => { results := [.lit (.bool true)], args := [d] }
  | _ => none }
def fnExactFoldExprRow : OpenClaim := { program := "ythnckplfnmkmpaa", sum := "4ee305e0f80b4886af7e9243b26f7702071c6949feeb838473848e63ac259216", func := "loop.example/g01127/laws.FnExactFoldExpr", spec := "fnExactFoldExpr", apart := false }
def FnExactFoldExprSaid : Prop := fnExactFoldExprRow.holds Try.pinned (OpenSpec.ofChange fnExactFoldExprSpec)

/-- ITS FALSE NEIGHBOUR: 'it returns false'. Refute it at one input. -/
def fnExactFoldExprWrong : ChangeSpec := { name := "fnExactFoldExpr", fn := fun _ => fun
  | [d] => { results := [.lit (.bool false)], args := [d] }
  | _ => none }
def FnExactFoldExprWrongFalsely : Prop := fnExactFoldExprRow.holds Try.pinned (OpenSpec.ofChange fnExactFoldExprWrong)

/-- 'laws.FnExactReadsOf': WHATEVER THE INPUT: true; the input reads as it did. -/
def fnExactReadsOfSpec : ChangeSpec := { name := "fnExactReadsOf", fn := fun _ => fun
  | [d] => { results := [.lit (.bool true)], args := [d] }
  | _ => none }
def fnExactReadsOfRow : OpenClaim := { program := "ythnckplfnmkmpaa", sum := "4ee305e0f80b4886af7e9243b26f7702071c6949feeb838473848e63ac259216", func := "loop.example/g01127/laws.FnExactReadsOf", spec := "fnExactReadsOf", recurses := true, apart := false }
def FnExactReadsOfSaid : Prop := fnExactReadsOfRow.holds Try.pinned (OpenSpec.ofChange fnExactReadsOfSpec)

/-- ITS FALSE NEIGHBOUR: 'it returns false'. Refute it at one input. -/
def fnExactReadsOfWrong : ChangeSpec := { name := "fnExactReadsOf", fn := fun _ => fun
  | [d] => { results := [.lit (.bool false)], args := [d] }
  | _ => none }
def FnExactReadsOfWrongFalsely : Prop := fnExactReadsOfRow.holds Try.pinned (OpenSpec.ofChange fnExactReadsOfWrong)

/-- 'laws.FnExactAreIndependent': WHATEVER THE INPUT: true; the input reads as it did. -/
def fnExactAreIndependentSpec : ChangeSpec := { name := "fnExactAreIndependent", fn := fun _ => fun
  | [d1, d2] => { results := [.lit (.bool true)], args := [d1, d2] }
  | _ => none }
def fnExactAreIndependentRow : OpenClaim := { program := "ythnckplfnmkmpaa", sum := "4ee305e0f80b4886af7e9243b26f7702071c6949feeb838473848e63ac259216", func := "loop.example/g01127/laws.FnExactAreIndependent", spec := "fnExactAreIndependent", recurses := true, apart := false }
def FnExactAreIndependentSaid : Prop := fnExactAreIndependentRow.holds Try.pinned (OpenSpec.ofChange fnExactAreIndependentSpec)

/-- ITS FALSE NEIGHBOUR: 'it returns false'. Refute it at one input. -/
def fnExactAreIndependentWrong : ChangeSpec := { name := "fnExactAreIndependent", fn := fun _ => fun
  | [d1, d2] => { results := [.lit (.bool false)], args := [d1, d2] }
  | _ => none }
def FnExactAreIndependentWrongFalsely : Prop := fnExactAreIndependentRow.holds Try.pinned (OpenSpec.ofChange fnExactAreIndependentWrong)

/-- 'laws.FnExactSwapNeighbours': WHATEVER THE INPUT: true; the input reads as it did. -/
def fnExactSwapNeighboursSpec : ChangeSpec := { name := "fnExactSwapNeighbours", fn := fun _ => fun
  | [d1, d2] => { results := [.lit (.bool true)], args := [d1, d2] }
  | _ => none }
def fnExactSwapNeighboursRow : OpenClaim := { program := "ythnckplfnmkmpaa", sum := "4ee305e0f80b4886af7e9243b26f7702071c6949feeb838473848e63ac259216", func := "loop.example/g01127/laws.FnExactSwapNeighbours", spec := "fnExactSwapNeighbours", unfollowed := true, recurses := true, apart := false }
def FnExactSwapNeighboursSaid : Prop := fnExactSwapNeighboursRow.holds Try.pinned (OpenSpec.ofChange fnExactSwapNeighboursSpec)

/-- ITS FALSE NEIGHBOUR: 'it returns false'. Refute it at one input. -/
def fnExactSwapNeighboursWrong : ChangeSpec := { name := "fnExactSwapNeighbours", fn := fun _ => fun
  | [d1, d2] => { results := [.lit (.bool false)], args := [d1, d2] }
  | _ => none }
def FnExactSwapNeighboursWrongFalsely : Prop := fnExactSwapNeighboursRow.holds Try.pinned (OpenSpec.ofChange fnExactSwapNeighboursWrong)

/-- 'laws.FnExactRenameCode': WHATEVER THE INPUT: true; the input reads as it did. -/
def fnExactRenameCodeSpec : ChangeSpec := { name := "fnExactRenameCode", fn := fun _ => fun
  | [d1, d2] => { results := [.lit (.bool true)], args := [d1, d2] }
  | _ => none }
def fnExactRenameCodeRow : OpenClaim := { program := "ythnckplfnmkmpaa", sum := "4ee305e0f80b4886af7e9243b26f7702071c6949feeb838473848e63ac259216", func := "loop.example/g01127/laws.FnExactRenameCode", spec := "fnExactRenameCode", unfollowed := true, recurses := true, apart := false }
def FnExactRenameCodeSaid : Prop := fnExactRenameCodeRow.holds Try.pinned (OpenSpec.ofChange fnExactRenameCodeSpec)

/-- ITS FALSE NEIGHBOUR: 'it returns false'. Refute it at one input. -/
def fnExactRenameCodeWrong : ChangeSpec := { name := "fnExactRenameCode", fn := fun _ => fun
  | [d1, d2] => { results := [.lit (.bool false)], args := [d1, d2] }
  | _ => none }
def FnExactRenameCodeWrongFalsely : Prop := fnExactRenameCodeRow.holds Try.pinned (OpenSpec.ofChange fnExactRenameCodeWrong)

/-- 'laws.FnExactClassesOf': WHATEVER THE INPUT: true; the input reads as it did. -/
def fnExactClassesOfSpec : ChangeSpec := { name := "fnExactClassesOf", fn := fun _ => fun
  | [d] => { results := [.lit (.bool true)], args := [d] }
  | _ => none }
def fnExactClassesOfRow : OpenClaim := { program := "ythnckplfnmkmpaa", sum := "4ee305e0f80b4886af7e9243b26f7702071c6949feeb838473848e63ac259216", func := "loop.example/g01127/laws.FnExactClassesOf", spec := "fnExactClassesOf", unfollowed := true, recurses := true, apart := false }
def FnExactClassesOfSaid : Prop := fnExactClassesOfRow.holds Try.pinned (OpenSpec.ofChange fnExactClassesOfSpec)

/-- ITS FALSE NEIGHBOUR: 'it returns false'. Refute it at one input. -/
def fnExactClassesOfWrong : ChangeSpec := { name := "fnExactClassesOf", fn := fun _ => fun
  | [d] => { results := [.lit (.bool false)], args := [d] }
  | _ => none }
def FnExactClassesOfWrongFalsely : Prop := fnExactClassesOfRow.holds Try.pinned (OpenSpec.ofChange fnExactClassesOfWrong)

/- THE SECOND FORM. 'bulk': how many values and letters a reading holds, each counted each time it is reached (what is shared counts as often as it is met; a slice's spare places count too). A statement '..UptoSaid' is the law's where the arguments, and the package variables that the reading takes, are together of bulk at most 1048576: NARROWER than '..Said'. Prove '..Said' where nothing that the law and all that it calls make is longer than what came in: it says more and counts as full. Else prove '..UptoSaid'. A law counts once. -/
mutual
def uptoBulk {H : Type} : DataW H → Nat
  | .lit (.string bytes) => bytes.length + 1
  | .lit _ => 1
  | .nil => 1
  | .ptr d => uptoBulk d + 1
  | .slice elems spare => uptoBulkAll elems + uptoBulkAll spare + 1
  | .agg parts => uptoBulkAll parts + 1
  | .iface _ d => uptoBulk d + 1
  | .map entries => uptoBulkEntries entries + 1
  | .held _ => 1
def uptoBulkAll {H : Type} : List (DataW H) → Nat
  | [] => 0
  | d :: r => uptoBulk d + uptoBulkAll r
def uptoBulkEntries {H : Type} : List (Lit × DataW H) → Nat
  | [] => 0
  | x :: r => uptoBulkEntry x + uptoBulkEntries r
def uptoBulkEntry {H : Type} : Lit × DataW H → Nat
  | (.string bytes, d) => bytes.length + uptoBulk d + 1
  | (_, d) => uptoBulk d + 1
 end
def uptoSmall : (H : Type) → List (DataW H) → Bool := fun _ ds => decide (uptoBulkAll ds ≤ 1048576)
def OpenSpec.upto (s : _root_.Go.ChangeSpec) : _root_.Go.OpenSpec := { _root_.Go.OpenSpec.ofChange s with cond := some uptoSmall }

/-- 'laws.FnExactFoldExpr', WHERE WHAT IT READS IS OF BULK AT MOST 1048576: true; the input reads as it did. -/
def fnExactFoldExprUptoRow : OpenClaim := { program := "ythnckplfnmkmpaa", sum := "4ee305e0f80b4886af7e9243b26f7702071c6949feeb838473848e63ac259216", func := "loop.example/g01127/laws.FnExactFoldExpr", spec := "fnExactFoldExpr", apart := false, narrowed := true }
def FnExactFoldExprUptoSaid : Prop := fnExactFoldExprUptoRow.holds Try.pinned (OpenSpec.upto fnExactFoldExprSpec)

/-- 'laws.FnExactReadsOf', WHERE WHAT IT READS IS OF BULK AT MOST 1048576: true; the input reads as it did. -/
def fnExactReadsOfUptoRow : OpenClaim := { program := "ythnckplfnmkmpaa", sum := "4ee305e0f80b4886af7e9243b26f7702071c6949feeb838473848e63ac259216", func := "loop.example/g01127/laws.FnExactReadsOf", spec := "fnExactReadsOf", recurses := true, apart := false, narrowed := true }
def FnExactReadsOfUptoSaid : Prop := fnExactReadsOfUptoRow.holds Try.pinned (OpenSpec.upto fnExactReadsOfSpec)

/-- 'laws.FnExactAreIndependent', WHERE WHAT IT READS IS OF BULK AT MOST 1048576: true; the input reads as it did. -/
def fnExactAreIndependentUptoRow : OpenClaim := { program := "ythnckplfnmkmpaa", sum := "4ee305e0f80b4886af7e9243b26f7702071c6949feeb838473848e63ac259216", func := "loop.example/g01127/laws.FnExactAreIndependent", spec := "fnExactAreIndependent", recurses := true, apart := false, narrowed := true }
def FnExactAreIndependentUptoSaid : Prop := fnExactAreIndependentUptoRow.holds Try.pinned (OpenSpec.upto fnExactAreIndependentSpec)

/-- 'laws.FnExactSwapNeighbours', WHERE WHAT IT READS IS OF BULK AT MOST 1048576: true; the input reads as it did. -/
def fnExactSwapNeighboursUptoRow : OpenClaim := { program := "ythnckplfnmkmpaa", sum := "4ee305e0f80b4886af7e9243b26f7702071c6949feeb838473848e63ac259216", func := "loop.example/g01127/laws.FnExactSwapNeighbours", spec := "fnExactSwapNeighbours", unfollowed := true, recurses := true, apart := false, narrowed := true }
def FnExactSwapNeighboursUptoSaid : Prop := fnExactSwapNeighboursUptoRow.holds Try.pinned (OpenSpec.upto fnExactSwapNeighboursSpec)

/-- 'laws.FnExactRenameCode', WHERE WHAT IT READS IS OF BULK AT MOST 1048576: true; the input reads as it did. -/
def fnExactRenameCodeUptoRow : OpenClaim := { program := "ythnckplfnmkmpaa", sum := "4ee305e0f80b4886af7e9243b26f7702071c6949feeb838473848e63ac259216", func := "loop.example/g01127/laws.FnExactRenameCode", spec := "fnExactRenameCode", unfollowed := true, recurses := true, apart := false, narrowed := true }
def FnExactRenameCodeUptoSaid : Prop := fnExactRenameCodeUptoRow.holds Try.pinned (OpenSpec.upto fnExactRenameCodeSpec)

/-- 'laws.FnExactClassesOf', WHERE WHAT IT READS IS OF BULK AT MOST 1048576: true; the input reads as it did. -/
def fnExactClassesOfUptoRow : OpenClaim := { program := "ythnckplfnmkmpaa", sum := "4ee305e0f80b4886af7e9243b26f7702071c6949feeb838473848e63ac259216", func := "loop.example/g01127/laws.FnExactClassesOf", spec := "fnExactClassesOf", unfollowed := true, recurses := true, apart := false, narrowed := true }
def FnExactClassesOfUptoSaid : Prop := fnExactClassesOfUptoRow.holds Try.pinned (OpenSpec.upto fnExactClassesOfSpec)

end Rows
end Go.Proofs.Ythnckplfnmkmpaa
