/-
  No cell of these rows narrows 'for every input' (looked for: loops, veiled, ifaces, maps, wideKeys, modest, calm, conditions, laid).
  DERIVED. THE GIVEN ROWS OF THIS SEAT. 11 by the template 'for every input the law returns true; each argument reads behind the call as it read before'; 0 by the template 'total and deterministic' (their statements: YtecmlikhmkcdpaaTotals.lean).
  GIVEN WITH THE SEED: the statements are not yours to turn. If you find one false, say at which input.
  Laid BY PROGRAM, IN A SANDBOX (cutbox-rows.mjs): the forced cells as the released guide's own fill.sh prints them over the translation e4ea6d3a66360a50… (all of the seat's roots in one cut). By AI agents, Wed Nov 11 2026. No macro, syntax, notation, axiom, sorry.
-/
import Derived.Test.YtecmlikhmkcdpaaChecked
import GoSem.Claim
import GoSem.ClaimJoined
import GoSem.ClaimMapViews
import Derived.JoinedTies
import Derived.KernelRfl
namespace Go.Proofs.Ytecmlikhmkcdpaa
/- THE CELL 'sum', in the pinned program and in every row, IS THE sha256 OF THE DUMP (.gsa) THAT YtecmlikhmkcdpaaProg.lean LOADS. Nothing in Lean hashes anything: it is a label: what it is worth is what the hold of that sum in a sandbox is worth. -/
noncomputable def Try.pinned : Pinned := { name := "ytecmlikhmkcdpaa", sum := "e4ea6d3a66360a50e1cc7c0df956ae31ecfe3a16120faede2c4fc1fdb867dd47", checked := Try.checked }
namespace Rows
def none {H : Type} : Left H := { results := [], args := [] }

/-- 'laws.FnExactJoinCode': WHATEVER THE INPUT: true; the input reads as it did. -/
def fnExactJoinCodeSpec : ChangeSpec := { name := "fnExactJoinCode", fn := fun _ => fun
  | [d1, d2] => { results := [.lit (.bool true)], args := [d1, d2] }
  | _ => none }
def fnExactJoinCodeRow : OpenClaim := { program := "ytecmlikhmkcdpaa", sum := "e4ea6d3a66360a50e1cc7c0df956ae31ecfe3a16120faede2c4fc1fdb867dd47", func := "loop.example/g01127/laws.FnExactJoinCode", spec := "fnExactJoinCode", unfollowed := true, recurses := true, apart := false }
def FnExactJoinCodeSaid : Prop := fnExactJoinCodeRow.holds Try.pinned (OpenSpec.ofChange fnExactJoinCodeSpec)

/-- ITS FALSE NEIGHBOUR: 'it returns false'. Refute it at one input. -/
def fnExactJoinCodeWrong : ChangeSpec := { name := "fnExactJoinCode", fn := fun _ => fun
  | [d1, d2] => { results := [.lit (.bool false)], args := [d1, d2] }
  | _ => none }
def FnExactJoinCodeWrongFalsely : Prop := fnExactJoinCodeRow.holds Try.pinned (OpenSpec.ofChange fnExactJoinCodeWrong)

/-- 'laws.FnExactExpandExpr': WHATEVER THE INPUT: true; the input reads as it did. -/
def fnExactExpandExprSpec : ChangeSpec := { name := "fnExactExpandExpr", fn := fun _ => fun
  | [d] => { results := [.lit (.bool true)], args := [d] }
  | _ => none }
def fnExactExpandExprRow : OpenClaim := { program := "ytecmlikhmkcdpaa", sum := "e4ea6d3a66360a50e1cc7c0df956ae31ecfe3a16120faede2c4fc1fdb867dd47", func := "loop.example/g01127/laws.FnExactExpandExpr", spec := "fnExactExpandExpr", recurses := true, apart := false }
def FnExactExpandExprSaid : Prop := fnExactExpandExprRow.holds Try.pinned (OpenSpec.ofChange fnExactExpandExprSpec)

/-- ITS FALSE NEIGHBOUR: 'it returns false'. Refute it at one input. -/
def fnExactExpandExprWrong : ChangeSpec := { name := "fnExactExpandExpr", fn := fun _ => fun
  | [d] => { results := [.lit (.bool false)], args := [d] }
  | _ => none }
def FnExactExpandExprWrongFalsely : Prop := fnExactExpandExprRow.holds Try.pinned (OpenSpec.ofChange fnExactExpandExprWrong)

/-- 'laws.FnExactShareExpr': WHATEVER THE INPUT: true; the input reads as it did. -/
def fnExactShareExprSpec : ChangeSpec := { name := "fnExactShareExpr", fn := fun _ => fun
  | [d] => { results := [.lit (.bool true)], args := [d] }
  | _ => none }
def fnExactShareExprRow : OpenClaim := { program := "ytecmlikhmkcdpaa", sum := "e4ea6d3a66360a50e1cc7c0df956ae31ecfe3a16120faede2c4fc1fdb867dd47", func := "loop.example/g01127/laws.FnExactShareExpr", spec := "fnExactShareExpr", unfollowed := true, recurses := true, apart := false }
def FnExactShareExprSaid : Prop := fnExactShareExprRow.holds Try.pinned (OpenSpec.ofChange fnExactShareExprSpec)

/-- ITS FALSE NEIGHBOUR: 'it returns false'. Refute it at one input. -/
def fnExactShareExprWrong : ChangeSpec := { name := "fnExactShareExpr", fn := fun _ => fun
  | [d] => { results := [.lit (.bool false)], args := [d] }
  | _ => none }
def FnExactShareExprWrongFalsely : Prop := fnExactShareExprRow.holds Try.pinned (OpenSpec.ofChange fnExactShareExprWrong)

/-- 'laws.FnExactFoldExpr': WHATEVER THE INPUT: true; the input reads as it did. -/
def fnExactFoldExprSpec : ChangeSpec := { name := "fnExactFoldExpr", fn := fun _ => fun
  | [d] => { results := [.lit (.bool true)], args := [d] }
  | _ => none }
def fnExactFoldExprRow : OpenClaim := { program := "ytecmlikhmkcdpaa", sum := "e4ea6d3a66360a50e1cc7c0df956ae31ecfe3a16120faede2c4fc1fdb867dd47", func := "loop.example/g01127/laws.FnExactFoldExpr", spec := "fnExactFoldExpr", apart := false }
def FnExactFoldExprSaid : Prop := fnExactFoldExprRow.holds Try.pinned (OpenSpec.ofChange fnExactFoldExprSpec)

/-- ITS FALSE NEIGHBOUR: 'it returns false'. Refute it at one input. -/
def fnExactFoldExprWrong : ChangeSpec := { name := "fnExactFoldExpr", fn := fun _ => fun
  | [d] => { results := [.lit (.bool false)], args := [d] }
  | _ => none }
def FnExactFoldExprWrongFalsely : Prop := fnExactFoldExprRow.holds Try.pinned (OpenSpec.ofChange fnExactFoldExprWrong)

/-- 'laws.FnExactTraceOf': WHATEVER THE INPUT: true; the input reads as it did. -/
def fnExactTraceOfSpec : ChangeSpec := { name := "fnExactTraceOf", fn := fun _ => fun
  | [d1, d2] => { results := [.lit (.bool true)], args := [d1, d2] }
  | _ => none }
def fnExactTraceOfRow : OpenClaim := { program := "ytecmlikhmkcdpaa", sum := "e4ea6d3a66360a50e1cc7c0df956ae31ecfe3a16120faede2c4fc1fdb867dd47", func := "loop.example/g01127/laws.FnExactTraceOf", spec := "fnExactTraceOf", unfollowed := true, recurses := true, apart := false }
def FnExactTraceOfSaid : Prop := fnExactTraceOfRow.holds Try.pinned (OpenSpec.ofChange fnExactTraceOfSpec)

/-- ITS FALSE NEIGHBOUR: 'it returns false'. Refute it at one input. -/
def fnExactTraceOfWrong : ChangeSpec := { name := "fnExactTraceOf", fn := fun _ => fun
  | [d1, d2] => { results := [.lit (.bool false)], args := [d1, d2] }
  | _ => none }
def FnExactTraceOfWrongFalsely : Prop := fnExactTraceOfRow.holds Try.pinned (OpenSpec.ofChange fnExactTraceOfWrong)

/-- 'laws.FnExactClassesOf': WHATEVER THE INPUT: true; the input reads as it did. -/
def fnExactClassesOfSpec : ChangeSpec := { name := "fnExactClassesOf", fn := fun _ => fun
  | [d] => { results := [.lit (.bool true)], args := [d] }
  | _ => none }
def fnExactClassesOfRow : OpenClaim := { program := "ytecmlikhmkcdpaa", sum := "e4ea6d3a66360a50e1cc7c0df956ae31ecfe3a16120faede2c4fc1fdb867dd47", func := "loop.example/g01127/laws.FnExactClassesOf", spec := "fnExactClassesOf", unfollowed := true, recurses := true, apart := false }
def FnExactClassesOfSaid : Prop := fnExactClassesOfRow.holds Try.pinned (OpenSpec.ofChange fnExactClassesOfSpec)

/-- ITS FALSE NEIGHBOUR: 'it returns false'. Refute it at one input. -/
def fnExactClassesOfWrong : ChangeSpec := { name := "fnExactClassesOf", fn := fun _ => fun
  | [d] => { results := [.lit (.bool false)], args := [d] }
  | _ => none }
def FnExactClassesOfWrongFalsely : Prop := fnExactClassesOfRow.holds Try.pinned (OpenSpec.ofChange fnExactClassesOfWrong)

/-- 'laws.FnExactRenameCode': WHATEVER THE INPUT: true; the input reads as it did. -/
def fnExactRenameCodeSpec : ChangeSpec := { name := "fnExactRenameCode", fn := fun _ => fun
  | [d1, d2] => { results := [.lit (.bool true)], args := [d1, d2] }
  | _ => none }
def fnExactRenameCodeRow : OpenClaim := { program := "ytecmlikhmkcdpaa", sum := "e4ea6d3a66360a50e1cc7c0df956ae31ecfe3a16120faede2c4fc1fdb867dd47", func := "loop.example/g01127/laws.FnExactRenameCode", spec := "fnExactRenameCode", unfollowed := true, recurses := true, apart := false }
def FnExactRenameCodeSaid : Prop := fnExactRenameCodeRow.holds Try.pinned (OpenSpec.ofChange fnExactRenameCodeSpec)

/-- ITS FALSE NEIGHBOUR: 'it returns false'. Refute it at one input. -/
def fnExactRenameCodeWrong : ChangeSpec := { name := "fnExactRenameCode", fn := fun _ => fun
  | [d1, d2] => { results := [.lit (.bool false)], args := [d1, d2] }
  | _ => none }
def FnExactRenameCodeWrongFalsely : Prop := fnExactRenameCodeRow.holds Try.pinned (OpenSpec.ofChange fnExactRenameCodeWrong)

/-- 'laws.FnExactMostAlive': WHATEVER THE INPUT: true; the input reads as it did. -/
def fnExactMostAliveSpec : ChangeSpec := { name := "fnExactMostAlive", fn := fun _ => fun
  | [d1, d2] => { results := [.lit (.bool true)], args := [d1, d2] }
  | _ => none }
def fnExactMostAliveRow : OpenClaim := { program := "ytecmlikhmkcdpaa", sum := "e4ea6d3a66360a50e1cc7c0df956ae31ecfe3a16120faede2c4fc1fdb867dd47", func := "loop.example/g01127/laws.FnExactMostAlive", spec := "fnExactMostAlive", unfollowed := true, recurses := true, apart := false }
def FnExactMostAliveSaid : Prop := fnExactMostAliveRow.holds Try.pinned (OpenSpec.ofChange fnExactMostAliveSpec)

/-- ITS FALSE NEIGHBOUR: 'it returns false'. Refute it at one input. -/
def fnExactMostAliveWrong : ChangeSpec := { name := "fnExactMostAlive", fn := fun _ => fun
  | [d1, d2] => { results := [.lit (.bool false)], args := [d1, d2] }
  | _ => none }
def FnExactMostAliveWrongFalsely : Prop := fnExactMostAliveRow.holds Try.pinned (OpenSpec.ofChange fnExactMostAliveWrong)

/-- 'laws.FnExactLiveBefore': WHATEVER THE INPUT: true; the input reads as it did. -/
def fnExactLiveBeforeSpec : ChangeSpec := { name := "fnExactLiveBefore", fn := fun _ => fun
  | [d1, d2] => { results := [.lit (.bool true)], args := [d1, d2] }
  | _ => none }
def fnExactLiveBeforeRow : OpenClaim := { program := "ytecmlikhmkcdpaa", sum := "e4ea6d3a66360a50e1cc7c0df956ae31ecfe3a16120faede2c4fc1fdb867dd47", func := "loop.example/g01127/laws.FnExactLiveBefore", spec := "fnExactLiveBefore", unfollowed := true, recurses := true, apart := false }
def FnExactLiveBeforeSaid : Prop := fnExactLiveBeforeRow.holds Try.pinned (OpenSpec.ofChange fnExactLiveBeforeSpec)

/-- ITS FALSE NEIGHBOUR: 'it returns false'. Refute it at one input. -/
def fnExactLiveBeforeWrong : ChangeSpec := { name := "fnExactLiveBefore", fn := fun _ => fun
  | [d1, d2] => { results := [.lit (.bool false)], args := [d1, d2] }
  | _ => none }
def FnExactLiveBeforeWrongFalsely : Prop := fnExactLiveBeforeRow.holds Try.pinned (OpenSpec.ofChange fnExactLiveBeforeWrong)

/-- 'laws.FnExactLiveSets': WHATEVER THE INPUT: true; the input reads as it did. -/
def fnExactLiveSetsSpec : ChangeSpec := { name := "fnExactLiveSets", fn := fun _ => fun
  | [d1, d2] => { results := [.lit (.bool true)], args := [d1, d2] }
  | _ => none }
def fnExactLiveSetsRow : OpenClaim := { program := "ytecmlikhmkcdpaa", sum := "e4ea6d3a66360a50e1cc7c0df956ae31ecfe3a16120faede2c4fc1fdb867dd47", func := "loop.example/g01127/laws.FnExactLiveSets", spec := "fnExactLiveSets", unfollowed := true, recurses := true, apart := false }
def FnExactLiveSetsSaid : Prop := fnExactLiveSetsRow.holds Try.pinned (OpenSpec.ofChange fnExactLiveSetsSpec)

/-- ITS FALSE NEIGHBOUR: 'it returns false'. Refute it at one input. -/
def fnExactLiveSetsWrong : ChangeSpec := { name := "fnExactLiveSets", fn := fun _ => fun
  | [d1, d2] => { results := [.lit (.bool false)], args := [d1, d2] }
  | _ => none }
def FnExactLiveSetsWrongFalsely : Prop := fnExactLiveSetsRow.holds Try.pinned (OpenSpec.ofChange fnExactLiveSetsWrong)

/-- 'laws.FnExactDropDead': WHATEVER THE INPUT: true; the input reads as it did. -/
def fnExactDropDeadSpec : ChangeSpec := { name := "fnExactDropDead", fn := fun _ => fun
  | [d1, d2] => { results := [.lit (.bool true)], args := [d1, d2] }
  | _ => none }
def fnExactDropDeadRow : OpenClaim := { program := "ytecmlikhmkcdpaa", sum := "e4ea6d3a66360a50e1cc7c0df956ae31ecfe3a16120faede2c4fc1fdb867dd47", func := "loop.example/g01127/laws.FnExactDropDead", spec := "fnExactDropDead", unfollowed := true, recurses := true, apart := false }
def FnExactDropDeadSaid : Prop := fnExactDropDeadRow.holds Try.pinned (OpenSpec.ofChange fnExactDropDeadSpec)

/-- ITS FALSE NEIGHBOUR: 'it returns false'. Refute it at one input. -/
def fnExactDropDeadWrong : ChangeSpec := { name := "fnExactDropDead", fn := fun _ => fun
  | [d1, d2] => { results := [.lit (.bool false)], args := [d1, d2] }
  | _ => none }
def FnExactDropDeadWrongFalsely : Prop := fnExactDropDeadRow.holds Try.pinned (OpenSpec.ofChange fnExactDropDeadWrong)

/- THE SECOND FORM. 'bulk': how many values and letters a reading holds, each counted each time it is reached (what is shared counts as often as it is met; a slice's spare places count too). A statement '..UptoSaid' is the law's where the arguments, and the package variables that the reading takes, are together of bulk at most 1048576: NARROWER than '..Said'. Prove '..Said' where nothing that the law and all that it calls make is longer than what came in: it says more and counts as full. Else prove '..UptoSaid'. A law counts once. -/
mutual
def uptoBulk {H : Type} : DataW H → Nat
  | .lit (.string bytes) => bytes.length + 1
  | .lit _ => 1
  | .nil => 1
  | .ptr d => uptoBulk d + 1
  | .slice elems spare => uptoBulkAll elems + uptoBulkAll spare + 1
  | .agg parts => uptoBulkAll parts + 1
  | .iface _ d => uptoBulk d + 1
  | .map entries => uptoBulkEntries entries + 1
  | .held _ => 1
def uptoBulkAll {H : Type} : List (DataW H) → Nat
  | [] => 0
  | d :: r => uptoBulk d + uptoBulkAll r
def uptoBulkEntries {H : Type} : List (Lit × DataW H) → Nat
  | [] => 0
  | x :: r => uptoBulkEntry x + uptoBulkEntries r
def uptoBulkEntry {H : Type} : Lit × DataW H → Nat
  | (.string bytes, d) => bytes.length + uptoBulk d + 1
  | (_, d) => uptoBulk d + 1
 end
def uptoSmall : (H : Type) → List (DataW H) → Bool := fun _ ds => decide (uptoBulkAll ds ≤ 1048576)
def OpenSpec.upto (s : _root_.Go.ChangeSpec) : _root_.Go.OpenSpec := { _root_.Go.OpenSpec.ofChange s with cond := some uptoSmall }

/-- 'laws.FnExactJoinCode', WHERE WHAT IT READS IS OF BULK AT MOST 1048576: true; the input reads as it did. -/
def fnExactJoinCodeUptoRow : OpenClaim := { program := "ytecmlikhmkcdpaa", sum := "e4ea6d3a66360a50e1cc7c0df956ae31ecfe3a16120faede2c4fc1fdb867dd47", func := "loop.example/g01127/laws.FnExactJoinCode", spec := "fnExactJoinCode", unfollowed := true, recurses := true, apart := false, narrowed := true }
def FnExactJoinCodeUptoSaid : Prop := fnExactJoinCodeUptoRow.holds Try.pinned (OpenSpec.upto fnExactJoinCodeSpec)

/-- 'laws.FnExactExpandExpr', WHERE WHAT IT READS IS OF BULK AT MOST 1048576: true; the input reads as it did. -/
def fnExactExpandExprUptoRow : OpenClaim := { program := "ytecmlikhmkcdpaa", sum := "e4ea6d3a66360a50e1cc7c0df956ae31ecfe3a16120faede2c4fc1fdb867dd47", func := "loop.example/g01127/laws.FnExactExpandExpr", spec := "fnExactExpandExpr", recurses := true, apart := false, narrowed := true }
def FnExactExpandExprUptoSaid : Prop := fnExactExpandExprUptoRow.holds Try.pinned (OpenSpec.upto fnExactExpandExprSpec)

/-- 'laws.FnExactShareExpr', WHERE WHAT IT READS IS OF BULK AT MOST 1048576: true; the input reads as it did. -/
def fnExactShareExprUptoRow : OpenClaim := { program := "ytecmlikhmkcdpaa", sum := "e4ea6d3a66360a50e1cc7c0df956ae31ecfe3a16120faede2c4fc1fdb867dd47", func := "loop.example/g01127/laws.FnExactShareExpr", spec := "fnExactShareExpr", unfollowed := true, recurses := true, apart := false, narrowed := true }
def FnExactShareExprUptoSaid : Prop := fnExactShareExprUptoRow.holds Try.pinned (OpenSpec.upto fnExactShareExprSpec)

/-- 'laws.FnExactFoldExpr', WHERE WHAT IT READS IS OF BULK AT MOST 1048576: true; the input reads as it did. -/
def fnExactFoldExprUptoRow : OpenClaim := { program := "ytecmlikhmkcdpaa", sum := "e4ea6d3a66360a50e1cc7c0df956ae31ecfe3a16120faede2c4fc1fdb867dd47", func := "loop.example/g01127/laws.FnExactFoldExpr", spec := "fnExactFoldExpr", apart := false, narrowed := true }
def FnExactFoldExprUptoSaid : Prop := fnExactFoldExprUptoRow.holds Try.pinned (OpenSpec.upto fnExactFoldExprSpec)

/-- 'laws.FnExactTraceOf', WHERE WHAT IT READS IS OF BULK AT MOST 1048576: true; the input reads as it did. -/
def fnExactTraceOfUptoRow : OpenClaim := { program := "ytecmlikhmkcdpaa", sum := "e4ea6d3a66360a50e1cc7c0df956ae31ecfe3a16120faede2c4fc1fdb867dd47", func := "loop.example/g01127/laws.FnExactTraceOf", spec := "fnExactTraceOf", unfollowed := true, recurses := true, apart := false, narrowed := true }
def FnExactTraceOfUptoSaid : Prop := fnExactTraceOfUptoRow.holds Try.pinned (OpenSpec.upto fnExactTraceOfSpec)

/-- 'laws.FnExactClassesOf', WHERE WHAT IT READS IS OF BULK AT MOST 1048576: true; the input reads as it did. -/
def fnExactClassesOfUptoRow : OpenClaim := { program := "ytecmlikhmkcdpaa", sum := "e4ea6d3a66360a50e1cc7c0df956ae31ecfe3a16120faede2c4fc1fdb867dd47", func := "loop.example/g01127/laws.FnExactClassesOf", spec := "fnExactClassesOf", unfollowed := true, recurses := true, apart := false, narrowed := true }
def FnExactClassesOfUptoSaid : Prop := fnExactClassesOfUptoRow.holds Try.pinned (OpenSpec.upto fnExactClassesOfSpec)

/-- 'laws.FnExactRenameCode', WHERE WHAT IT READS IS OF BULK AT MOST 1048576: true; the input reads as it did. -/
def fnExactRenameCodeUptoRow : OpenClaim := { program := "ytecmlikhmkcdpaa", sum := "e4ea6d3a66360a50e1cc7c0df956ae31ecfe3a16120faede2c4fc1fdb867dd47", func := "loop.example/g01127/laws.FnExactRenameCode", spec := "fnExactRenameCode", unfollowed := true, recurses := true, apart := false, narrowed := true }
def FnExactRenameCodeUptoSaid : Prop := fnExactRenameCodeUptoRow.holds Try.pinned (OpenSpec.upto fnExactRenameCodeSpec)

/-- 'laws.FnExactMostAlive', WHERE WHAT IT READS IS OF BULK AT MOST 1048576: true; the input reads as it did. -/
def fnExactMostAliveUptoRow : OpenClaim := { program := "ytecmlikhmkcdpaa", sum := "e4ea6d3a66360a50e1cc7c0df956ae31ecfe3a16120faede2c4fc1fdb867dd47", func := "loop.example/g01127/laws.FnExactMostAlive", spec := "fnExactMostAlive", unfollowed := true, recurses := true, apart := false, narrowed := true }
def FnExactMostAliveUptoSaid : Prop := fnExactMostAliveUptoRow.holds Try.pinned (OpenSpec.upto fnExactMostAliveSpec)

/-- 'laws.FnExactLiveBefore', WHERE WHAT IT READS IS OF BULK AT MOST 1048576: true; the input reads as it did. -/
def fnExactLiveBeforeUptoRow : OpenClaim := { program := "ytecmlikhmkcdpaa", sum := "e4ea6d3a66360a50e1cc7c0df956ae31ecfe3a16120faede2c4fc1fdb867dd47", func := "loop.example/g01127/laws.FnExactLiveBefore", spec := "fnExactLiveBefore", unfollowed := true, recurses := true, apart := false, narrowed := true }
def FnExactLiveBeforeUptoSaid : Prop := fnExactLiveBeforeUptoRow.holds Try.pinned (OpenSpec.upto fnExactLiveBeforeSpec)

/-- 'laws.FnExactLiveSets', WHERE WHAT IT READS IS OF BULK AT MOST 1048576: true; the input reads as it did. -/
def fnExactLiveSetsUptoRow : OpenClaim := { program := "ytecmlikhmkcdpaa", sum := "e4ea6d3a66360a50e1cc7c0df956ae31ecfe3a16120faede2c4fc1fdb867dd47", func := "loop.example/g01127/laws.FnExactLiveSets", spec := "fnExactLiveSets", unfollowed := true, recurses := true, apart := false, narrowed := true }
def FnExactLiveSetsUptoSaid : Prop := fnExactLiveSetsUptoRow.holds Try.pinned (OpenSpec.upto fnExactLiveSetsSpec)

/-- 'laws.FnExactDropDead', WHERE WHAT IT READS IS OF BULK AT MOST 1048576: true; the input reads as it did. -/
def fnExactDropDeadUptoRow : OpenClaim := { program := "ytecmlikhmkcdpaa", sum := "e4ea6d3a66360a50e1cc7c0df956ae31ecfe3a16120faede2c4fc1fdb867dd47", func := "loop.example/g01127/laws.FnExactDropDead", spec := "fnExactDropDead", unfollowed := true, recurses := true, apart := false, narrowed := true }
def FnExactDropDeadUptoSaid : Prop := fnExactDropDeadUptoRow.holds Try.pinned (OpenSpec.upto fnExactDropDeadSpec)

end Rows
end Go.Proofs.Ytecmlikhmkcdpaa
