/-
  No cell of these rows narrows 'for every input' (looked for: loops, veiled, ifaces, maps, wideKeys, modest, calm, conditions, laid).
  DERIVED. THE GIVEN ROWS OF THIS SEAT. 8 by the template 'for every input the law returns true; each argument reads behind the call as it read before'; 0 by the template 'total and deterministic' (their statements: YtfofebegfobjdaaTotals.lean).
  GIVEN WITH THE SEED: the statements are not yours to turn. If you find one false, say at which input.
  Laid BY PROGRAM, IN A SANDBOX (cutbox-rows.mjs): the forced cells as the released guide's own fill.sh prints them over the translation 5185fb250506dd40… (all of the seat's roots in one cut). By AI agents, Wed Nov 11 2026. No macro, syntax, notation, axiom, sorry.
-/
import Derived.Test.YtfofebegfobjdaaChecked
import GoSem.Claim
import GoSem.ClaimJoined
import GoSem.ClaimMapViews
import Derived.JoinedTies
import Derived.KernelRfl
namespace Go.Proofs.Ytfofebegfobjdaa
/- THE CELL 'sum', in the pinned program and in every row, IS THE sha256 OF THE DUMP (.gsa) THAT YtfofebegfobjdaaProg.lean LOADS. Nothing in Lean hashes anything: it is a label: what it is worth is what the hold of that sum in a sandbox is worth. -/
noncomputable def Try.pinned : Pinned := { name := "ytfofebegfobjdaa", sum := "5185fb250506dd4040d0b5d8bb572182184203e5f6ab60fd4af460911e31c7d0", checked := Try.checked }
namespace Rows
def none {H : Type} : Left H := { results := [], args := [] }

/-- 'laws.FnExactPatternName': WHATEVER THE INPUT: true; the input reads as it did. -/
def fnExactPatternNameSpec : ChangeSpec := { name := "fnExactPatternName", fn := fun _ => fun
  | [d] => { results := [.lit (.bool true)], args := [d] }
  | _ => none }
def fnExactPatternNameRow : OpenClaim := { program := "ytfofebegfobjdaa", sum := "5185fb250506dd4040d0b5d8bb572182184203e5f6ab60fd4af460911e31c7d0", func := "loop.example/g00984/laws.FnExactPatternName", spec := "fnExactPatternName", apart := false }
def FnExactPatternNameSaid : Prop := fnExactPatternNameRow.holds Try.pinned (OpenSpec.ofChange fnExactPatternNameSpec)

/-- ITS FALSE NEIGHBOUR: 'it returns false'. Refute it at one input. -/
def fnExactPatternNameWrong : ChangeSpec := { name := "fnExactPatternName", fn := fun _ => fun
  | [d] => { results := [.lit (.bool false)], args := [d] }
  | _ => none }
def FnExactPatternNameWrongFalsely : Prop := fnExactPatternNameRow.holds Try.pinned (OpenSpec.ofChange fnExactPatternNameWrong)

/-- 'laws.FnExactIsPrefixOf': WHATEVER THE INPUT: true; the input reads as it did. -/
def fnExactIsPrefixOfSpec : ChangeSpec := { name := "fnExactIsPrefixOf", fn := fun _ => fun
  | [d1, d2] => { results := [.lit (.bool true)], args := [d1, d2] }
  | _ => none }
def fnExactIsPrefixOfRow : OpenClaim := { program := "ytfofebegfobjdaa", sum := "5185fb250506dd4040d0b5d8bb572182184203e5f6ab60fd4af460911e31c7d0", func := "loop.example/g00984/laws.FnExactIsPrefixOf", spec := "fnExactIsPrefixOf", apart := false }
def FnExactIsPrefixOfSaid : Prop := fnExactIsPrefixOfRow.holds Try.pinned (OpenSpec.ofChange fnExactIsPrefixOfSpec)

/-- ITS FALSE NEIGHBOUR: 'it returns false'. Refute it at one input. -/
def fnExactIsPrefixOfWrong : ChangeSpec := { name := "fnExactIsPrefixOf", fn := fun _ => fun
  | [d1, d2] => { results := [.lit (.bool false)], args := [d1, d2] }
  | _ => none }
def FnExactIsPrefixOfWrongFalsely : Prop := fnExactIsPrefixOfRow.holds Try.pinned (OpenSpec.ofChange fnExactIsPrefixOfWrong)

/-- 'laws.FnExactClockwiseTable': WHATEVER THE INPUT: true; the input reads as it did. -/
def fnExactClockwiseTableSpec : ChangeSpec := { name := "fnExactClockwiseTable", fn := fun _ => fun
  | [] => { results := [.lit (.bool true)], args := [] }
  | _ => none }
def fnExactClockwiseTableRow : OpenClaim := { program := "ytfofebegfobjdaa", sum := "5185fb250506dd4040d0b5d8bb572182184203e5f6ab60fd4af460911e31c7d0", func := "loop.example/g00984/laws.FnExactClockwiseTable", spec := "fnExactClockwiseTable", apart := false }
def FnExactClockwiseTableSaid : Prop := fnExactClockwiseTableRow.holds Try.pinned (OpenSpec.ofChange fnExactClockwiseTableSpec)

/-- ITS FALSE NEIGHBOUR: 'it returns false'. Refute it at one input. -/
def fnExactClockwiseTableWrong : ChangeSpec := { name := "fnExactClockwiseTable", fn := fun _ => fun
  | [] => { results := [.lit (.bool false)], args := [] }
  | _ => none }
def FnExactClockwiseTableWrongFalsely : Prop := fnExactClockwiseTableRow.holds Try.pinned (OpenSpec.ofChange fnExactClockwiseTableWrong)

/-- 'laws.FnExactSourceLoad': WHATEVER THE INPUT: true; the input reads as it did. -/
def fnExactSourceLoadSpec : ChangeSpec := { name := "fnExactSourceLoad", fn := fun _ => fun
  | [d1, d2] => { results := [.lit (.bool true)], args := [d1, d2] }
  | _ => none }
def fnExactSourceLoadRow : OpenClaim := { program := "ytfofebegfobjdaa", sum := "5185fb250506dd4040d0b5d8bb572182184203e5f6ab60fd4af460911e31c7d0", func := "loop.example/g00984/laws.FnExactSourceLoad", spec := "fnExactSourceLoad", apart := false }
def FnExactSourceLoadSaid : Prop := fnExactSourceLoadRow.holds Try.pinned (OpenSpec.ofChange fnExactSourceLoadSpec)

/-- ITS FALSE NEIGHBOUR: 'it returns false'. Refute it at one input. -/
def fnExactSourceLoadWrong : ChangeSpec := { name := "fnExactSourceLoad", fn := fun _ => fun
  | [d1, d2] => { results := [.lit (.bool false)], args := [d1, d2] }
  | _ => none }
def FnExactSourceLoadWrongFalsely : Prop := fnExactSourceLoadRow.holds Try.pinned (OpenSpec.ofChange fnExactSourceLoadWrong)

/-- 'laws.FnExactTargetLoad': WHATEVER THE INPUT: true; the input reads as it did. -/
def fnExactTargetLoadSpec : ChangeSpec := { name := "fnExactTargetLoad", fn := fun _ => fun
  | [d1, d2] => { results := [.lit (.bool true)], args := [d1, d2] }
  | _ => none }
def fnExactTargetLoadRow : OpenClaim := { program := "ytfofebegfobjdaa", sum := "5185fb250506dd4040d0b5d8bb572182184203e5f6ab60fd4af460911e31c7d0", func := "loop.example/g00984/laws.FnExactTargetLoad", spec := "fnExactTargetLoad", apart := false }
def FnExactTargetLoadSaid : Prop := fnExactTargetLoadRow.holds Try.pinned (OpenSpec.ofChange fnExactTargetLoadSpec)

/-- ITS FALSE NEIGHBOUR: 'it returns false'. Refute it at one input. -/
def fnExactTargetLoadWrong : ChangeSpec := { name := "fnExactTargetLoad", fn := fun _ => fun
  | [d1, d2] => { results := [.lit (.bool false)], args := [d1, d2] }
  | _ => none }
def FnExactTargetLoadWrongFalsely : Prop := fnExactTargetLoadRow.holds Try.pinned (OpenSpec.ofChange fnExactTargetLoadWrong)

/-- 'laws.FnExactPatternTarget': WHATEVER THE INPUT: true; the input reads as it did. -/
def fnExactPatternTargetSpec : ChangeSpec := { name := "fnExactPatternTarget", fn := fun _ => fun
  | [d1, d2, d3] => { results := [.lit (.bool true)], args := [d1, d2, d3] }
  | _ => none }
def fnExactPatternTargetRow : OpenClaim := { program := "ytfofebegfobjdaa", sum := "5185fb250506dd4040d0b5d8bb572182184203e5f6ab60fd4af460911e31c7d0", func := "loop.example/g00984/laws.FnExactPatternTarget", spec := "fnExactPatternTarget", apart := false }
def FnExactPatternTargetSaid : Prop := fnExactPatternTargetRow.holds Try.pinned (OpenSpec.ofChange fnExactPatternTargetSpec)

/-- ITS FALSE NEIGHBOUR: 'it returns false'. Refute it at one input. -/
def fnExactPatternTargetWrong : ChangeSpec := { name := "fnExactPatternTarget", fn := fun _ => fun
  | [d1, d2, d3] => { results := [.lit (.bool false)], args := [d1, d2, d3] }
  | _ => none }
def FnExactPatternTargetWrongFalsely : Prop := fnExactPatternTargetRow.holds Try.pinned (OpenSpec.ofChange fnExactPatternTargetWrong)

/-- 'laws.FnExactSentFrom': WHATEVER THE INPUT: true; the input reads as it did. -/
def fnExactSentFromSpec : ChangeSpec := { name := "fnExactSentFrom", fn := fun _ => fun
  | [d1, d2, d3, d4] => { results := [.lit (.bool true)], args := [d1, d2, d3, d4] }
  | _ => none }
def fnExactSentFromRow : OpenClaim := { program := "ytfofebegfobjdaa", sum := "5185fb250506dd4040d0b5d8bb572182184203e5f6ab60fd4af460911e31c7d0", func := "loop.example/g00984/laws.FnExactSentFrom", spec := "fnExactSentFrom", apart := false }
def FnExactSentFromSaid : Prop := fnExactSentFromRow.holds Try.pinned (OpenSpec.ofChange fnExactSentFromSpec)

/-- ITS FALSE NEIGHBOUR: 'it returns false'. Refute it at one input. -/
def fnExactSentFromWrong : ChangeSpec := { name := "fnExactSentFrom", fn := fun _ => fun
  | [d1, d2, d3, d4] => { results := [.lit (.bool false)], args := [d1, d2, d3, d4] }
  | _ => none }
def FnExactSentFromWrongFalsely : Prop := fnExactSentFromRow.holds Try.pinned (OpenSpec.ofChange fnExactSentFromWrong)

/-- 'laws.FnExactWaitCycle': WHATEVER THE INPUT: true; the input reads as it did. -/
def fnExactWaitCycleSpec : ChangeSpec := { name := "fnExactWaitCycle", fn := fun _ => fun
  | [d] => { results := [.lit (.bool true)], args := [d] }
  | _ => none }
def fnExactWaitCycleRow : OpenClaim := { program := "ytfofebegfobjdaa", sum := "5185fb250506dd4040d0b5d8bb572182184203e5f6ab60fd4af460911e31c7d0", func := "loop.example/g00984/laws.FnExactWaitCycle", spec := "fnExactWaitCycle", unfollowed := true, recurses := true, apart := false }
def FnExactWaitCycleSaid : Prop := fnExactWaitCycleRow.holds Try.pinned (OpenSpec.ofChange fnExactWaitCycleSpec)

/-- ITS FALSE NEIGHBOUR: 'it returns false'. Refute it at one input. -/
def fnExactWaitCycleWrong : ChangeSpec := { name := "fnExactWaitCycle", fn := fun _ => fun
  | [d] => { results := [.lit (.bool false)], args := [d] }
  | _ => none }
def FnExactWaitCycleWrongFalsely : Prop := fnExactWaitCycleRow.holds Try.pinned (OpenSpec.ofChange fnExactWaitCycleWrong)

/- THE SECOND FORM. 'bulk': how many values and letters a reading holds, each counted each time it is reached (what is shared counts as often as it is met; a slice's spare places count too). A statement '..UptoSaid' is the law's where the arguments, and the package variables that the reading takes, are together of bulk at most 1048576: NARROWER than '..Said'. Prove '..Said' where nothing that the law and all that it calls make is longer than what came in: it says more and counts as full. Else prove '..UptoSaid'. A law counts once. -/
mutual
def uptoBulk {H : Type} : DataW H → Nat
  | .lit (.string bytes) => bytes.length + 1
  | .lit _ => 1
  | .nil => 1
  | .ptr d => uptoBulk d + 1
  | .slice elems spare => uptoBulkAll elems + uptoBulkAll spare + 1
  | .agg parts => uptoBulkAll parts + 1
  | .iface _ d => uptoBulk d + 1
  | .map entries => uptoBulkEntries entries + 1
  | .held _ => 1
def uptoBulkAll {H : Type} : List (DataW H) → Nat
  | [] => 0
  | d :: r => uptoBulk d + uptoBulkAll r
def uptoBulkEntries {H : Type} : List (Lit × DataW H) → Nat
  | [] => 0
  | x :: r => uptoBulkEntry x + uptoBulkEntries r
def uptoBulkEntry {H : Type} : Lit × DataW H → Nat
  | (.string bytes, d) => bytes.length + uptoBulk d + 1
  | (_, d) => uptoBulk d + 1
 end
def uptoSmall : (H : Type) → List (DataW H) → Bool := fun _ ds => decide (uptoBulkAll ds ≤ 1048576)
def OpenSpec.upto (s : _root_.Go.ChangeSpec) : _root_.Go.OpenSpec := { _root_.Go.OpenSpec.ofChange s with cond := some uptoSmall }

/-- 'laws.FnExactPatternName', WHERE WHAT IT READS IS OF BULK AT MOST 1048576: true; the input reads as it did. -/
def fnExactPatternNameUptoRow : OpenClaim := { program := "ytfofebegfobjdaa", sum := "5185fb250506dd4040d0b5d8bb572182184203e5f6ab60fd4af460911e31c7d0", func := "loop.example/g00984/laws.FnExactPatternName", spec := "fnExactPatternName", apart := false, narrowed := true }
def FnExactPatternNameUptoSaid : Prop := fnExactPatternNameUptoRow.holds Try.pinned (OpenSpec.upto fnExactPatternNameSpec)

/-- 'laws.FnExactIsPrefixOf', WHERE WHAT IT READS IS OF BULK AT MOST 1048576: true; the input reads as it did. -/
def fnExactIsPrefixOfUptoRow : OpenClaim := { program := "ytfofebegfobjdaa", sum := "5185fb250506dd4040d0b5d8bb572182184203e5f6ab60fd4af460911e31c7d0", func := "loop.example/g00984/laws.FnExactIsPrefixOf", spec := "fnExactIsPrefixOf", apart := false, narrowed := true }
def FnExactIsPrefixOfUptoSaid : Prop := fnExactIsPrefixOfUptoRow.holds Try.pinned (OpenSpec.upto fnExactIsPrefixOfSpec)

/-- 'laws.FnExactClockwiseTable', WHERE WHAT IT READS IS OF BULK AT MOST 1048576: true; the input reads as it did. -/
def fnExactClockwiseTableUptoRow : OpenClaim := { program := "ytfofebegfobjdaa", sum := "5185fb250506dd4040d0b5d8bb572182184203e5f6ab60fd4af460911e31c7d0", func := "loop.example/g00984/laws.FnExactClockwiseTable", spec := "fnExactClockwiseTable", apart := false, narrowed := true }
def FnExactClockwiseTableUptoSaid : Prop := fnExactClockwiseTableUptoRow.holds Try.pinned (OpenSpec.upto fnExactClockwiseTableSpec)

/-- 'laws.FnExactSourceLoad', WHERE WHAT IT READS IS OF BULK AT MOST 1048576: true; the input reads as it did. -/
def fnExactSourceLoadUptoRow : OpenClaim := { program := "ytfofebegfobjdaa", sum := "5185fb250506dd4040d0b5d8bb572182184203e5f6ab60fd4af460911e31c7d0", func := "loop.example/g00984/laws.FnExactSourceLoad", spec := "fnExactSourceLoad", apart := false, narrowed := true }
def FnExactSourceLoadUptoSaid : Prop := fnExactSourceLoadUptoRow.holds Try.pinned (OpenSpec.upto fnExactSourceLoadSpec)

/-- 'laws.FnExactTargetLoad', WHERE WHAT IT READS IS OF BULK AT MOST 1048576: true; the input reads as it did. -/
def fnExactTargetLoadUptoRow : OpenClaim := { program := "ytfofebegfobjdaa", sum := "5185fb250506dd4040d0b5d8bb572182184203e5f6ab60fd4af460911e31c7d0", func := "loop.example/g00984/laws.FnExactTargetLoad", spec := "fnExactTargetLoad", apart := false, narrowed := true }
def FnExactTargetLoadUptoSaid : Prop := fnExactTargetLoadUptoRow.holds Try.pinned (OpenSpec.upto fnExactTargetLoadSpec)

/-- 'laws.FnExactPatternTarget', WHERE WHAT IT READS IS OF BULK AT MOST 1048576: true; the input reads as it did. -/
def fnExactPatternTargetUptoRow : OpenClaim := { program := "ytfofebegfobjdaa", sum := "5185fb250506dd4040d0b5d8bb572182184203e5f6ab60fd4af460911e31c7d0", func := "loop.example/g00984/laws.FnExactPatternTarget", spec := "fnExactPatternTarget", apart := false, narrowed := true }
def FnExactPatternTargetUptoSaid : Prop := fnExactPatternTargetUptoRow.holds Try.pinned (OpenSpec.upto fnExactPatternTargetSpec)

/-- 'laws.FnExactSentFrom', WHERE WHAT IT READS IS OF BULK AT MOST 1048576: true; the input reads as it did. -/
def fnExactSentFromUptoRow : OpenClaim := { program := "ytfofebegfobjdaa", sum := "5185fb250506dd4040d0b5d8bb572182184203e5f6ab60fd4af460911e31c7d0", func := "loop.example/g00984/laws.FnExactSentFrom", spec := "fnExactSentFrom", apart := false, narrowed := true }
def FnExactSentFromUptoSaid : Prop := fnExactSentFromUptoRow.holds Try.pinned (OpenSpec.upto fnExactSentFromSpec)

/-- 'laws.FnExactWaitCycle', WHERE WHAT IT READS IS OF BULK AT MOST 1048576: true; the input reads as it did. -/
def fnExactWaitCycleUptoRow : OpenClaim := { program := "ytfofebegfobjdaa", sum := "5185fb250506dd4040d0b5d8bb572182184203e5f6ab60fd4af460911e31c7d0", func := "loop.example/g00984/laws.FnExactWaitCycle", spec := "fnExactWaitCycle", unfollowed := true, recurses := true, apart := false, narrowed := true }
def FnExactWaitCycleUptoSaid : Prop := fnExactWaitCycleUptoRow.holds Try.pinned (OpenSpec.upto fnExactWaitCycleSpec)

end Rows
end Go.Proofs.Ytfofebegfobjdaa
