/-
  No cell of these rows narrows 'for every input' (looked for: loops, veiled, ifaces, maps, wideKeys, modest, calm, conditions, laid).
  DERIVED. THE GIVEN ROWS OF THIS SEAT. 4 by the template 'for every input the law returns true; each argument reads behind the call as it read before'; 0 by the template 'total and deterministic' (their statements: YtodbglncccgdbaaTotals.lean).
  GIVEN WITH THE SEED: the statements are not yours to turn. If you find one false, say at which input.
  Laid BY PROGRAM, IN A SANDBOX (cutbox-rows.mjs): the forced cells as the released guide's own fill.sh prints them over the translation dd577e8b1fc1e054… (all of the seat's roots in one cut). By AI agents, Wed Nov 11 2026. No macro, syntax, notation, axiom, sorry.
-/
import Derived.Test.YtodbglncccgdbaaChecked
import GoSem.Claim
import GoSem.ClaimJoined
import GoSem.ClaimMapViews
import Derived.JoinedTies
import Derived.KernelRfl
namespace Go.Proofs.Ytodbglncccgdbaa
/- THE CELL 'sum', in the pinned program and in every row, IS THE sha256 OF THE DUMP (.gsa) THAT YtodbglncccgdbaaProg.lean LOADS. Nothing in Lean hashes anything: it is a label: what it is worth is what the hold of that sum in a sandbox is worth. -/
noncomputable def Try.pinned : Pinned := { name := "ytodbglncccgdbaa", sum := "dd577e8b1fc1e05481e3daf376b79494ee5e74f517365fe4f288e730985c738f", checked := Try.checked }
namespace Rows
def none {H : Type} : Left H := { results := [], args := [] }

/-- 'laws.FnFlows': WHATEVER THE INPUT: true; the input reads as it did. -/
def fnFlowsSpec : ChangeSpec := { name := "fnFlows", fn := fun _ => fun
  | [d] => { results := [.lit (.bool true)], args := [d] }
  | _ => none }
def fnFlowsRow : OpenClaim := { program := "ytodbglncccgdbaa", sum := "dd577e8b1fc1e05481e3daf376b79494ee5e74f517365fe4f288e730985c738f", func := "loop.example/g00984/laws.FnFlows", spec := "fnFlows", unfollowed := true, recurses := true, apart := false }
def FnFlowsSaid : Prop := fnFlowsRow.holds Try.pinned (OpenSpec.ofChange fnFlowsSpec)

/-- ITS FALSE NEIGHBOUR: 'it returns false'. Refute it at one input. -/
def fnFlowsWrong : ChangeSpec := { name := "fnFlows", fn := fun _ => fun
  | [d] => { results := [.lit (.bool false)], args := [d] }
  | _ => none }
def FnFlowsWrongFalsely : Prop := fnFlowsRow.holds Try.pinned (OpenSpec.ofChange fnFlowsWrong)

/-- 'laws.FnLatency': WHATEVER THE INPUT: true; the input reads as it did. -/
def fnLatencySpec : ChangeSpec := { name := "fnLatency", fn := fun _ => fun
  | [d] => { results := [.lit (.bool true)], args := [d] }
  | _ => none }
def fnLatencyRow : OpenClaim := { program := "ytodbglncccgdbaa", sum := "dd577e8b1fc1e05481e3daf376b79494ee5e74f517365fe4f288e730985c738f", func := "loop.example/g00984/laws.FnLatency", spec := "fnLatency", unfollowed := true, recurses := true, apart := false }
def FnLatencySaid : Prop := fnLatencyRow.holds Try.pinned (OpenSpec.ofChange fnLatencySpec)

/-- ITS FALSE NEIGHBOUR: 'it returns false'. Refute it at one input. -/
def fnLatencyWrong : ChangeSpec := { name := "fnLatency", fn := fun _ => fun
  | [d] => { results := [.lit (.bool false)], args := [d] }
  | _ => none }
def FnLatencyWrongFalsely : Prop := fnLatencyRow.holds Try.pinned (OpenSpec.ofChange fnLatencyWrong)

/-- 'laws.FnBounds': WHATEVER THE INPUT: true; the input reads as it did. -/
def fnBoundsSpec : ChangeSpec := { name := "fnBounds", fn := fun _ => fun
  | [d] => { results := [.lit (.bool true)], args := [d] }
  | _ => none }
def fnBoundsRow : OpenClaim := { program := "ytodbglncccgdbaa", sum := "dd577e8b1fc1e05481e3daf376b79494ee5e74f517365fe4f288e730985c738f", func := "loop.example/g00984/laws.FnBounds", spec := "fnBounds", unfollowed := true, recurses := true, apart := false }
def FnBoundsSaid : Prop := fnBoundsRow.holds Try.pinned (OpenSpec.ofChange fnBoundsSpec)

/-- ITS FALSE NEIGHBOUR: 'it returns false'. Refute it at one input. -/
def fnBoundsWrong : ChangeSpec := { name := "fnBounds", fn := fun _ => fun
  | [d] => { results := [.lit (.bool false)], args := [d] }
  | _ => none }
def FnBoundsWrongFalsely : Prop := fnBoundsRow.holds Try.pinned (OpenSpec.ofChange fnBoundsWrong)

/-- 'laws.FnProgress': WHATEVER THE INPUT: true; the input reads as it did. -/
def fnProgressSpec : ChangeSpec := { name := "fnProgress", fn := fun _ => fun
  | [d] => { results := [.lit (.bool true)], args := [d] }
  | _ => none }
def fnProgressRow : OpenClaim := { program := "ytodbglncccgdbaa", sum := "dd577e8b1fc1e05481e3daf376b79494ee5e74f517365fe4f288e730985c738f", func := "loop.example/g00984/laws.FnProgress", spec := "fnProgress", unfollowed := true, recurses := true, apart := false }
def FnProgressSaid : Prop := fnProgressRow.holds Try.pinned (OpenSpec.ofChange fnProgressSpec)

/-- ITS FALSE NEIGHBOUR: 'it returns false'. Refute it at one input. -/
def fnProgressWrong : ChangeSpec := { name := "fnProgress", fn := fun _ => fun
  | [d] => { results := [.lit (.bool false)], args := [d] }
  | _ => none }
def FnProgressWrongFalsely : Prop := fnProgressRow.holds Try.pinned (OpenSpec.ofChange fnProgressWrong)

/- THE SECOND FORM. 'bulk': how many values and letters a reading holds, each counted each time it is reached (what is shared counts as often as it is met; a slice's spare places count too). A statement '..UptoSaid' is the law's where the arguments, and the package variables that the reading takes, are together of bulk at most 1048576: NARROWER than '..Said'. Prove '..Said' where nothing that the law and all that it calls make is longer than what came in: it says more and counts as full. Else prove '..UptoSaid'. A law counts once. -/
mutual
def uptoBulk {H : Type} : DataW H → Nat
  | .lit (.string bytes) => bytes.length + 1
  | .lit _ => 1
  | .nil => 1
  | .ptr d => uptoBulk d + 1
  | .slice elems spare => uptoBulkAll elems + uptoBulkAll spare + 1
  | .agg parts => uptoBulkAll parts + 1
  | .iface _ d => uptoBulk d + 1
  | .map entries => uptoBulkEntries entries + 1
  | .held _ => 1
def uptoBulkAll {H : Type} : List (DataW H) → Nat
  | [] => 0
  | d :: r => uptoBulk d + uptoBulkAll r
def uptoBulkEntries {H : Type} : List (Lit × DataW H) → Nat
  | [] => 0
  | x :: r => uptoBulkEntry x + uptoBulkEntries r
def uptoBulkEntry {H : Type} : Lit × DataW H → Nat
  | (.string bytes, d) => bytes.length + uptoBulk d + 1
  | (_, d) => uptoBulk d + 1
 end
def uptoSmall : (H : Type) → List (DataW H) → Bool := fun _ ds => decide (uptoBulkAll ds ≤ 1048576)
def OpenSpec.upto (s : _root_.Go.ChangeSpec) : _root_.Go.OpenSpec := { _root_.Go.OpenSpec.ofChange s with cond := some uptoSmall }

/-- 'laws.FnFlows', WHERE WHAT IT READS IS OF BULK AT MOST 1048576: true; the input reads as it did. -/
def fnFlowsUptoRow : OpenClaim := { program := "ytodbglncccgdbaa", sum := "dd577e8b1fc1e05481e3daf376b79494ee5e74f517365fe4f288e730985c738f", func := "loop.example/g00984/laws.FnFlows", spec := "fnFlows", unfollowed := true, recurses := true, apart := false, narrowed := true }
def FnFlowsUptoSaid : Prop := fnFlowsUptoRow.holds Try.pinned (OpenSpec.upto fnFlowsSpec)

/-- 'laws.FnLatency', WHERE WHAT IT READS IS OF BULK AT MOST 1048576: true; the input reads as it did. -/
def fnLatencyUptoRow : OpenClaim := { program := "ytodbglncccgdbaa", sum := "dd577e8b1fc1e05481e3daf376b79494ee5e74f517365fe4f288e730985c738f", func := "loop.example/g00984/laws.FnLatency", spec := "fnLatency", unfollowed := true, recurses := true, apart := false, narrowed := true }
def FnLatencyUptoSaid : Prop := fnLatencyUptoRow.holds Try.pinned (OpenSpec.upto fnLatencySpec)

/-- 'laws.FnBounds', WHERE WHAT IT READS IS OF BULK AT MOST 1048576: true; the input reads as it did. -/
def fnBoundsUptoRow : OpenClaim := { program := "ytodbglncccgdbaa", sum := "dd577e8b1fc1e05481e3daf376b79494ee5e74f517365fe4f288e730985c738f", func := "loop.example/g00984/laws.FnBounds", spec := "fnBounds", unfollowed := true, recurses := true, apart := false, narrowed := true }
def FnBoundsUptoSaid : Prop := fnBoundsUptoRow.holds Try.pinned (OpenSpec.upto fnBoundsSpec)

/-- 'laws.FnProgress', WHERE WHAT IT READS IS OF BULK AT MOST 1048576: true; the input reads as it did. -/
def fnProgressUptoRow : OpenClaim := { program := "ytodbglncccgdbaa", sum := "dd577e8b1fc1e05481e3daf376b79494ee5e74f517365fe4f288e730985c738f", func := "loop.example/g00984/laws.FnProgress", spec := "fnProgress", unfollowed := true, recurses := true, apart := false, narrowed := true }
def FnProgressUptoSaid : Prop := fnProgressUptoRow.holds Try.pinned (OpenSpec.upto fnProgressSpec)

end Rows
end Go.Proofs.Ytodbglncccgdbaa
