/-
  No cell of these rows narrows 'for every input' (looked for: loops, veiled, ifaces, maps, wideKeys, modest, calm, conditions, laid).
  DERIVED. THE GIVEN ROWS OF THIS SEAT. 8 by the template 'for every input the law returns true; each argument reads behind the call as it read before'; 0 by the template 'total and deterministic' (their statements: YtinnfahmfggghaaTotals.lean).
  GIVEN WITH THE SEED: the statements are not yours to turn. If you find one false, say at which input.
  Laid BY PROGRAM, IN A SANDBOX (cutbox-rows.mjs): the forced cells as the released guide's own fill.sh prints them over the translation 8d725c5a2ce7e27e… (all of the seat's roots in one cut). By AI agents, Wed Nov 11 2026. No macro, syntax, notation, axiom, sorry.
-/
import Derived.Test.YtinnfahmfggghaaChecked
import GoSem.Claim
import GoSem.ClaimJoined
import GoSem.ClaimMapViews
import Derived.JoinedTies
import Derived.KernelRfl
namespace Go.Proofs.Ytinnfahmfggghaa
/- THE CELL 'sum', in the pinned program and in every row, IS THE sha256 OF THE DUMP (.gsa) THAT YtinnfahmfggghaaProg.lean LOADS. Nothing in Lean hashes anything: it is a label: what it is worth is what the hold of that sum in a sandbox is worth. -/
noncomputable def Try.pinned : Pinned := { name := "ytinnfahmfggghaa", sum := "8d725c5a2ce7e27ef7d031574a4e1dce494752d24771d7b9b8a051b49661923e", checked := Try.checked }
namespace Rows
def none {H : Type} : Left H := { results := [], args := [] }

/-- 'laws.FnExactRingNet': WHATEVER THE INPUT: true; the input reads as it did. -/
def fnExactRingNetSpec : ChangeSpec := { name := "fnExactRingNet", fn := fun _ => fun
  | [] => { results := [.lit (.bool true)], args := [] }
  | _ => none }
def fnExactRingNetRow : OpenClaim := { program := "ytinnfahmfggghaa", sum := "8d725c5a2ce7e27ef7d031574a4e1dce494752d24771d7b9b8a051b49661923e", func := "loop.example/g00984/laws.FnExactRingNet", spec := "fnExactRingNet", unfollowed := true, recurses := true, apart := false }
def FnExactRingNetSaid : Prop := fnExactRingNetRow.holds Try.pinned (OpenSpec.ofChange fnExactRingNetSpec)

/-- ITS FALSE NEIGHBOUR: 'it returns false'. Refute it at one input. -/
def fnExactRingNetWrong : ChangeSpec := { name := "fnExactRingNet", fn := fun _ => fun
  | [] => { results := [.lit (.bool false)], args := [] }
  | _ => none }
def FnExactRingNetWrongFalsely : Prop := fnExactRingNetRow.holds Try.pinned (OpenSpec.ofChange fnExactRingNetWrong)

/-- 'laws.FnExactRequestsAt': WHATEVER THE INPUT: true; the input reads as it did. -/
def fnExactRequestsAtSpec : ChangeSpec := { name := "fnExactRequestsAt", fn := fun _ => fun
  | [d1, d2, d3] => { results := [.lit (.bool true)], args := [d1, d2, d3] }
  | _ => none }
def fnExactRequestsAtRow : OpenClaim := { program := "ytinnfahmfggghaa", sum := "8d725c5a2ce7e27ef7d031574a4e1dce494752d24771d7b9b8a051b49661923e", func := "loop.example/g00984/laws.FnExactRequestsAt", spec := "fnExactRequestsAt", unfollowed := true, recurses := true, apart := false }
def FnExactRequestsAtSaid : Prop := fnExactRequestsAtRow.holds Try.pinned (OpenSpec.ofChange fnExactRequestsAtSpec)

/-- ITS FALSE NEIGHBOUR: 'it returns false'. Refute it at one input. -/
def fnExactRequestsAtWrong : ChangeSpec := { name := "fnExactRequestsAt", fn := fun _ => fun
  | [d1, d2, d3] => { results := [.lit (.bool false)], args := [d1, d2, d3] }
  | _ => none }
def FnExactRequestsAtWrongFalsely : Prop := fnExactRequestsAtRow.holds Try.pinned (OpenSpec.ofChange fnExactRequestsAtWrong)

/-- 'laws.FnExactKeepsOrder': WHATEVER THE INPUT: true; the input reads as it did. -/
def fnExactKeepsOrderSpec : ChangeSpec := { name := "fnExactKeepsOrder", fn := fun _ => fun
  | [d1, d2] => { results := [.lit (.bool true)], args := [d1, d2] }
  | _ => none }
def fnExactKeepsOrderRow : OpenClaim := { program := "ytinnfahmfggghaa", sum := "8d725c5a2ce7e27ef7d031574a4e1dce494752d24771d7b9b8a051b49661923e", func := "loop.example/g00984/laws.FnExactKeepsOrder", spec := "fnExactKeepsOrder", unfollowed := true, recurses := true, apart := false }
def FnExactKeepsOrderSaid : Prop := fnExactKeepsOrderRow.holds Try.pinned (OpenSpec.ofChange fnExactKeepsOrderSpec)

/-- ITS FALSE NEIGHBOUR: 'it returns false'. Refute it at one input. -/
def fnExactKeepsOrderWrong : ChangeSpec := { name := "fnExactKeepsOrder", fn := fun _ => fun
  | [d1, d2] => { results := [.lit (.bool false)], args := [d1, d2] }
  | _ => none }
def FnExactKeepsOrderWrongFalsely : Prop := fnExactKeepsOrderRow.holds Try.pinned (OpenSpec.ofChange fnExactKeepsOrderWrong)

/-- 'laws.FnExactSendPacket': WHATEVER THE INPUT: true; the input reads as it did. -/
def fnExactSendPacketSpec : ChangeSpec := { name := "fnExactSendPacket", fn := fun _ => fun
  | [d1, d2] => { results := [.lit (.bool true)], args := [d1, d2] }
  | _ => none }
def fnExactSendPacketRow : OpenClaim := { program := "ytinnfahmfggghaa", sum := "8d725c5a2ce7e27ef7d031574a4e1dce494752d24771d7b9b8a051b49661923e", func := "loop.example/g00984/laws.FnExactSendPacket", spec := "fnExactSendPacket", unfollowed := true, recurses := true, apart := false }
def FnExactSendPacketSaid : Prop := fnExactSendPacketRow.holds Try.pinned (OpenSpec.ofChange fnExactSendPacketSpec)

/-- ITS FALSE NEIGHBOUR: 'it returns false'. Refute it at one input. -/
def fnExactSendPacketWrong : ChangeSpec := { name := "fnExactSendPacket", fn := fun _ => fun
  | [d1, d2] => { results := [.lit (.bool false)], args := [d1, d2] }
  | _ => none }
def FnExactSendPacketWrongFalsely : Prop := fnExactSendPacketRow.holds Try.pinned (OpenSpec.ofChange fnExactSendPacketWrong)

/-- 'laws.FnExactMissing': WHATEVER THE INPUT: true; the input reads as it did. -/
def fnExactMissingSpec : ChangeSpec := { name := "fnExactMissing", fn := fun _ => fun
  | [d1, d2] => { results := [.lit (.bool true)], args := [d1, d2] }
  | _ => none }
def fnExactMissingRow : OpenClaim := { program := "ytinnfahmfggghaa", sum := "8d725c5a2ce7e27ef7d031574a4e1dce494752d24771d7b9b8a051b49661923e", func := "loop.example/g00984/laws.FnExactMissing", spec := "fnExactMissing", unfollowed := true, recurses := true, apart := false }
def FnExactMissingSaid : Prop := fnExactMissingRow.holds Try.pinned (OpenSpec.ofChange fnExactMissingSpec)

/-- ITS FALSE NEIGHBOUR: 'it returns false'. Refute it at one input. -/
def fnExactMissingWrong : ChangeSpec := { name := "fnExactMissing", fn := fun _ => fun
  | [d1, d2] => { results := [.lit (.bool false)], args := [d1, d2] }
  | _ => none }
def FnExactMissingWrongFalsely : Prop := fnExactMissingRow.holds Try.pinned (OpenSpec.ofChange fnExactMissingWrong)

/-- 'laws.FnExactMovesIn': WHATEVER THE INPUT: true; the input reads as it did. -/
def fnExactMovesInSpec : ChangeSpec := { name := "fnExactMovesIn", fn := fun _ => fun
  | [d] => { results := [.lit (.bool true)], args := [d] }
  | _ => none }
def fnExactMovesInRow : OpenClaim := { program := "ytinnfahmfggghaa", sum := "8d725c5a2ce7e27ef7d031574a4e1dce494752d24771d7b9b8a051b49661923e", func := "loop.example/g00984/laws.FnExactMovesIn", spec := "fnExactMovesIn", unfollowed := true, recurses := true, apart := false }
def FnExactMovesInSaid : Prop := fnExactMovesInRow.holds Try.pinned (OpenSpec.ofChange fnExactMovesInSpec)

/-- ITS FALSE NEIGHBOUR: 'it returns false'. Refute it at one input. -/
def fnExactMovesInWrong : ChangeSpec := { name := "fnExactMovesIn", fn := fun _ => fun
  | [d] => { results := [.lit (.bool false)], args := [d] }
  | _ => none }
def FnExactMovesInWrongFalsely : Prop := fnExactMovesInRow.holds Try.pinned (OpenSpec.ofChange fnExactMovesInWrong)

/-- 'laws.FnExactArrivedFrom': WHATEVER THE INPUT: true; the input reads as it did. -/
def fnExactArrivedFromSpec : ChangeSpec := { name := "fnExactArrivedFrom", fn := fun _ => fun
  | [d1, d2, d3, d4, d5] => { results := [.lit (.bool true)], args := [d1, d2, d3, d4, d5] }
  | _ => none }
def fnExactArrivedFromRow : OpenClaim := { program := "ytinnfahmfggghaa", sum := "8d725c5a2ce7e27ef7d031574a4e1dce494752d24771d7b9b8a051b49661923e", func := "loop.example/g00984/laws.FnExactArrivedFrom", spec := "fnExactArrivedFrom", unfollowed := true, recurses := true, apart := false }
def FnExactArrivedFromSaid : Prop := fnExactArrivedFromRow.holds Try.pinned (OpenSpec.ofChange fnExactArrivedFromSpec)

/-- ITS FALSE NEIGHBOUR: 'it returns false'. Refute it at one input. -/
def fnExactArrivedFromWrong : ChangeSpec := { name := "fnExactArrivedFrom", fn := fun _ => fun
  | [d1, d2, d3, d4, d5] => { results := [.lit (.bool false)], args := [d1, d2, d3, d4, d5] }
  | _ => none }
def FnExactArrivedFromWrongFalsely : Prop := fnExactArrivedFromRow.holds Try.pinned (OpenSpec.ofChange fnExactArrivedFromWrong)

/-- 'laws.FnExactWaitsOf': WHATEVER THE INPUT: true; the input reads as it did. -/
def fnExactWaitsOfSpec : ChangeSpec := { name := "fnExactWaitsOf", fn := fun _ => fun
  | [d] => { results := [.lit (.bool true)], args := [d] }
  | _ => none }
def fnExactWaitsOfRow : OpenClaim := { program := "ytinnfahmfggghaa", sum := "8d725c5a2ce7e27ef7d031574a4e1dce494752d24771d7b9b8a051b49661923e", func := "loop.example/g00984/laws.FnExactWaitsOf", spec := "fnExactWaitsOf", unfollowed := true, recurses := true, apart := false }
def FnExactWaitsOfSaid : Prop := fnExactWaitsOfRow.holds Try.pinned (OpenSpec.ofChange fnExactWaitsOfSpec)

/-- ITS FALSE NEIGHBOUR: 'it returns false'. Refute it at one input. -/
def fnExactWaitsOfWrong : ChangeSpec := { name := "fnExactWaitsOf", fn := fun _ => fun
  | [d] => { results := [.lit (.bool false)], args := [d] }
  | _ => none }
def FnExactWaitsOfWrongFalsely : Prop := fnExactWaitsOfRow.holds Try.pinned (OpenSpec.ofChange fnExactWaitsOfWrong)

/- THE SECOND FORM. 'bulk': how many values and letters a reading holds, each counted each time it is reached (what is shared counts as often as it is met; a slice's spare places count too). A statement '..UptoSaid' is the law's where the arguments, and the package variables that the reading takes, are together of bulk at most 1048576: NARROWER than '..Said'. Prove '..Said' where nothing that the law and all that it calls make is longer than what came in: it says more and counts as full. Else prove '..UptoSaid'. A law counts once. -/
mutual
def uptoBulk {H : Type} : DataW H → Nat
  | .lit (.string bytes) => bytes.length + 1
  | .lit _ => 1
  | .nil => 1
  | .ptr d => uptoBulk d + 1
  | .slice elems spare => uptoBulkAll elems + uptoBulkAll spare + 1
  | .agg parts => uptoBulkAll parts + 1
  | .iface _ d => uptoBulk d + 1
  | .map entries => uptoBulkEntries entries + 1
  | .held _ => 1
def uptoBulkAll {H : Type} : List (DataW H) → Nat
  | [] => 0
  | d :: r => uptoBulk d + uptoBulkAll r
def uptoBulkEntries {H : Type} : List (Lit × DataW H) → Nat
  | [] => 0
  | x :: r => uptoBulkEntry x + uptoBulkEntries r
def uptoBulkEntry {H : Type} : Lit × DataW H → Nat
  | (.string bytes, d) => bytes.length + uptoBulk d + 1
  | (_, d) => uptoBulk d + 1
 end
def uptoSmall : (H : Type) → List (DataW H) → Bool := fun _ ds => decide (uptoBulkAll ds ≤ 1048576)
def OpenSpec.upto (s : _root_.Go.ChangeSpec) : _root_.Go.OpenSpec := { _root_.Go.OpenSpec.ofChange s with cond := some uptoSmall }

/-- 'laws.FnExactRingNet', WHERE WHAT IT READS IS OF BULK AT MOST 1048576: true; the input reads as it did. -/
def fnExactRingNetUptoRow : OpenClaim := { program := "ytinnfahmfggghaa", sum := "8d725c5a2ce7e27ef7d031574a4e1dce494752d24771d7b9b8a051b49661923e", func := "loop.example/g00984/laws.FnExactRingNet", spec := "fnExactRingNet", unfollowed := true, recurses := true, apart := false, narrowed := true }
def FnExactRingNetUptoSaid : Prop := fnExactRingNetUptoRow.holds Try.pinned (OpenSpec.upto fnExactRingNetSpec)

/-- 'laws.FnExactRequestsAt', WHERE WHAT IT READS IS OF BULK AT MOST 1048576: true; the input reads as it did. -/
def fnExactRequestsAtUptoRow : OpenClaim := { program := "ytinnfahmfggghaa", sum := "8d725c5a2ce7e27ef7d031574a4e1dce494752d24771d7b9b8a051b49661923e", func := "loop.example/g00984/laws.FnExactRequestsAt", spec := "fnExactRequestsAt", unfollowed := true, recurses := true, apart := false, narrowed := true }
def FnExactRequestsAtUptoSaid : Prop := fnExactRequestsAtUptoRow.holds Try.pinned (OpenSpec.upto fnExactRequestsAtSpec)

/-- 'laws.FnExactKeepsOrder', WHERE WHAT IT READS IS OF BULK AT MOST 1048576: true; the input reads as it did. -/
def fnExactKeepsOrderUptoRow : OpenClaim := { program := "ytinnfahmfggghaa", sum := "8d725c5a2ce7e27ef7d031574a4e1dce494752d24771d7b9b8a051b49661923e", func := "loop.example/g00984/laws.FnExactKeepsOrder", spec := "fnExactKeepsOrder", unfollowed := true, recurses := true, apart := false, narrowed := true }
def FnExactKeepsOrderUptoSaid : Prop := fnExactKeepsOrderUptoRow.holds Try.pinned (OpenSpec.upto fnExactKeepsOrderSpec)

/-- 'laws.FnExactSendPacket', WHERE WHAT IT READS IS OF BULK AT MOST 1048576: true; the input reads as it did. -/
def fnExactSendPacketUptoRow : OpenClaim := { program := "ytinnfahmfggghaa", sum := "8d725c5a2ce7e27ef7d031574a4e1dce494752d24771d7b9b8a051b49661923e", func := "loop.example/g00984/laws.FnExactSendPacket", spec := "fnExactSendPacket", unfollowed := true, recurses := true, apart := false, narrowed := true }
def FnExactSendPacketUptoSaid : Prop := fnExactSendPacketUptoRow.holds Try.pinned (OpenSpec.upto fnExactSendPacketSpec)

/-- 'laws.FnExactMissing', WHERE WHAT IT READS IS OF BULK AT MOST 1048576: true; the input reads as it did. -/
def fnExactMissingUptoRow : OpenClaim := { program := "ytinnfahmfggghaa", sum := "8d725c5a2ce7e27ef7d031574a4e1dce494752d24771d7b9b8a051b49661923e", func := "loop.example/g00984/laws.FnExactMissing", spec := "fnExactMissing", unfollowed := true, recurses := true, apart := false, narrowed := true }
def FnExactMissingUptoSaid : Prop := fnExactMissingUptoRow.holds Try.pinned (OpenSpec.upto fnExactMissingSpec)

/-- 'laws.FnExactMovesIn', WHERE WHAT IT READS IS OF BULK AT MOST 1048576: true; the input reads as it did. -/
def fnExactMovesInUptoRow : OpenClaim := { program := "ytinnfahmfggghaa", sum := "8d725c5a2ce7e27ef7d031574a4e1dce494752d24771d7b9b8a051b49661923e", func := "loop.example/g00984/laws.FnExactMovesIn", spec := "fnExactMovesIn", unfollowed := true, recurses := true, apart := false, narrowed := true }
def FnExactMovesInUptoSaid : Prop := fnExactMovesInUptoRow.holds Try.pinned (OpenSpec.upto fnExactMovesInSpec)

/-- 'laws.FnExactArrivedFrom', WHERE WHAT IT READS IS OF BULK AT MOST 1048576: true; the input reads as it did. -/
def fnExactArrivedFromUptoRow : OpenClaim := { program := "ytinnfahmfggghaa", sum := "8d725c5a2ce7e27ef7d031574a4e1dce494752d24771d7b9b8a051b49661923e", func := "loop.example/g00984/laws.FnExactArrivedFrom", spec := "fnExactArrivedFrom", unfollowed := true, recurses := true, apart := false, narrowed := true }
def FnExactArrivedFromUptoSaid : Prop := fnExactArrivedFromUptoRow.holds Try.pinned (OpenSpec.upto fnExactArrivedFromSpec)

/-- 'laws.FnExactWaitsOf', WHERE WHAT IT READS IS OF BULK AT MOST 1048576: true; the input reads as it did. -/
def fnExactWaitsOfUptoRow : OpenClaim := { program := "ytinnfahmfggghaa", sum := "8d725c5a2ce7e27ef7d031574a4e1dce494752d24771d7b9b8a051b49661923e", func := "loop.example/g00984/laws.FnExactWaitsOf", spec := "fnExactWaitsOf", unfollowed := true, recurses := true, apart := false, narrowed := true }
def FnExactWaitsOfUptoSaid : Prop := fnExactWaitsOfUptoRow.holds Try.pinned (OpenSpec.upto fnExactWaitsOfSpec)

end Rows
end Go.Proofs.Ytinnfahmfggghaa
