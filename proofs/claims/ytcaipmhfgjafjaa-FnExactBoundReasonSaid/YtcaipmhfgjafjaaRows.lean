/-
  No cell of these rows narrows 'for every input' (looked for: loops, veiled, ifaces, maps, wideKeys, modest, calm, conditions, laid).
  DERIVED. THE GIVEN ROWS OF THIS SEAT. 8 by the template 'for every input the law returns true; each argument reads behind the call as it read before'; 0 by the template 'total and deterministic' (their statements: YtcaipmhfgjafjaaTotals.lean).
  GIVEN WITH THE SEED: the statements are not yours to turn. If you find one false, say at which input.
  Laid BY PROGRAM, IN A SANDBOX (cutbox-rows.mjs): the forced cells as the released guide's own fill.sh prints them over the translation 293d8e39fca6e4db… (all of the seat's roots in one cut). By AI agents, Wed Nov 11 2026. No macro, syntax, notation, axiom, sorry.
-/
import Derived.Test.YtcaipmhfgjafjaaChecked
import GoSem.Claim
import GoSem.ClaimJoined
import GoSem.ClaimMapViews
import Derived.JoinedTies
import Derived.KernelRfl
namespace Go.Proofs.Ytcaipmhfgjafjaa
/- THE CELL 'sum', in the pinned program and in every row, IS THE sha256 OF THE DUMP (.gsa) THAT YtcaipmhfgjafjaaProg.lean LOADS. Nothing in Lean hashes anything: it is a label: what it is worth is what the hold of that sum in a sandbox is worth. -/
noncomputable def Try.pinned : Pinned := { name := "ytcaipmhfgjafjaa", sum := "293d8e39fca6e4dbce898ac9713ea63139253847d088980a7c9cd5e4866a91a9", checked := Try.checked }
namespace Rows
def none {H : Type} : Left H := { results := [], args := [] }

/-- 'laws.FnExactZeroLoad': WHATEVER THE INPUT: true; the input reads as it did. -/
def fnExactZeroLoadSpec : ChangeSpec := { name := "fnExactZeroLoad", fn := fun _ => fun
  | [d1, d2, d3] => { results := [.lit (.bool true)], args := [d1, d2, d3] }
  | _ => none }
def fnExactZeroLoadRow : OpenClaim := { program := "ytcaipmhfgjafjaa", sum := "293d8e39fca6e4dbce898ac9713ea63139253847d088980a7c9cd5e4866a91a9", func := "loop.example/g00984/laws.FnExactZeroLoad", spec := "fnExactZeroLoad", unfollowed := true, recurses := true, apart := false }
def FnExactZeroLoadSaid : Prop := fnExactZeroLoadRow.holds Try.pinned (OpenSpec.ofChange fnExactZeroLoadSpec)

/-- ITS FALSE NEIGHBOUR: 'it returns false'. Refute it at one input. -/
def fnExactZeroLoadWrong : ChangeSpec := { name := "fnExactZeroLoad", fn := fun _ => fun
  | [d1, d2, d3] => { results := [.lit (.bool false)], args := [d1, d2, d3] }
  | _ => none }
def FnExactZeroLoadWrongFalsely : Prop := fnExactZeroLoadRow.holds Try.pinned (OpenSpec.ofChange fnExactZeroLoadWrong)

/-- 'laws.FnExactSerialTime': WHATEVER THE INPUT: true; the input reads as it did. -/
def fnExactSerialTimeSpec : ChangeSpec := { name := "fnExactSerialTime", fn := fun _ => fun
  | [d1, d2, d3] => { results := [.lit (.bool true)], args := [d1, d2, d3] }
  | _ => none }
def fnExactSerialTimeRow : OpenClaim := { program := "ytcaipmhfgjafjaa", sum := "293d8e39fca6e4dbce898ac9713ea63139253847d088980a7c9cd5e4866a91a9", func := "loop.example/g00984/laws.FnExactSerialTime", spec := "fnExactSerialTime", unfollowed := true, recurses := true, apart := false }
def FnExactSerialTimeSaid : Prop := fnExactSerialTimeRow.holds Try.pinned (OpenSpec.ofChange fnExactSerialTimeSpec)

/-- ITS FALSE NEIGHBOUR: 'it returns false'. Refute it at one input. -/
def fnExactSerialTimeWrong : ChangeSpec := { name := "fnExactSerialTime", fn := fun _ => fun
  | [d1, d2, d3] => { results := [.lit (.bool false)], args := [d1, d2, d3] }
  | _ => none }
def FnExactSerialTimeWrongFalsely : Prop := fnExactSerialTimeRow.holds Try.pinned (OpenSpec.ofChange fnExactSerialTimeWrong)

/-- 'laws.FnExactTotalHops': WHATEVER THE INPUT: true; the input reads as it did. -/
def fnExactTotalHopsSpec : ChangeSpec := { name := "fnExactTotalHops", fn := fun _ => fun
  | [d1, d2, d3] => { results := [.lit (.bool true)], args := [d1, d2, d3] }
  | _ => none }
def fnExactTotalHopsRow : OpenClaim := { program := "ytcaipmhfgjafjaa", sum := "293d8e39fca6e4dbce898ac9713ea63139253847d088980a7c9cd5e4866a91a9", func := "loop.example/g00984/laws.FnExactTotalHops", spec := "fnExactTotalHops", unfollowed := true, recurses := true, apart := false }
def FnExactTotalHopsSaid : Prop := fnExactTotalHopsRow.holds Try.pinned (OpenSpec.ofChange fnExactTotalHopsSpec)

/-- ITS FALSE NEIGHBOUR: 'it returns false'. Refute it at one input. -/
def fnExactTotalHopsWrong : ChangeSpec := { name := "fnExactTotalHops", fn := fun _ => fun
  | [d1, d2, d3] => { results := [.lit (.bool false)], args := [d1, d2, d3] }
  | _ => none }
def FnExactTotalHopsWrongFalsely : Prop := fnExactTotalHopsRow.holds Try.pinned (OpenSpec.ofChange fnExactTotalHopsWrong)

/-- 'laws.FnExactMaxLoad': WHATEVER THE INPUT: true; the input reads as it did. -/
def fnExactMaxLoadSpec : ChangeSpec := { name := "fnExactMaxLoad", fn := fun _ => fun
  | [d1, d2, d3] => { results := [.lit (.bool true)], args := [d1, d2, d3] }
  | _ => none }
def fnExactMaxLoadRow : OpenClaim := { program := "ytcaipmhfgjafjaa", sum := "293d8e39fca6e4dbce898ac9713ea63139253847d088980a7c9cd5e4866a91a9", func := "loop.example/g00984/laws.FnExactMaxLoad", spec := "fnExactMaxLoad", unfollowed := true, recurses := true, apart := false }
def FnExactMaxLoadSaid : Prop := fnExactMaxLoadRow.holds Try.pinned (OpenSpec.ofChange fnExactMaxLoadSpec)

/-- ITS FALSE NEIGHBOUR: 'it returns false'. Refute it at one input. -/
def fnExactMaxLoadWrong : ChangeSpec := { name := "fnExactMaxLoad", fn := fun _ => fun
  | [d1, d2, d3] => { results := [.lit (.bool false)], args := [d1, d2, d3] }
  | _ => none }
def FnExactMaxLoadWrongFalsely : Prop := fnExactMaxLoadRow.holds Try.pinned (OpenSpec.ofChange fnExactMaxLoadWrong)

/-- 'laws.FnExactLoadsOf': WHATEVER THE INPUT: true; the input reads as it did. -/
def fnExactLoadsOfSpec : ChangeSpec := { name := "fnExactLoadsOf", fn := fun _ => fun
  | [d1, d2, d3] => { results := [.lit (.bool true)], args := [d1, d2, d3] }
  | _ => none }
def fnExactLoadsOfRow : OpenClaim := { program := "ytcaipmhfgjafjaa", sum := "293d8e39fca6e4dbce898ac9713ea63139253847d088980a7c9cd5e4866a91a9", func := "loop.example/g00984/laws.FnExactLoadsOf", spec := "fnExactLoadsOf", unfollowed := true, recurses := true, apart := false }
def FnExactLoadsOfSaid : Prop := fnExactLoadsOfRow.holds Try.pinned (OpenSpec.ofChange fnExactLoadsOfSpec)

/-- ITS FALSE NEIGHBOUR: 'it returns false'. Refute it at one input. -/
def fnExactLoadsOfWrong : ChangeSpec := { name := "fnExactLoadsOf", fn := fun _ => fun
  | [d1, d2, d3] => { results := [.lit (.bool false)], args := [d1, d2, d3] }
  | _ => none }
def FnExactLoadsOfWrongFalsely : Prop := fnExactLoadsOfRow.holds Try.pinned (OpenSpec.ofChange fnExactLoadsOfWrong)

/-- 'laws.FnExactHottestChannels': WHATEVER THE INPUT: true; the input reads as it did. -/
def fnExactHottestChannelsSpec : ChangeSpec := { name := "fnExactHottestChannels", fn := fun _ => fun
  | [d1, d2, d3] => { results := [.lit (.bool true)], args := [d1, d2, d3] }
  | _ => none }
def fnExactHottestChannelsRow : OpenClaim := { program := "ytcaipmhfgjafjaa", sum := "293d8e39fca6e4dbce898ac9713ea63139253847d088980a7c9cd5e4866a91a9", func := "loop.example/g00984/laws.FnExactHottestChannels", spec := "fnExactHottestChannels", unfollowed := true, recurses := true, apart := false }
def FnExactHottestChannelsSaid : Prop := fnExactHottestChannelsRow.holds Try.pinned (OpenSpec.ofChange fnExactHottestChannelsSpec)

/-- ITS FALSE NEIGHBOUR: 'it returns false'. Refute it at one input. -/
def fnExactHottestChannelsWrong : ChangeSpec := { name := "fnExactHottestChannels", fn := fun _ => fun
  | [d1, d2, d3] => { results := [.lit (.bool false)], args := [d1, d2, d3] }
  | _ => none }
def FnExactHottestChannelsWrongFalsely : Prop := fnExactHottestChannelsRow.holds Try.pinned (OpenSpec.ofChange fnExactHottestChannelsWrong)

/-- 'laws.FnExactDrainBound': WHATEVER THE INPUT: true; the input reads as it did. -/
def fnExactDrainBoundSpec : ChangeSpec := { name := "fnExactDrainBound", fn := fun _ => fun
  | [d1, d2, d3] => { results := [.lit (.bool true)], args := [d1, d2, d3] }
  | _ => none }
def fnExactDrainBoundRow : OpenClaim := { program := "ytcaipmhfgjafjaa", sum := "293d8e39fca6e4dbce898ac9713ea63139253847d088980a7c9cd5e4866a91a9", func := "loop.example/g00984/laws.FnExactDrainBound", spec := "fnExactDrainBound", unfollowed := true, recurses := true, apart := false }
def FnExactDrainBoundSaid : Prop := fnExactDrainBoundRow.holds Try.pinned (OpenSpec.ofChange fnExactDrainBoundSpec)

/-- ITS FALSE NEIGHBOUR: 'it returns false'. Refute it at one input. -/
def fnExactDrainBoundWrong : ChangeSpec := { name := "fnExactDrainBound", fn := fun _ => fun
  | [d1, d2, d3] => { results := [.lit (.bool false)], args := [d1, d2, d3] }
  | _ => none }
def FnExactDrainBoundWrongFalsely : Prop := fnExactDrainBoundRow.holds Try.pinned (OpenSpec.ofChange fnExactDrainBoundWrong)

/-- 'laws.FnExactBoundReason': WHATEVER THE INPUT: true; the input reads as it did. -/
def fnExactBoundReasonSpec : ChangeSpec := { name := "fnExactBoundReason", fn := fun _ => fun
  | [d1, d2, d3] => { results := [.lit (.bool true)], args := [d1, d2, d3] }
  | _ => none }
def fnExactBoundReasonRow : OpenClaim := { program := "ytcaipmhfgjafjaa", sum := "293d8e39fca6e4dbce898ac9713ea63139253847d088980a7c9cd5e4866a91a9", func := "loop.example/g00984/laws.FnExactBoundReason", spec := "fnExactBoundReason", unfollowed := true, recurses := true, apart := false }
def FnExactBoundReasonSaid : Prop := fnExactBoundReasonRow.holds Try.pinned (OpenSpec.ofChange fnExactBoundReasonSpec)

/-- ITS FALSE NEIGHBOUR: 'it returns false'. Refute it at one input. -/
def fnExactBoundReasonWrong : ChangeSpec := { name := "fnExactBoundReason", fn := fun _ => fun
  | [d1, d2, d3] => { results := [.lit (.bool false)], args := [d1, d2, d3] }
  | _ => none }
def FnExactBoundReasonWrongFalsely : Prop := fnExactBoundReasonRow.holds Try.pinned (OpenSpec.ofChange fnExactBoundReasonWrong)

/- THE SECOND FORM. 'bulk': how many values and letters a reading holds, each counted each time it is reached (what is shared counts as often as it is met; a slice's spare places count too). A statement '..UptoSaid' is the law's where the arguments, and the package variables that the reading takes, are together of bulk at most 1048576: NARROWER than '..Said'. Prove '..Said' where nothing that the law and all that it calls make is longer than what came in: it says more and counts as full. Else prove '..UptoSaid'. A law counts once. -/
mutual
def uptoBulk {H : Type} : DataW H → Nat
  | .lit (.string bytes) => bytes.length + 1
  | .lit _ => 1
  | .nil => 1
  | .ptr d => uptoBulk d + 1
  | .slice elems spare => uptoBulkAll elems + uptoBulkAll spare + 1
  | .agg parts => uptoBulkAll parts + 1
  | .iface _ d => uptoBulk d + 1
  | .map entries => uptoBulkEntries entries + 1
  | .held _ => 1
def uptoBulkAll {H : Type} : List (DataW H) → Nat
  | [] => 0
  | d :: r => uptoBulk d + uptoBulkAll r
def uptoBulkEntries {H : Type} : List (Lit × DataW H) → Nat
  | [] => 0
  | x :: r => uptoBulkEntry x + uptoBulkEntries r
def uptoBulkEntry {H : Type} : Lit × DataW H → Nat
  | (.string bytes, d) => bytes.length + uptoBulk d + 1
  | (_, d) => uptoBulk d + 1
 end
def uptoSmall : (H : Type) → List (DataW H) → Bool := fun _ ds => decide (uptoBulkAll ds ≤ 1048576)
def OpenSpec.upto (s : _root_.Go.ChangeSpec) : _root_.Go.OpenSpec := { _root_.Go.OpenSpec.ofChange s with cond := some uptoSmall }

/-- 'laws.FnExactZeroLoad', WHERE WHAT IT READS IS OF BULK AT MOST 1048576: true; the input reads as it did. -/
def fnExactZeroLoadUptoRow : OpenClaim := { program := "ytcaipmhfgjafjaa", sum := "293d8e39fca6e4dbce898ac9713ea63139253847d088980a7c9cd5e4866a91a9", func := "loop.example/g00984/laws.FnExactZeroLoad", spec := "fnExactZeroLoad", unfollowed := true, recurses := true, apart := false, narrowed := true }
def FnExactZeroLoadUptoSaid : Prop := fnExactZeroLoadUptoRow.holds Try.pinned (OpenSpec.upto fnExactZeroLoadSpec)

/-- 'laws.FnExactSerialTime', WHERE WHAT IT READS IS OF BULK AT MOST 1048576: true; the input reads as it did. -/
def fnExactSerialTimeUptoRow : OpenClaim := { program := "ytcaipmhfgjafjaa", sum := "293d8e39fca6e4dbce898ac9713ea63139253847d088980a7c9cd5e4866a91a9", func := "loop.example/g00984/laws.FnExactSerialTime", spec := "fnExactSerialTime", unfollowed := true, recurses := true, apart := false, narrowed := true }
def FnExactSerialTimeUptoSaid : Prop := fnExactSerialTimeUptoRow.holds Try.pinned (OpenSpec.upto fnExactSerialTimeSpec)

/-- 'laws.FnExactTotalHops', WHERE WHAT IT READS IS OF BULK AT MOST 1048576: true; the input reads as it did. -/
def fnExactTotalHopsUptoRow : OpenClaim := { program := "ytcaipmhfgjafjaa", sum := "293d8e39fca6e4dbce898ac9713ea63139253847d088980a7c9cd5e4866a91a9", func := "loop.example/g00984/laws.FnExactTotalHops", spec := "fnExactTotalHops", unfollowed := true, recurses := true, apart := false, narrowed := true }
def FnExactTotalHopsUptoSaid : Prop := fnExactTotalHopsUptoRow.holds Try.pinned (OpenSpec.upto fnExactTotalHopsSpec)

/-- 'laws.FnExactMaxLoad', WHERE WHAT IT READS IS OF BULK AT MOST 1048576: true; the input reads as it did. -/
def fnExactMaxLoadUptoRow : OpenClaim := { program := "ytcaipmhfgjafjaa", sum := "293d8e39fca6e4dbce898ac9713ea63139253847d088980a7c9cd5e4866a91a9", func := "loop.example/g00984/laws.FnExactMaxLoad", spec := "fnExactMaxLoad", unfollowed := true, recurses := true, apart := false, narrowed := true }
def FnExactMaxLoadUptoSaid : Prop := fnExactMaxLoadUptoRow.holds Try.pinned (OpenSpec.upto fnExactMaxLoadSpec)

/-- 'laws.FnExactLoadsOf', WHERE WHAT IT READS IS OF BULK AT MOST 1048576: true; the input reads as it did. -/
def fnExactLoadsOfUptoRow : OpenClaim := { program := "ytcaipmhfgjafjaa", sum := "293d8e39fca6e4dbce898ac9713ea63139253847d088980a7c9cd5e4866a91a9", func := "loop.example/g00984/laws.FnExactLoadsOf", spec := "fnExactLoadsOf", unfollowed := true, recurses := true, apart := false, narrowed := true }
def FnExactLoadsOfUptoSaid : Prop := fnExactLoadsOfUptoRow.holds Try.pinned (OpenSpec.upto fnExactLoadsOfSpec)

/-- 'laws.FnExactHottestChannels', WHERE WHAT IT READS IS OF BULK AT MOST 1048576: true; the input reads as it did. -/
def fnExactHottestChannelsUptoRow : OpenClaim := { program := "ytcaipmhfgjafjaa", sum := "293d8e39fca6e4dbce898ac9713ea63139253847d088980a7c9cd5e4866a91a9", func := "loop.example/g00984/laws.FnExactHottestChannels", spec := "fnExactHottestChannels", unfollowed := true, recurses := true, apart := false, narrowed := true }
def FnExactHottestChannelsUptoSaid : Prop := fnExactHottestChannelsUptoRow.holds Try.pinned (OpenSpec.upto fnExactHottestChannelsSpec)

/-- 'laws.FnExactDrainBound', WHERE WHAT IT READS IS OF BULK AT MOST 1048576: true; the input reads as it did. -/
def fnExactDrainBoundUptoRow : OpenClaim := { program := "ytcaipmhfgjafjaa", sum := "293d8e39fca6e4dbce898ac9713ea63139253847d088980a7c9cd5e4866a91a9", func := "loop.example/g00984/laws.FnExactDrainBound", spec := "fnExactDrainBound", unfollowed := true, recurses := true, apart := false, narrowed := true }
def FnExactDrainBoundUptoSaid : Prop := fnExactDrainBoundUptoRow.holds Try.pinned (OpenSpec.upto fnExactDrainBoundSpec)

/-- 'laws.FnExactBoundReason', WHERE WHAT IT READS IS OF BULK AT MOST 1048576: true; the input reads as it did. -/
def fnExactBoundReasonUptoRow : OpenClaim := { program := "ytcaipmhfgjafjaa", sum := "293d8e39fca6e4dbce898ac9713ea63139253847d088980a7c9cd5e4866a91a9", func := "loop.example/g00984/laws.FnExactBoundReason", spec := "fnExactBoundReason", unfollowed := true, recurses := true, apart := false, narrowed := true }
def FnExactBoundReasonUptoSaid : Prop := fnExactBoundReasonUptoRow.holds Try.pinned (OpenSpec.upto fnExactBoundReasonSpec)

end Rows
end Go.Proofs.Ytcaipmhfgjafjaa
