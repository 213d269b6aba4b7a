/-
  No cell of these rows narrows 'for every input' (looked for: loops, veiled, ifaces, maps, wideKeys, modest, calm, conditions, laid).
  DERIVED. THE GIVEN ROWS OF THIS SEAT. 6 by the template 'for every input the law returns true; each argument reads behind the call as it read before'; 0 by the template 'total and deterministic' (their statements: YtmkbmddgkdoaiaaGreatTotals.lean).
  GIVEN WITH THE SEED: the statements are not yours to turn. If you find one false, say at which input.
  Laid BY PROGRAM, IN A SANDBOX (cutbox-rows.mjs): the forced cells as the released guide's own fill.sh prints them over the translation 999468bc44b18588… (all of the seat's roots in one cut). By AI agents, Wed Nov 11 2026. No macro, syntax, notation, axiom, sorry.
-/
import Derived.Test.YtmkbmddgkdoaiaaGreatChecked
import GoSem.Claim
import GoSem.ClaimJoined
import GoSem.ClaimMapViews
import Derived.JoinedTies
import Derived.KernelRfl
namespace Go.Proofs.YtmkbmddgkdoaiaaGreat
/- THE CELL 'sum', in the pinned program and in every row, IS THE sha256 OF THE DUMP (.gsa) THAT YtmkbmddgkdoaiaaGreatProg.lean LOADS. Nothing in Lean hashes anything: it is a label: what it is worth is what the hold of that sum in a sandbox is worth. -/
noncomputable def Tryz.pinned : Pinned := { name := "ytmkbmddgkdoaiaagreat", sum := "999468bc44b18588cfaa266d1fe0c90de3f6337e3e06d8aafdc167d7711ce355", checked := Tryz.checked }
namespace Rows
def none {H : Type} : Left H := { results := [], args := [] }

/-- 'laws.FnExactCreditsAfter': WHATEVER THE INPUT: true; the input reads as it did. -/
def fnExactCreditsAfterSpec : ChangeSpec := { name := "fnExactCreditsAfter", fn := fun _ => fun
  | [d] => { results := [.lit (.bool true)], args := [d] }
  | _ => none }
def fnExactCreditsAfterRow : OpenClaim := { program := "ytmkbmddgkdoaiaagreat", sum := "999468bc44b18588cfaa266d1fe0c90de3f6337e3e06d8aafdc167d7711ce355", func := "loop.example/g00984/laws.FnExactCreditsAfter", spec := "fnExactCreditsAfter", unfollowed := true, recurses := true, apart := false }
def FnExactCreditsAfterSaid : Prop := fnExactCreditsAfterRow.holds Tryz.pinned (OpenSpec.ofChange fnExactCreditsAfterSpec)

/-- ITS FALSE NEIGHBOUR: 'it returns false'. Refute it at one input. -/
def fnExactCreditsAfterWrong : ChangeSpec := { name := "fnExactCreditsAfter", fn := fun _ => fun
  | [d] => { results := [.lit (.bool false)], args := [d] }
  | _ => none }
def FnExactCreditsAfterWrongFalsely : Prop := fnExactCreditsAfterRow.holds Tryz.pinned (OpenSpec.ofChange fnExactCreditsAfterWrong)

/-- 'laws.FnExactFirstStuck': WHATEVER THE INPUT: true; the input reads as it did. -/
def fnExactFirstStuckSpec : ChangeSpec := { name := "fnExactFirstStuck", fn := fun _ => fun
  | [d1, d2] => { results := [.lit (.bool true)], args := [d1, d2] }
  | _ => none }
def fnExactFirstStuckRow : OpenClaim := { program := "ytmkbmddgkdoaiaagreat", sum := "999468bc44b18588cfaa266d1fe0c90de3f6337e3e06d8aafdc167d7711ce355", func := "loop.example/g00984/laws.FnExactFirstStuck", spec := "fnExactFirstStuck", unfollowed := true, recurses := true, apart := false }
def FnExactFirstStuckSaid : Prop := fnExactFirstStuckRow.holds Tryz.pinned (OpenSpec.ofChange fnExactFirstStuckSpec)

/-- ITS FALSE NEIGHBOUR: 'it returns false'. Refute it at one input. -/
def fnExactFirstStuckWrong : ChangeSpec := { name := "fnExactFirstStuck", fn := fun _ => fun
  | [d1, d2] => { results := [.lit (.bool false)], args := [d1, d2] }
  | _ => none }
def FnExactFirstStuckWrongFalsely : Prop := fnExactFirstStuckRow.holds Tryz.pinned (OpenSpec.ofChange fnExactFirstStuckWrong)

/-- 'laws.FnExactSoloTime': WHATEVER THE INPUT: true; the input reads as it did. -/
def fnExactSoloTimeSpec : ChangeSpec := { name := "fnExactSoloTime", fn := fun _ => fun
  | [d1, d2, d3] => { results := [.lit (.bool true)], args := [d1, d2, d3] }
  | _ => none }
def fnExactSoloTimeRow : OpenClaim := { program := "ytmkbmddgkdoaiaagreat", sum := "999468bc44b18588cfaa266d1fe0c90de3f6337e3e06d8aafdc167d7711ce355", func := "loop.example/g00984/laws.FnExactSoloTime", spec := "fnExactSoloTime", unfollowed := true, recurses := true, apart := false }
def FnExactSoloTimeSaid : Prop := fnExactSoloTimeRow.holds Tryz.pinned (OpenSpec.ofChange fnExactSoloTimeSpec)

/-- ITS FALSE NEIGHBOUR: 'it returns false'. Refute it at one input. -/
def fnExactSoloTimeWrong : ChangeSpec := { name := "fnExactSoloTime", fn := fun _ => fun
  | [d1, d2, d3] => { results := [.lit (.bool false)], args := [d1, d2, d3] }
  | _ => none }
def FnExactSoloTimeWrongFalsely : Prop := fnExactSoloTimeRow.holds Tryz.pinned (OpenSpec.ofChange fnExactSoloTimeWrong)

/-- 'laws.FnExactDelivers': WHATEVER THE INPUT: true; the input reads as it did. -/
def fnExactDeliversSpec : ChangeSpec := { name := "fnExactDelivers", fn := fun _ => fun
  | [d1, d2, d3] => { results := [.lit (.bool true)], args := [d1, d2, d3] }
  | _ => none }
def fnExactDeliversRow : OpenClaim := { program := "ytmkbmddgkdoaiaagreat", sum := "999468bc44b18588cfaa266d1fe0c90de3f6337e3e06d8aafdc167d7711ce355", func := "loop.example/g00984/laws.FnExactDelivers", spec := "fnExactDelivers", unfollowed := true, recurses := true, apart := false }
def FnExactDeliversSaid : Prop := fnExactDeliversRow.holds Tryz.pinned (OpenSpec.ofChange fnExactDeliversSpec)

/-- ITS FALSE NEIGHBOUR: 'it returns false'. Refute it at one input. -/
def fnExactDeliversWrong : ChangeSpec := { name := "fnExactDelivers", fn := fun _ => fun
  | [d1, d2, d3] => { results := [.lit (.bool false)], args := [d1, d2, d3] }
  | _ => none }
def FnExactDeliversWrongFalsely : Prop := fnExactDeliversRow.holds Tryz.pinned (OpenSpec.ofChange fnExactDeliversWrong)

/-- 'laws.FnExactDrainTime': WHATEVER THE INPUT: true; the input reads as it did. -/
def fnExactDrainTimeSpec : ChangeSpec := { name := "fnExactDrainTime", fn := fun _ => fun
  | [d1, d2, d3] => { results := [.lit (.bool true)], args := [d1, d2, d3] }
  | _ => none }
def fnExactDrainTimeRow : OpenClaim := { program := "ytmkbmddgkdoaiaagreat", sum := "999468bc44b18588cfaa266d1fe0c90de3f6337e3e06d8aafdc167d7711ce355", func := "loop.example/g00984/laws.FnExactDrainTime", spec := "fnExactDrainTime", unfollowed := true, recurses := true, apart := false }
def FnExactDrainTimeSaid : Prop := fnExactDrainTimeRow.holds Tryz.pinned (OpenSpec.ofChange fnExactDrainTimeSpec)

/-- ITS FALSE NEIGHBOUR: 'it returns false'. Refute it at one input. -/
def fnExactDrainTimeWrong : ChangeSpec := { name := "fnExactDrainTime", fn := fun _ => fun
  | [d1, d2, d3] => { results := [.lit (.bool false)], args := [d1, d2, d3] }
  | _ => none }
def FnExactDrainTimeWrongFalsely : Prop := fnExactDrainTimeRow.holds Tryz.pinned (OpenSpec.ofChange fnExactDrainTimeWrong)

/-- 'laws.FnExactSlowdown': WHATEVER THE INPUT: true; the input reads as it did. -/
def fnExactSlowdownSpec : ChangeSpec := { name := "fnExactSlowdown", fn := fun _ => fun
  | [d1, d2, d3] => { results := [.lit (.bool true)], args := [d1, d2, d3] }
  | _ => none }
def fnExactSlowdownRow : OpenClaim := { program := "ytmkbmddgkdoaiaagreat", sum := "999468bc44b18588cfaa266d1fe0c90de3f6337e3e06d8aafdc167d7711ce355", func := "loop.example/g00984/laws.FnExactSlowdown", spec := "fnExactSlowdown", unfollowed := true, recurses := true, apart := false }
def FnExactSlowdownSaid : Prop := fnExactSlowdownRow.holds Tryz.pinned (OpenSpec.ofChange fnExactSlowdownSpec)

/-- ITS FALSE NEIGHBOUR: 'it returns false'. Refute it at one input. -/
def fnExactSlowdownWrong : ChangeSpec := { name := "fnExactSlowdown", fn := fun _ => fun
  | [d1, d2, d3] => { results := [.lit (.bool false)], args := [d1, d2, d3] }
  | _ => none }
def FnExactSlowdownWrongFalsely : Prop := fnExactSlowdownRow.holds Tryz.pinned (OpenSpec.ofChange fnExactSlowdownWrong)

/- THE SECOND FORM. 'bulk': how many values and letters a reading holds, each counted each time it is reached (what is shared counts as often as it is met; a slice's spare places count too). A statement '..UptoSaid' is the law's where the arguments, and the package variables that the reading takes, are together of bulk at most 1048576: NARROWER than '..Said'. Prove '..Said' where nothing that the law and all that it calls make is longer than what came in: it says more and counts as full. Else prove '..UptoSaid'. A law counts once. -/
mutual
def uptoBulk {H : Type} : DataW H → Nat
  | .lit (.string bytes) => bytes.length + 1
  | .lit _ => 1
  | .nil => 1
  | .ptr d => uptoBulk d + 1
  | .slice elems spare => uptoBulkAll elems + uptoBulkAll spare + 1
  | .agg parts => uptoBulkAll parts + 1
  | .iface _ d => uptoBulk d + 1
  | .map entries => uptoBulkEntries entries + 1
  | .held _ => 1
def uptoBulkAll {H : Type} : List (DataW H) → Nat
  | [] => 0
  | d :: r => uptoBulk d + uptoBulkAll r
def uptoBulkEntries {H : Type} : List (Lit × DataW H) → Nat
  | [] => 0
  | x :: r => uptoBulkEntry x + uptoBulkEntries r
def uptoBulkEntry {H : Type} : Lit × DataW H → Nat
  | (.string bytes, d) => bytes.length + uptoBulk d + 1
  | (_, d) => uptoBulk d + 1
 end
def uptoSmall : (H : Type) → List (DataW H) → Bool := fun _ ds => decide (uptoBulkAll ds ≤ 1048576)
def OpenSpec.upto (s : _root_.Go.ChangeSpec) : _root_.Go.OpenSpec := { _root_.Go.OpenSpec.ofChange s with cond := some uptoSmall }

/-- 'laws.FnExactCreditsAfter', WHERE WHAT IT READS IS OF BULK AT MOST 1048576: true; the input reads as it did. -/
def fnExactCreditsAfterUptoRow : OpenClaim := { program := "ytmkbmddgkdoaiaagreat", sum := "999468bc44b18588cfaa266d1fe0c90de3f6337e3e06d8aafdc167d7711ce355", func := "loop.example/g00984/laws.FnExactCreditsAfter", spec := "fnExactCreditsAfter", unfollowed := true, recurses := true, apart := false, narrowed := true }
def FnExactCreditsAfterUptoSaid : Prop := fnExactCreditsAfterUptoRow.holds Tryz.pinned (OpenSpec.upto fnExactCreditsAfterSpec)

/-- 'laws.FnExactFirstStuck', WHERE WHAT IT READS IS OF BULK AT MOST 1048576: true; the input reads as it did. -/
def fnExactFirstStuckUptoRow : OpenClaim := { program := "ytmkbmddgkdoaiaagreat", sum := "999468bc44b18588cfaa266d1fe0c90de3f6337e3e06d8aafdc167d7711ce355", func := "loop.example/g00984/laws.FnExactFirstStuck", spec := "fnExactFirstStuck", unfollowed := true, recurses := true, apart := false, narrowed := true }
def FnExactFirstStuckUptoSaid : Prop := fnExactFirstStuckUptoRow.holds Tryz.pinned (OpenSpec.upto fnExactFirstStuckSpec)

/-- 'laws.FnExactSoloTime', WHERE WHAT IT READS IS OF BULK AT MOST 1048576: true; the input reads as it did. -/
def fnExactSoloTimeUptoRow : OpenClaim := { program := "ytmkbmddgkdoaiaagreat", sum := "999468bc44b18588cfaa266d1fe0c90de3f6337e3e06d8aafdc167d7711ce355", func := "loop.example/g00984/laws.FnExactSoloTime", spec := "fnExactSoloTime", unfollowed := true, recurses := true, apart := false, narrowed := true }
def FnExactSoloTimeUptoSaid : Prop := fnExactSoloTimeUptoRow.holds Tryz.pinned (OpenSpec.upto fnExactSoloTimeSpec)

/-- 'laws.FnExactDelivers', WHERE WHAT IT READS IS OF BULK AT MOST 1048576: true; the input reads as it did. -/
def fnExactDeliversUptoRow : OpenClaim := { program := "ytmkbmddgkdoaiaagreat", sum := "999468bc44b18588cfaa266d1fe0c90de3f6337e3e06d8aafdc167d7711ce355", func := "loop.example/g00984/laws.FnExactDelivers", spec := "fnExactDelivers", unfollowed := true, recurses := true, apart := false, narrowed := true }
def FnExactDeliversUptoSaid : Prop := fnExactDeliversUptoRow.holds Tryz.pinned (OpenSpec.upto fnExactDeliversSpec)

/-- 'laws.FnExactDrainTime', WHERE WHAT IT READS IS OF BULK AT MOST 1048576: true; the input reads as it did. -/
def fnExactDrainTimeUptoRow : OpenClaim := { program := "ytmkbmddgkdoaiaagreat", sum := "999468bc44b18588cfaa266d1fe0c90de3f6337e3e06d8aafdc167d7711ce355", func := "loop.example/g00984/laws.FnExactDrainTime", spec := "fnExactDrainTime", unfollowed := true, recurses := true, apart := false, narrowed := true }
def FnExactDrainTimeUptoSaid : Prop := fnExactDrainTimeUptoRow.holds Tryz.pinned (OpenSpec.upto fnExactDrainTimeSpec)

/-- 'laws.FnExactSlowdown', WHERE WHAT IT READS IS OF BULK AT MOST 1048576: true; the input reads as it did. -/
def fnExactSlowdownUptoRow : OpenClaim := { program := "ytmkbmddgkdoaiaagreat", sum := "999468bc44b18588cfaa266d1fe0c90de3f6337e3e06d8aafdc167d7711ce355", func := "loop.example/g00984/laws.FnExactSlowdown", spec := "fnExactSlowdown", unfollowed := true, recurses := true, apart := false, narrowed := true }
def FnExactSlowdownUptoSaid : Prop := fnExactSlowdownUptoRow.holds Tryz.pinned (OpenSpec.upto fnExactSlowdownSpec)

end Rows
end Go.Proofs.YtmkbmddgkdoaiaaGreat
