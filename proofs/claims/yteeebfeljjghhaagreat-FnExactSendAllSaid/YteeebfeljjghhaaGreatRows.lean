/-
  No cell of these rows narrows 'for every input' (looked for: loops, veiled, ifaces, maps, wideKeys, modest, calm, conditions, laid).
  DERIVED. THE GIVEN ROWS OF THIS SEAT. 7 by the template 'for every input the law returns true; each argument reads behind the call as it read before'; 0 by the template 'total and deterministic' (their statements: YteeebfeljjghhaaGreatTotals.lean).
  GIVEN WITH THE SEED: the statements are not yours to turn. If you find one false, say at which input.
  Laid BY PROGRAM, IN A SANDBOX (cutbox-rows.mjs): the forced cells as the released guide's own fill.sh prints them over the translation 753f19ebc8ea38b3… (all of the seat's roots in one cut). By AI agents, Wed Nov 11 2026. No macro, syntax, notation, axiom, sorry.
-/
import Derived.Test.YteeebfeljjghhaaGreatChecked
import GoSem.Claim
import GoSem.ClaimJoined
import GoSem.ClaimMapViews
import Derived.JoinedTies
import Derived.KernelRfl
namespace Go.Proofs.YteeebfeljjghhaaGreat
/- THE CELL 'sum', in the pinned program and in every row, IS THE sha256 OF THE DUMP (.gsa) THAT YteeebfeljjghhaaGreatProg.lean LOADS. Nothing in Lean hashes anything: it is a label: what it is worth is what the hold of that sum in a sandbox is worth. -/
noncomputable def Tryz.pinned : Pinned := { name := "yteeebfeljjghhaagreat", sum := "753f19ebc8ea38b393e7fc99a356fe3ba31945a4647399bc2d644ca7aea7ac12", checked := Tryz.checked }
namespace Rows
def none {H : Type} : Left H := { results := [], args := [] }

/-- 'laws.FnExactStepNet': WHATEVER THE INPUT: true; the input reads as it did. -/
def fnExactStepNetSpec : ChangeSpec := { name := "fnExactStepNet", fn := fun _ => fun
  | [d] => { results := [.lit (.bool true)], args := [d] }
  | _ => none }
def fnExactStepNetRow : OpenClaim := { program := "yteeebfeljjghhaagreat", sum := "753f19ebc8ea38b393e7fc99a356fe3ba31945a4647399bc2d644ca7aea7ac12", func := "loop.example/g00984/laws.FnExactStepNet", spec := "fnExactStepNet", unfollowed := true, recurses := true, apart := false }
def FnExactStepNetSaid : Prop := fnExactStepNetRow.holds Tryz.pinned (OpenSpec.ofChange fnExactStepNetSpec)

/-- ITS FALSE NEIGHBOUR: 'it returns false'. Refute it at one input. -/
def fnExactStepNetWrong : ChangeSpec := { name := "fnExactStepNet", fn := fun _ => fun
  | [d] => { results := [.lit (.bool false)], args := [d] }
  | _ => none }
def FnExactStepNetWrongFalsely : Prop := fnExactStepNetRow.holds Tryz.pinned (OpenSpec.ofChange fnExactStepNetWrong)

/-- 'laws.FnExactRunNet': WHATEVER THE INPUT: true; the input reads as it did. -/
def fnExactRunNetSpec : ChangeSpec := { name := "fnExactRunNet", fn := fun _ => fun
  | [d1, d2] => { results := [.lit (.bool true)], args := [d1, d2] }
  | _ => none }
def fnExactRunNetRow : OpenClaim := { program := "yteeebfeljjghhaagreat", sum := "753f19ebc8ea38b393e7fc99a356fe3ba31945a4647399bc2d644ca7aea7ac12", func := "loop.example/g00984/laws.FnExactRunNet", spec := "fnExactRunNet", unfollowed := true, recurses := true, apart := false }
def FnExactRunNetSaid : Prop := fnExactRunNetRow.holds Tryz.pinned (OpenSpec.ofChange fnExactRunNetSpec)

/-- ITS FALSE NEIGHBOUR: 'it returns false'. Refute it at one input. -/
def fnExactRunNetWrong : ChangeSpec := { name := "fnExactRunNet", fn := fun _ => fun
  | [d1, d2] => { results := [.lit (.bool false)], args := [d1, d2] }
  | _ => none }
def FnExactRunNetWrongFalsely : Prop := fnExactRunNetRow.holds Tryz.pinned (OpenSpec.ofChange fnExactRunNetWrong)

/-- 'laws.FnExactStepsToIdle': WHATEVER THE INPUT: true; the input reads as it did. -/
def fnExactStepsToIdleSpec : ChangeSpec := { name := "fnExactStepsToIdle", fn := fun _ => fun
  | [d] => { results := [.lit (.bool true)], args := [d] }
  | _ => none }
def fnExactStepsToIdleRow : OpenClaim := { program := "yteeebfeljjghhaagreat", sum := "753f19ebc8ea38b393e7fc99a356fe3ba31945a4647399bc2d644ca7aea7ac12", func := "loop.example/g00984/laws.FnExactStepsToIdle", spec := "fnExactStepsToIdle", unfollowed := true, recurses := true, apart := false }
def FnExactStepsToIdleSaid : Prop := fnExactStepsToIdleRow.holds Tryz.pinned (OpenSpec.ofChange fnExactStepsToIdleSpec)

/-- ITS FALSE NEIGHBOUR: 'it returns false'. Refute it at one input. -/
def fnExactStepsToIdleWrong : ChangeSpec := { name := "fnExactStepsToIdle", fn := fun _ => fun
  | [d] => { results := [.lit (.bool false)], args := [d] }
  | _ => none }
def FnExactStepsToIdleWrongFalsely : Prop := fnExactStepsToIdleRow.holds Tryz.pinned (OpenSpec.ofChange fnExactStepsToIdleWrong)

/-- 'laws.FnExactRunToIdle': WHATEVER THE INPUT: true; the input reads as it did. -/
def fnExactRunToIdleSpec : ChangeSpec := { name := "fnExactRunToIdle", fn := fun _ => fun
  | [d] => { results := [.lit (.bool true)], args := [d] }
  | _ => none }
def fnExactRunToIdleRow : OpenClaim := { program := "yteeebfeljjghhaagreat", sum := "753f19ebc8ea38b393e7fc99a356fe3ba31945a4647399bc2d644ca7aea7ac12", func := "loop.example/g00984/laws.FnExactRunToIdle", spec := "fnExactRunToIdle", unfollowed := true, recurses := true, apart := false }
def FnExactRunToIdleSaid : Prop := fnExactRunToIdleRow.holds Tryz.pinned (OpenSpec.ofChange fnExactRunToIdleSpec)

/-- ITS FALSE NEIGHBOUR: 'it returns false'. Refute it at one input. -/
def fnExactRunToIdleWrong : ChangeSpec := { name := "fnExactRunToIdle", fn := fun _ => fun
  | [d] => { results := [.lit (.bool false)], args := [d] }
  | _ => none }
def FnExactRunToIdleWrongFalsely : Prop := fnExactRunToIdleRow.holds Tryz.pinned (OpenSpec.ofChange fnExactRunToIdleWrong)

/-- 'laws.FnExactStuckAfter': WHATEVER THE INPUT: true; the input reads as it did. -/
def fnExactStuckAfterSpec : ChangeSpec := { name := "fnExactStuckAfter", fn := fun _ => fun
  | [d1, d2] => { results := [.lit (.bool true)], args := [d1, d2] }
  | _ => none }
def fnExactStuckAfterRow : OpenClaim := { program := "yteeebfeljjghhaagreat", sum := "753f19ebc8ea38b393e7fc99a356fe3ba31945a4647399bc2d644ca7aea7ac12", func := "loop.example/g00984/laws.FnExactStuckAfter", spec := "fnExactStuckAfter", unfollowed := true, recurses := true, apart := false }
def FnExactStuckAfterSaid : Prop := fnExactStuckAfterRow.holds Tryz.pinned (OpenSpec.ofChange fnExactStuckAfterSpec)

/-- ITS FALSE NEIGHBOUR: 'it returns false'. Refute it at one input. -/
def fnExactStuckAfterWrong : ChangeSpec := { name := "fnExactStuckAfter", fn := fun _ => fun
  | [d1, d2] => { results := [.lit (.bool false)], args := [d1, d2] }
  | _ => none }
def FnExactStuckAfterWrongFalsely : Prop := fnExactStuckAfterRow.holds Tryz.pinned (OpenSpec.ofChange fnExactStuckAfterWrong)

/-- 'laws.FnExactMovesAlways': WHATEVER THE INPUT: true; the input reads as it did. -/
def fnExactMovesAlwaysSpec : ChangeSpec := { name := "fnExactMovesAlways", fn := fun _ => fun
  | [d1, d2] => { results := [.lit (.bool true)], args := [d1, d2] }
  | _ => none }
def fnExactMovesAlwaysRow : OpenClaim := { program := "yteeebfeljjghhaagreat", sum := "753f19ebc8ea38b393e7fc99a356fe3ba31945a4647399bc2d644ca7aea7ac12", func := "loop.example/g00984/laws.FnExactMovesAlways", spec := "fnExactMovesAlways", unfollowed := true, recurses := true, apart := false }
def FnExactMovesAlwaysSaid : Prop := fnExactMovesAlwaysRow.holds Tryz.pinned (OpenSpec.ofChange fnExactMovesAlwaysSpec)

/-- ITS FALSE NEIGHBOUR: 'it returns false'. Refute it at one input. -/
def fnExactMovesAlwaysWrong : ChangeSpec := { name := "fnExactMovesAlways", fn := fun _ => fun
  | [d1, d2] => { results := [.lit (.bool false)], args := [d1, d2] }
  | _ => none }
def FnExactMovesAlwaysWrongFalsely : Prop := fnExactMovesAlwaysRow.holds Tryz.pinned (OpenSpec.ofChange fnExactMovesAlwaysWrong)

/-- 'laws.FnExactSendAll': WHATEVER THE INPUT: true; the input reads as it did. -/
def fnExactSendAllSpec : ChangeSpec := { name := "fnExactSendAll", fn := fun _ => fun
  | [d1, d2] => { results := [.lit (.bool true)], args := [d1, d2] }
  | _ => none }
def fnExactSendAllRow : OpenClaim := { program := "yteeebfeljjghhaagreat", sum := "753f19ebc8ea38b393e7fc99a356fe3ba31945a4647399bc2d644ca7aea7ac12", func := "loop.example/g00984/laws.FnExactSendAll", spec := "fnExactSendAll", unfollowed := true, recurses := true, apart := false }
def FnExactSendAllSaid : Prop := fnExactSendAllRow.holds Tryz.pinned (OpenSpec.ofChange fnExactSendAllSpec)

/-- ITS FALSE NEIGHBOUR: 'it returns false'. Refute it at one input. -/
def fnExactSendAllWrong : ChangeSpec := { name := "fnExactSendAll", fn := fun _ => fun
  | [d1, d2] => { results := [.lit (.bool false)], args := [d1, d2] }
  | _ => none }
def FnExactSendAllWrongFalsely : Prop := fnExactSendAllRow.holds Tryz.pinned (OpenSpec.ofChange fnExactSendAllWrong)

/- THE SECOND FORM. 'bulk': how many values and letters a reading holds, each counted each time it is reached (what is shared counts as often as it is met; a slice's spare places count too). A statement '..UptoSaid' is the law's where the arguments, and the package variables that the reading takes, are together of bulk at most 1048576: NARROWER than '..Said'. Prove '..Said' where nothing that the law and all that it calls make is longer than what came in: it says more and counts as full. Else prove '..UptoSaid'. A law counts once. -/
mutual
def uptoBulk {H : Type} : DataW H → Nat
  | .lit (.string bytes) => bytes.length + 1
  | .lit _ => 1
  | .nil => 1
  | .ptr d => uptoBulk d + 1
  | .slice elems spare => uptoBulkAll elems + uptoBulkAll spare + 1
  | .agg parts => uptoBulkAll parts + 1
  | .iface _ d => uptoBulk d + 1
  | .map entries => uptoBulkEntries entries + 1
  | .held _ => 1
def uptoBulkAll {H : Type} : List (DataW H) → Nat
  | [] => 0
  | d :: r => uptoBulk d + uptoBulkAll r
def uptoBulkEntries {H : Type} : List (Lit × DataW H) → Nat
  | [] => 0
  | x :: r => uptoBulkEntry x + uptoBulkEntries r
def uptoBulkEntry {H : Type} : Lit × DataW H → Nat
  | (.string bytes, d) => bytes.length + uptoBulk d + 1
  | (_, d) => uptoBulk d + 1
 end
def uptoSmall : (H : Type) → List (DataW H) → Bool := fun _ ds => decide (uptoBulkAll ds ≤ 1048576)
def OpenSpec.upto (s : _root_.Go.ChangeSpec) : _root_.Go.OpenSpec := { _root_.Go.OpenSpec.ofChange s with cond := some uptoSmall }

/-- 'laws.FnExactStepNet', WHERE WHAT IT READS IS OF BULK AT MOST 1048576: true; the input reads as it did. -/
def fnExactStepNetUptoRow : OpenClaim := { program := "yteeebfeljjghhaagreat", sum := "753f19ebc8ea38b393e7fc99a356fe3ba31945a4647399bc2d644ca7aea7ac12", func := "loop.example/g00984/laws.FnExactStepNet", spec := "fnExactStepNet", unfollowed := true, recurses := true, apart := false, narrowed := true }
def FnExactStepNetUptoSaid : Prop := fnExactStepNetUptoRow.holds Tryz.pinned (OpenSpec.upto fnExactStepNetSpec)

/-- 'laws.FnExactRunNet', WHERE WHAT IT READS IS OF BULK AT MOST 1048576: true; the input reads as it did. -/
def fnExactRunNetUptoRow : OpenClaim := { program := "yteeebfeljjghhaagreat", sum := "753f19ebc8ea38b393e7fc99a356fe3ba31945a4647399bc2d644ca7aea7ac12", func := "loop.example/g00984/laws.FnExactRunNet", spec := "fnExactRunNet", unfollowed := true, recurses := true, apart := false, narrowed := true }
def FnExactRunNetUptoSaid : Prop := fnExactRunNetUptoRow.holds Tryz.pinned (OpenSpec.upto fnExactRunNetSpec)

/-- 'laws.FnExactStepsToIdle', WHERE WHAT IT READS IS OF BULK AT MOST 1048576: true; the input reads as it did. -/
def fnExactStepsToIdleUptoRow : OpenClaim := { program := "yteeebfeljjghhaagreat", sum := "753f19ebc8ea38b393e7fc99a356fe3ba31945a4647399bc2d644ca7aea7ac12", func := "loop.example/g00984/laws.FnExactStepsToIdle", spec := "fnExactStepsToIdle", unfollowed := true, recurses := true, apart := false, narrowed := true }
def FnExactStepsToIdleUptoSaid : Prop := fnExactStepsToIdleUptoRow.holds Tryz.pinned (OpenSpec.upto fnExactStepsToIdleSpec)

/-- 'laws.FnExactRunToIdle', WHERE WHAT IT READS IS OF BULK AT MOST 1048576: true; the input reads as it did. -/
def fnExactRunToIdleUptoRow : OpenClaim := { program := "yteeebfeljjghhaagreat", sum := "753f19ebc8ea38b393e7fc99a356fe3ba31945a4647399bc2d644ca7aea7ac12", func := "loop.example/g00984/laws.FnExactRunToIdle", spec := "fnExactRunToIdle", unfollowed := true, recurses := true, apart := false, narrowed := true }
def FnExactRunToIdleUptoSaid : Prop := fnExactRunToIdleUptoRow.holds Tryz.pinned (OpenSpec.upto fnExactRunToIdleSpec)

/-- 'laws.FnExactStuckAfter', WHERE WHAT IT READS IS OF BULK AT MOST 1048576: true; the input reads as it did. -/
def fnExactStuckAfterUptoRow : OpenClaim := { program := "yteeebfeljjghhaagreat", sum := "753f19ebc8ea38b393e7fc99a356fe3ba31945a4647399bc2d644ca7aea7ac12", func := "loop.example/g00984/laws.FnExactStuckAfter", spec := "fnExactStuckAfter", unfollowed := true, recurses := true, apart := false, narrowed := true }
def FnExactStuckAfterUptoSaid : Prop := fnExactStuckAfterUptoRow.holds Tryz.pinned (OpenSpec.upto fnExactStuckAfterSpec)

/-- 'laws.FnExactMovesAlways', WHERE WHAT IT READS IS OF BULK AT MOST 1048576: true; the input reads as it did. -/
def fnExactMovesAlwaysUptoRow : OpenClaim := { program := "yteeebfeljjghhaagreat", sum := "753f19ebc8ea38b393e7fc99a356fe3ba31945a4647399bc2d644ca7aea7ac12", func := "loop.example/g00984/laws.FnExactMovesAlways", spec := "fnExactMovesAlways", unfollowed := true, recurses := true, apart := false, narrowed := true }
def FnExactMovesAlwaysUptoSaid : Prop := fnExactMovesAlwaysUptoRow.holds Tryz.pinned (OpenSpec.upto fnExactMovesAlwaysSpec)

/-- 'laws.FnExactSendAll', WHERE WHAT IT READS IS OF BULK AT MOST 1048576: true; the input reads as it did. -/
def fnExactSendAllUptoRow : OpenClaim := { program := "yteeebfeljjghhaagreat", sum := "753f19ebc8ea38b393e7fc99a356fe3ba31945a4647399bc2d644ca7aea7ac12", func := "loop.example/g00984/laws.FnExactSendAll", spec := "fnExactSendAll", unfollowed := true, recurses := true, apart := false, narrowed := true }
def FnExactSendAllUptoSaid : Prop := fnExactSendAllUptoRow.holds Tryz.pinned (OpenSpec.upto fnExactSendAllSpec)

end Rows
end Go.Proofs.YteeebfeljjghhaaGreat
