/-
  No cell of these rows narrows 'for every input' (looked for: loops, veiled, ifaces, maps, wideKeys, modest, calm, conditions, laid).
  DERIVED. THE GIVEN ROWS OF THIS SEAT. 7 by the template 'for every input the law returns true; each argument reads behind the call as it read before'; 0 by the template 'total and deterministic' (their statements: YtaihmgbflhbebaaGreatTotals.lean).
  GIVEN WITH THE SEED: the statements are not yours to turn. If you find one false, say at which input.
  Laid BY PROGRAM, IN A SANDBOX (cutbox-rows.mjs): the forced cells as the released guide's own fill.sh prints them over the translation b3455a882503415f… (all of the seat's roots in one cut). By AI agents, Wed Nov 11 2026. No macro, syntax, notation, axiom, sorry.
-/
import Derived.Test.YtaihmgbflhbebaaGreatChecked
import GoSem.Claim
import GoSem.ClaimJoined
import GoSem.ClaimMapViews
import Derived.JoinedTies
import Derived.KernelRfl
namespace Go.Proofs.YtaihmgbflhbebaaGreat
/- THE CELL 'sum', in the pinned program and in every row, IS THE sha256 OF THE DUMP (.gsa) THAT YtaihmgbflhbebaaGreatProg.lean LOADS. Nothing in Lean hashes anything: it is a label: what it is worth is what the hold of that sum in a sandbox is worth. -/
noncomputable def Tryz.pinned : Pinned := { name := "ytaihmgbflhbebaagreat", sum := "b3455a882503415fa8cd34cd9777fe150030c79bf03052c3f95e6a61a1eb739d", checked := Tryz.checked }
namespace Rows
def none {H : Type} : Left H := { results := [], args := [] }

/-- 'laws.FnRotation': WHATEVER THE INPUT: true; the input reads as it did. -/
def fnRotationSpec : ChangeSpec := { name := "fnRotation", fn := fun _ => fun
  | [d] => { results := [.lit (.bool true)], args := [d] }
  | _ => none }
def fnRotationRow : OpenClaim := { program := "ytaihmgbflhbebaagreat", sum := "b3455a882503415fa8cd34cd9777fe150030c79bf03052c3f95e6a61a1eb739d", func := "loop.example/g00984/laws.FnRotation", spec := "fnRotation", unfollowed := true, recurses := true, apart := false }
def FnRotationSaid : Prop := fnRotationRow.holds Tryz.pinned (OpenSpec.ofChange fnRotationSpec)

/-- ITS FALSE NEIGHBOUR: 'it returns false'. Refute it at one input. -/
def fnRotationWrong : ChangeSpec := { name := "fnRotation", fn := fun _ => fun
  | [d] => { results := [.lit (.bool false)], args := [d] }
  | _ => none }
def FnRotationWrongFalsely : Prop := fnRotationRow.holds Tryz.pinned (OpenSpec.ofChange fnRotationWrong)

/-- 'laws.FnConserved': WHATEVER THE INPUT: true; the input reads as it did. -/
def fnConservedSpec : ChangeSpec := { name := "fnConserved", fn := fun _ => fun
  | [d] => { results := [.lit (.bool true)], args := [d] }
  | _ => none }
def fnConservedRow : OpenClaim := { program := "ytaihmgbflhbebaagreat", sum := "b3455a882503415fa8cd34cd9777fe150030c79bf03052c3f95e6a61a1eb739d", func := "loop.example/g00984/laws.FnConserved", spec := "fnConserved", unfollowed := true, recurses := true, apart := false }
def FnConservedSaid : Prop := fnConservedRow.holds Tryz.pinned (OpenSpec.ofChange fnConservedSpec)

/-- ITS FALSE NEIGHBOUR: 'it returns false'. Refute it at one input. -/
def fnConservedWrong : ChangeSpec := { name := "fnConserved", fn := fun _ => fun
  | [d] => { results := [.lit (.bool false)], args := [d] }
  | _ => none }
def FnConservedWrongFalsely : Prop := fnConservedRow.holds Tryz.pinned (OpenSpec.ofChange fnConservedWrong)

/-- 'laws.FnRunParts': WHATEVER THE INPUT: true; the input reads as it did. -/
def fnRunPartsSpec : ChangeSpec := { name := "fnRunParts", fn := fun _ => fun
  | [d] => { results := [.lit (.bool true)], args := [d] }
  | _ => none }
def fnRunPartsRow : OpenClaim := { program := "ytaihmgbflhbebaagreat", sum := "b3455a882503415fa8cd34cd9777fe150030c79bf03052c3f95e6a61a1eb739d", func := "loop.example/g00984/laws.FnRunParts", spec := "fnRunParts", unfollowed := true, recurses := true, apart := false }
def FnRunPartsSaid : Prop := fnRunPartsRow.holds Tryz.pinned (OpenSpec.ofChange fnRunPartsSpec)

/-- ITS FALSE NEIGHBOUR: 'it returns false'. Refute it at one input. -/
def fnRunPartsWrong : ChangeSpec := { name := "fnRunParts", fn := fun _ => fun
  | [d] => { results := [.lit (.bool false)], args := [d] }
  | _ => none }
def FnRunPartsWrongFalsely : Prop := fnRunPartsRow.holds Tryz.pinned (OpenSpec.ofChange fnRunPartsWrong)

/-- 'laws.FnSteps': WHATEVER THE INPUT: true; the input reads as it did. -/
def fnStepsSpec : ChangeSpec := { name := "fnSteps", fn := fun _ => fun
  | [d] => { results := [.lit (.bool true)], args := [d] }
  | _ => none }
def fnStepsRow : OpenClaim := { program := "ytaihmgbflhbebaagreat", sum := "b3455a882503415fa8cd34cd9777fe150030c79bf03052c3f95e6a61a1eb739d", func := "loop.example/g00984/laws.FnSteps", spec := "fnSteps", unfollowed := true, recurses := true, apart := false }
def FnStepsSaid : Prop := fnStepsRow.holds Tryz.pinned (OpenSpec.ofChange fnStepsSpec)

/-- ITS FALSE NEIGHBOUR: 'it returns false'. Refute it at one input. -/
def fnStepsWrong : ChangeSpec := { name := "fnSteps", fn := fun _ => fun
  | [d] => { results := [.lit (.bool false)], args := [d] }
  | _ => none }
def FnStepsWrongFalsely : Prop := fnStepsRow.holds Tryz.pinned (OpenSpec.ofChange fnStepsWrong)

/-- 'laws.FnWhole': WHATEVER THE INPUT: true; the input reads as it did. -/
def fnWholeSpec : ChangeSpec := { name := "fnWhole", fn := fun _ => fun
  | [d] => { results := [.lit (.bool true)], args := [d] }
  | _ => none }
def fnWholeRow : OpenClaim := { program := "ytaihmgbflhbebaagreat", sum := "b3455a882503415fa8cd34cd9777fe150030c79bf03052c3f95e6a61a1eb739d", func := "loop.example/g00984/laws.FnWhole", spec := "fnWhole", unfollowed := true, recurses := true, apart := false }
def FnWholeSaid : Prop := fnWholeRow.holds Tryz.pinned (OpenSpec.ofChange fnWholeSpec)

/-- ITS FALSE NEIGHBOUR: 'it returns false'. Refute it at one input. -/
def fnWholeWrong : ChangeSpec := { name := "fnWhole", fn := fun _ => fun
  | [d] => { results := [.lit (.bool false)], args := [d] }
  | _ => none }
def FnWholeWrongFalsely : Prop := fnWholeRow.holds Tryz.pinned (OpenSpec.ofChange fnWholeWrong)

/-- 'laws.FnCredits': WHATEVER THE INPUT: true; the input reads as it did. -/
def fnCreditsSpec : ChangeSpec := { name := "fnCredits", fn := fun _ => fun
  | [d] => { results := [.lit (.bool true)], args := [d] }
  | _ => none }
def fnCreditsRow : OpenClaim := { program := "ytaihmgbflhbebaagreat", sum := "b3455a882503415fa8cd34cd9777fe150030c79bf03052c3f95e6a61a1eb739d", func := "loop.example/g00984/laws.FnCredits", spec := "fnCredits", unfollowed := true, recurses := true, apart := false }
def FnCreditsSaid : Prop := fnCreditsRow.holds Tryz.pinned (OpenSpec.ofChange fnCreditsSpec)

/-- ITS FALSE NEIGHBOUR: 'it returns false'. Refute it at one input. -/
def fnCreditsWrong : ChangeSpec := { name := "fnCredits", fn := fun _ => fun
  | [d] => { results := [.lit (.bool false)], args := [d] }
  | _ => none }
def FnCreditsWrongFalsely : Prop := fnCreditsRow.holds Tryz.pinned (OpenSpec.ofChange fnCreditsWrong)

/-- 'laws.FnStuck': WHATEVER THE INPUT: true; the input reads as it did. -/
def fnStuckSpec : ChangeSpec := { name := "fnStuck", fn := fun _ => fun
  | [d] => { results := [.lit (.bool true)], args := [d] }
  | _ => none }
def fnStuckRow : OpenClaim := { program := "ytaihmgbflhbebaagreat", sum := "b3455a882503415fa8cd34cd9777fe150030c79bf03052c3f95e6a61a1eb739d", func := "loop.example/g00984/laws.FnStuck", spec := "fnStuck", unfollowed := true, recurses := true, apart := false }
def FnStuckSaid : Prop := fnStuckRow.holds Tryz.pinned (OpenSpec.ofChange fnStuckSpec)

/-- ITS FALSE NEIGHBOUR: 'it returns false'. Refute it at one input. -/
def fnStuckWrong : ChangeSpec := { name := "fnStuck", fn := fun _ => fun
  | [d] => { results := [.lit (.bool false)], args := [d] }
  | _ => none }
def FnStuckWrongFalsely : Prop := fnStuckRow.holds Tryz.pinned (OpenSpec.ofChange fnStuckWrong)

/- THE SECOND FORM. 'bulk': how many values and letters a reading holds, each counted each time it is reached (what is shared counts as often as it is met; a slice's spare places count too). A statement '..UptoSaid' is the law's where the arguments, and the package variables that the reading takes, are together of bulk at most 1048576: NARROWER than '..Said'. Prove '..Said' where nothing that the law and all that it calls make is longer than what came in: it says more and counts as full. Else prove '..UptoSaid'. A law counts once. -/
mutual
def uptoBulk {H : Type} : DataW H → Nat
  | .lit (.string bytes) => bytes.length + 1
  | .lit _ => 1
  | .nil => 1
  | .ptr d => uptoBulk d + 1
  | .slice elems spare => uptoBulkAll elems + uptoBulkAll spare + 1
  | .agg parts => uptoBulkAll parts + 1
  | .iface _ d => uptoBulk d + 1
  | .map entries => uptoBulkEntries entries + 1
  | .held _ => 1
def uptoBulkAll {H : Type} : List (DataW H) → Nat
  | [] => 0
  | d :: r => uptoBulk d + uptoBulkAll r
def uptoBulkEntries {H : Type} : List (Lit × DataW H) → Nat
  | [] => 0
  | x :: r => uptoBulkEntry x + uptoBulkEntries r
def uptoBulkEntry {H : Type} : Lit × DataW H → Nat
  | (.string bytes, d) => bytes.length + uptoBulk d + 1
  | (_, d) => uptoBulk d + 1
 end
def uptoSmall : (H : Type) → List (DataW H) → Bool := fun _ ds => decide (uptoBulkAll ds ≤ 1048576)
def OpenSpec.upto (s : _root_.Go.ChangeSpec) : _root_.Go.OpenSpec := { _root_.Go.OpenSpec.ofChange s with cond := some uptoSmall }

/-- 'laws.FnRotation', WHERE WHAT IT READS IS OF BULK AT MOST 1048576: true; the input reads as it did. -/
def fnRotationUptoRow : OpenClaim := { program := "ytaihmgbflhbebaagreat", sum := "b3455a882503415fa8cd34cd9777fe150030c79bf03052c3f95e6a61a1eb739d", func := "loop.example/g00984/laws.FnRotation", spec := "fnRotation", unfollowed := true, recurses := true, apart := false, narrowed := true }
def FnRotationUptoSaid : Prop := fnRotationUptoRow.holds Tryz.pinned (OpenSpec.upto fnRotationSpec)

/-- 'laws.FnConserved', WHERE WHAT IT READS IS OF BULK AT MOST 1048576: true; the input reads as it did. -/
def fnConservedUptoRow : OpenClaim := { program := "ytaihmgbflhbebaagreat", sum := "b3455a882503415fa8cd34cd9777fe150030c79bf03052c3f95e6a61a1eb739d", func := "loop.example/g00984/laws.FnConserved", spec := "fnConserved", unfollowed := true, recurses := true, apart := false, narrowed := true }
def FnConservedUptoSaid : Prop := fnConservedUptoRow.holds Tryz.pinned (OpenSpec.upto fnConservedSpec)

/-- 'laws.FnRunParts', WHERE WHAT IT READS IS OF BULK AT MOST 1048576: true; the input reads as it did. -/
def fnRunPartsUptoRow : OpenClaim := { program := "ytaihmgbflhbebaagreat", sum := "b3455a882503415fa8cd34cd9777fe150030c79bf03052c3f95e6a61a1eb739d", func := "loop.example/g00984/laws.FnRunParts", spec := "fnRunParts", unfollowed := true, recurses := true, apart := false, narrowed := true }
def FnRunPartsUptoSaid : Prop := fnRunPartsUptoRow.holds Tryz.pinned (OpenSpec.upto fnRunPartsSpec)

/-- 'laws.FnSteps', WHERE WHAT IT READS IS OF BULK AT MOST 1048576: true; the input reads as it did. -/
def fnStepsUptoRow : OpenClaim := { program := "ytaihmgbflhbebaagreat", sum := "b3455a882503415fa8cd34cd9777fe150030c79bf03052c3f95e6a61a1eb739d", func := "loop.example/g00984/laws.FnSteps", spec := "fnSteps", unfollowed := true, recurses := true, apart := false, narrowed := true }
def FnStepsUptoSaid : Prop := fnStepsUptoRow.holds Tryz.pinned (OpenSpec.upto fnStepsSpec)

/-- 'laws.FnWhole', WHERE WHAT IT READS IS OF BULK AT MOST 1048576: true; the input reads as it did. -/
def fnWholeUptoRow : OpenClaim := { program := "ytaihmgbflhbebaagreat", sum := "b3455a882503415fa8cd34cd9777fe150030c79bf03052c3f95e6a61a1eb739d", func := "loop.example/g00984/laws.FnWhole", spec := "fnWhole", unfollowed := true, recurses := true, apart := false, narrowed := true }
def FnWholeUptoSaid : Prop := fnWholeUptoRow.holds Tryz.pinned (OpenSpec.upto fnWholeSpec)

/-- 'laws.FnCredits', WHERE WHAT IT READS IS OF BULK AT MOST 1048576: true; the input reads as it did. -/
def fnCreditsUptoRow : OpenClaim := { program := "ytaihmgbflhbebaagreat", sum := "b3455a882503415fa8cd34cd9777fe150030c79bf03052c3f95e6a61a1eb739d", func := "loop.example/g00984/laws.FnCredits", spec := "fnCredits", unfollowed := true, recurses := true, apart := false, narrowed := true }
def FnCreditsUptoSaid : Prop := fnCreditsUptoRow.holds Tryz.pinned (OpenSpec.upto fnCreditsSpec)

/-- 'laws.FnStuck', WHERE WHAT IT READS IS OF BULK AT MOST 1048576: true; the input reads as it did. -/
def fnStuckUptoRow : OpenClaim := { program := "ytaihmgbflhbebaagreat", sum := "b3455a882503415fa8cd34cd9777fe150030c79bf03052c3f95e6a61a1eb739d", func := "loop.example/g00984/laws.FnStuck", spec := "fnStuck", unfollowed := true, recurses := true, apart := false, narrowed := true }
def FnStuckUptoSaid : Prop := fnStuckUptoRow.holds Tryz.pinned (OpenSpec.upto fnStuckSpec)

end Rows
end Go.Proofs.YtaihmgbflhbebaaGreat
