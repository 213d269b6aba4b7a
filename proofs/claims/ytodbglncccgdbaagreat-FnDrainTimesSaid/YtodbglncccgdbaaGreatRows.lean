/-
  No cell of these rows narrows 'for every input' (looked for: loops, veiled, ifaces, maps, wideKeys, modest, calm, conditions, laid).
  DERIVED. THE GIVEN ROWS OF THIS SEAT. 4 by the template 'for every input the law returns true; each argument reads behind the call as it read before'; 0 by the template 'total and deterministic' (their statements: YtodbglncccgdbaaGreatTotals.lean).
  GIVEN WITH THE SEED: the statements are not yours to turn. If you find one false, say at which input.
  Laid BY PROGRAM, IN A SANDBOX (cutbox-rows.mjs): the forced cells as the released guide's own fill.sh prints them over the translation a54373a2ba4a31eb… (all of the seat's roots in one cut). By AI agents, Wed Nov 11 2026. No macro, syntax, notation, axiom, sorry.
-/
import Derived.Test.YtodbglncccgdbaaGreatChecked
import GoSem.Claim
import GoSem.ClaimJoined
import GoSem.ClaimMapViews
import Derived.JoinedTies
import Derived.KernelRfl
namespace Go.Proofs.YtodbglncccgdbaaGreat
/- THE CELL 'sum', in the pinned program and in every row, IS THE sha256 OF THE DUMP (.gsa) THAT YtodbglncccgdbaaGreatProg.lean LOADS. Nothing in Lean hashes anything: it is a label: what it is worth is what the hold of that sum in a sandbox is worth. -/
noncomputable def Tryz.pinned : Pinned := { name := "ytodbglncccgdbaagreat", sum := "a54373a2ba4a31ebc4b28b9be9766a7170bcb3c9fc3a55b33a003d7b18a2338f", checked := Tryz.checked }
namespace Rows
def none {H : Type} : Left H := { results := [], args := [] }

/-- 'laws.FnDrainTimes': WHATEVER THE INPUT: true; the input reads as it did. -/
def fnDrainTimesSpec : ChangeSpec := { name := "fnDrainTimes", fn := fun _ => fun
  | [d] => { results := [.lit (.bool true)], args := [d] }
  | _ => none }
def fnDrainTimesRow : OpenClaim := { program := "ytodbglncccgdbaagreat", sum := "a54373a2ba4a31ebc4b28b9be9766a7170bcb3c9fc3a55b33a003d7b18a2338f", func := "loop.example/g00984/laws.FnDrainTimes", spec := "fnDrainTimes", unfollowed := true, recurses := true, apart := false }
def FnDrainTimesSaid : Prop := fnDrainTimesRow.holds Tryz.pinned (OpenSpec.ofChange fnDrainTimesSpec)

/-- ITS FALSE NEIGHBOUR: 'it returns false'. Refute it at one input. -/
def fnDrainTimesWrong : ChangeSpec := { name := "fnDrainTimes", fn := fun _ => fun
  | [d] => { results := [.lit (.bool false)], args := [d] }
  | _ => none }
def FnDrainTimesWrongFalsely : Prop := fnDrainTimesRow.holds Tryz.pinned (OpenSpec.ofChange fnDrainTimesWrong)

/-- 'laws.FnTop': WHATEVER THE INPUT: true; the input reads as it did. -/
def fnTopSpec : ChangeSpec := { name := "fnTop", fn := fun _ => fun
  | [d] => { results := [.lit (.bool true)], args := [d] }
  | _ => none }
def fnTopRow : OpenClaim := { program := "ytodbglncccgdbaagreat", sum := "a54373a2ba4a31ebc4b28b9be9766a7170bcb3c9fc3a55b33a003d7b18a2338f", func := "loop.example/g00984/laws.FnTop", spec := "fnTop", unfollowed := true, recurses := true, apart := false }
def FnTopSaid : Prop := fnTopRow.holds Tryz.pinned (OpenSpec.ofChange fnTopSpec)

/-- ITS FALSE NEIGHBOUR: 'it returns false'. Refute it at one input. -/
def fnTopWrong : ChangeSpec := { name := "fnTop", fn := fun _ => fun
  | [d] => { results := [.lit (.bool false)], args := [d] }
  | _ => none }
def FnTopWrongFalsely : Prop := fnTopRow.holds Tryz.pinned (OpenSpec.ofChange fnTopWrong)

/-- 'laws.FnDeadlock': WHATEVER THE INPUT: true; the input reads as it did. -/
def fnDeadlockSpec : ChangeSpec := { name := "fnDeadlock", fn := fun _ => fun
  | [d] => { results := [.lit (.bool true)], args := [d] }
  | _ => none }
def fnDeadlockRow : OpenClaim := { program := "ytodbglncccgdbaagreat", sum := "a54373a2ba4a31ebc4b28b9be9766a7170bcb3c9fc3a55b33a003d7b18a2338f", func := "loop.example/g00984/laws.FnDeadlock", spec := "fnDeadlock", unfollowed := true, recurses := true, apart := false }
def FnDeadlockSaid : Prop := fnDeadlockRow.holds Tryz.pinned (OpenSpec.ofChange fnDeadlockSpec)

/-- ITS FALSE NEIGHBOUR: 'it returns false'. Refute it at one input. -/
def fnDeadlockWrong : ChangeSpec := { name := "fnDeadlock", fn := fun _ => fun
  | [d] => { results := [.lit (.bool false)], args := [d] }
  | _ => none }
def FnDeadlockWrongFalsely : Prop := fnDeadlockRow.holds Tryz.pinned (OpenSpec.ofChange fnDeadlockWrong)

/-- 'laws.FnExactIsSafeNet': WHATEVER THE INPUT: true; the input reads as it did. -/
def fnExactIsSafeNetSpec : ChangeSpec := { name := "fnExactIsSafeNet", fn := fun _ => fun
  | [d] => { results := [.lit (.bool true)], args := [d] }
  | _ => none }
def fnExactIsSafeNetRow : OpenClaim := { program := "ytodbglncccgdbaagreat", sum := "a54373a2ba4a31ebc4b28b9be9766a7170bcb3c9fc3a55b33a003d7b18a2338f", func := "loop.example/g00984/laws.FnExactIsSafeNet", spec := "fnExactIsSafeNet", unfollowed := true, recurses := true, apart := false }
def FnExactIsSafeNetSaid : Prop := fnExactIsSafeNetRow.holds Tryz.pinned (OpenSpec.ofChange fnExactIsSafeNetSpec)

/-- ITS FALSE NEIGHBOUR: 'it returns false'. Refute it at one input. -/
def fnExactIsSafeNetWrong : ChangeSpec := { name := "fnExactIsSafeNet", fn := fun _ => fun
  | [d] => { results := [.lit (.bool false)], args := [d] }
  | _ => none }
def FnExactIsSafeNetWrongFalsely : Prop := fnExactIsSafeNetRow.holds Tryz.pinned (OpenSpec.ofChange fnExactIsSafeNetWrong)

/- THE SECOND FORM. 'bulk': how many values and letters a reading holds, each counted each time it is reached (what is shared counts as often as it is met; a slice's spare places count too). A statement '..UptoSaid' is the law's where the arguments, and the package variables that the reading takes, are together of bulk at most 1048576: NARROWER than '..Said'. Prove '..Said' where nothing that the law and all that it calls make is longer than what came in: it says more and counts as full. Else prove '..UptoSaid'. A law counts once. -/
mutual
def uptoBulk {H : Type} : DataW H → Nat
  | .lit (.string bytes) => bytes.length + 1
  | .lit _ => 1
  | .nil => 1
  | .ptr d => uptoBulk d + 1
  | .slice elems spare => uptoBulkAll elems + uptoBulkAll spare + 1
  | .agg parts => uptoBulkAll parts + 1
  | .iface _ d => uptoBulk d + 1
  | .map entries => uptoBulkEntries entries + 1
  | .held _ => 1
def uptoBulkAll {H : Type} : List (DataW H) → Nat
  | [] => 0
  | d :: r => uptoBulk d + uptoBulkAll r
def uptoBulkEntries {H : Type} : List (Lit × DataW H) → Nat
  | [] => 0
  | x :: r => uptoBulkEntry x + uptoBulkEntries r
def uptoBulkEntry {H : Type} : Lit × DataW H → Nat
  | (.string bytes, d) => bytes.length + uptoBulk d + 1
  | (_, d) => uptoBulk d + 1
 end
def uptoSmall : (H : Type) → List (DataW H) → Bool := fun _ ds => decide (uptoBulkAll ds ≤ 1048576)
def OpenSpec.upto (s : _root_.Go.ChangeSpec) : _root_.Go.OpenSpec := { _root_.Go.OpenSpec.ofChange s with cond := some uptoSmall }

/-- 'laws.FnDrainTimes', WHERE WHAT IT READS IS OF BULK AT MOST 1048576: true; the input reads as it did. -/
def fnDrainTimesUptoRow : OpenClaim := { program := "ytodbglncccgdbaagreat", sum := "a54373a2ba4a31ebc4b28b9be9766a7170bcb3c9fc3a55b33a003d7b18a2338f", func := "loop.example/g00984/laws.FnDrainTimes", spec := "fnDrainTimes", unfollowed := true, recurses := true, apart := false, narrowed := true }
def FnDrainTimesUptoSaid : Prop := fnDrainTimesUptoRow.holds Tryz.pinned (OpenSpec.upto fnDrainTimesSpec)

/-- 'laws.FnTop', WHERE WHAT IT READS IS OF BULK AT MOST 1048576: true; the input reads as it did. -/
def fnTopUptoRow : OpenClaim := { program := "ytodbglncccgdbaagreat", sum := "a54373a2ba4a31ebc4b28b9be9766a7170bcb3c9fc3a55b33a003d7b18a2338f", func := "loop.example/g00984/laws.FnTop", spec := "fnTop", unfollowed := true, recurses := true, apart := false, narrowed := true }
def FnTopUptoSaid : Prop := fnTopUptoRow.holds Tryz.pinned (OpenSpec.upto fnTopSpec)

/-- 'laws.FnDeadlock', WHERE WHAT IT READS IS OF BULK AT MOST 1048576: true; the input reads as it did. -/
def fnDeadlockUptoRow : OpenClaim := { program := "ytodbglncccgdbaagreat", sum := "a54373a2ba4a31ebc4b28b9be9766a7170bcb3c9fc3a55b33a003d7b18a2338f", func := "loop.example/g00984/laws.FnDeadlock", spec := "fnDeadlock", unfollowed := true, recurses := true, apart := false, narrowed := true }
def FnDeadlockUptoSaid : Prop := fnDeadlockUptoRow.holds Tryz.pinned (OpenSpec.upto fnDeadlockSpec)

/-- 'laws.FnExactIsSafeNet', WHERE WHAT IT READS IS OF BULK AT MOST 1048576: true; the input reads as it did. -/
def fnExactIsSafeNetUptoRow : OpenClaim := { program := "ytodbglncccgdbaagreat", sum := "a54373a2ba4a31ebc4b28b9be9766a7170bcb3c9fc3a55b33a003d7b18a2338f", func := "loop.example/g00984/laws.FnExactIsSafeNet", spec := "fnExactIsSafeNet", unfollowed := true, recurses := true, apart := false, narrowed := true }
def FnExactIsSafeNetUptoSaid : Prop := fnExactIsSafeNetUptoRow.holds Tryz.pinned (OpenSpec.upto fnExactIsSafeNetSpec)

end Rows
end Go.Proofs.YtodbglncccgdbaaGreat
