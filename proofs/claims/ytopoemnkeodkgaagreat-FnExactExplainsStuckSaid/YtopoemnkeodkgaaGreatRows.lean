/-
  No cell of these rows narrows 'for every input' (looked for: loops, veiled, ifaces, maps, wideKeys, modest, calm, conditions, laid).
  DERIVED. THE GIVEN ROWS OF THIS SEAT. 5 by the template 'for every input the law returns true; each argument reads behind the call as it read before'; 0 by the template 'total and deterministic' (their statements: YtopoemnkeodkgaaGreatTotals.lean).
  GIVEN WITH THE SEED: the statements are not yours to turn. If you find one false, say at which input.
  Laid BY PROGRAM, IN A SANDBOX (cutbox-rows.mjs): the forced cells as the released guide's own fill.sh prints them over the translation 1db662626d87e45a… (all of the seat's roots in one cut). By AI agents, Wed Nov 11 2026. No macro, syntax, notation, axiom, sorry.
-/
import Derived.Test.YtopoemnkeodkgaaGreatChecked
import GoSem.Claim
import GoSem.ClaimJoined
import GoSem.ClaimMapViews
import Derived.JoinedTies
import Derived.KernelRfl
namespace Go.Proofs.YtopoemnkeodkgaaGreat
/- THE CELL 'sum', in the pinned program and in every row, IS THE sha256 OF THE DUMP (.gsa) THAT YtopoemnkeodkgaaGreatProg.lean LOADS. Nothing in Lean hashes anything: it is a label: what it is worth is what the hold of that sum in a sandbox is worth. -/
noncomputable def Tryz.pinned : Pinned := { name := "ytopoemnkeodkgaagreat", sum := "1db662626d87e45a3a38b2aab54ab1412d7881de17e07fd67536a720e7e8ddd6", checked := Tryz.checked }
namespace Rows
def none {H : Type} : Left H := { results := [], args := [] }

/-- 'laws.FnExactSendAll': WHATEVER THE INPUT: true; the input reads as it did. -/
def fnExactSendAllSpec : ChangeSpec := { name := "fnExactSendAll", fn := fun _ => fun
  | [d1, d2] => { results := [.lit (.bool true)], args := [d1, d2] }
  | _ => none }
def fnExactSendAllRow : OpenClaim := { program := "ytopoemnkeodkgaagreat", sum := "1db662626d87e45a3a38b2aab54ab1412d7881de17e07fd67536a720e7e8ddd6", func := "loop.example/g00984/laws.FnExactSendAll", spec := "fnExactSendAll", unfollowed := true, recurses := true, apart := false }
def FnExactSendAllSaid : Prop := fnExactSendAllRow.holds Tryz.pinned (OpenSpec.ofChange fnExactSendAllSpec)

/-- ITS FALSE NEIGHBOUR: 'it returns false'. Refute it at one input. -/
def fnExactSendAllWrong : ChangeSpec := { name := "fnExactSendAll", fn := fun _ => fun
  | [d1, d2] => { results := [.lit (.bool false)], args := [d1, d2] }
  | _ => none }
def FnExactSendAllWrongFalsely : Prop := fnExactSendAllRow.holds Tryz.pinned (OpenSpec.ofChange fnExactSendAllWrong)

/-- 'laws.FnExactExplainsStuck': WHATEVER THE INPUT: true; the input reads as it did. -/
def fnExactExplainsStuckSpec : ChangeSpec := { name := "fnExactExplainsStuck", fn := fun _ => fun
  | [d1, d2] => { results := [.lit (.bool true)], args := [d1, d2] }
  | _ => none }
def fnExactExplainsStuckRow : OpenClaim := { program := "ytopoemnkeodkgaagreat", sum := "1db662626d87e45a3a38b2aab54ab1412d7881de17e07fd67536a720e7e8ddd6", func := "loop.example/g00984/laws.FnExactExplainsStuck", spec := "fnExactExplainsStuck", unfollowed := true, recurses := true, apart := false }
def FnExactExplainsStuckSaid : Prop := fnExactExplainsStuckRow.holds Tryz.pinned (OpenSpec.ofChange fnExactExplainsStuckSpec)

/-- ITS FALSE NEIGHBOUR: 'it returns false'. Refute it at one input. -/
def fnExactExplainsStuckWrong : ChangeSpec := { name := "fnExactExplainsStuck", fn := fun _ => fun
  | [d1, d2] => { results := [.lit (.bool false)], args := [d1, d2] }
  | _ => none }
def FnExactExplainsStuckWrongFalsely : Prop := fnExactExplainsStuckRow.holds Tryz.pinned (OpenSpec.ofChange fnExactExplainsStuckWrong)

/-- 'laws.FnExactCreditsAfter': WHATEVER THE INPUT: true; the input reads as it did. -/
def fnExactCreditsAfterSpec : ChangeSpec := { name := "fnExactCreditsAfter", fn := fun _ => fun
  | [d] => { results := [.lit (.bool true)], args := [d] }
  | _ => none }
def fnExactCreditsAfterRow : OpenClaim := { program := "ytopoemnkeodkgaagreat", sum := "1db662626d87e45a3a38b2aab54ab1412d7881de17e07fd67536a720e7e8ddd6", func := "loop.example/g00984/laws.FnExactCreditsAfter", spec := "fnExactCreditsAfter", unfollowed := true, recurses := true, apart := false }
def FnExactCreditsAfterSaid : Prop := fnExactCreditsAfterRow.holds Tryz.pinned (OpenSpec.ofChange fnExactCreditsAfterSpec)

/-- ITS FALSE NEIGHBOUR: 'it returns false'. Refute it at one input. -/
def fnExactCreditsAfterWrong : ChangeSpec := { name := "fnExactCreditsAfter", fn := fun _ => fun
  | [d] => { results := [.lit (.bool false)], args := [d] }
  | _ => none }
def FnExactCreditsAfterWrongFalsely : Prop := fnExactCreditsAfterRow.holds Tryz.pinned (OpenSpec.ofChange fnExactCreditsAfterWrong)

/-- 'laws.FnExactMovesAlways': WHATEVER THE INPUT: true; the input reads as it did. -/
def fnExactMovesAlwaysSpec : ChangeSpec := { name := "fnExactMovesAlways", fn := fun _ => fun
  | [d1, d2] => { results := [.lit (.bool true)], args := [d1, d2] }
  | _ => none }
def fnExactMovesAlwaysRow : OpenClaim := { program := "ytopoemnkeodkgaagreat", sum := "1db662626d87e45a3a38b2aab54ab1412d7881de17e07fd67536a720e7e8ddd6", func := "loop.example/g00984/laws.FnExactMovesAlways", spec := "fnExactMovesAlways", unfollowed := true, recurses := true, apart := false }
def FnExactMovesAlwaysSaid : Prop := fnExactMovesAlwaysRow.holds Tryz.pinned (OpenSpec.ofChange fnExactMovesAlwaysSpec)

/-- ITS FALSE NEIGHBOUR: 'it returns false'. Refute it at one input. -/
def fnExactMovesAlwaysWrong : ChangeSpec := { name := "fnExactMovesAlways", fn := fun _ => fun
  | [d1, d2] => { results := [.lit (.bool false)], args := [d1, d2] }
  | _ => none }
def FnExactMovesAlwaysWrongFalsely : Prop := fnExactMovesAlwaysRow.holds Tryz.pinned (OpenSpec.ofChange fnExactMovesAlwaysWrong)

/-- 'laws.FnExactFirstStuck': WHATEVER THE INPUT: true; the input reads as it did. -/
def fnExactFirstStuckSpec : ChangeSpec := { name := "fnExactFirstStuck", fn := fun _ => fun
  | [d1, d2] => { results := [.lit (.bool true)], args := [d1, d2] }
  | _ => none }
def fnExactFirstStuckRow : OpenClaim := { program := "ytopoemnkeodkgaagreat", sum := "1db662626d87e45a3a38b2aab54ab1412d7881de17e07fd67536a720e7e8ddd6", func := "loop.example/g00984/laws.FnExactFirstStuck", spec := "fnExactFirstStuck", unfollowed := true, recurses := true, apart := false }
def FnExactFirstStuckSaid : Prop := fnExactFirstStuckRow.holds Tryz.pinned (OpenSpec.ofChange fnExactFirstStuckSpec)

/-- ITS FALSE NEIGHBOUR: 'it returns false'. Refute it at one input. -/
def fnExactFirstStuckWrong : ChangeSpec := { name := "fnExactFirstStuck", fn := fun _ => fun
  | [d1, d2] => { results := [.lit (.bool false)], args := [d1, d2] }
  | _ => none }
def FnExactFirstStuckWrongFalsely : Prop := fnExactFirstStuckRow.holds Tryz.pinned (OpenSpec.ofChange fnExactFirstStuckWrong)

/- THE SECOND FORM. 'bulk': how many values and letters a reading holds, each counted each time it is reached (what is shared counts as often as it is met; a slice's spare places count too). A statement '..UptoSaid' is the law's where the arguments, and the package variables that the reading takes, are together of bulk at most 1048576: NARROWER than '..Said'. Prove '..Said' where nothing that the law and all that it calls make is longer than what came in: it says more and counts as full. Else prove '..UptoSaid'. A law counts once. -/
mutual
def uptoBulk {H : Type} : DataW H → Nat
  | .lit (.string bytes) => bytes.length + 1
  | .lit _ => 1
  | .nil => 1
  | .ptr d => uptoBulk d + 1
  | .slice elems spare => uptoBulkAll elems + uptoBulkAll spare + 1
  | .agg parts => uptoBulkAll parts + 1
  | .iface _ d => uptoBulk d + 1
  | .map entries => uptoBulkEntries entries + 1
  | .held _ => 1
def uptoBulkAll {H : Type} : List (DataW H) → Nat
  | [] => 0
  | d :: r => uptoBulk d + uptoBulkAll r
def uptoBulkEntries {H : Type} : List (Lit × DataW H) → Nat
  | [] => 0
  | x :: r => uptoBulkEntry x + uptoBulkEntries r
def uptoBulkEntry {H : Type} : Lit × DataW H → Nat
  | (.string bytes, d) => bytes.length + uptoBulk d + 1
  | (_, d) => uptoBulk d + 1
 end
def uptoSmall : (H : Type) → List (DataW H) → Bool := fun _ ds => decide (uptoBulkAll ds ≤ 1048576)
def OpenSpec.upto (s : _root_.Go.ChangeSpec) : _root_.Go.OpenSpec := { _root_.Go.OpenSpec.ofChange s with cond := some uptoSmall }

/-- 'laws.FnExactSendAll', WHERE WHAT IT READS IS OF BULK AT MOST 1048576: true; the input reads as it did. -/
def fnExactSendAllUptoRow : OpenClaim := { program := "ytopoemnkeodkgaagreat", sum := "1db662626d87e45a3a38b2aab54ab1412d7881de17e07fd67536a720e7e8ddd6", func := "loop.example/g00984/laws.FnExactSendAll", spec := "fnExactSendAll", unfollowed := true, recurses := true, apart := false, narrowed := true }
def FnExactSendAllUptoSaid : Prop := fnExactSendAllUptoRow.holds Tryz.pinned (OpenSpec.upto fnExactSendAllSpec)

/-- 'laws.FnExactExplainsStuck', WHERE WHAT IT READS IS OF BULK AT MOST 1048576: true; the input reads as it did. -/
def fnExactExplainsStuckUptoRow : OpenClaim := { program := "ytopoemnkeodkgaagreat", sum := "1db662626d87e45a3a38b2aab54ab1412d7881de17e07fd67536a720e7e8ddd6", func := "loop.example/g00984/laws.FnExactExplainsStuck", spec := "fnExactExplainsStuck", unfollowed := true, recurses := true, apart := false, narrowed := true }
def FnExactExplainsStuckUptoSaid : Prop := fnExactExplainsStuckUptoRow.holds Tryz.pinned (OpenSpec.upto fnExactExplainsStuckSpec)

/-- 'laws.FnExactCreditsAfter', WHERE WHAT IT READS IS OF BULK AT MOST 1048576: true; the input reads as it did. -/
def fnExactCreditsAfterUptoRow : OpenClaim := { program := "ytopoemnkeodkgaagreat", sum := "1db662626d87e45a3a38b2aab54ab1412d7881de17e07fd67536a720e7e8ddd6", func := "loop.example/g00984/laws.FnExactCreditsAfter", spec := "fnExactCreditsAfter", unfollowed := true, recurses := true, apart := false, narrowed := true }
def FnExactCreditsAfterUptoSaid : Prop := fnExactCreditsAfterUptoRow.holds Tryz.pinned (OpenSpec.upto fnExactCreditsAfterSpec)

/-- 'laws.FnExactMovesAlways', WHERE WHAT IT READS IS OF BULK AT MOST 1048576: true; the input reads as it did. -/
def fnExactMovesAlwaysUptoRow : OpenClaim := { program := "ytopoemnkeodkgaagreat", sum := "1db662626d87e45a3a38b2aab54ab1412d7881de17e07fd67536a720e7e8ddd6", func := "loop.example/g00984/laws.FnExactMovesAlways", spec := "fnExactMovesAlways", unfollowed := true, recurses := true, apart := false, narrowed := true }
def FnExactMovesAlwaysUptoSaid : Prop := fnExactMovesAlwaysUptoRow.holds Tryz.pinned (OpenSpec.upto fnExactMovesAlwaysSpec)

/-- 'laws.FnExactFirstStuck', WHERE WHAT IT READS IS OF BULK AT MOST 1048576: true; the input reads as it did. -/
def fnExactFirstStuckUptoRow : OpenClaim := { program := "ytopoemnkeodkgaagreat", sum := "1db662626d87e45a3a38b2aab54ab1412d7881de17e07fd67536a720e7e8ddd6", func := "loop.example/g00984/laws.FnExactFirstStuck", spec := "fnExactFirstStuck", unfollowed := true, recurses := true, apart := false, narrowed := true }
def FnExactFirstStuckUptoSaid : Prop := fnExactFirstStuckUptoRow.holds Tryz.pinned (OpenSpec.upto fnExactFirstStuckSpec)

end Rows
end Go.Proofs.YtopoemnkeodkgaaGreat
