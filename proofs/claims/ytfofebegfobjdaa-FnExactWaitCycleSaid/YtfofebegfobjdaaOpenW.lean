/- A law's rows of waits, opened. -/
import Derived.Test.YtfofebegfobjdaaOpenP
import Derived.Test.YtfofebegfobjdaaWt
set_option linter.unusedVariables false
set_option linter.unusedSimpArgs false
namespace Go.Proofs.Ytfofebegfobjdaa
open Go.ChangeShapes Go.WideShapes Go.ChangeAt Go.RowKit Go.Proofs.YtfofebegfobjdaaW.PrintWords
open NoC

section
variable {H : Type} {enc : TypeId × Value → H} {W : World} {base : Nat} {spare : Nat → Bool} {held : Bool} {fuel : Nat} {cs : List Value} {x : DataW H × List MemPlace}
theorem op_wait0 (h : DataW.trod enc Try.prog W base spare held fuel 74 cs = some x) : ∃ p : Wait, cs = wCells p := by
  obtain ⟨hlen, hf⟩ := op_fields0 Try.underlying74 h
  rw [show Try.prog.cellsOf 74 = 2 by kernel_rfl] at hlen
  obtain ⟨a0, a1, rfl⟩ : ∃ a0 a1, cs = [a0, a1] := len2 hlen
  obtain ⟨n0, y0, h0⟩ := hf 0 _ rfl
  obtain ⟨n1, y1, h1⟩ := hf 1 _ rfl
  simp only [List.getElem_toArray, List.getElem_cons_zero, List.getElem_cons_succ] at h0 h1
  rw [show Try.prog.cellsOf 3 = 1 by kernel_rfl] at h0 h1
  obtain ⟨i0, e0⟩ := op_int h0
  obtain ⟨i1, e1⟩ := op_int h1
  simp at e0 e1
  subst e0 e1
  exact ⟨⟨i0, i1⟩, rfl⟩
theorem op_waits (h : DataW.trod enc Try.prog W base spare held fuel 49 cs = some x) (hl : Light 49 x.1) :
    ∃ A c, ∃ l : List Wait, cs = [.slice A l.length c] ∧ kW.C W A l.length l ∧ l.length ≤ 140737488355328 :=
  op_rows (B := 16) (by omega) Try.underlying49 (by kernel_rfl) (by kernel_rfl) (by omega) (fun h => op_wait0 h) h hl
end
end Go.Proofs.Ytfofebegfobjdaa
