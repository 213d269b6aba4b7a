/- The laws' own words on rows of packets: measure, copy, compare; for all lists of at most a million packets. -/
import Derived.Test.YtopoemnkeodkgaaLawI
import Derived.Test.YtopoemnkeodkgaaFlat
set_option linter.unusedVariables false
set_option linter.unusedSimpArgs false
namespace Go.Proofs.Ytopoemnkeodkgaa
open Go.RowKit Go.Proofs.YtopoemnkeodkgaaW.PrintWords
open NoC

section
variable {ops : Array Oper} {rest : List Oper} {o : Oper} {a : Act} {Q : Exit → Act → World → Prop}
end

theorem same_getP {x l : List Packet} (h1 : x.length = l.length) (h : ∀ j : Nat, j < l.length → rp x j = rp l j) : x = l := by
  apply List.ext_getElem h1
  intro j a b
  have := h j b
  simpa [rp, List.getD_eq_getElem?_getD, a, b] using this
theorem set_getP {x : List Packet} {k : Nat} {v : Packet} (hk : k < x.length) (j : Nat) (hj : j < x.length) : rp (x.set k v) j = if k = j then v else rp x j := by
  by_cases e : k = j
  · subst e; simp [rp, List.getD_eq_getElem?_getD, hk]
  · simp [rp, List.getD_eq_getElem?_getD, e]

theorem bne_self (n : Int) : (n != n) = false := bne_eq_false_iff_eq.2 rfl
end Go.Proofs.Ytopoemnkeodkgaa
