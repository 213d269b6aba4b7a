/- A law's bytes, opened: what the reading of them says. -/
import Derived.Test.YtglajejmnhmcfaaOpenP
import Derived.Test.YtglajejmnhmcfaaDraw
set_option linter.unusedVariables false
set_option linter.unusedSimpArgs false
namespace Go.Proofs.Ytglajejmnhmcfaa
open Go.ChangeShapes Go.WideShapes Go.ChangeAt Go.RowKit Go.Proofs.YtglajejmnhmcfaaW.PrintWords
open NoC

section
variable {H : Type} {enc : TypeId × Value → H} {W : World} {base : Nat} {spare : Nat → Bool} {held : Bool} {fuel : Nat} {cs : List Value} {x : DataW H × List MemPlace}
theorem op_bytes (h : DataW.trod enc Try.prog W base spare held fuel 33 cs = some x) (hl : Light 33 x.1) :
    ∃ A c N, cs = [.slice A N c] ∧ Byt W A N := by
  rcases open_ints Try.underlying33 Try.underlying5 (by kernel_rfl) h with ⟨rfl, _⟩ | ⟨a, len, cap, zs, rfl, _, hle, hm, hz, hx, hc, _⟩
  · exact ⟨none, 0, 0, rfl, by decide, fun n h => absurd h (Nat.not_lt_zero _)⟩
  · have hlen : len ≤ zs.length := by rw [hz]; split <;> omega
    have e : (zs.take len).length = len := by rw [List.length_take, Nat.min_eq_left hlen]
    have hb : len * 1 ≤ 140737488351232 := by
      subst hx
      have z := hl _ (by unfold DataW.weights; rw [show Try.prog.underlying 33 = _ from Try.underlying33]; exact List.mem_cons_self)
      rw [show Try.prog.bytesOf 5 = 1 by kernel_rfl] at z
      have hr : reachBytes = 140737488351232 := by decide
      have h1 : (lits (H := H) .u8 (zs.take len)).length = len := by simp [lits, hlen]
      rw [h1] at z
      omega
    have hC : Kd.C (Kd.int .u8) W (some a) (zs.take len).length (zs.take len) := by
      refine ⟨rfl, by rw [e]; omega, fun _ => ⟨a, rfl, ?_⟩⟩
      intro j p hj
      refine ⟨[.int .u8 p], rfl, rfl, ?_⟩
      intro i u hi
      obtain ⟨rfl, rfl⟩ : i = 0 ∧ u = .int .u8 p := by
        cases i with
        | zero => simp at hi; exact ⟨rfl, hi.symm⟩
        | succ i => simp at hi
      have hj2 := List.getElem?_eq_some_iff.1 hj
      obtain ⟨hj3, hj4⟩ := hj2
      have hj5 : j < zs.length := by omega
      have := hc j hj5
      rw [show j * (Kd.int .u8).sz + 0 = j by show j * 1 + 0 = j; omega, this]
      rw [List.getElem_take] at hj4
      simp [hj5, hj4]
    refine ⟨some a, cap, len, rfl, by omega, fun n hn => ?_⟩
    obtain ⟨B, off, ha, hB, hcell⟩ := rdU_at hC n (by omega)
    exact ⟨B, off, _, ha, hB, hcell n (by omega)⟩
end
end Go.Proofs.Ytglajejmnhmcfaa
