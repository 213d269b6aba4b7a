/- Lemmas for laws of this seat, for all inputs: Open OpenP OpenY. -/
import Derived.Test.YtaihmgbflhbebaaGreatU3
import Derived.ProofKit
import Derived.OpenShut
import Derived.SizedLaws
import Derived.WideShapes
import Derived.ChangeSame
import Derived.Test.YtaihmgbflhbebaaGreatU16
set_option linter.unusedVariables false
set_option linter.unusedSimpArgs false
namespace Go.Proofs.YtaihmgbflhbebaaGreat
open Go.ChangeShapes Go.WideShapes Go.ChangeAt Go.RowKit Go.Proofs.YtaihmgbflhbebaaGreatW.PrintWords
open NoC
section
variable {H : Type} {enc : TypeId × Value → H} {W : World} {base : Nat} {spare : Nat → Bool} {held : Bool} {fuel : Nat} {cs : List Value} {x : DataW H × List MemPlace}
def Light (t : TypeId) (d : DataW H) : Prop := ∀ n ∈ d.weights Tryz.prog t, n ≤ reachBytes
theorem light_arg {ts : List TypeId} {ds : List (DataW H)} (h : (DataW.weightsEach Tryz.prog ts ds).all (· ≤ reachBytes) = true) {j : Nat} {t : TypeId} {d : DataW H} (ht : ts[j]? = some t) (hd : ds[j]? = some d) : Light t d :=
  fun n hn => by simpa using List.all_eq_true.1 h n (DataW.weights_mem_each ht hd n hn)
end
section
variable {H : Type} {enc : TypeId × Value → H} {W : World} {base : Nat} {spare : Nat → Bool} {held : Bool} {fuel : Nat} {cs : List Value} {x : DataW H × List MemPlace}
end
section
variable {H : Type} {enc : TypeId × Value → H} {W : World} {base : Nat} {spare : Nat → Bool} {held : Bool} {fuel : Nat} {cs : List Value} {x : DataW H × List MemPlace}
theorem op_bytes (h : DataW.trod enc Tryz.prog W base spare held fuel 22 cs = some x) (hl : Light 22 x.1) :
    ∃ A c N, cs = [.slice A N c] ∧ Byt W A N := by
  rcases open_ints Tryz.underlying22 Tryz.underlying5 (by kernel_rfl) h with ⟨rfl, _⟩ | ⟨a, len, cap, zs, rfl, _, hle, hm, hz, hx, hc, _⟩
  · exact ⟨none, 0, 0, rfl, by decide, fun n h => absurd h (Nat.not_lt_zero _)⟩
  · have hlen : len ≤ zs.length := by rw [hz]; split <;> omega
    have e : (zs.take len).length = len := by rw [List.length_take, Nat.min_eq_left hlen]
    have hb : len * 1 ≤ 140737488351232 := by
      subst hx
      have z := hl _ (by unfold DataW.weights; rw [show Tryz.prog.underlying 22 = _ from Tryz.underlying22]; exact List.mem_cons_self)
      rw [show Tryz.prog.bytesOf 5 = 1 by kernel_rfl] at z
      have hr : reachBytes = 140737488351232 := by decide
      have h1 : (lits (H := H) .u8 (zs.take len)).length = len := by simp [lits, hlen]
      rw [h1] at z
      omega
    have hC : Kd.C (Kd.int .u8) W (some a) (zs.take len).length (zs.take len) := by
      refine ⟨rfl, by rw [e]; omega, fun _ => ⟨a, rfl, ?_⟩⟩
      intro j p hj
      refine ⟨[.int .u8 p], rfl, rfl, ?_⟩
      intro i u hi
      obtain ⟨rfl, rfl⟩ : i = 0 ∧ u = .int .u8 p := by
        cases i with
        | zero => simp at hi; exact ⟨rfl, hi.symm⟩
        | succ i => simp at hi
      have hj2 := List.getElem?_eq_some_iff.1 hj
      obtain ⟨hj3, hj4⟩ := hj2
      have hj5 : j < zs.length := by omega
      have := hc j hj5
      rw [show j * (Kd.int .u8).sz + 0 = j by show j * 1 + 0 = j; omega, this]
      rw [List.getElem_take] at hj4
      simp [hj5, hj4]
    refine ⟨some a, cap, len, rfl, by omega, fun n hn => ?_⟩
    obtain ⟨B, off, ha, hB, hcell⟩ := rdU_at hC n (by omega)
    exact ⟨B, off, _, ha, hB, hcell n (by omega)⟩
end
end Go.Proofs.YtaihmgbflhbebaaGreat
