/- Lemmas for laws of this seat, for all inputs: StS. -/
import Derived.Test.YtodbglncccgdbaaQ9
import Derived.Test.YtodbglncccgdbaaQ4
import Derived.Test.YtodbglncccgdbaaQ7
import Derived.Test.YtodbglncccgdbaaQ10
set_option linter.unusedVariables false
set_option linter.unusedSimpArgs false
namespace Go.Proofs.Ytodbglncccgdbaa
open Go.RowKit Go.Proofs.YtodbglncccgdbaaW.PrintWords
open NoC
theorem Lens.popN {n x : Net} (h : Lens n x) (g : Grant) : Lens n (popN x g) := ⟨by simp [NoC.popN, popB_len, h.b], h.o, h.t, h.s, h.a⟩
theorem Lens.specL {n : Net} : ∀ (gs : List Grant) (x : Net), Lens n x → Lens n (specL n x gs) := by
  intro gs
  induction gs with
  | nil => intro x h; exact h
  | cons g gs ih => intro x h; exact ih _ ((h.popN g).push n g)
def FBx (w : World) (b : Nat) (f : Flit) : Prop := w.heap[b]? = some (.cells #[.int .i64 f.pk, .int .i64 f.dst, .int .i64 f.cls, .bool f.head, .bool f.tail] 102 (0, 0))
theorem FBx.below {w w1 : World} {b : Nat} {g : Flit} (h : FBx w b g) (hb : Below w.heap.size w w1) : FBx w1 b g := blk_below h hb
theorem FBx.far {w : World} {b c t : Nat} {g : Flit} (h : FBx w b g) (hb : BlkT w c t) (ht : 102 ≠ t) (j : Nat) (u : Value) : FBx (w.setCell ⟨c, j, none⟩ u) b g := by
  obtain ⟨cs, hc⟩ := hb
  exact blk_far (p := ⟨c, j, none⟩) h (blk_ne h hc ht) u
theorem FBx.grown {w w1 : World} {b : Nat} {g : Flit} {v : Value} (h : FBx w b g) (hg : w.grownBy w1 v.ownBlock) (hne : ¬ some b = v.ownBlock) : FBx w1 b g := blk_grown h hg hne
theorem FBx.cells {w : World} {b : Nat} {f : Flit} (h : FBx w b f) : w.cell? ⟨b, 0, none⟩ = some (.int .i64 f.pk) ∧ w.cell? ⟨b, 1, none⟩ = some (.int .i64 f.dst) ∧ w.cell? ⟨b, 2, none⟩ = some (.int .i64 f.cls) ∧ w.cell? ⟨b, 3, none⟩ = some (.bool f.head) ∧ w.cell? ⟨b, 4, none⟩ = some (.bool f.tail) ∧ b < w.heap.size := ⟨blk_cell h 0, blk_cell h 1, blk_cell h 2, blk_cell h 3, blk_cell h 4, blk_lt h⟩
end Go.Proofs.Ytodbglncccgdbaa
