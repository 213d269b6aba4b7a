/- Lemmas for laws of this seat, for all inputs: Lx. -/
import Derived.Test.YteeebfeljjghhaaG7
import Derived.Test.YteeebfeljjghhaaG13
import Derived.Test.YteeebfeljjghhaaG9
/- A call that gives a network and a value, its box made at any time: what is known behind it. -/
set_option linter.unusedVariables false
set_option linter.unusedSimpArgs false
namespace Go.Proofs.Yteeebfeljjghhaa
open Go.RowKit Go.Proofs.YteeebfeljjghhaaW.PrintWords
open NoC

structure NAV where
  q : NA
  v4 : List Value
  v7 : List Value
  v8 : List Value
  lo : Nat
  hi : Nat
def NAV.zero : NAV := ⟨⟨none, none, none, none, none, none, none, none, 0, 0, 0, 0, 0, 0, 0, 0⟩, [], [], [], 0, 0⟩
def GX (B : Nat) (X : Net) (y : NAV) (W : World) : Prop := NX W y.lo X y.q y.v4 y.v7 y.v8 ∧ NT y.hi X y.q y.v4 y.v7 y.v8 ∧ B ≤ y.lo ∧ y.lo ≤ y.hi ∧ y.hi ≤ W.heap.size
theorem GX.below {B : Nat} {X : Net} {y : NAV} {W W2 : World} (h : GX B X y W) (hb : Below W.heap.size W W2) : GX B X y W2 := ⟨h.1.below hb, h.2.1, h.2.2.1, h.2.2.2.1, Nat.le_trans h.2.2.2.2 (bw_size hb)⟩
theorem GX.of {B : Nat} {X : Net} {W W1 : World} {v : Value} {e : Ending} (h : GotNV W W1 X v e) (hb : Below W.heap.size W W1) (hB : B ≤ W.heap.size) : ∃ y : NAV, e = .returned (.tuple #[.agg (netCells X y.q), v]) ∧ GX B X y W1 ∧ W.heap.size ≤ y.lo ∧ y.hi ≤ W1.heap.size := by
  obtain ⟨q, v4, v7, v8, rfl, hn⟩ := h
  exact ⟨⟨q, v4, v7, v8, W.heap.size, W1.heap.size⟩, rfl, ⟨hn, hn.ny.top, hB, bw_size hb, Nat.le_refl _⟩, Nat.le_refl _, Nat.le_refl _⟩
structure Out (B : Nat) (X : Net) (y : NAV) (g : Nat) (wa w9 : World) : Prop where
  nx : NX w9 y.lo X y.q y.v4 y.v7 y.v8
  nt : NT y.hi X y.q y.v4 y.v7 y.v8
  bt : BT w9 g X y.q
  off : g < y.lo ∨ y.hi ≤ g
  lo : B ≤ y.lo
  lh : y.lo ≤ y.hi
  hi : y.hi ≤ w9.heap.size
  bg : B ≤ g
  below : Below wa.heap.size wa w9
theorem litBN {F : World → Prop} {B g : Nat} {iv : List (Nat × Nat)} {W : World} {cs : Array Value} (h : F W ∧ B ≤ g ∧ W.heap[g]? = some (.cells cs 45 (0, 0)) ∧ ∀ z ∈ iv, g < z.1 ∨ z.2 ≤ g) (hc : cs.size = 11) : BN W g := ⟨cs, h.2.2.1, hc⟩
theorem out_of {B : Nat} {X : Net} {y : NAV} {g : Nat} {wa W : World} {cs : Array Value} {iv : List (Nat × Nat)} (h : GX B X y W ∧ B ≤ g ∧ W.heap[g]? = some (.cells cs 45 (0, 0)) ∧ ∀ z ∈ (y.lo, y.hi) :: iv, g < z.1 ∨ z.2 ≤ g) (hc : cs.size = 11) (hB : wa.heap.size = B) (hb : Below wa.heap.size wa W) : Out B X y g wa (putN W g X y.q) := by
  have hn : BN W g := ⟨cs, h.2.2.1, hc⟩
  have hbt := putN_BT (n := X) (q := y.q) hn
  have hbl : Below wa.heap.size wa (putN W g X y.q) := below_put hb (by rw [hB]; exact h.2.1)
  have hs : W.heap.size ≤ (putN W g X y.q).heap.size := by
    have h1 : Below 0 W (putN W g X y.q) := below_put (Below.cut (bw_refl W) (Nat.zero_le _)) (Nat.zero_le _)
    exact h1.size
  exact ⟨h.1.1.put hn, h.1.2.1, hbt, h.2.2.2 _ (List.mem_cons_self ..), h.1.2.2.1, h.1.2.2.2.1, Nat.le_trans h.1.2.2.2.2 hs, h.2.1, hbl⟩
end Go.Proofs.Yteeebfeljjghhaa
