/- Lemmas for laws of this seat, for all inputs: NY. -/
import Derived.Test.YtmkbmddgkdoaiaaGreatD4
import Derived.Test.YtmkbmddgkdoaiaaGreatD12
set_option linter.unusedVariables false
set_option linter.unusedSimpArgs false
namespace Go.Proofs.YtmkbmddgkdoaiaaGreat
open Go.RowKit Go.Proofs.YtmkbmddgkdoaiaaGreatW.PrintWords
open NoC
def RI (w : World) (lo : Nat) (A : Option Addr) (c : Nat) (xs : List Int) : Prop := xs = [] ∨ Kd.R (Kd.int .i64) 3 w lo (fun _ => True) (.slice A xs.length c) xs
section
variable {w w1 : World} {lo : Nat} {A B : Option Addr} {c d : Nat} {xs ys : List Int}
end
structure NY (w : World) (lo : Nat) (n : Net) (q : NA) (v4 v7 v8 : List Value) : Prop where
  br : RI w lo q.a1 q.c1 n.mesh.br
  pa : RI w lo q.a2 q.c2 n.pa
  pb : RI w lo q.a3 q.c3 n.pb
  owners : RI w lo q.a5 q.c5 n.owners
  turns : RI w lo q.a6 q.c6 n.turns
  bufs : w.ownsRow lo 108 1 (.slice q.a4 n.bufs.length q.c4) n.bufs.length v4
  srcs : w.ownsRow lo 108 1 (.slice q.a7 n.srcs.length q.c7) n.srcs.length v7
  arrs : w.ownsRow lo 108 1 (.slice q.a8 n.arrs.length q.c8) n.arrs.length v8
  rows : FR w lo (v4 ++ (v7 ++ v8)) (n.bufs ++ (n.srcs ++ n.arrs))
  apI : AllAp0 5 (iv n q)
section
variable {w w1 : World} {lo : Nat} {n : Net} {q : NA} {v4 v7 v8 : List Value}
theorem NX.ny (h : NX w lo n q v4 v7 v8) : NY w lo n q v4 v7 v8 := ⟨.inr h.br, .inr h.pa, .inr h.pb, .inr h.owners, .inr h.turns, h.bufs, h.srcs, h.arrs, h.rows, h.apI⟩
theorem NY.l4 (h : NY w lo n q v4 v7 v8) : v4.length = n.bufs.length := by have := h.bufs.1; omega
theorem NY.l7 (h : NY w lo n q v4 v7 v8) : v7.length = n.srcs.length := by have := h.srcs.1; omega
theorem NY.row4 (h : NY w lo n q v4 v7 v8) (k : Nat) (hk : k < n.bufs.length) : kF.R 121 w lo (fun _ => True) (vr v4 k) (rl n.bufs k) := by
  have := h.rows.row k (by simp; omega)
  rwa [vr_left (by rw [h.l4]; exact hk), rl_left hk] at this
theorem NY.row7 (h : NY w lo n q v4 v7 v8) (k : Nat) (hk : k < n.srcs.length) : kF.R 121 w lo (fun _ => True) (vr v7 k) (rl n.srcs k) := by
  have := h.rows.row (n.bufs.length + k) (by simp; omega)
  rw [rl_right, ← h.l4, vr_right] at this
  rwa [vr_left (by rw [h.l7]; exact hk), rl_left hk] at this
theorem NY.row8 (h : NY w lo n q v4 v7 v8) (k : Nat) (hk : k < n.arrs.length) : kF.R 121 w lo (fun _ => True) (vr v8 k) (rl n.arrs k) := by
  have := h.rows.row (n.bufs.length + (n.srcs.length + k)) (by simp; omega)
  rw [rl_right, rl_right, ← h.l4, vr_right, ← h.l7, vr_right] at this
  exact this
end
theorem RI_lt {w : World} {lo : Nat} {A : Option Addr} {c : Nat} {xs : List Int} (h : RI w lo A c xs) : xs ≠ [] → ∀ i, (Value.slice A xs.length c).ownBlock = some i → lo ≤ i ∧ i < w.heap.size := by
  intro h0 i hi
  rcases h with h | h
  · exact absurd h h0
  · exact ⟨Kd.R_base h i hi, Kd.R_lt h i hi⟩
structure NT (hi : Nat) (n : Net) (q : NA) (v4 v7 v8 : List Value) : Prop where
  br : n.mesh.br ≠ [] → ∀ i, (Value.slice q.a1 n.mesh.br.length q.c1).ownBlock = some i → i < hi
  pa : n.pa ≠ [] → ∀ i, (Value.slice q.a2 n.pa.length q.c2).ownBlock = some i → i < hi
  pb : n.pb ≠ [] → ∀ i, (Value.slice q.a3 n.pb.length q.c3).ownBlock = some i → i < hi
  owners : n.owners ≠ [] → ∀ i, (Value.slice q.a5 n.owners.length q.c5).ownBlock = some i → i < hi
  turns : n.turns ≠ [] → ∀ i, (Value.slice q.a6 n.turns.length q.c6).ownBlock = some i → i < hi
  bufs : ∀ j : Nat, j < n.bufs.length → ∀ i, (vr v4 j).ownBlock = some i → i < hi
  srcs : ∀ j : Nat, j < n.srcs.length → ∀ i, (vr v7 j).ownBlock = some i → i < hi
  arrs : ∀ j : Nat, j < n.arrs.length → ∀ i, (vr v8 j).ownBlock = some i → i < hi
theorem NY.top {w : World} {lo : Nat} {n : Net} {q : NA} {v4 v7 v8 : List Value} (h : NY w lo n q v4 v7 v8) : NT w.heap.size n q v4 v7 v8 :=
  ⟨fun h0 i h9 => (RI_lt h.br h0 i h9).2, fun h0 i h9 => (RI_lt h.pa h0 i h9).2, fun h0 i h9 => (RI_lt h.pb h0 i h9).2, fun h0 i h9 => (RI_lt h.owners h0 i h9).2, fun h0 i h9 => (RI_lt h.turns h0 i h9).2, fun j hj i h9 => Kd.R_lt (h.row4 j hj) i h9, fun j hj i h9 => Kd.R_lt (h.row7 j hj) i h9, fun j hj i h9 => Kd.R_lt (h.row8 j hj) i h9⟩
end Go.Proofs.YtmkbmddgkdoaiaaGreat
