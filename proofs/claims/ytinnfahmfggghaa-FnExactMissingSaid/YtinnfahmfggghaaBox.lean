/- Boxes of a law's variables: what they hold, in every later world that leaves them alone. No program. -/
import Derived.Test.YtinnfahmfggghaaOwn
set_option linter.unusedVariables false
set_option linter.unusedSimpArgs false
namespace Go.Proofs.Ytinnfahmfggghaa
open Go.RowKit Go.Proofs.YtinnfahmfggghaaW.PrintWords

structure Box (w : World) (b : Nat) (cs : Array Value) : Prop where
  lt : b < w.heap.size
  get : ∀ o, w.cell? ⟨b, o, none⟩ = cs[o]?
theorem Box.below {w w1 : World} {b : Nat} {cs : Array Value} (h : Box w b cs) (hb : Below w.heap.size w w1) : Box w1 b cs :=
  ⟨Nat.lt_of_lt_of_le h.lt hb.size, fun o => ((bcell hb).1 b o h.lt).trans (h.get o)⟩
theorem Box.alloc {w : World} {b : Nat} {cs : Array Value} (h : Box w b cs) (o : Obj) : Box (w.alloc o) b cs := h.below (bw_alloc o (bw_refl w))
theorem Box.new (w : World) (b : Nat) (cs : Array Value) (T : TypeId) (hb : b = w.heap.size) : Box (w.alloc (.cells cs T)) b cs := by
  subst hb
  refine ⟨by rw [World.size_alloc]; omega, fun o => ?_⟩
  have h : (w.alloc (.cells cs T)).heap[w.heap.size]? = some (.cells cs T) := show (w.heap.push _)[w.heap.size]? = _ from Array.getElem?_push_size
  unfold World.cell?
  rw [h]
  rfl
theorem Kd.R_row {w : World} {base e : Nat} {A : Option Addr} {n c : Nat} {xs : List Int} (h : Kd.R (Kd.int .i64) e w base (fun _ => True) (.slice A n c) xs) : n = xs.length ∧ n ≤ c ∧ Kd.C (Kd.int .i64) w A n xs := by
  obtain ⟨A', c', he, h1, h2⟩ := Kd.R_reads h
  injection he with e1 e2 e3
  subst e1 e2 e3
  exact ⟨rfl, h1, h2⟩
theorem bw_self {w w' : World} (h : w = w') : Below w.heap.size w w' := h ▸ bw_refl w
end Go.Proofs.Ytinnfahmfggghaa
