/- A law's arguments, opened: what the reading of an argument says of the cells that it reaches, for every world. -/
import Derived.Test.YtinnfahmfggghaaOwn
import Derived.Test.YtinnfahmfggghaaM3
import Derived.ProofKit
import Derived.OpenShut
import Derived.SizedLaws
import Derived.WideShapes
import Derived.ChangeSame
set_option linter.unusedVariables false
set_option linter.unusedSimpArgs false
namespace Go.Proofs.Ytinnfahmfggghaa
open Go.ChangeShapes Go.WideShapes Go.ChangeAt Go.RowKit Go.Proofs.YtinnfahmfggghaaW.PrintWords
open NoC

theorem len1 {α : Type} {l : List α} (h : l.length = 1) : ∃ a, l = [a] := by match l, h with | [a], _ => exact ⟨a, rfl⟩
theorem len2 {α : Type} {l : List α} (h : l.length = 2) : ∃ a b, l = [a, b] := by match l, h with | [a, b], _ => exact ⟨a, b, rfl⟩
theorem len3 {α : Type} {l : List α} (h : l.length = 3) : ∃ a b c, l = [a, b, c] := by match l, h with | [a, b, c], _ => exact ⟨a, b, c, rfl⟩
theorem len5 {α : Type} {l : List α} (h : l.length = 5) : ∃ a b c d e, l = [a, b, c, d, e] := by match l, h with | [a, b, c, d, e], _ => exact ⟨a, b, c, d, e, rfl⟩
section
variable {H : Type} {enc : TypeId × Value → H} {W : World} {base : Nat} {spare : Nat → Bool} {held : Bool} {fuel : Nat} {cs : List Value} {x : DataW H × List MemPlace}
/-- Every weight of a reading is borne. -/
def Light (t : TypeId) (d : DataW H) : Prop := ∀ n ∈ d.weights Try.prog t, n ≤ reachBytes
theorem light_arg {ts : List TypeId} {ds : List (DataW H)} (h : (DataW.weightsEach Try.prog ts ds).all (· ≤ reachBytes) = true) {j : Nat} {t : TypeId} {d : DataW H} (ht : ts[j]? = some t) (hd : ds[j]? = some d) : Light t d :=
  fun n hn => by simpa using List.all_eq_true.1 h n (DataW.weights_mem_each ht hd n hn)
theorem light_field {t : TypeId} {fs : Array Field} {parts : List (DataW H)} (hu : Try.prog.underlying t = some (.struct fs)) (h : Light t (.agg parts)) {i : Nat} {f : Field} {d : DataW H} (hf : fs[i]? = some f) (hd : parts[i]? = some d) : Light f.type d :=
  fun n hn => h n (by
    unfold DataW.weights
    rw [hu]
    exact DataW.weights_mem_each (j := i) (by simp [hf]) hd n hn)
theorem op_int (h : DataW.trod enc Try.prog W base spare held fuel 3 cs = some x) : ∃ n, cs = [.int .i64 n] := by
  obtain ⟨n, h, _⟩ := DataW.trod_int Try.underlying3 h
  exact ⟨n, h⟩
theorem op_ints (h : DataW.trod enc Try.prog W base spare held fuel 24 cs = some x) (hl : Light 24 x.1) :
    ∃ A c, ∃ l : List Int, cs = [.slice A l.length c] ∧ Kd.C (Kd.int .i64) W A l.length l ∧ l.length ≤ 140737488355328 := by
  rcases open_ints Try.underlying24 Try.underlying3 (by kernel_rfl) h with ⟨rfl, _⟩ | ⟨a, len, cap, zs, rfl, _, hle, hm, hz, hx, hc, _⟩
  · exact ⟨none, 0, [], rfl, ⟨rfl, by decide, fun h => absurd h (by decide)⟩, by decide⟩
  · have hlen : len ≤ zs.length := by rw [hz]; split <;> omega
    have e : (zs.take len).length = len := by rw [List.length_take, Nat.min_eq_left hlen]
    have hb : len * 8 ≤ 140737488351232 := by
      subst hx
      have z := hl _ (by unfold DataW.weights; rw [show Try.prog.underlying 24 = _ from Try.underlying24]; exact List.mem_cons_self)
      rw [show Try.prog.bytesOf 3 = 8 by kernel_rfl] at z
      have hr : reachBytes = 140737488351232 := by decide
      have h1 : (lits (H := H) .i64 (zs.take len)).length = len := by simp [lits, hlen]
      rw [h1] at z
      omega
    refine ⟨some a, cap, zs.take len, by rw [e], ⟨rfl, by rw [e]; omega, fun _ => ⟨a, rfl, ?_⟩⟩, by rw [e]; omega⟩
    intro j p hj
    refine ⟨[.int .i64 p], rfl, rfl, ?_⟩
    intro i u hi
    obtain ⟨rfl, rfl⟩ : i = 0 ∧ u = .int .i64 p := by
      cases i with
      | zero => simp at hi; exact ⟨rfl, hi.symm⟩
      | succ i => simp at hi
    have hj2 := List.getElem?_eq_some_iff.1 hj
    obtain ⟨hj3, hj4⟩ := hj2
    have hj5 : j < zs.length := by omega
    have := hc j hj5
    rw [show j * (Kd.int .i64).sz + 0 = j by show j * 1 + 0 = j; omega, this]
    rw [List.getElem_take] at hj4
    simp [hj5, hj4]
theorem op_fields {t : TypeId} {fs : Array Field} (hu : Try.prog.underlying t = some (.struct fs)) (h : DataW.trod enc Try.prog W base spare held fuel t cs = some x) (hl : Light t x.1) :
    cs.length = Try.prog.cellsOf t ∧ ∀ (i : Nat) (f : Field), fs[i]? = some f → ∃ n y, DataW.trod enc Try.prog W base spare held n f.type ((cs.drop f.offset).take (Try.prog.cellsOf f.type)) = some y ∧ Light f.type y.1 := by
  obtain ⟨xs, n, _, rfl, hlen, hxs, hf⟩ := DataW.trod_struct hu h
  refine ⟨hlen, fun i f hi => ?_⟩
  have hlt : i < xs.length := by rw [hxs]; exact (Array.getElem?_eq_some_iff.1 hi).1
  have e := hf i f hi
  rw [List.getElem?_eq_getElem hlt] at e
  exact ⟨n, xs[i], e, light_field hu hl hi (by simp [hlt])⟩
theorem op_grid (h : DataW.trod enc Try.prog W base spare held fuel 38 cs = some x) (hl : Light 38 x.1) :
    ∃ g : Grid, cs = [.int .i64 g.w, .int .i64 g.h] := by
  obtain ⟨hlen, hf⟩ := op_fields Try.underlying38 h hl
  rw [show Try.prog.cellsOf 38 = 2 by kernel_rfl] at hlen
  obtain ⟨a0, a1, rfl⟩ : ∃ a0 a1, cs = [a0, a1] := len2 hlen
  obtain ⟨n0, y0, h0, l0⟩ := hf 0 _ rfl
  simp only [List.getElem_toArray, List.getElem_cons_zero, List.getElem_cons_succ] at h0 l0
  rw [show Try.prog.cellsOf 3 = 1 by kernel_rfl] at h0
  obtain ⟨i0, e0⟩ := op_int h0
  simp at e0
  obtain rfl := e0
  obtain ⟨n1, y1, h1, l1⟩ := hf 1 _ rfl
  simp only [List.getElem_toArray, List.getElem_cons_zero, List.getElem_cons_succ] at h1 l1
  rw [show Try.prog.cellsOf 3 = 1 by kernel_rfl] at h1
  obtain ⟨i1, e1⟩ := op_int h1
  simp at e1
  obtain rfl := e1
  exact ⟨⟨i0, i1⟩, rfl⟩
theorem op_mesh (h : DataW.trod enc Try.prog W base spare held fuel 40 cs = some x) (hl : Light 40 x.1) :
    ∃ (m : Mesh) (A : Option Addr) (c : Nat), cs = [.int .i64 m.g.w, .int .i64 m.g.h, .slice A m.br.length c] ∧ Kd.C (Kd.int .i64) W A m.br.length m.br ∧ m.br.length ≤ 140737488355328 := by
  obtain ⟨hlen, hf⟩ := op_fields Try.underlying40 h hl
  rw [show Try.prog.cellsOf 40 = 3 by kernel_rfl] at hlen
  obtain ⟨a0, a1, a2, rfl⟩ : ∃ a0 a1 a2, cs = [a0, a1, a2] := len3 hlen
  obtain ⟨n0, y0, h0, l0⟩ := hf 0 _ rfl
  simp only [List.getElem_toArray, List.getElem_cons_zero, List.getElem_cons_succ] at h0 l0
  rw [show Try.prog.cellsOf 38 = 2 by kernel_rfl] at h0
  obtain ⟨g0, e0⟩ := op_grid h0 l0
  simp at e0
  obtain ⟨rfl, rfl⟩ := e0
  obtain ⟨n1, y1, h1, l1⟩ := hf 1 _ rfl
  simp only [List.getElem_toArray, List.getElem_cons_zero, List.getElem_cons_succ] at h1 l1
  rw [show Try.prog.cellsOf 24 = 1 by kernel_rfl] at h1
  obtain ⟨A1, c1, r1, e1, hr1, hn1⟩ := op_ints h1 l1
  simp at e1
  obtain rfl := e1
  exact ⟨⟨g0, r1⟩, A1, c1, rfl, hr1, hn1⟩
theorem op_table (h : DataW.trod enc Try.prog W base spare held fuel 41 cs = some x) (hl : Light 41 x.1) :
    ∃ A c, ∃ l : List Int, cs = [.slice A l.length c] ∧ Kd.C (Kd.int .i64) W A l.length l ∧ l.length ≤ 140737488355328 := by
  obtain ⟨hlen, hf⟩ := op_fields Try.underlying41 h hl
  rw [show Try.prog.cellsOf 41 = 1 by kernel_rfl] at hlen
  obtain ⟨a0, rfl⟩ : ∃ a0, cs = [a0] := len1 hlen
  obtain ⟨n0, y0, h0, l0⟩ := hf 0 _ rfl
  simp only [List.getElem_toArray, List.getElem_cons_zero, List.getElem_cons_succ] at h0 l0
  rw [show Try.prog.cellsOf 24 = 1 by kernel_rfl] at h0
  obtain ⟨A0, c0, r0, e0, hr0, hn0⟩ := op_ints h0 l0
  simp at e0
  obtain rfl := e0
  exact ⟨A0, c0, r0, rfl, hr0, hn0⟩
theorem op_classes (h : DataW.trod enc Try.prog W base spare held fuel 43 cs = some x) (hl : Light 43 x.1) :
    ∃ A c, ∃ l : List Int, ∃ B d, ∃ k : List Int, cs = [.slice A l.length c, .slice B k.length d] ∧ Kd.C (Kd.int .i64) W A l.length l ∧ l.length ≤ 140737488355328 ∧ Kd.C (Kd.int .i64) W B k.length k ∧ k.length ≤ 140737488355328 := by
  obtain ⟨hlen, hf⟩ := op_fields Try.underlying43 h hl
  rw [show Try.prog.cellsOf 43 = 2 by kernel_rfl] at hlen
  obtain ⟨a0, a1, rfl⟩ : ∃ a0 a1, cs = [a0, a1] := len2 hlen
  obtain ⟨n0, y0, h0, l0⟩ := hf 0 _ rfl
  simp only [List.getElem_toArray, List.getElem_cons_zero, List.getElem_cons_succ] at h0 l0
  rw [show Try.prog.cellsOf 41 = 1 by kernel_rfl] at h0
  obtain ⟨A0, c0, r0, e0, hr0, hn0⟩ := op_table h0 l0
  simp at e0
  obtain rfl := e0
  obtain ⟨n1, y1, h1, l1⟩ := hf 1 _ rfl
  simp only [List.getElem_toArray, List.getElem_cons_zero, List.getElem_cons_succ] at h1 l1
  rw [show Try.prog.cellsOf 41 = 1 by kernel_rfl] at h1
  obtain ⟨A1, c1, r1, e1, hr1, hn1⟩ := op_table h1 l1
  simp at e1
  obtain rfl := e1
  exact ⟨A0, c0, r0, A1, c1, r1, rfl, hr0, hn0, hr1, hn1⟩
theorem op_packet (h : DataW.trod enc Try.prog W base spare held fuel 61 cs = some x) (hl : Light 61 x.1) :
    ∃ p : Packet, cs = [.int .i64 p.id, .int .i64 p.src, .int .i64 p.dst, .int .i64 p.cls, .int .i64 p.len] := by
  obtain ⟨hlen, hf⟩ := op_fields Try.underlying61 h hl
  rw [show Try.prog.cellsOf 61 = 5 by kernel_rfl] at hlen
  obtain ⟨a0, a1, a2, a3, a4, rfl⟩ : ∃ a0 a1 a2 a3 a4, cs = [a0, a1, a2, a3, a4] := len5 hlen
  obtain ⟨n0, y0, h0, l0⟩ := hf 0 _ rfl
  simp only [List.getElem_toArray, List.getElem_cons_zero, List.getElem_cons_succ] at h0 l0
  rw [show Try.prog.cellsOf 3 = 1 by kernel_rfl] at h0
  obtain ⟨i0, e0⟩ := op_int h0
  simp at e0
  obtain rfl := e0
  obtain ⟨n1, y1, h1, l1⟩ := hf 1 _ rfl
  simp only [List.getElem_toArray, List.getElem_cons_zero, List.getElem_cons_succ] at h1 l1
  rw [show Try.prog.cellsOf 3 = 1 by kernel_rfl] at h1
  obtain ⟨i1, e1⟩ := op_int h1
  simp at e1
  obtain rfl := e1
  obtain ⟨n2, y2, h2, l2⟩ := hf 2 _ rfl
  simp only [List.getElem_toArray, List.getElem_cons_zero, List.getElem_cons_succ] at h2 l2
  rw [show Try.prog.cellsOf 3 = 1 by kernel_rfl] at h2
  obtain ⟨i2, e2⟩ := op_int h2
  simp at e2
  obtain rfl := e2
  obtain ⟨n3, y3, h3, l3⟩ := hf 3 _ rfl
  simp only [List.getElem_toArray, List.getElem_cons_zero, List.getElem_cons_succ] at h3 l3
  rw [show Try.prog.cellsOf 3 = 1 by kernel_rfl] at h3
  obtain ⟨i3, e3⟩ := op_int h3
  simp at e3
  obtain rfl := e3
  obtain ⟨n4, y4, h4, l4⟩ := hf 4 _ rfl
  simp only [List.getElem_toArray, List.getElem_cons_zero, List.getElem_cons_succ] at h4 l4
  rw [show Try.prog.cellsOf 3 = 1 by kernel_rfl] at h4
  obtain ⟨i4, e4⟩ := op_int h4
  simp at e4
  obtain rfl := e4
  exact ⟨⟨i0, i1, i2, i3, i4⟩, rfl⟩
end
end Go.Proofs.Ytinnfahmfggghaa
