/- A law's rows of records, opened: what the reading of an argument says of the cells that it reaches. -/
import Derived.Test.YtinnfahmfggghaaOpen
import Derived.Test.YtinnfahmfggghaaFlat
set_option linter.unusedVariables false
set_option linter.unusedSimpArgs false
namespace Go.Proofs.Ytinnfahmfggghaa
open Go.ChangeShapes Go.WideShapes Go.ChangeAt Go.RowKit Go.Proofs.YtinnfahmfggghaaW.PrintWords
open NoC

theorem build_list {α : Type} {Q : Nat → α → Prop} : ∀ n : Nat, (∀ i, i < n → ∃ p, Q i p) → ∃ l : List α, l.length = n ∧ ∀ i p, l[i]? = some p → Q i p := by
  intro n
  induction n with
  | zero => intro _; exact ⟨[], rfl, fun i p h => by simp at h⟩
  | succ n ih =>
    intro h
    obtain ⟨l, hl, hq⟩ := ih (fun i hi => h i (by omega))
    obtain ⟨p, hp⟩ := h n (by omega)
    refine ⟨l ++ [p], by simp [hl], fun i q hi => ?_⟩
    by_cases hlt : i < n
    · rw [List.getElem?_append_left (by omega)] at hi
      exact hq i q hi
    · have hlen := (List.getElem?_eq_some_iff.1 hi).1
      have : i = n := by simp at hlen; omega
      subst this
      rw [List.getElem?_append_right (by omega), hl, Nat.sub_self] at hi
      simp at hi
      subst hi
      exact hp
section
variable {H : Type} {enc : TypeId × Value → H} {W : World} {base : Nat} {spare : Nat → Bool} {held : Bool} {fuel : Nat} {cs : List Value} {x : DataW H × List MemPlace}
theorem op_fields0 {t : TypeId} {fs : Array Field} (hu : Try.prog.underlying t = some (.struct fs)) (h : DataW.trod enc Try.prog W base spare held fuel t cs = some x) :
    cs.length = Try.prog.cellsOf t ∧ ∀ (i : Nat) (f : Field), fs[i]? = some f → ∃ n y, DataW.trod enc Try.prog W base spare held n f.type ((cs.drop f.offset).take (Try.prog.cellsOf f.type)) = some y := by
  obtain ⟨xs, n, _, rfl, hlen, hxs, hf⟩ := DataW.trod_struct hu h
  refine ⟨hlen, fun i f hi => ?_⟩
  have hlt : i < xs.length := by rw [hxs]; exact (Array.getElem?_eq_some_iff.1 hi).1
  have e := hf i f hi
  rw [List.getElem?_eq_getElem hlt] at e
  exact ⟨n, xs[i], e⟩
/-- A row of records that a law takes. -/
theorem op_rows {α : Type} {n : Nat} {en : α → List Value} {hl : ∀ x, (en x).length = n} {h1 : ∀ x, ∀ u ∈ en x, u.oneCell' = true} {t e : TypeId} {B : Nat} (hn : 0 < n) (ht : Try.prog.underlying t = some (.slice e)) (hc : Try.prog.cellsOf e = n) (hB : Try.prog.bytesOf e = B) (hB1 : 1 ≤ B)
    (hel : ∀ {fuel : Nat} {cs : List Value} {x : DataW H × List MemPlace}, DataW.trod enc Try.prog W base spare held fuel e cs = some x → ∃ p, cs = en p)
    (h : DataW.trod enc Try.prog W base spare held fuel t cs = some x) (hlg : Light t x.1) :
    ∃ A c, ∃ l : List α, cs = [.slice A l.length c] ∧ (Kd.flat n en hl h1).C W A l.length l ∧ l.length ≤ 140737488355328 := by
  rcases DataW.trod_slice ht h with ⟨rfl, _⟩ | ⟨a, len, cap, elems, rest, k, _, rfl, hx, hb, hle, hm, hlen, hels, _, _⟩
  · exact ⟨none, 0, [], rfl, ⟨rfl, by simp, fun h => absurd h (by simp)⟩, by simp⟩
  · have hbl : len * B ≤ 140737488351232 := by
      subst hx
      have z := hlg _ (by unfold DataW.weights; rw [ht]; exact List.mem_cons_self)
      rw [hB] at z
      have hr : reachBytes = 140737488351232 := by decide
      rw [hr] at z
      refine Nat.le_trans (Nat.mul_le_mul_right _ ?_) z
      simp [hlen]
    have hlm : len ≤ 140737488351232 := Nat.le_trans (Nat.le_mul_of_pos_right _ hB1) hbl
    obtain ⟨l, hll, hq⟩ := build_list (Q := fun i p => W.cells? base (a.add (i * n)) n = some (en p)) len (fun i hi => by
      have e := hels i hi
      rw [List.getElem?_eq_getElem (by omega), Option.bind_eq_some_iff] at e
      obtain ⟨c', hc', hd⟩ := e
      obtain ⟨p, rfl⟩ := hel hd
      rw [hc] at hc'
      exact ⟨p, hc'⟩)
    subst hll
    refine ⟨some a, cap, l, rfl, ⟨rfl, by omega, fun _ => ⟨a, rfl, ?_⟩⟩, by omega⟩
    intro j p hj
    refine ⟨en p, hl p, rfl, fun i u hi => ?_⟩
    have h2 := hq j p hj
    have hin : i < n := by
      have := (List.getElem?_eq_some_iff.1 hi).1
      rwa [hl] at this
    have h3 := (World.cells?_some h2).2.2 i hin
    rw [add_add] at h3
    show W.cell? (a.add (j * n + i)) = some u
    rw [h3, hi]
theorem op_packet0 (h : DataW.trod enc Try.prog W base spare held fuel 61 cs = some x) : ∃ p : Packet, cs = pkCells p := by
  obtain ⟨hlen, hf⟩ := op_fields0 Try.underlying61 h
  rw [show Try.prog.cellsOf 61 = 5 by kernel_rfl] at hlen
  obtain ⟨a0, a1, a2, a3, a4, rfl⟩ : ∃ a0 a1 a2 a3 a4, cs = [a0, a1, a2, a3, a4] := len5 hlen
  obtain ⟨n0, y0, h0⟩ := hf 0 _ rfl
  obtain ⟨n1, y1, h1⟩ := hf 1 _ rfl
  obtain ⟨n2, y2, h2⟩ := hf 2 _ rfl
  obtain ⟨n3, y3, h3⟩ := hf 3 _ rfl
  obtain ⟨n4, y4, h4⟩ := hf 4 _ rfl
  simp only [List.getElem_toArray, List.getElem_cons_zero, List.getElem_cons_succ] at h0 h1 h2 h3 h4
  rw [show Try.prog.cellsOf 3 = 1 by kernel_rfl] at h0 h1 h2 h3 h4
  obtain ⟨i0, e0⟩ := op_int h0
  obtain ⟨i1, e1⟩ := op_int h1
  obtain ⟨i2, e2⟩ := op_int h2
  obtain ⟨i3, e3⟩ := op_int h3
  obtain ⟨i4, e4⟩ := op_int h4
  simp at e0 e1 e2 e3 e4
  subst e0 e1 e2 e3 e4
  exact ⟨⟨i0, i1, i2, i3, i4⟩, rfl⟩
theorem op_packets (h : DataW.trod enc Try.prog W base spare held fuel 53 cs = some x) (hl : Light 53 x.1) :
    ∃ A c, ∃ l : List Packet, cs = [.slice A l.length c] ∧ kP.C W A l.length l ∧ l.length ≤ 140737488355328 :=
  op_rows (B := 40) (by omega) Try.underlying53 (by kernel_rfl) (by kernel_rfl) (by omega) (fun h => op_packet0 h) h hl
end
end Go.Proofs.Ytinnfahmfggghaa
