/- Rows of rows of one's own: the outer row and the inner rows, no two the same; what stays of them where a stretch of blocks is written. -/
import Derived.Test.YtinnfahmfggghaaNetL
set_option linter.unusedVariables false
set_option linter.unusedSimpArgs false
namespace Go.Proofs.Ytinnfahmfggghaa
open Go.RowKit Go.Proofs.YtinnfahmfggghaaW.PrintWords
open NoC

/-- Only blocks from lo on and below hi are written; new ones are made. -/
structure Chg (lo hi : Nat) (w w1 : World) : Prop where
  os : w1.os = w.os
  tape : w1.tape = w.tape
  output : w1.output = w.output
  size : w.heap.size ≤ w1.heap.size
  block : ∀ i, i < w.heap.size → (i < lo ∨ hi ≤ i) → w1.heap[i]? = w.heap[i]?
theorem Chg.of_below {lo hi : Nat} {w w1 : World} (h : Below w.heap.size w w1) : Chg lo hi w w1 := ⟨h.os, h.tape, h.output, h.size, fun i hi _ => h.block i hi⟩
theorem Chg.refl (lo hi : Nat) (w : World) : Chg lo hi w w := ⟨rfl, rfl, rfl, Nat.le_refl _, fun _ _ _ => rfl⟩
theorem Chg.trans {lo hi : Nat} {w w1 w2 : World} (h : Chg lo hi w w1) (k : Chg lo hi w1 w2) : Chg lo hi w w2 :=
  ⟨k.os.trans h.os, k.tape.trans h.tape, k.output.trans h.output, Nat.le_trans h.size k.size, fun i hi ho => (k.block i (Nat.lt_of_lt_of_le hi h.size) ho).trans (h.block i hi ho)⟩
theorem Chg.wide {lo hi lo' hi' : Nat} {w w1 : World} (h : Chg lo hi w w1) (hl : lo' ≤ lo) (hh : hi ≤ hi') : Chg lo' hi' w w1 :=
  ⟨h.os, h.tape, h.output, h.size, fun i hi ho => h.block i hi (by omega)⟩
theorem Chg.of_grown {lo hi : Nat} {w w1 : World} {v : Value} (h : w.grownBy w1 v.ownBlock) (hv : Within v lo hi) : Chg lo hi w w1 :=
  ⟨h.os, h.tape, h.output, h.size, fun i hi ho => h.block i hi (fun e => by have := hv i e.symm; omega)⟩
theorem Chg.below {lo hi : Nat} {w0 w w1 : World} (hb : Below w0.heap.size w0 w) (h : Chg lo hi w w1) (hl : w0.heap.size ≤ lo) : Below w0.heap.size w0 w1 :=
  ⟨h.os.trans hb.os, h.tape.trans hb.tape, h.output.trans hb.output, Nat.le_trans hb.size h.size, fun i hi => (h.block i (Nat.lt_of_lt_of_le hi hb.size) (.inl (by omega))).trans (hb.block i hi)⟩
theorem Box.chg {lo hi : Nat} {w w1 : World} {b : Nat} {cs : Array Value} (h : Box w b cs) (hg : Chg lo hi w w1) (hne : b < lo ∨ hi ≤ b) : Box w1 b cs := by
  refine ⟨Nat.lt_of_lt_of_le h.lt hg.size, fun o => ?_⟩
  have := hg.block b h.lt hne
  rw [← h.get o]
  unfold World.cell?
  rw [this]
/-- A row whose blocks lie from lo on and below hi. -/
def RU {α : Type} (d : Kd α) (e : Nat) (w : World) (lo hi : Nat) (v : Value) (xs : List α) : Prop := d.R e w lo (fun k => k < hi) v xs
theorem RU.of {α : Type} {d : Kd α} {e : Nat} {w : World} {base lo hi : Nat} {v : Value} {xs : List α} (h : d.R e w base (fun _ => True) v xs) (hl : lo ≤ base) (hh : w.heap.size ≤ hi) : RU d e w lo hi v xs :=
  Kd.R_lower (Kd.R_mono (Kd.R_bound h) (fun k hk => by have := hk.2.2.1; omega)) hl
theorem RU.row {α : Type} {d : Kd α} {e : Nat} {w : World} {lo hi : Nat} {v : Value} {xs : List α} (h : RU d e w lo hi v xs) : d.R e w lo (fun _ => True) v xs := Kd.R_mono h (fun _ _ => trivial)
theorem RU.step {α : Type} {d : Kd α} {e : Nat} {w w1 : World} {lo hi : Nat} {v : Value} {xs : List α} (h : RU d e w lo hi v xs) (hm : ∀ k, lo ≤ k → k < hi → k < w.heap.size → w1.heap[k]? = w.heap[k]?) : RU d e w1 lo hi v xs :=
  Kd.R_mono (Kd.R_move (Kd.R_bound h) (fun k hk => hm k hk.2.1 hk.1 hk.2.2.1)) (fun _ hk => hk.1)
theorem RU.below {α : Type} {d : Kd α} {e : Nat} {w w1 : World} {lo hi : Nat} {v : Value} {xs : List α} (h : RU d e w lo hi v xs) (hb : Below w.heap.size w w1) : RU d e w1 lo hi v xs := Kd.R_below h hb
theorem RU.chg {α : Type} {d : Kd α} {e : Nat} {w w1 : World} {lo hi a b : Nat} {v : Value} {xs : List α} (h : RU d e w lo hi v xs) (hg : Chg a b w w1) (hne : hi ≤ a ∨ b ≤ lo) : RU d e w1 lo hi v xs :=
  h.step (fun k h1 h2 h3 => hg.block k h3 (by omega))
theorem RU.within {α : Type} {d : Kd α} {e : Nat} {w : World} {lo hi : Nat} {v : Value} {xs : List α} (h : RU d e w lo hi v xs) : Within v lo hi := fun k hk => ⟨Kd.R_base h k hk, h.1 k hk⟩
theorem RU.reads {α : Type} {d : Kd α} {e : Nat} {w : World} {lo hi : Nat} {A : Option Addr} {m c : Nat} {xs : List α} (h : RU d e w lo hi (.slice A m c) xs) : m = xs.length ∧ m ≤ c ∧ d.C w A m xs := Kd.R_rowX h.row
theorem RU.wide {α : Type} {d : Kd α} {e : Nat} {w : World} {lo hi lo' hi' : Nat} {v : Value} {xs : List α} (h : RU d e w lo hi v xs) (hl : lo' ≤ lo) (hh : hi ≤ hi') : RU d e w lo' hi' v xs :=
  Kd.R_lower (Kd.R_mono h (fun k hk => by omega)) hl
/-- A row of flits that a row of rows holds. -/
def vr (vs : List Value) (i : Nat) : Value := vs.getD i (.slice none 0 0)
theorem vr_set {vs : List Value} {k : Nat} {v : Value} (hk : k < vs.length) (j : Nat) : vr (vs.set k v) j = if j = k then v else vr vs j := by
  by_cases e : j = k
  · subst e; simp [vr, List.getD_eq_getElem?_getD, hk]
  · have e' : ¬ k = j := fun h => e h.symm
    simp [vr, List.getD_eq_getElem?_getD, e, e']
theorem vr_get {vs : List Value} {k : Nat} (hk : k < vs.length) : vs[k]? = some (vr vs k) := by
  simp [vr, List.getD_eq_getElem?_getD, hk]
structure OB (w : World) (lo hi : Nat) (v : Value) (l : List (List Flit)) (vs : List Value) : Prop where
  own : w.ownsRow lo 107 1 v l.length vs
  top : ∀ k, v.ownBlock = some k → k < hi
  row : ∀ i : Nat, i < l.length → RU kF 142 w lo hi (vr vs i) (rl l i)
  apart : ∀ i j : Nat, i < j → j < l.length → Apart (vr vs i) (vr vs j)
theorem OB.len {w : World} {lo hi : Nat} {v : Value} {l : List (List Flit)} {vs : List Value} (h : OB w lo hi v l vs) : vs.length = l.length := by
  have := h.own.1
  omega
theorem OB.apart' {w : World} {lo hi : Nat} {v : Value} {l : List (List Flit)} {vs : List Value} (h : OB w lo hi v l vs) {i j : Nat} (hne : i ≠ j) (hi' : i < l.length) (hj : j < l.length) : Apart (vr vs i) (vr vs j) := by
  rcases Nat.lt_or_gt_of_ne hne with h1 | h1
  · exact h.apart i j h1 hj
  · exact apart_comm (h.apart j i h1 hi')
theorem OB.step {w w1 : World} {lo hi : Nat} {v : Value} {l : List (List Flit)} {vs : List Value} (h : OB w lo hi v l vs) (hm : ∀ k, lo ≤ k → k < hi → k < w.heap.size → w1.heap[k]? = w.heap[k]?) : OB w1 lo hi v l vs :=
  ⟨own_move h.own (fun k hk => hm k (own_base h.own k hk) (h.top k hk) (own_lt h.own k hk)), h.top, fun i hi' => (h.row i hi').step hm, h.apart⟩
theorem OB.below {w w1 : World} {lo hi : Nat} {v : Value} {l : List (List Flit)} {vs : List Value} (h : OB w lo hi v l vs) (hb : Below w.heap.size w w1) : OB w1 lo hi v l vs := h.step (fun k _ _ h3 => hb.block k h3)
theorem OB.chg {w w1 : World} {lo hi a b : Nat} {v : Value} {l : List (List Flit)} {vs : List Value} (h : OB w lo hi v l vs) (hg : Chg a b w w1) (hne : hi ≤ a ∨ b ≤ lo) : OB w1 lo hi v l vs := h.step (fun k h1 h2 h3 => hg.block k h3 (by omega))
theorem OB.wide {w : World} {lo hi lo' hi' : Nat} {v : Value} {l : List (List Flit)} {vs : List Value} (h : OB w lo hi v l vs) (hl : lo' ≤ lo) (hh : hi ≤ hi') : OB w lo' hi' v l vs :=
  ⟨own_weaken h.own hl, fun k hk => by have := h.top k hk; omega, fun i hi => (h.row i hi).wide hl hh, h.apart⟩
theorem OB.form {w : World} {lo hi : Nat} {v : Value} {l : List (List Flit)} {vs : List Value} (h : OB w lo hi v l vs) (h0 : 0 < l.length) : ∃ g cap, v = .slice (some ⟨g, 0, none⟩) l.length cap ∧ lo ≤ g ∧ g < hi ∧ g < w.heap.size ∧ l.length ≤ cap ∧ ∃ cells, w.heap[g]? = some (.cells cells 107 (0, 0)) := by
  obtain ⟨g, cap, e, hb, hl⟩ := h.own.form h0
  obtain ⟨cells, hc⟩ := own_typed h.own g (by rw [e]; rfl)
  have hown := h.own
  rw [e] at hown
  exact ⟨g, cap, e, hb, h.top g (by rw [e]; rfl), hl, own_cap hown, cells, hc⟩
/-- The cell of row k. -/
theorem OB.cell {w : World} {lo hi g n cap : Nat} {l : List (List Flit)} {vs : List Value} (h : OB w lo hi (.slice (some ⟨g, 0, none⟩) n cap) l vs) (k : Nat) (hk : k < l.length) : w.cell? ⟨g, k, none⟩ = some (vr vs k) ∧ w.frozen? ⟨g, k, none⟩ = false := by
  have hl := h.len
  have hn : n = l.length := by
    rcases h.own.2 with ⟨e, _⟩ | ⟨g', cap', cur, e, _⟩
    · cases e
    · injection e with _ e2 _
  have ho := h.own
  constructor
  · have hc := ho.cells (g := g) rfl k (vr vs k) (vr_get (by omega))
    rwa [add_plain] at hc
  · obtain ⟨cells, hc⟩ := own_typed ho g rfl
    unfold World.frozen?
    rw [hc]
    simp
theorem OB.rows {w : World} {lo hi : Nat} {v : Value} {l : List (List Flit)} {vs : List Value} (h : OB w lo hi v l vs) : (kB 142).R 107 w lo (fun k => k < hi) v l := by
  have hl := h.len
  refine ⟨h.top, vs, h.own, by show vs.length = l.length * 1; omega, fun j p hj => ?_⟩
  have hlt := (List.getElem?_eq_some_iff.1 hj).1
  have hp : rl l j = p := by simp [rl, List.getD_eq_getElem?_getD, hj]
  have hr := h.row j hlt
  rw [hp] at hr
  refine ⟨vr vs j, ?_, ?_⟩
  · have hjv : j < vs.length := by omega
    have e : vr vs j = vs[j] := by simp [vr, List.getD_eq_getElem?_getD, hjv]
    show (vs.drop (j * 1)).take 1 = _
    rw [e, Nat.mul_one, List.drop_eq_getElem_cons hjv]
    rfl
  · cases hv : v.ownBlock with
    | none => exact Kd.R_mono hr (fun k hk => ⟨hk, by simp⟩)
    | some g =>
      obtain ⟨cells, hc⟩ := own_typed h.own g hv
      refine Kd.R_mono (Kd.R_types hr hc (by decide)) (fun k hk => ⟨hk.1, fun e => hk.2 (Option.some.inj e)⟩)
theorem OB.reads {w : World} {lo hi : Nat} {A : Option Addr} {m c : Nat} {l : List (List Flit)} {vs : List Value} (h : OB w lo hi (.slice A m c) l vs) : m = l.length ∧ m ≤ c ∧ (kB 142).C w A m l := Kd.R_rowX (Kd.R_mono h.rows (fun _ _ => trivial))
theorem OB.slice {w : World} {lo hi : Nat} {v : Value} {l : List (List Flit)} {vs : List Value} (h : OB w lo hi v l vs) : ∃ A c, v = .slice A l.length c := own_slice h.own
/-- make([][]Flit, n). -/
theorem OB.made (W : World) (lo m : Nat) (hl : lo ≤ W.heap.size) (hm : m ≤ 1000000000) : OB (W.alloc (.cells (madeCells #[.slice none 0 0] m) 107)) lo (W.heap.size + 1) (.slice (some ⟨W.heap.size, 0, none⟩) m m) (List.replicate m []) (List.replicate m (.slice none 0 0)) := by
  have h := own_made_of' (enc := fun _ : Unit => Value.slice none 0 0) (d := ()) W lo 107 m hl (by omega)
  have hr : ∀ i : Nat, vr (List.replicate m (Value.slice none 0 0)) i = .slice none 0 0 := by
    intro i
    simp only [vr, List.getD_eq_getElem?_getD, List.getElem?_replicate]
    split <;> rfl
  have hq : ∀ i : Nat, rl (List.replicate m []) i = [] := by
    intro i
    simp only [rl, List.getD_eq_getElem?_getD, List.getElem?_replicate]
    split <;> rfl
  refine ⟨?_, fun k hk => ?_, fun i _ => ?_, fun i j _ _ => ?_⟩
  · simpa [encs] using h
  · simp only [Value.ownBlock] at hk
    have := Option.some.inj hk
    omega
  · rw [hr, hq]; exact Kd.R_nil _ _ _ _ _
  · rw [hr]; exact .inl rfl
/-- out[k] = v, a row that was made behind all others. -/
theorem OB.put {w : World} {lo hi B g n cap : Nat} {l : List (List Flit)} {vs : List Value} (h : OB w lo hi (.slice (some ⟨g, 0, none⟩) n cap) l vs) (k : Nat) (hk : k < l.length) (u : Value) (y : List Flit) (hu : kF.R 142 w B (fun _ => True) u y) (hB : hi ≤ B) (hlo : lo ≤ hi) (hhi : hi ≤ w.heap.size) :
    OB (w.setCell ⟨g, k, none⟩ u) lo w.heap.size (.slice (some ⟨g, 0, none⟩) n cap) (l.set k y) (vs.set k u) := by
  have hl := h.len
  have hn : n = l.length := by
    rcases h.own.2 with ⟨e, _⟩ | ⟨g', cap', cur, e, _⟩
    · cases e
    · injection e with _ e2 _
  subst hn
  have hg := h.top g rfl
  have hgw := own_lt h.own g rfl
  obtain ⟨cells, hc⟩ := own_typed h.own g rfl
  have far : ∀ {lo' hi' : Nat} {v' : Value} {ys : List Flit}, RU kF 142 w lo' hi' v' ys → RU kF 142 (w.setCell ⟨g, k, none⟩ u) lo' hi' v' ys := fun hr =>
    Kd.R_set hr hc (by decide) k u
  have hst := h.own.stored k u
  refine ⟨?_, fun q hq => ?_, fun i hi' => ?_, fun i j hij hj => ?_⟩
  · rw [List.length_set]
    exact hst.1
  · have : g = q := Option.some.inj hq
    omega
  · rw [List.length_set] at hi'
    rw [vr_set (by omega)]
    rw [set_getB (by omega) i (by omega)]
    by_cases e : i = k
    · subst e
      rw [if_pos rfl, if_pos rfl]
      exact far (RU.of hu (by omega) (Nat.le_refl _))
    · rw [if_neg e, if_neg (fun h => e h.symm)]
      exact far ((h.row i hi').wide (Nat.le_refl _) (by omega))
  · rw [List.length_set] at hj
    rw [vr_set (by omega), vr_set (by omega)]
    by_cases e1 : i = k
    · rw [if_pos e1, if_neg (by omega)]
      exact apart_gt (within_R hu) (h.row j hj).within hB
    · rw [if_neg e1]
      by_cases e2 : j = k
      · rw [if_pos e2]
        exact apart_lt (h.row i (by omega)).within (within_R hu) hB
      · rw [if_neg e2]
        exact h.apart i j hij hj
end Go.Proofs.Ytinnfahmfggghaa
