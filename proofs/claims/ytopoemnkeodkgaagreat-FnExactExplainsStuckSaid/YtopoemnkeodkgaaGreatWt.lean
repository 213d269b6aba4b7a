/- Waits: rows of them, and the laws' own words: measure, copy, compare, mark; for all lists of at most a million waits. -/
import Derived.Test.YtopoemnkeodkgaaGreatMark
set_option linter.unusedVariables false
set_option linter.unusedSimpArgs false
namespace Go.Proofs.YtopoemnkeodkgaaGreat
open Go.RowKit Go.Proofs.YtopoemnkeodkgaaGreatW.PrintWords
open NoC

def wCells (x : Wait) : List Value := [.int .i64 x.a, .int .i64 x.b]
def kW : Kd Wait := Kd.flat 2 wCells (fun _ => rfl) (fun x u hu => by
  simp only [wCells, List.mem_cons, List.not_mem_nil, or_false] at hu
  rcases hu with rfl | rfl <;> rfl)
def zw : Wait := ⟨0, 0⟩
def rw_ (l : List Wait) (i : Int) : Wait := l.getD i.toNat zw
theorem rdW_at {w : World} {A : Option Addr} {l : List Wait} (h : kW.C w A l.length l) (k : Nat) (hk : k < l.length) :
    ∃ b off, A = some ⟨b, off, none⟩ ∧ b < w.heap.size ∧ w.cell? ⟨b, off + k * 2, none⟩ = some (.int .i64 (rw_ l k).a) ∧ w.cell? ⟨b, off + k * 2 + 1, none⟩ = some (.int .i64 (rw_ l k).b) := by
  obtain ⟨b, off, rfl, hb, hx⟩ := rdF_at (n := 2) zw (by omega) h k hk
  exact ⟨b, off, rfl, hb, hx k hk 0 _ rfl, hx k hk 1 _ rfl⟩
theorem info_W : (Tryz.prog.info? 91).map (fun i => (i.zero, i.size, i.bytes)) = some (some (.agg #[.int .i64 0, .int .i64 0]), 2, 16) := by kernel_rfl
def GotW (w w' : World) (xs : List Wait) (e : Ending) : Prop := ∃ v, e = .returned v ∧ kW.R 91 w' w.heap.size (fun _ => True) v xs
section
variable {ops : Array Oper} {rest : List Oper} {o : Oper} {a : Act} {Q : Exit → Act → World → Prop}
theorem make_W {W0 W : World} (hgd : o.guard = none) {N : Tmp} (hd : o.dst = some N) (x y : Operand) (ho : o.op = .makeSlice 88 x y) (n : Nat) (hx : a.eval x = .int .i64 n) (hy : a.eval y = .int .i64 n)
    (hl : n ≤ 1000000000) (HB : Below W0.heap.size W0 W)
    (h : ∀ v1 w1, kW.R 91 w1 W0.heap.size (fun _ => True) v1 (List.replicate n zw) → Below W0.heap.size W0 w1 → wpList Tryz.prog ops Q rest (a.put o.dst v1) w1) : wpList Tryz.prog ops Q (o :: rest) a W :=
  Kd.R_make kW (w0 := W0) W0.heap.size 91 hgd hd 88 x y ho (n : Int) hx hy Tryz.underlying88 (.agg #[.int .i64 0, .int .i64 0]) 16 info_W rfl (by decide) (by omega) zw (ok := fun _ => True) (okp := fun _ => True) rfl (fun _ hk => hk) trivial (by omega) (by simp; omega) HB HB.size
    (fun v1 w1 h1 h2 _ _ => h v1 w1 (by simpa using h1) h2)
theorem put_W {W0 W : World} (hN : o.dst = none) (hgd : o.guard = none) (p x : Operand) (ho : o.op = .store 91 p x) {g m cap o' : Nat} (k : Nat) (xs : List Wait) (y : Wait)
    (haddr : a.eval p = .pointer (some ⟨g, o', none⟩)) (hoff : o' = k * 2) (hx : a.eval x = .agg #[.int .i64 y.a, .int .i64 y.b]) (HO : kW.R 91 W W0.heap.size (fun _ => True) (.slice (some ⟨g, 0, none⟩) m cap) xs) (hk : k < m) (HB : Below W0.heap.size W0 W)
    (h : ∀ w1, kW.R 91 w1 W0.heap.size (fun _ => True) (.slice (some ⟨g, 0, none⟩) m cap) (xs.set k y) → Below W0.heap.size W0 w1 → W.grownBy w1 (some g) → wpList Tryz.prog ops Q rest a w1) : wpList Tryz.prog ops Q (o :: rest) a W := by
  have hc := rowF_cell zw HO k hk
  refine Kd.R_store kW (w0 := W0) W0.heap.size hN hgd 91 p x ho 91 (k : Int) 0 xs y (.agg #[.int .i64 y.a, .int .i64 y.b]) (wCells y) (wCells (xs.getD k zw)) (fun _ => True) (fun _ => False) haddr (by rw [hoff]; rfl) hx rfl (by kernel_rfl) ?_ HO (by omega) (by omega) rfl ?_ (by show 0 + 2 ≤ 2; omega) ?_ (fun _ h => h.elim) HB ?_
  · intro q hq
    simp only [wCells, List.mem_cons, List.not_mem_nil, or_false] at hq
    rcases hq with rfl | rfl <;> rfl
  · exact hc.1
  · rfl
  · intro w1 h1 h2 h3
    exact h w1 h1 h2 h3
end
theorem same_getW {x l : List Wait} (h1 : x.length = l.length) (h : ∀ j : Nat, j < l.length → rw_ x j = rw_ l j) : x = l := by
  apply List.ext_getElem h1
  intro j a b
  have := h j b
  simpa [rw_, List.getD_eq_getElem?_getD, a, b] using this
theorem set_getW {x : List Wait} {k : Nat} {v : Wait} (hk : k < x.length) (j : Nat) (hj : j < x.length) : rw_ (x.set k v) j = if k = j then v else rw_ x j := by
  by_cases e : k = j
  · subst e; simp [rw_, List.getD_eq_getElem?_getD, hk]
  · simp [rw_, List.getD_eq_getElem?_getD, e]
def markV (k : Int) (j : Nat) : Wait := ⟨k + 2 * j, k + 2 * j + 1⟩
theorem rowW_set {e base g m c : Nat} {w : World} {xs : List Wait} (h : kW.R e w base (fun _ => True) (.slice (some ⟨g, 0, none⟩) m c) xs) (k : Nat) (hk : k < m) (p : Wait) :
    kW.R e ((w.setCell ⟨g, k * 2, none⟩ (.int .i64 p.a)).setCell ⟨g, k * 2 + 1, none⟩ (.int .i64 p.b)) base (fun _ => True) (.slice (some ⟨g, 0, none⟩) m c) (xs.set k p) ∧
    w.grownBy ((w.setCell ⟨g, k * 2, none⟩ (.int .i64 p.a)).setCell ⟨g, k * 2 + 1, none⟩ (.int .i64 p.b)) (some g) := by
  have hc := rowF_cell zw h k hk
  have := Kd.R_seg (d := kW) h (k : Int) (by omega) (by omega) (c := wCells (xs.getD k zw)) (seg := wCells p) (j := 0) (okp := fun _ => False) (x' := p) rfl (fun j u hu => hc.1 j u hu) (by show 0 + 2 ≤ 2; omega) rfl (fun _ h => h.elim)
  exact this
end Go.Proofs.YtopoemnkeodkgaaGreat
