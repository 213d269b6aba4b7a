/- Words on what a call makes: literals, append, results; no program but its types' sizes. -/
import Derived.Test.YtinnfahmfggghaaBase
import Derived.Test.YtinnfahmfggghaaProg
set_option linter.unusedVariables false
set_option linter.unusedSimpArgs false
namespace Go.Proofs.Ytinnfahmfggghaa
open Go.RowKit Go.Proofs.YtinnfahmfggghaaW.PrintWords

theorem info_int : (Try.prog.info? 3).map (fun i => (i.zero, i.size, i.bytes)) = some (some (.int .i64 0), 1, 8) := by kernel_rfl

/-- An empty literal. -/
theorem R_empty {α : Type} (d : Kd α) (e : Nat) {W0 W : World} (hb : W0.heap.size ≤ W.heap.size) : d.R e (W.alloc (.cells #[] e)) W0.heap.size (fun _ => True) (.slice (some ⟨W.heap.size, 0, none⟩) 0 0) [] := by
  refine ⟨fun _ _ => trivial, [], ?_, Reps.none _ _⟩
  have h2 := World.ownsRow_lit (base := W0.heap.size) (e := e) (size := d.sz) W #[] 0 hb (by simp) (by simp)
  simpa using h2
theorem R_empty' {α : Type} (d : Kd α) (e : Nat) {W0 W : World} (hb : W0.heap.size ≤ W.heap.size) (n : Nat) (hn : n = W.heap.size) : d.R e (W.alloc (.cells #[] e)) W0.heap.size (fun _ => True) (.slice (some ⟨n, 0, none⟩) 0 0) [] := by
  subst hn
  exact R_empty d e hb
theorem R_nil' {α : Type} (d : Kd α) (e : Nat) (W0 W : World) : d.R e W W0.heap.size (fun _ => True) (.slice none 0 0) [] := Kd.R_nil d e W _ _
section
variable {P : Program} {ops : Array Oper} {rest : List Oper} {o : Oper} {a : Act} {Q : Exit → Act → World → Prop} {α : Type}
theorem app_own (d : Kd α) {W0 W : World} (hgd : o.guard = none) (s x : Operand) (t e : TypeId) (z : Value) (bytes : Nat)
    (ho : o.op = .call { callee := .builtin .append, args := #[s, x], argTypes := #[t, t] })
    (ht : P.underlying t = some (.slice e)) (hinfo : (P.info? e).map (fun i => (i.zero, i.size, i.bytes)) = some (some z, d.sz, bytes)) (hz : z.cells.size = d.sz) (hs0 : 0 < d.sz) (hb0 : 0 < bytes)
    (v : Value) (xs : List α) (p : α) (cs : List Value) (hs : a.eval s = v) (hx : a.eval x = .slice (some ⟨W.heap.size, 0, none⟩) 1 1) (hp : d.M W W0.heap.size (fun _ => False) p cs)
    (HO : d.R e W W0.heap.size (fun _ => True) v xs) (HB : Below W0.heap.size W0 W) (hl : (xs.length + 1) * bytes ≤ 140737488355328)
    (h : ∀ v1 w1, d.R e w1 W0.heap.size (fun _ => True) v1 (xs ++ [p]) → Below W0.heap.size W0 w1 → wpList P ops Q rest (a.put o.dst v1) w1) :
    wpList P ops Q (o :: rest) a (W.alloc (.cells cs.toArray e)) :=
  Kd.R_append d W0.heap.size hgd s x t e z bytes ho ht hinfo hz hs0 hb0 v xs p cs (fun _ => True) (fun _ => False) hs hx hp (fun _ hk => hk.elim) (fun _ _ => trivial) HO HB HB.size hl (fun v1 w1 h1 h2 _ _ => h v1 w1 h1 h2)
theorem app_int {W0 W : World} (hgd : o.guard = none) (s x : Operand) (t e : TypeId)
    (ho : o.op = .call { callee := .builtin .append, args := #[s, x], argTypes := #[t, t] })
    (ht : P.underlying t = some (.slice e)) (hinfo : (P.info? e).map (fun i => (i.zero, i.size, i.bytes)) = some (some (.int .i64 0), 1, 8))
    (v : Value) (xs : List Int) (y : Int) (hs : a.eval s = v) (hx : a.eval x = .slice (some ⟨W.heap.size, 0, none⟩) 1 1)
    (HO : Kd.R (Kd.int .i64) e W W0.heap.size (fun _ => True) v xs) (HB : Below W0.heap.size W0 W) (hl : xs.length ≤ 1000000000)
    (h : ∀ v1 w1, Kd.R (Kd.int .i64) e w1 W0.heap.size (fun _ => True) v1 (xs ++ [y]) → Below W0.heap.size W0 w1 → wpList P ops Q rest (a.put o.dst v1) w1) :
    wpList P ops Q (o :: rest) a (W.alloc (.cells #[.int .i64 y] e)) :=
  app_own (Kd.int .i64) hgd s x t e (.int .i64 0) 8 ho ht hinfo rfl (by decide) (by omega) v xs y [.int .i64 y] hs hx rfl HO HB (by omega) h
theorem make_int {W0 W : World} (hgd : o.guard = none) {N : Tmp} (hd : o.dst = some N) (t e : TypeId) (x y : Operand) (ho : o.op = .makeSlice t x y) (n : Nat) (hx : a.eval x = .int .i64 n) (hy : a.eval y = .int .i64 n)
    (ht : P.underlying t = some (.slice e)) (hinfo : (P.info? e).map (fun i => (i.zero, i.size, i.bytes)) = some (some (.int .i64 0), 1, 8)) (hl : n ≤ 1000000000) (HB : Below W0.heap.size W0 W)
    (h : ∀ v1 w1, Kd.R (Kd.int .i64) e w1 W0.heap.size (fun _ => True) v1 (List.replicate n 0) → Below W0.heap.size W0 w1 → wpList P ops Q rest (a.put o.dst v1) w1) : wpList P ops Q (o :: rest) a W :=
  Kd.R_make (Kd.int .i64) (w0 := W0) W0.heap.size e hgd hd t x y ho (n : Int) hx hy ht (.int .i64 0) 8 hinfo rfl (by decide) (by omega) 0 (ok := fun _ => True) (okp := fun _ => True) rfl (fun _ hk => hk) trivial (by omega) (by simp; omega) HB HB.size
    (fun v1 w1 h1 h2 _ _ => h v1 w1 (by simpa using h1) h2)
end
section
variable {e base g n cap : Nat} {ok : Nat → Prop} {W : World} {xs : List Int}
theorem rowI_cell (h : Kd.R (Kd.int .i64) e W base ok (.slice (some ⟨g, 0, none⟩) n cap) xs) (k : Nat) (hk : k < n) : W.cell? ⟨g, k, none⟩ = some (.int .i64 (NoC.ri xs k)) ∧ W.frozen? ⟨g, k, none⟩ = false := by
  have h2 := Kd.R_celln 0 h (k : Int) (by omega) (by omega)
  rw [Int.toNat_natCast] at h2
  exact h2
theorem rowI_set (h : Kd.R (Kd.int .i64) e W base ok (.slice (some ⟨g, 0, none⟩) n cap) xs) (k : Nat) (v : Int) : Kd.R (Kd.int .i64) e (W.setCell ⟨g, k, none⟩ (.int .i64 v)) base ok (.slice (some ⟨g, 0, none⟩) n cap) (xs.set k v) := by
  have h2 := (Kd.R_putg h (k : Int) v).1
  rw [Int.toNat_natCast] at h2
  exact h2
end
theorem R_off {α : Type} {d : Kd α} {e base : Nat} {w : World} {v : Value} {xs : List α} {g : Nat} (h : d.R e w base (fun _ => True) v xs) (hg : g < base) (j : Nat) (u : Value) : d.R e (w.setCell ⟨g, j, none⟩ u) base (fun _ => True) v xs :=
  Kd.R_mono (Kd.R_far (p := ⟨g, j, none⟩) (Kd.R_bound h) (fun k hk => by have := hk.2.1; show k ≠ g; omega) u) (fun _ _ => trivial)
theorem R_belowC {α : Type} {d : Kd α} {e base : Nat} {w w1 : World} {v : Value} {xs : List α} (hb : Below w.heap.size w w1) (h : d.R e w base (fun _ => True) v xs) : d.R e w1 base (fun _ => True) v xs := Kd.R_below h hb
theorem R_belowB {α : Type} {d : Kd α} {e base B : Nat} {w w1 : World} {v : Value} {xs : List α} (hb : Below B w w1) (h : d.R e w base (fun _ => True) v xs) (hB : w.heap.size ≤ B) : d.R e w1 base (fun _ => True) v xs :=
  Kd.R_below h (hb.mono hB)
theorem R_apart {α β : Type} {d : Kd α} {d' : Kd β} {e e' b1 b2 : Nat} {w1 w2 : World} {va vb : Value} {xs : List α} {ys : List β} (hA : d.R e w1 b1 (fun _ => True) va xs) (hB : d'.R e' w2 b2 (fun _ => True) vb ys) (hle : w1.heap.size ≤ b2) : va.ownBlock = none ∨ va.ownBlock ≠ vb.ownBlock := by
  have ha := (Kd.R_bound hA).1
  have hb := (Kd.R_bound hB).1
  cases h : va.ownBlock with
  | none => exact Or.inl rfl
  | some k =>
    right
    intro e
    have h1 := (ha k h).2.2.1
    have h2 := (hb k e.symm).2.1
    omega
/-- A mesh, a table, two tables that a call hands back. -/
def GotMesh (w w' : World) (m : NoC.Mesh) (e : Ending) : Prop := ∃ v, e = .returned (.agg #[.int .i64 m.g.w, .int .i64 m.g.h, v]) ∧ Kd.R (Kd.int .i64) 3 w' w.heap.size (fun _ => True) v m.br
def GotTab (w w' : World) (t : List Int) (e : Ending) : Prop := ∃ v, e = .returned (.agg #[v]) ∧ Kd.R (Kd.int .i64) 3 w' w.heap.size (fun _ => True) v t
def GotCls (w w' : World) (pa pb : List Int) (e : Ending) : Prop := ∃ va vb, e = .returned (.agg #[va, vb]) ∧ Kd.R (Kd.int .i64) 3 w' w.heap.size (fun _ => True) va pa ∧ Kd.R (Kd.int .i64) 3 w' w.heap.size (fun _ => True) vb pb ∧ (va.ownBlock = none ∨ va.ownBlock ≠ vb.ownBlock)
/-- What a call hands back: a slice of ints of its own. -/
def GotI (w w' : World) (xs : List Int) (e : Ending) : Prop := ∃ v, e = .returned v ∧ Kd.R (Kd.int .i64) 3 w' w.heap.size (fun _ => True) v xs
theorem GotI.mk {w W0 w' : World} {xs : List Int} {v : Value} (h : Kd.R (Kd.int .i64) 3 w' W0.heap.size (fun _ => True) v xs) (hb : w.heap.size ≤ W0.heap.size) : GotI w w' xs (.returned v) :=
  ⟨v, rfl, Kd.R_lower h hb⟩
theorem GotI.nil (w w' : World) : GotI w w' [] (.returned (.slice none 0 0)) := ⟨_, rfl, Kd.R_nil _ _ _ _ _⟩
theorem GotI.read {w w' : World} {xs : List Int} {e : Ending} (h : GotI w w' xs e) : ∃ A c, e = .returned (.slice A xs.length c) ∧ xs.length ≤ c ∧ Kd.C (Kd.int .i64) w' A xs.length xs := by
  obtain ⟨v, rfl, hR⟩ := h
  obtain ⟨A, c, rfl, h1, h2⟩ := Kd.R_reads hR
  exact ⟨A, c, rfl, h1, h2⟩
end Go.Proofs.Ytinnfahmfggghaa
