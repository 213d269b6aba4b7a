/- Bounds of a traffic; no program, no memory. -/
import Derived.Test.YtglajejmnhmcfaaSrc
set_option linter.unusedVariables false
namespace Go.Proofs.Ytglajejmnhmcfaa
open Go.RowKit Go.Proofs.YtglajejmnhmcfaaW.PrintWords
open NoC
theorem max_if (a b : Int) : max a b = if a < b then b else a := by
  split <;> omega
def atL (b x : Int) : Int := if 0 < x then max b (x + 2) else b
def bz (m : Mesh) (pa pb : List Int) (l : List Packet) (k : Nat) : Int := (l.take k).foldl (fun b p => max b (zeroLoad m pa pb p)) 0
def bl (xs : List Int) (k : Nat) : Int := (xs.take k).foldl atL 0
def bs (l : List Packet) : Nat → Int
  | 0 => 0
  | k + 1 => atL (bs l k) (srcTo l k l.length)
def bd (l : List Packet) : Nat → Int
  | 0 => 0
  | k + 1 => atL (bd l k) (dstTo l k l.length)
theorem bz_succ (m : Mesh) (pa pb : List Int) (l : List Packet) (k : Nat) (hk : k < l.length) : bz m pa pb l (k + 1) = max (bz m pa pb l k) (zeroLoad m pa pb (rp l k)) := by
  unfold bz
  rw [take_snoc l k hk, List.foldl_append]
  rfl
theorem bl_succ (xs : List Int) (k : Nat) (hk : k < xs.length) : bl xs (k + 1) = atL (bl xs k) (ri xs k) := by
  unfold bl
  rw [take_next xs k hk, List.foldl_append]
  rfl
theorem bz_range (m : Mesh) (pa pb : List Int) (l : List Packet) : ∀ k, k ≤ l.length → 0 ≤ bz m pa pb l k ∧ bz m pa pb l k ≤ 30 := by
  intro k
  induction k with
  | zero => intro _; simp [bz]
  | succ k ih =>
    intro hk
    have h1 := ih (by omega)
    have h2 := zeroLoad_le m pa pb (rp l k)
    rw [bz_succ m pa pb l k (by omega)]
    omega
theorem atL_range {b x N : Int} (h0 : 0 ≤ b) (h1 : b ≤ N + 2) (hx : x ≤ N) (hN : 0 ≤ N) : 0 ≤ atL b x ∧ atL b x ≤ N + 2 := by
  unfold atL
  split <;> omega
theorem bl_range {xs : List Int} (h : ∀ j : Nat, j < xs.length → 0 ≤ ri xs j ∧ ri xs j ≤ 5242880) : ∀ k, k ≤ xs.length → 0 ≤ bl xs k ∧ bl xs k ≤ 5242882 := by
  intro k
  induction k with
  | zero => intro _; simp [bl]
  | succ k ih =>
    intro hk
    have h1 := ih (by omega)
    have h2 := h k (by omega)
    rw [bl_succ xs k (by omega)]
    exact atL_range h1.1 h1.2 h2.2 (by omega)
theorem wrap_id {n : Int} (h0 : -1000000000 ≤ n) (h1 : n ≤ 1000000000) : wrap64 n = n := by
  unfold wrap64
  omega
theorem srcTo_range {g : Grid} {l : List Packet} (h : l.all (packetOk g) = true) (hl : l.length ≤ 1048576) (a : Int) : ∀ k, k ≤ l.length → 0 ≤ srcTo l a k ∧ srcTo l a k ≤ 5 * k := by
  intro k
  induction k with
  | zero => intro _; simp [srcTo]
  | succ k ih =>
    intro hk
    have h1 := ih (by omega)
    have h2 := packetOk_len (all_get h k (by omega))
    rw [srcTo_succ l a k (by omega)]
    split
    · rw [wrap_id (by omega) (by omega)]; omega
    · omega
theorem dstTo_range {g : Grid} {l : List Packet} (h : l.all (packetOk g) = true) (hl : l.length ≤ 1048576) (a : Int) : ∀ k, k ≤ l.length → 0 ≤ dstTo l a k ∧ dstTo l a k ≤ 5 * k := by
  intro k
  induction k with
  | zero => intro _; simp [dstTo]
  | succ k ih =>
    intro hk
    have h1 := ih (by omega)
    have h2 := packetOk_len (all_get h k (by omega))
    rw [dstTo_succ l a k (by omega)]
    split
    · rw [wrap_id (by omega) (by omega)]; omega
    · omega
theorem bs_range {g : Grid} {l : List Packet} (h : l.all (packetOk g) = true) (hl : l.length ≤ 1048576) : ∀ k, 0 ≤ bs l k ∧ bs l k ≤ 5242882 := by
  intro k
  induction k with
  | zero => simp [bs]
  | succ k ih =>
    have h2 := srcTo_range h hl k l.length (Nat.le_refl _)
    exact atL_range (N := 5242880) ih.1 (by have := ih.2; omega) (by omega) (by omega)
theorem bd_range {g : Grid} {l : List Packet} (h : l.all (packetOk g) = true) (hl : l.length ≤ 1048576) : ∀ k, 0 ≤ bd l k ∧ bd l k ≤ 5242882 := by
  intro k
  induction k with
  | zero => simp [bd]
  | succ k ih =>
    have h2 := dstTo_range h hl k l.length (Nat.le_refl _)
    exact atL_range (N := 5242880) ih.1 (by have := ih.2; omega) (by omega) (by omega)
def nodesN (m : Mesh) : Nat := (nodeCount m.g).toNat
def drainBound (m : Mesh) (pa pb : List Int) (l : List Packet) : Int :=
  if arePk m pa pb l then max (max (bz m pa pb l l.length) (bl (loadsL m pa pb l) (chans m))) (max (bs l (nodesN m)) (bd l (nodesN m))) else -1
/-- A block of plain cells. -/
def Arr (W : World) (b : Nat) (t : TypeId) (cs : Array Value) : Prop := W.heap[b]? = some (.cells cs t (0, 0))
theorem Arr.lt {W : World} {b : Nat} {t : TypeId} {cs : Array Value} (h : Arr W b t cs) : b < W.heap.size := (Array.getElem?_eq_some_iff.1 h).1
theorem Arr.cell {W : World} {b : Nat} {t : TypeId} {cs : Array Value} (h : Arr W b t cs) (o : Nat) : W.cell? ⟨b, o, none⟩ = cs[o]? := by
  unfold World.cell?
  rw [show W.heap[b]? = _ from h]
  rfl
theorem Arr.frozen {W : World} {b : Nat} {t : TypeId} {cs : Array Value} (h : Arr W b t cs) (o : Nat) : W.frozen? ⟨b, o, none⟩ = false := by
  unfold World.frozen?
  rw [show W.heap[b]? = _ from h]
  simp
theorem Arr.new (W : World) (b : Nat) (t : TypeId) (cs : Array Value) (hb : b = W.heap.size) : Arr (W.alloc (.cells cs t)) b t cs := by
  subst hb
  exact (show (W.heap.push _)[W.heap.size]? = _ from Array.getElem?_push_size)
theorem Arr.below {W W1 : World} {b : Nat} {t : TypeId} {cs : Array Value} (h : Arr W b t cs) (hb : Below W.heap.size W W1) : Arr W1 b t cs := (hb.block b h.lt).trans h
theorem Arr.set {W : World} {b : Nat} {t : TypeId} {cs : Array Value} (h : Arr W b t cs) (i : Nat) (v : Value) : Arr (W.setCell ⟨b, i, none⟩ v) b t (cs.setIfInBounds i v) := by
  show (W.heap.modify b _)[b]? = _
  have hlt := h.lt
  have h2 : W.heap[b]? = some (.cells cs t (0, 0)) := h
  rw [Array.getElem?_eq_getElem hlt] at h2
  injection h2 with h2
  rw [Array.getElem?_eq_getElem (by rw [Array.size_modify]; exact hlt), Array.getElem_modify_self, h2]
  rfl
theorem Arr.other {W : World} {b : Nat} {t : TypeId} {cs : Array Value} (h : Arr W b t cs) (g i : Nat) (v : Value) (hne : b ≠ g) : Arr (W.setCell ⟨g, i, none⟩ v) b t cs :=
  (Below.heap_setCell W ⟨g, i, none⟩ v b hne).trans h
end Go.Proofs.Ytglajejmnhmcfaa
