/- Valid networks; no program, no memory. -/
import Derived.Test.YtinnfahmfggghaaM4
set_option linter.unusedVariables false
namespace NoC
/-- Flits of a grid: the target a node, the class 0 or 1. -/
def flitOk (g : Grid) (f : Flit) : Bool := isNode g f.dst && inside f.cls 0 1
def areFl (g : Grid) (l : List Flit) : Bool := l.all (flitOk g)
def clsOnly (l : List Flit) (c : Int) : List Flit := l.filter (fun f => f.cls == c)
def bufOk (g : Grid) (i : Nat) (l : List Flit) : Bool := decide (l.length ≤ 3) && l.all (fun f => f.cls == ((i % 2 : Nat) : Int)) && areFl g l
def srcOk (g : Grid) (l : List Flit) : Bool := decide (l.length ≤ 60) && areFl g l
def shapeOk (n : Net) : Bool :=
  decide ((n.bufs.length : Int) = 10 * nodeCount n.mesh.g) && decide ((n.owners.length : Int) = 10 * nodeCount n.mesh.g) && decide ((n.turns.length : Int) = 5 * nodeCount n.mesh.g) && decide ((n.srcs.length : Int) = nodeCount n.mesh.g) && decide ((n.arrs.length : Int) = nodeCount n.mesh.g)
def netOk (n : Net) : Bool :=
  classesOk n.mesh n.pa n.pb && shapeOk n && allI n.bufs.length (fun i => bufOk n.mesh.g i (rl n.bufs i)) && allI n.srcs.length (fun i => srcOk n.mesh.g (rl n.srcs i)) && allI n.owners.length (fun i => inside (ri n.owners i) (-1) 4) && allI n.turns.length (fun i => inside (ri n.turns i) 0 9) && inside n.time 0 1000000
theorem rf_get (l : List Flit) (k : Nat) (h : k < l.length) : rf l (k : Int) = l[k] := by
  simp [rf, List.getD_eq_getElem?_getD, h]
theorem areFl_no {g : Grid} {l : List Flit} (k : Nat) (hk : k < l.length) (h : flitOk g (rf l k) = false) : areFl g l = false := by
  rw [rf_get l k hk] at h
  unfold areFl
  rw [Bool.eq_false_iff]
  intro ha
  rw [List.all_eq_true] at ha
  rw [ha _ (List.getElem_mem hk)] at h
  cases h
theorem areFl_yes {g : Grid} {l : List Flit} (h : ∀ k : Nat, k < l.length → flitOk g (rf l k) = true) : areFl g l = true := by
  unfold areFl
  rw [List.all_eq_true]
  intro p hp
  obtain ⟨k, hk, rfl⟩ := List.getElem_of_mem hp
  have := h k hk
  rwa [rf_get l k hk] at this
theorem clsOnly_len (l : List Flit) (c : Int) : ((clsOnly l c).length == l.length) = l.all (fun f => f.cls == c) := by
  rw [Bool.eq_iff_iff, beq_iff_eq, List.all_eq_true]
  unfold clsOnly
  rw [List.length_filter_eq_length_iff]
theorem clsOnly_take {l : List Flit} {c : Int} (k : Nat) (hk : k < l.length) : clsOnly (l.take (k + 1)) c = if (rf l k).cls == c then clsOnly (l.take k) c ++ [rf l k] else clsOnly (l.take k) c := by
  rw [rf_get l k hk, List.take_succ_eq_append_getElem hk]
  unfold clsOnly
  rw [List.filter_append]
  split <;> simp_all
/-- What a valid network's parts are. -/
theorem netOk_parts {n : Net} (h : netOk n = true) : classesOk n.mesh n.pa n.pb = true ∧ (n.bufs.length : Int) = 10 * nodeCount n.mesh.g ∧ (n.owners.length : Int) = 10 * nodeCount n.mesh.g ∧ (n.turns.length : Int) = 5 * nodeCount n.mesh.g ∧ (n.srcs.length : Int) = nodeCount n.mesh.g ∧ (n.arrs.length : Int) = nodeCount n.mesh.g ∧ (∀ i, i < n.bufs.length → bufOk n.mesh.g i (rl n.bufs i) = true) ∧ (∀ i, i < n.srcs.length → srcOk n.mesh.g (rl n.srcs i) = true) ∧ (∀ i : Nat, i < n.owners.length → inside (ri n.owners i) (-1) 4 = true) ∧ (∀ i : Nat, i < n.turns.length → inside (ri n.turns i) 0 9 = true) ∧ inside n.time 0 1000000 = true := by
  simp only [netOk, shapeOk, Bool.and_eq_true, decide_eq_true_eq, allI_iff] at h
  obtain ⟨⟨⟨⟨⟨⟨h1, ⟨⟨⟨⟨s1, s2⟩, s3⟩, s4⟩, s5⟩⟩, h2⟩, h3⟩, h4⟩, h5⟩, h6⟩ := h
  exact ⟨h1, s1, s2, s3, s4, s5, h2, h3, h4, h5, h6⟩
end NoC
