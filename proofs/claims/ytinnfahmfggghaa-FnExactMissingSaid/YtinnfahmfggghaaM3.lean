/- Plain functions on packets, loads and bounds; no program, no memory. -/
import Derived.Test.YtinnfahmfggghaaM2
set_option linter.unusedVariables false
namespace NoC
/-- The table of a class. -/
def tabOf (pa pb : List Int) (cls : Int) : List Int := if cls = 1 then pb else pa
def walkP (m : Mesh) (pa pb : List Int) (p : Packet) : List Int := wt m (tabOf pa pb p.cls) p.src p.dst
def zeroLoad (m : Mesh) (pa pb : List Int) (p : Packet) : Int := if (classesOk m pa pb && packetOk m.g p) = true then (walkP m pa pb p).length + p.len + 1 else -1
theorem walkF_len (m : Mesh) (t : List Int) (b : Int) : ∀ (k : Nat) (a : Int) (out : List Int), (walkF m t b k a out).length ≤ out.length + k := by
  intro k
  induction k with
  | zero => intro a out; simp [walkF]
  | succ k ih =>
    intro a out
    unfold walkF
    split
    · split
      · omega
      · simp
    · split
      · have := ih (nextNode m.g a (entry m t a b)) (out ++ [4 * a + entry m t a b])
        simp only [List.length_append, List.length_singleton] at this
        omega
      · simp
theorem wt_len (m : Mesh) (t : List Int) (a b : Int) : (wt m t a b).length ≤ 17 := by
  unfold wt
  split
  · have := walkF_len m t b ((nodeCount m.g).toNat + 1) a []
    have hc := count_le m.g
    unfold walk
    simp only [List.length_nil] at this
    omega
  · simp
theorem packetOk_len {g : Grid} {p : Packet} (h : packetOk g p = true) : 1 ≤ p.len ∧ p.len ≤ 5 := by
  simp only [packetOk, Bool.and_eq_true, inside_iff] at h
  exact h.2
theorem packetOk_nodes {g : Grid} {p : Packet} (h : packetOk g p = true) : isNode g p.src = true ∧ isNode g p.dst = true ∧ ¬ p.src = p.dst := by
  simp only [packetOk, Bool.and_eq_true, decide_eq_true_eq] at h
  obtain ⟨⟨⟨⟨⟨_, a⟩, b⟩, c⟩, _⟩, _⟩ := h
  exact ⟨a, b, c⟩
theorem classesOk_sized {m : Mesh} {pa pb : List Int} (h : classesOk m pa pb = true) : sized m pa = true ∧ sized m pb = true := by
  simp only [classesOk, tableOk, Bool.and_eq_true] at h
  exact ⟨h.1.1, h.2.1⟩
theorem zeroLoad_eq {m : Mesh} {pa pb : List Int} {p : Packet} (h1 : classesOk m pa pb = true) (h2 : packetOk m.g p = true) : zeroLoad m pa pb p = (walkP m pa pb p).length + p.len + 1 := by
  simp [zeroLoad, h1, h2]
/-- What is left of a purse behind so many. -/
def szN (n : Nat) (left : Int) : Int := if left - n < 0 then -1 else left - n
theorem szN_range {n : Nat} {left : Int} (h : -1 ≤ left) (h1 : left ≤ 1048576) : -1 ≤ szN n left ∧ szN n left ≤ 1048576 := by
  unfold szN; split <;> omega
def szMeshI (m : Mesh) (left : Int) : Int := szN m.br.length left
def szClsI (pa pb : List Int) (left : Int) : Int := if szN pa.length left < 0 then -1 else szN pb.length (szN pa.length left)
theorem same_get {x l : List Int} (h1 : x.length = l.length) (h : ∀ j : Nat, j < l.length → ri x j = ri l j) : x = l := by
  apply List.ext_getElem h1
  intro j a b
  have := h j b
  rwa [ri_get x j a, ri_get l j b] at this
theorem set_get {x : List Int} {k : Nat} {v : Int} (hk : k < x.length) (j : Nat) (hj : j < x.length) : ri (x.set k v) j = if k = j then v else ri x j := by
  rw [ri_get _ j (by simpa using hj), List.getElem_set]
  split
  · rfl
  · rw [ri_get x j hj]
/-- Are two lists equal? -/
def eqL (a b : List Int) : Bool := decide (a = b)
theorem eqL_no {a b : List Int} (h : ¬ a = b) : eqL a b = false := decide_eq_false h
theorem eqL_yes {a b : List Int} (hl : a.length = b.length) (h : ∀ j : Nat, j < a.length → ri a j = ri b j) : eqL a b = true :=
  decide_eq_true (same_get hl (fun j hj => h j (by omega)))
theorem eqL_self (a : List Int) : eqL a a = true := decide_eq_true rfl
end NoC
