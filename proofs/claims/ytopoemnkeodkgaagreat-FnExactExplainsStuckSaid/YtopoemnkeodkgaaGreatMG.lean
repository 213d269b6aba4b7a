/- Grants of a valid network; no program, no memory. -/
import Derived.Test.YtopoemnkeodkgaaGreatMR
set_option linter.unusedVariables false
namespace NoC
def usedAt (us : List Bool) (i : Int) : Bool := us.getD (i / 2).toNat false
def keepU (us : List Bool) (i : Int) : Bool := !usedAt us i
def dist (x t : Int) : Int := (x - t + 10) % 10
def better (turn best x : Int) : Int := if best < 0 then x else if dist x turn < dist best turn then x else best
def firstTo (l : List Int) (turn : Int) (k : Nat) : Int := (l.take k).foldl (better turn) (-1)
def firstFrom (l : List Int) (turn : Int) : Int := firstTo l turn l.length
def smallL (l : List Int) : Prop := ∀ k : Nat, k < l.length → 0 ≤ ri l k ∧ ri l k ≤ 9
theorem take_nextI (l : List Int) (k : Nat) (hk : k < l.length) : l.take (k + 1) = l.take k ++ [ri l k] := by
  rw [ri_get l k hk, List.take_succ_eq_append_getElem hk]
theorem firstTo_succ (l : List Int) (turn : Int) (k : Nat) (hk : k < l.length) : firstTo l turn (k + 1) = better turn (firstTo l turn k) (ri l k) := by
  unfold firstTo
  rw [take_nextI l k hk, List.foldl_append]
  rfl
theorem firstTo_range {l : List Int} {turn : Int} (h : smallL l) : ∀ k, k ≤ l.length → -1 ≤ firstTo l turn k ∧ firstTo l turn k ≤ 9 := by
  intro k
  induction k with
  | zero => intro _; simp [firstTo]
  | succ k ih =>
    intro hk
    have h1 := ih (by omega)
    have h2 := h k (by omega)
    rw [firstTo_succ l turn k (by omega)]
    unfold better
    split
    · omega
    · split <;> omega
theorem better_1 {turn best x : Int} (h : best < 0) : better turn best x = x := by rw [better, if_pos h]
theorem better_2 {turn best x : Int} (h : ¬ best < 0) (h2 : (x - turn + 10) % 10 < (best - turn + 10) % 10) : better turn best x = x := by rw [better, if_neg h, if_pos (by unfold dist; exact h2)]
theorem better_3 {turn best x : Int} (h : ¬ best < 0) (h2 : ¬ (x - turn + 10) % 10 < (best - turn + 10) % 10) : better turn best x = best := by rw [better, if_neg h, if_neg (by unfold dist; exact h2)]
def leftOf (n : Net) (a p : Int) (us : List Bool) : List Int := (requestsN n a p).filter (keepU us)
def pick (n : Net) (a p : Int) (us : List Bool) : Int := firstFrom (leftOf n a p us) (ri n.turns (5 * a + p))
def gst (n : Net) (a : Int) : Nat → List Bool × List Grant
  | 0 => ([false, false, false, false, false], [])
  | p + 1 => if 0 ≤ pick n a p (gst n a p).1 then ((gst n a p).1.set (pick n a p (gst n a p).1 / 2).toNat true, (gst n a p).2 ++ [⟨a, p, pick n a p (gst n a p).1⟩]) else gst n a p
def grantsN (n : Net) (a : Int) : List Grant := (gst n a 5).2
theorem gst_yes {n : Net} {a : Int} {p : Nat} {k : Int} (h : pick n a p (gst n a p).1 = k) (h0 : 0 ≤ k) : gst n a (p + 1) = ((gst n a p).1.set (k / 2).toNat true, (gst n a p).2 ++ [⟨a, p, k⟩]) := by
  rw [gst, h, if_pos h0]
theorem gst_no {n : Net} {a : Int} {p : Nat} {k : Int} (h : pick n a p (gst n a p).1 = k) (h0 : k < 0) : gst n a (p + 1) = gst n a p := by
  rw [gst, h, if_neg (by omega)]
theorem gst_us (n : Net) (a : Int) : ∀ p, (gst n a p).1.length = 5 := by
  intro p
  induction p with
  | zero => rfl
  | succ p ih =>
    rw [gst]
    split
    · simp [ih]
    · exact ih
theorem gst_len (n : Net) (a : Int) : ∀ p, (gst n a p).2.length ≤ p := by
  intro p
  induction p with
  | zero => simp [gst]
  | succ p ih =>
    rw [gst]
    split
    · simp; omega
    · omega
theorem smallL_mem {l : List Int} (h : ∀ x ∈ l, 0 ≤ x ∧ x ≤ 9) : smallL l := by
  intro k hk
  rw [ri_get l k hk]
  exact h _ (List.getElem_mem hk)
theorem requests_small (n : Net) (a p : Int) : ∀ x ∈ requestsN n a p, 0 ≤ x ∧ x ≤ 9 := by
  intro x hx
  unfold requestsN requestsTo at hx
  obtain ⟨i, hi, rfl⟩ := List.mem_map.1 hx
  have := List.mem_range.1 (List.mem_filter.1 hi).1
  omega
theorem left_small (n : Net) (a p : Int) (us : List Bool) : ∀ x ∈ leftOf n a p us, 0 ≤ x ∧ x ≤ 9 := fun x hx => requests_small n a p x (List.mem_filter.1 hx).1
theorem left_len (n : Net) (a p : Int) (us : List Bool) : (leftOf n a p us).length ≤ 10 := Nat.le_trans (List.length_filter_le _ _) (requestsTo_len n a p 10)
theorem pick_range (n : Net) (a p : Int) (us : List Bool) : -1 ≤ pick n a p us ∧ pick n a p us ≤ 9 := firstTo_range (smallL_mem (left_small n a p us)) _ (Nat.le_refl _)
theorem turn_range {n : Net} {a : Int} (ok : netOk n = true) (nd : isNode n.mesh.g a = true) (p : Nat) (hp : p < 5) : 0 ≤ 5 * a + (p : Int) ∧ 5 * a + (p : Int) < (n.turns.length : Int) ∧ 0 ≤ ri n.turns (5 * a + p) ∧ ri n.turns (5 * a + p) ≤ 9 := by
  obtain ⟨_, h1, h2, h3, h4, h5, hb, hs, ho, ht, _⟩ := netOk_parts ok
  have := isNode_iff.1 nd
  have k0 : 0 ≤ 5 * a + (p : Int) := by omega
  have k1 : 5 * a + (p : Int) < (n.turns.length : Int) := by omega
  have := ht (5 * a + (p : Int)).toNat (by omega)
  rw [Int.toNat_of_nonneg k0, inside_iff] at this
  exact ⟨k0, k1, this.1, this.2⟩
/-- What is kept of the first k. -/
def keptTo (us : List Bool) (l : List Int) (k : Nat) : List Int := (l.take k).filter (keepU us)
theorem keptTo_yes {us : List Bool} {l : List Int} (k : Nat) (hk : k < l.length) (h : usedAt us (ri l k) = false) : keptTo us l (k + 1) = keptTo us l k ++ [ri l k] := by
  unfold keptTo
  rw [take_nextI l k hk, List.filter_append]
  simp [keepU, h]
theorem keptTo_no {us : List Bool} {l : List Int} (k : Nat) (hk : k < l.length) (h : usedAt us (ri l k) = true) : keptTo us l (k + 1) = keptTo us l k := by
  unfold keptTo
  rw [take_nextI l k hk, List.filter_append]
  simp [keepU, h]
theorem keptTo_all {us : List Bool} {l : List Int} : ∀ k, k ≤ l.length → (∀ j : Nat, j < k → usedAt us (ri l j) = false) → keptTo us l k = l.take k := by
  intro k
  induction k with
  | zero => intro _ _; simp [keptTo]
  | succ k ih =>
    intro hk h
    rw [keptTo_yes k (by omega) (h k (by omega)), ih (by omega) (fun j hj => h j (by omega)), take_nextI l k (by omega)]
theorem keptTo_len (us : List Bool) (l : List Int) (k : Nat) : (keptTo us l k).length ≤ k := Nat.le_trans (List.length_filter_le _ _) (by rw [List.length_take]; omega)
/-- The reference's free inputs. -/
def freeTo (n : Net) (a p : Int) (us : List Bool) (k : Nat) : List Int := (requestsTo n a p k).filter (keepU us)
theorem freeTo_all (n : Net) (a p : Int) (us : List Bool) : freeTo n a p us 10 = leftOf n a p us := rfl
theorem freeTo_yes {n : Net} {a p : Int} {us : List Bool} {k : Nat} (h1 : usedAt us k = false) (h2 : reqI n a k p = true) : freeTo n a p us (k + 1) = freeTo n a p us k ++ [(k : Int)] := by
  unfold freeTo
  rw [requestsTo_yes h2, List.filter_append]
  simp [keepU, h1]
theorem freeTo_no1 {n : Net} {a p : Int} {us : List Bool} {k : Nat} (h1 : usedAt us k = true) : freeTo n a p us (k + 1) = freeTo n a p us k := by
  unfold freeTo
  cases h2 : reqI n a k p
  · rw [requestsTo_no h2]
  · rw [requestsTo_yes h2, List.filter_append]
    simp [keepU, h1]
theorem freeTo_no2 {n : Net} {a p : Int} {us : List Bool} {k : Nat} (h2 : reqI n a k p = false) : freeTo n a p us (k + 1) = freeTo n a p us k := by
  unfold freeTo
  rw [requestsTo_no h2]
theorem freeTo_len (n : Net) (a p : Int) (us : List Bool) (k : Nat) : (freeTo n a p us k).length ≤ k := Nat.le_trans (List.length_filter_le _ _) (requestsTo_len n a p k)
def allTo (n : Net) (k : Nat) : List Grant := joinI k (fun a => grantsN n a)
def allGrants (n : Net) : List Grant := allTo n (nodeCount n.mesh.g).toNat
theorem allTo_len (n : Net) : ∀ k, (allTo n k).length ≤ 5 * k := by
  intro k
  induction k with
  | zero => simp [allTo, joinI]
  | succ k ih =>
    unfold allTo at ih ⊢
    rw [joinI_succ, List.length_append]
    have h : (grantsN n (k : Int)).length ≤ 5 := gst_len n k 5
    omega
theorem allTo_succ (n : Net) (k : Nat) : allTo n (k + 1) = allTo n k ++ grantsN n k := joinI_succ k _
/-- Does the first flit of a source enter? -/
def enters (n : Net) (a : Nat) : Bool := decide (0 < (rl n.srcs a).length) && decide ((rl n.bufs (10 * (a : Int) + 8 + (rf (rl n.srcs a) 0).cls)).length < 3)
def enterTo (n : Net) (k : Nat) : List Int := ((List.range k).filter (enters n)).map (fun (i : Nat) => (i : Int))
def enteringN (n : Net) : List Int := enterTo n n.srcs.length
theorem enterTo_yes {n : Net} {k : Nat} (h : enters n k = true) : enterTo n (k + 1) = enterTo n k ++ [(k : Int)] := by simp [enterTo, List.range_succ, List.filter_append, h]
theorem enterTo_no {n : Net} {k : Nat} (h : enters n k = false) : enterTo n (k + 1) = enterTo n k := by simp [enterTo, List.range_succ, List.filter_append, h]
theorem enterTo_len (n : Net) (k : Nat) : (enterTo n k).length ≤ k := by
  unfold enterTo
  rw [List.length_map]
  exact Nat.le_trans (List.length_filter_le _ _) (by simp)
theorem srcs_len {n : Net} (ok : netOk n = true) : n.srcs.length ≤ 16 ∧ (n.srcs.length : Int) = nodeCount n.mesh.g := by
  obtain ⟨_, h1, h2, h3, h4, h5, _⟩ := netOk_parts ok
  have := count_le n.mesh.g
  omega
theorem src_buf {n : Net} (ok : netOk n = true) (a : Nat) (ha : a < n.srcs.length) : isNode n.mesh.g a = true ∧ ((a : Int) ≤ 15) ∧ (rl n.srcs a).length ≤ 60 ∧ (0 < (rl n.srcs a).length → 0 ≤ (rf (rl n.srcs a) 0).cls ∧ (rf (rl n.srcs a) 0).cls ≤ 1 ∧ 10 * (a : Int) + 8 + (rf (rl n.srcs a) 0).cls < (n.bufs.length : Int)) := by
  obtain ⟨_, h1, h2, h3, h4, h5, hb, hs, _⟩ := netOk_parts ok
  have hc := count_le n.mesh.g
  have hn : isNode n.mesh.g a = true := isNode_iff.2 ⟨by omega, by omega⟩
  have h := hs a ha
  simp only [srcOk, Bool.and_eq_true, decide_eq_true_eq] at h
  refine ⟨hn, by omega, h.1, fun h0 => ?_⟩
  have hf : inside (rf (rl n.srcs a) 0).cls 0 1 = true := (areFl_get h.2 0 h0).2
  rw [inside_iff] at hf
  omega
def movesN (n : Net) : Int := if netOk n = true then ((allGrants n).length : Int) + ((enteringN n).length : Int) else -1
end NoC
