/- Requests of a valid network; no program, no memory. -/
import Derived.Test.YtinnfahmfggghaaMN
set_option linter.unusedVariables false
namespace NoC
def bufOf (n : Net) (a i : Int) : List Flit := rl n.bufs (10 * a + i)
def ownAt (n : Net) (a p c : Int) : Int := ri n.owners (10 * a + 2 * p + c)
def ownPort (n : Net) (a i : Int) : Int :=
  if ownAt n a 0 (i % 2) = i / 2 then 0 else if ownAt n a 1 (i % 2) = i / 2 then 1 else if ownAt n a 2 (i % 2) = i / 2 then 2 else if ownAt n a 3 (i % 2) = i / 2 then 3 else if ownAt n a 4 (i % 2) = i / 2 then 4 else -1
def wantedN (n : Net) (a i : Int) : Int :=
  if (bufOf n a i).length = 0 then -1 else if (rf (bufOf n a i) 0).head = true then entry n.mesh (tabOf n.pa n.pb (i % 2)) a (rf (bufOf n a i) 0).dst else ownPort n a i
def behindI (n : Net) (a p c : Int) : Int := 10 * nextNode n.mesh.g a p + 2 * opposite p + c
def behindN (n : Net) (a p c : Int) : Int := if p = 4 then -1 else if live n.mesh (4 * a + p) = true then behindI n a p c else -1
def roomN (n : Net) (a p c : Int) : Bool := if p = 4 then true else live n.mesh (4 * a + p) && decide ((rl n.bufs (behindI n a p c)).length < 3)
def requestN (n : Net) (a i p : Int) : Bool :=
  (wantedN n a i == p) && roomN n a p (i % 2) && (if (rf (bufOf n a i) 0).head = true then ownAt n a p (i % 2) == -1 else ownAt n a p (i % 2) == i / 2)
/-- An input of a node of a valid network. -/
structure At (n : Net) (a i : Int) : Prop where
  ok : netOk n = true
  nd : isNode n.mesh.g a = true
  i0 : 0 ≤ i
  i9 : i ≤ 9
theorem ok_classes {n : Net} (h : netOk n = true) : classesOk n.mesh n.pa n.pb = true := (netOk_parts h).1
theorem ok_mesh {n : Net} (h : netOk n = true) : meshOk n.mesh = true := (sized_iff.1 (classesOk_sized (ok_classes h)).1).1
theorem ok_tab {n : Net} (h : netOk n = true) (c : Int) : tableOk n.mesh (tabOf n.pa n.pb c) = true := by
  have := ok_classes h
  simp only [classesOk, Bool.and_eq_true] at this
  unfold tabOf
  split
  · exact this.2
  · exact this.1
theorem walkF_first {m : Mesh} {t : List Int} {b a : Int} {k : Nat} (h : walkF m t b (k + 1) a [] ≠ []) : ¬ entry m t a b = 4 → inside (entry m t a b) 0 3 = true := by
  intro h4
  unfold walkF at h
  rw [if_neg h4] at h
  cases hi : inside (entry m t a b) 0 3
  · simp [hi] at h
  · rfl
theorem entry_in {m : Mesh} {t : List Int} {a b : Int} (h : tableOk m t = true) (ha : isNode m.g a = true) (hb : isNode m.g b = true) : sized m t = true ∧ inside (entry m t a b) 0 4 = true := by
  simp only [tableOk, Bool.and_eq_true] at h
  refine ⟨h.1, ?_⟩
  have ha' := isNode_iff.1 ha
  have hb' := isNode_iff.1 hb
  have h2 := allI_iff.1 (allI_iff.1 h.2 a.toNat (by omega)) b.toNat (by omega)
  rw [Int.toNat_of_nonneg ha'.1, Int.toNat_of_nonneg hb'.1] at h2
  by_cases e : a = b
  · subst e
    rw [if_pos rfl] at h2
    rw [beq_iff_eq] at h2
    rw [h2]
    rfl
  · rw [if_neg (by omega), decide_eq_true_eq] at h2
    by_cases h4 : entry m t a b = 4
    · rw [h4]; rfl
    · have h5 := walkF_first (m := m) (t := t) (a := a) (b := b) (k := (nodeCount m.g).toNat) (fun e => by unfold walk at h2; rw [e] at h2; simp at h2) h4
      rw [inside_iff] at h5 ⊢
      omega
theorem portAt_entry {m : Mesh} {t : List Int} {a b : Int} (h : tableOk m t = true) (ha : isNode m.g a = true) (hb : isNode m.g b = true) : portAt m t a b = entry m t a b := by
  obtain ⟨h1, h2⟩ := entry_in h ha hb
  rw [portAt_eq h1 ha hb, if_pos h2]
theorem At.idx {n : Net} {a i : Int} (h : At n a i) : 0 ≤ a ∧ a ≤ 15 ∧ 0 ≤ 10 * a + i ∧ 10 * a + i < (n.bufs.length : Int) ∧ 10 * a + 10 ≤ (n.owners.length : Int) ∧ 5 * a + 5 ≤ (n.turns.length : Int) ∧ a < (n.srcs.length : Int) ∧ a < (n.arrs.length : Int) := by
  obtain ⟨_, h1, h2, h3, h4, h5, _⟩ := netOk_parts h.ok
  have := isNode_iff.1 h.nd
  have := count_le n.mesh.g
  have := h.i0
  have := h.i9
  omega
theorem rl_nat (l : List (List Flit)) (i : Int) (h : 0 ≤ i) : rl l i = rl l ((i.toNat : Nat) : Int) := by rw [Int.toNat_of_nonneg h]
theorem areFl_get {g : Grid} {l : List Flit} (h : areFl g l = true) (k : Nat) (hk : k < l.length) : isNode g (rf l k).dst = true ∧ inside (rf l k).cls 0 1 = true := by
  unfold areFl at h
  rw [List.all_eq_true] at h
  have := h _ (List.getElem_mem hk)
  rw [rf_get l k hk]
  simpa [flitOk] using this
theorem At.buf {n : Net} {a i : Int} (h : At n a i) : (bufOf n a i).length ≤ 3 ∧ ∀ k : Nat, k < (bufOf n a i).length → isNode n.mesh.g (rf (bufOf n a i) k).dst = true ∧ (rf (bufOf n a i) k).cls = i % 2 := by
  obtain ⟨_, h1, h2, h3, h4, h5, hb, _⟩ := netOk_parts h.ok
  obtain ⟨_, _, x0, x1, _⟩ := h.idx
  have hk := hb (10 * a + i).toNat (by omega)
  rw [Int.toNat_of_nonneg x0] at hk
  simp only [bufOk, Bool.and_eq_true, decide_eq_true_eq] at hk
  refine ⟨hk.1.1, fun k hlt => ⟨(areFl_get hk.2 k hlt).1, ?_⟩⟩
  have := List.all_eq_true.1 hk.1.2 _ (List.getElem_mem hlt)
  rw [rf_get _ k hlt]
  rw [beq_iff_eq] at this
  rw [this]
  omega
theorem At.buf0 {n : Net} {a i : Int} (h : At n a i) (h0 : 0 < (bufOf n a i).length) : isNode n.mesh.g (rf (bufOf n a i) 0).dst = true ∧ (rf (bufOf n a i) 0).cls = i % 2 := h.buf.2 0 h0
theorem ownPort_yes {n : Net} {a i : Int} (k : Nat) (hk : k < 5) (h : ownAt n a k (i % 2) = i / 2) (hb : ∀ j : Nat, j < k → ¬ ownAt n a j (i % 2) = i / 2) : ownPort n a i = k := by
  have q0 : 0 < k → ¬ ownAt n a 0 (i % 2) = i / 2 := hb 0
  have q1 : 1 < k → ¬ ownAt n a 1 (i % 2) = i / 2 := hb 1
  have q2 : 2 < k → ¬ ownAt n a 2 (i % 2) = i / 2 := hb 2
  have q3 : 3 < k → ¬ ownAt n a 3 (i % 2) = i / 2 := hb 3
  unfold ownPort
  rcases (by omega : k = 0 ∨ k = 1 ∨ k = 2 ∨ k = 3 ∨ k = 4) with rfl | rfl | rfl | rfl | rfl
  · rw [if_pos (show ownAt n a 0 (i % 2) = i / 2 from h)]; rfl
  · rw [if_neg (q0 (by omega)), if_pos (show ownAt n a 1 (i % 2) = i / 2 from h)]; rfl
  · rw [if_neg (q0 (by omega)), if_neg (q1 (by omega)), if_pos (show ownAt n a 2 (i % 2) = i / 2 from h)]; rfl
  · rw [if_neg (q0 (by omega)), if_neg (q1 (by omega)), if_neg (q2 (by omega)), if_pos (show ownAt n a 3 (i % 2) = i / 2 from h)]; rfl
  · rw [if_neg (q0 (by omega)), if_neg (q1 (by omega)), if_neg (q2 (by omega)), if_neg (q3 (by omega)), if_pos (show ownAt n a 4 (i % 2) = i / 2 from h)]; rfl
theorem ownPort_no {n : Net} {a i : Int} (hb : ∀ j : Nat, j < 5 → ¬ ownAt n a j (i % 2) = i / 2) : ownPort n a i = -1 := by
  have q0 : ¬ ownAt n a 0 (i % 2) = i / 2 := hb 0 (by omega)
  have q1 : ¬ ownAt n a 1 (i % 2) = i / 2 := hb 1 (by omega)
  have q2 : ¬ ownAt n a 2 (i % 2) = i / 2 := hb 2 (by omega)
  have q3 : ¬ ownAt n a 3 (i % 2) = i / 2 := hb 3 (by omega)
  have q4 : ¬ ownAt n a 4 (i % 2) = i / 2 := hb 4 (by omega)
  unfold ownPort
  rw [if_neg q0, if_neg q1, if_neg q2, if_neg q3, if_neg q4]
theorem ownPort_range (n : Net) (a i : Int) : -1 ≤ ownPort n a i ∧ ownPort n a i ≤ 4 := by
  unfold ownPort
  split
  · omega
  · split
    · omega
    · split
      · omega
      · split
        · omega
        · split <;> omega
theorem wanted_1 {n : Net} {a i : Int} (h : (bufOf n a i).length = 0) : wantedN n a i = -1 := by rw [wantedN, if_pos h]
theorem wanted_2 {n : Net} {a i : Int} (h : 0 < (bufOf n a i).length) (hh : (rf (bufOf n a i) 0).head = true) : wantedN n a i = entry n.mesh (tabOf n.pa n.pb (i % 2)) a (rf (bufOf n a i) 0).dst := by rw [wantedN, if_neg (by omega), if_pos hh]
theorem wanted_3 {n : Net} {a i : Int} (h : 0 < (bufOf n a i).length) (hh : (rf (bufOf n a i) 0).head = false) : wantedN n a i = ownPort n a i := by rw [wantedN, if_neg (by omega), if_neg (by simp [hh])]
theorem At.wanted {n : Net} {a i : Int} (h : At n a i) : -1 ≤ wantedN n a i ∧ wantedN n a i ≤ 4 := by
  by_cases h0 : (bufOf n a i).length = 0
  · rw [wanted_1 h0]; omega
  · cases hh : (rf (bufOf n a i) 0).head
    · rw [wanted_3 (by omega) hh]; exact ownPort_range n a i
    · rw [wanted_2 (by omega) hh]
      have := (entry_in (ok_tab h.ok (i % 2)) h.nd (h.buf0 (by omega)).1).2
      rw [inside_iff] at this
      exact ⟨by have := this.1; omega, this.2⟩
theorem wanted_len {n : Net} {a i : Int} (h : 0 ≤ wantedN n a i) : 0 < (bufOf n a i).length := by
  rcases Nat.eq_zero_or_pos (bufOf n a i).length with h0 | h0
  · rw [wanted_1 h0] at h; omega
  · exact h0
theorem opp_eq {p : Int} (h0 : 0 ≤ p) (h3 : p ≤ 3) : opposite p = (p + 2) % 4 := by
  unfold opposite
  rw [if_neg (by omega), if_pos (inside_iff.2 ⟨h0, h3⟩)]
/-- The buffer behind a live channel. -/
theorem behind_idx {n : Net} {a p c : Int} (ok : netOk n = true) (h0 : 0 ≤ p) (h3 : p ≤ 3) (hl : live n.mesh (4 * a + p) = true) (c0 : 0 ≤ c) (c1 : c ≤ 1) :
    isNode n.mesh.g (nextNode n.mesh.g a p) = true ∧ 0 ≤ nextNode n.mesh.g a p ∧ nextNode n.mesh.g a p ≤ 15 ∧ 0 ≤ opposite p ∧ opposite p ≤ 3 ∧ 0 ≤ behindI n a p c ∧ behindI n a p c < (n.bufs.length : Int) := by
  have h1 := next_live h0 h3 (ok_mesh ok) hl
  obtain ⟨_, e1, _⟩ := netOk_parts ok
  have h2 := isNode_iff.1 h1
  have := count_le n.mesh.g
  have := opp_eq h0 h3
  unfold behindI
  refine ⟨h1, by omega, by omega, by omega, by omega, by omega, by omega⟩
theorem request_no1 {n : Net} {a i p : Int} (h : ¬ wantedN n a i = p) : requestN n a i p = false := by simp [requestN, h]
theorem request_no2 {n : Net} {a i p : Int} (h : roomN n a p (i % 2) = false) : requestN n a i p = false := by simp [requestN, h]
theorem request_1 {n : Net} {a i p : Int} (h : wantedN n a i = p) (h2 : roomN n a p (i % 2) = true) (hh : (rf (bufOf n a i) 0).head = true) : requestN n a i p = (ownAt n a p (i % 2) == -1) := by simp [requestN, h, h2, hh]
theorem request_2 {n : Net} {a i p : Int} (h : wantedN n a i = p) (h2 : roomN n a p (i % 2) = true) (hh : (rf (bufOf n a i) 0).head = false) : requestN n a i p = (ownAt n a p (i % 2) == i / 2) := by simp [requestN, h, h2, hh]
theorem room_4 (n : Net) (a c : Int) : roomN n a 4 c = true := rfl
theorem room_no {n : Net} {a p c : Int} (h4 : p ≤ 3) (h : live n.mesh (4 * a + p) = false) : roomN n a p c = false := by rw [roomN, if_neg (by omega), h]; rfl
theorem room_yes {n : Net} {a p c : Int} (h4 : p ≤ 3) (h : live n.mesh (4 * a + p) = true) : roomN n a p c = decide ((rl n.bufs (behindI n a p c)).length < 3) := by rw [roomN, if_neg (by omega), h]; rfl
/-- A request at any port. -/
def reqI (n : Net) (a i p : Int) : Bool := inside p 0 4 && requestN n a i p
theorem reqI_in {n : Net} {a i p : Int} (h0 : 0 ≤ p) (h4 : p ≤ 4) : reqI n a i p = requestN n a i p := by simp [reqI, inside, h0, h4]
theorem reqI_neg {n : Net} {a i p : Int} (h0 : p < 0) : reqI n a i p = false := by
  have : inside p 0 4 = false := by simp [inside]; omega
  simp [reqI, this]
theorem reqI_no {n : Net} {a i p : Int} (h : requestN n a i p = false) : reqI n a i p = false := by simp [reqI, h]
def requestsTo (n : Net) (a p : Int) (k : Nat) : List Int := ((List.range k).filter (fun (i : Nat) => reqI n a i p)).map (fun (i : Nat) => (i : Int))
def requestsN (n : Net) (a p : Int) : List Int := requestsTo n a p 10
theorem requestsTo_yes {n : Net} {a p : Int} {k : Nat} (h : reqI n a k p = true) : requestsTo n a p (k + 1) = requestsTo n a p k ++ [(k : Int)] := by
  simp [requestsTo, List.range_succ, List.filter_append, h]
theorem requestsTo_no {n : Net} {a p : Int} {k : Nat} (h : reqI n a k p = false) : requestsTo n a p (k + 1) = requestsTo n a p k := by
  simp [requestsTo, List.range_succ, List.filter_append, h]
theorem requestsTo_len (n : Net) (a p : Int) (k : Nat) : (requestsTo n a p k).length ≤ k := by
  unfold requestsTo
  rw [List.length_map]
  exact Nat.le_trans (List.length_filter_le _ _) (by simp)
theorem requests_out {n : Net} {a p : Int} (h : inside p 0 4 = false) : requestsN n a p = [] := by
  have : ∀ i : Nat, reqI n a i p = false := fun i => by simp [reqI, h]
  simp [requestsN, requestsTo, this]
def requestsAt (n : Net) (a p : Int) : List Int := if (netOk n && isNode n.mesh.g a) = true then requestsN n a p else []
end NoC
