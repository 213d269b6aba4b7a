/- What the patterns do: plain arithmetic over the sixteen grids; no program. -/
import Derived.Test.YtglajejmnhmcfaaPerm
import Derived.Test.YtglajejmnhmcfaaIds
set_option linter.unusedVariables false
set_option linter.unusedSimpArgs false
namespace Go.Proofs.Ytglajejmnhmcfaa
open Go.RowKit Go.Proofs.YtglajejmnhmcfaaW.PrintWords
open NoC

def four (p : Int → Bool) : Bool := p 1 && p 2 && p 3 && p 4
theorem four_at {p : Int → Bool} (h : four p = true) {x : Int} (h0 : 1 ≤ x) (h1 : x ≤ 4) : p x = true := by
  simp only [four, Bool.and_eq_true] at h
  rcases (by omega : x = 1 ∨ x = 2 ∨ x = 3 ∨ x = 4) with rfl | rfl | rfl | rfl
  · exact h.1.1.1
  · exact h.1.1.2
  · exact h.1.2
  · exact h.2
def nodeFacts (g : Grid) (s : Int) : Bool :=
  (patternTarget g 2 (patternTarget g 2 s) == s) &&
  (decide (patternTarget g 1 s < 0) || patternTarget g 1 (patternTarget g 1 s) == s || patternTarget g 1 (patternTarget g 1 s) == -1) &&
  four (fun p => decide (patternTarget g p s < 0) || isNode g (patternTarget g p s))
set_option maxRecDepth 100000 in
theorem node_facts : (four fun w => four fun h => (List.range 16).all fun s => decide (w * h ≤ (s : Int)) || nodeFacts ⟨w, h⟩ s) = true := by decide +kernel
set_option maxRecDepth 100000 in
theorem perm_facts : (four fun w => four fun h => isPerm ⟨w, h⟩ 2 && isPerm ⟨w, h⟩ 4) = true := by decide +kernel
theorem node_fact {g : Grid} (hw0 : 1 ≤ g.w) (hw1 : g.w ≤ 4) (hh0 : 1 ≤ g.h) (hh1 : g.h ≤ 4) {s : Int} (s0 : 0 ≤ s) (s1 : s < g.w * g.h) : nodeFacts g s = true := by
  have h1 := List.all_eq_true.1 (four_at (four_at node_facts hw0 hw1) hh0 hh1)
  have h16 : g.w * g.h ≤ 16 := by
    have a := Int.mul_le_mul_of_nonneg_right hw1 (show 0 ≤ g.h by omega)
    omega
  obtain ⟨n, rfl⟩ : ∃ n : Nat, s = n := ⟨s.toNat, by omega⟩
  have h2 := h1 n (List.mem_range.2 (by omega))
  rw [decide_eq_false (by omega), Bool.false_or] at h2
  exact h2
theorem perm_fact {g : Grid} (hw0 : 1 ≤ g.w) (hw1 : g.w ≤ 4) (hh0 : 1 ≤ g.h) (hh1 : g.h ≤ 4) : isPerm g 2 = true ∧ isPerm g 4 = true := by
  have h1 := four_at (four_at perm_facts hw0 hw1) hh0 hh1
  simpa using h1
theorem rp_snoc_lt (xs : List Packet) (x : Packet) (j : Nat) (h : j < xs.length) : rp (xs ++ [x]) j = rp xs j := by
  rw [rp_get _ j (by rw [List.length_append]; simp; omega), rp_get _ j h, List.getElem_append_left h]
theorem rp_snoc_at (xs : List Packet) (x : Packet) : rp (xs ++ [x]) xs.length = x := by
  rw [rp_get _ _ (by rw [List.length_append]; simp)]
  simp
theorem ptTo_at (g : Grid) (p n : Int) : ∀ k j : Nat, j < (ptTo g p n k).length → ∃ s : Nat, s < k ∧ rp (ptTo g p n k) j = ⟨(j : Int) + 1, s, patternTarget g p s, (s : Int) % 2, n⟩ ∧ goes g p s = true := by
  intro k
  induction k with
  | zero => intro j hj; simp [ptTo] at hj
  | succ k ih =>
    intro j hj
    cases hg : goes g p k
    · have e : ptTo g p n (k + 1) = ptTo g p n k := by rw [ptTo, if_neg (by simp [hg])]
      rw [e] at hj ⊢
      obtain ⟨s, hs, h1, h2⟩ := ih j hj
      exact ⟨s, by omega, h1, h2⟩
    · have e : ptTo g p n (k + 1) = ptTo g p n k ++ [⟨((ptTo g p n k).length : Int) + 1, k, patternTarget g p k, (k : Int) % 2, n⟩] := by rw [ptTo, if_pos hg]
      rw [e] at hj ⊢
      rw [List.length_append] at hj
      simp only [List.length_singleton] at hj
      by_cases hlt : j < (ptTo g p n k).length
      · obtain ⟨s, hs, h1, h2⟩ := ih j hlt
        exact ⟨s, by omega, by rw [rp_snoc_lt _ _ _ hlt]; exact h1, h2⟩
      · have hje : j = (ptTo g p n k).length := by omega
        subst hje
        exact ⟨k, by omega, rp_snoc_at _ _, hg⟩
theorem pat_packets {g : Grid} (hw0 : 1 ≤ g.w) (hw1 : g.w ≤ 4) (hh0 : 1 ≤ g.h) (hh1 : g.h ≤ 4) {p n : Int} (p0 : 1 ≤ p) (p1 : p ≤ 4) (n0 : 1 ≤ n) (n1 : n ≤ 5) :
    (patternPackets g p n).length ≤ 16 ∧ idsDistinct (patternPackets g p n) = true ∧ ∀ k : Nat, k < (patternPackets g p n).length → packetOk g (rp (patternPackets g p n) k) = true ∧ (rp (patternPackets g p n) k).dst = patternTarget g p (rp (patternPackets g p n) k).src ∧ (rp (patternPackets g p n) k).len = n := by
  have hok : gridOk g = true := by simp [gridOk, inside, hw0, hw1, hh0, hh1]
  have hc : nodeCount g = g.w * g.h := by rw [nodeCount, if_pos hok]
  have h16 : g.w * g.h ≤ 16 := by
    have a := Int.mul_le_mul_of_nonneg_right hw1 (show 0 ≤ g.h by omega)
    omega
  have h0 : 0 ≤ g.w * g.h := Int.mul_nonneg (by omega) (by omega)
  have hin : inside n 1 5 = true := by simp [inside, n0, n1]
  have e : patternPackets g p n = ptTo g p n (nodeCount g).toNat := by rw [patternPackets, if_pos hin]
  rw [e]
  have hlen := ptTo_len g p n (nodeCount g).toNat
  have hat := ptTo_at g p n (nodeCount g).toNat
  refine ⟨by omega, ?_, fun k hk => ?_⟩
  · refine allI_true fun i hi => allI_true fun j hj => ?_
    obtain ⟨s, _, h1, _⟩ := hat i hi
    obtain ⟨t, _, h2, _⟩ := hat j (by omega)
    rw [h1, h2]
    simp
    omega
  · obtain ⟨s, hs, h1, h2⟩ := hat k hk
    have hsn : (s : Int) < g.w * g.h := by omega
    have hf := node_fact hw0 hw1 hh0 hh1 (s := s) (by omega) hsn
    simp only [nodeFacts, Bool.and_eq_true] at hf
    have ht := four_at hf.2 p0 p1
    simp only [goes, Bool.and_eq_true, decide_eq_true_eq, bne_iff_ne, ne_eq] at h2
    rw [decide_eq_false (by omega), Bool.false_or] at ht
    rw [h1]
    refine ⟨?_, rfl, rfl⟩
    have hsi : isNode g s = true := by
      simp only [isNode, inside, Bool.and_eq_true, decide_eq_true_eq]
      omega
    simp only [packetOk, Bool.and_eq_true, inside, decide_eq_true_eq]
    exact ⟨⟨⟨⟨⟨⟨by omega, by omega⟩, hsi⟩, ht⟩, fun e => h2.2 e.symm⟩, ⟨by omega, by omega⟩⟩, ⟨n0, n1⟩⟩
theorem pname_ne {x : Int} (h0 : 1 ≤ x) (h1 : x ≤ 4) : pname x ≠ ⟨#[]⟩ := by
  rcases (by omega : x = 1 ∨ x = 2 ∨ x = 3 ∨ x = 4) with rfl | rfl | rfl | rfl <;> decide
end Go.Proofs.Ytglajejmnhmcfaa
