/- What a buffer waits for; no program, no memory. -/
import Derived.Test.YtopoemnkeodkgaaGreatMG
set_option linter.unusedVariables false
namespace NoC
/-- The port that a buffer's head wants, and whether the buffer waits for a live channel. -/
def waitsB (n : Net) (b : Int) : Bool :=
  decide (0 ≤ wantedN n (b / 10) (b % 10)) && decide (wantedN n (b / 10) (b % 10) ≠ 4) && live n.mesh (4 * (b / 10) + wantedN n (b / 10) (b % 10)) && !requestN n (b / 10) (b % 10) (wantedN n (b / 10) (b % 10))
def waitTo (n : Net) (b : Int) : Int :=
  if roomN n (b / 10) (wantedN n (b / 10) (b % 10)) (b % 10 % 2) = true then 10 * (b / 10) + 2 * ownAt n (b / 10) (wantedN n (b / 10) (b % 10)) (b % 10 % 2) + b % 10 % 2 else behindI n (b / 10) (wantedN n (b / 10) (b % 10)) (b % 10 % 2)
def waitsTo (n : Net) (k : Nat) : List Wait := ((List.range k).filter (fun (b : Nat) => waitsB n b)).map (fun (b : Nat) => ⟨b, waitTo n b⟩)
def waitsN (n : Net) : List Wait := if netOk n = true then waitsTo n n.bufs.length else []
theorem waitsTo_yes {n : Net} {k : Nat} (h : waitsB n k = true) : waitsTo n (k + 1) = waitsTo n k ++ [⟨k, waitTo n k⟩] := by simp [waitsTo, List.range_succ, List.filter_append, h]
theorem waitsTo_no {n : Net} {k : Nat} (h : waitsB n k = false) : waitsTo n (k + 1) = waitsTo n k := by simp [waitsTo, List.range_succ, List.filter_append, h]
theorem waitsTo_len (n : Net) (k : Nat) : (waitsTo n k).length ≤ k := by
  unfold waitsTo
  rw [List.length_map]
  exact Nat.le_trans (List.length_filter_le _ _) (by simp)
/-- A buffer's node and input. -/
theorem buf_at {n : Net} (ok : netOk n = true) {b : Int} (h0 : 0 ≤ b) (h1 : b < (n.bufs.length : Int)) : At n (b / 10) (b % 10) := by
  obtain ⟨_, e1, _⟩ := netOk_parts ok
  exact ⟨ok, isNode_iff.2 ⟨by omega, by omega⟩, by omega, by omega⟩
theorem bufs_len {n : Net} (ok : netOk n = true) : n.bufs.length ≤ 160 := by
  obtain ⟨_, e1, _⟩ := netOk_parts ok
  have := count_le n.mesh.g
  omega
theorem owner_range {n : Net} {a i : Int} (h : At n a i) {p c : Int} (h0 : 0 ≤ p) (h4 : p ≤ 4) (c0 : 0 ≤ c) (c1 : c ≤ 1) : -1 ≤ ownAt n a p c ∧ ownAt n a p c ≤ 4 := by
  obtain ⟨_, h1, h2, h3, _, _, _, _, ho, _⟩ := netOk_parts h.ok
  have h5 := isNode_iff.1 h.nd
  have h6 := ho (10 * a + 2 * p + c).toNat (by omega)
  rw [Int.toNat_of_nonneg (by omega), inside_iff] at h6
  exact h6
/-- With room and no request: the head waits for its owner. -/
theorem owner_some {n : Net} {a i p : Int} (h : At n a i) (hw : wantedN n a i = p) (hp : 0 ≤ p) (h4 : p ≤ 4) (hr : roomN n a p (i % 2) = true) (hq : requestN n a i p = false) : 0 ≤ ownAt n a p (i % 2) ∧ ownAt n a p (i % 2) ≤ 4 := by
  have i0 := h.i0
  obtain ⟨h1, h2⟩ := owner_range h hp h4 (c := i % 2) (by omega) (by omega)
  have hl := wanted_len (n := n) (a := a) (i := i) (by omega)
  cases hh : (rf (bufOf n a i) 0).head
  · have h3 := wanted_3 hl hh
    rw [hw] at h3
    have h5 : ownAt n a p (i % 2) = i / 2 := by
      have key : ∀ k : Int, ownPort n a i = k → 0 ≤ k → ownAt n a k (i % 2) = i / 2 := by
        intro k hk k0
        unfold ownPort at hk
        split at hk
        · subst hk; assumption
        · split at hk
          · subst hk; assumption
          · split at hk
            · subst hk; assumption
            · split at hk
              · subst hk; assumption
              · split at hk
                · subst hk; assumption
                · omega
      exact key p h3.symm hp
    omega
  · rw [request_1 hw hr hh, beq_eq_false_iff_ne] at hq
    omega
theorem waits_1 {n : Net} {b : Int} (h : wantedN n (b / 10) (b % 10) < 0) : waitsB n b = false := by
  have : ¬ 0 ≤ wantedN n (b / 10) (b % 10) := by omega
  simp [waitsB, this]
theorem waits_2 {n : Net} {b : Int} (h : wantedN n (b / 10) (b % 10) = 4) : waitsB n b = false := by simp [waitsB, h]
theorem waits_3 {n : Net} {b p : Int} (hw : wantedN n (b / 10) (b % 10) = p) (h : live n.mesh (4 * (b / 10) + p) = false) : waitsB n b = false := by simp [waitsB, hw, h]
theorem waits_4 {n : Net} {b p : Int} (hw : wantedN n (b / 10) (b % 10) = p) (h : requestN n (b / 10) (b % 10) p = true) : waitsB n b = false := by simp [waitsB, hw, h]
theorem waits_5 {n : Net} {b p : Int} (hw : wantedN n (b / 10) (b % 10) = p) (h0 : 0 ≤ p) (h4 : ¬ p = 4) (hl : live n.mesh (4 * (b / 10) + p) = true) (h : requestN n (b / 10) (b % 10) p = false) : waitsB n b = true := by simp [waitsB, hw, h, h0, h4, hl]
theorem waitTo_room {n : Net} {b p : Int} (hw : wantedN n (b / 10) (b % 10) = p) (hr : roomN n (b / 10) p (b % 10 % 2) = true) : waitTo n b = 10 * (b / 10) + 2 * ownAt n (b / 10) p (b % 10 % 2) + b % 10 % 2 := by rw [waitTo, hw, hr]; exact if_pos rfl
theorem waitTo_full {n : Net} {b p : Int} (hw : wantedN n (b / 10) (b % 10) = p) (hr : roomN n (b / 10) p (b % 10 % 2) = false) : waitTo n b = behindI n (b / 10) p (b % 10 % 2) := by rw [waitTo, hw, hr]; exact if_neg (by decide)
end NoC
