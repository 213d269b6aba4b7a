/- Plain laws on walks through tables; no program, no memory. -/
import Derived.Test.YtinnfahmfggghaaM
set_option linter.unusedVariables false
namespace NoC

/-- WalkTable for all arguments. -/
def wt (m : Mesh) (t : List Int) (a b : Int) : List Int := if (decide (a ≠ b) && sized m t && isNode m.g a && isNode m.g b) = true then walk m t a b else []

theorem sized_iff {m : Mesh} {t : List Int} : sized m t = true ↔ meshOk m = true ∧ (t.length : Int) = nodeCount m.g * nodeCount m.g := by
  simp [sized]
theorem isNode_iff {g : Grid} {a : Int} : isNode g a = true ↔ 0 ≤ a ∧ a < nodeCount g := by
  simp only [isNode, inside, Bool.and_eq_true, decide_eq_true_eq]
  omega
theorem inside_iff {n lo hi : Int} : inside n lo hi = true ↔ lo ≤ n ∧ n ≤ hi := by simp [inside]
theorem count_le (g : Grid) : 0 ≤ nodeCount g ∧ nodeCount g ≤ 16 := by
  unfold nodeCount
  split
  · rename_i h
    simp only [gridOk, inside, Bool.and_eq_true, decide_eq_true_eq] at h
    obtain ⟨⟨a, b⟩, c, d⟩ := h
    have h1 := Int.mul_le_mul a c (by omega) (by omega)
    have h2 := Int.mul_le_mul b d (by omega) (by omega)
    omega
  · omega
/-- Where an entry of a table lies. -/
theorem entry_place {g : Grid} {a b : Int} (ha : isNode g a = true) (hb : isNode g b = true) :
    0 ≤ a * nodeCount g ∧ a * nodeCount g ≤ 240 ∧ 0 ≤ a * nodeCount g + b ∧ a * nodeCount g + b < nodeCount g * nodeCount g := by
  rw [isNode_iff] at ha hb
  have hc := count_le g
  have h1 : 0 ≤ a * nodeCount g := Int.mul_nonneg ha.1 hc.1
  have h2 : (a + 1) * nodeCount g ≤ nodeCount g * nodeCount g := Int.mul_le_mul_of_nonneg_right (by omega) hc.1
  have h3 : nodeCount g * nodeCount g ≤ 16 * 16 := Int.mul_le_mul hc.2 hc.2 hc.1 (by omega)
  have h4 : a * nodeCount g ≤ 15 * 16 := Int.mul_le_mul (by omega) hc.2 hc.1 (by omega)
  rw [Int.add_mul, Int.one_mul] at h2
  omega
theorem portAt_eq {m : Mesh} {t : List Int} {a b : Int} (hs : sized m t = true) (ha : isNode m.g a = true) (hb : isNode m.g b = true) :
    portAt m t a b = if inside (entry m t a b) 0 4 then entry m t a b else -1 := by
  simp [portAt, hs, ha, hb]
theorem portAt_range (m : Mesh) (t : List Int) (a b : Int) : -1 ≤ portAt m t a b ∧ portAt m t a b ≤ 4 := by
  unfold portAt
  split
  · rename_i h
    simp only [Bool.and_eq_true, inside_iff] at h
    omega
  · omega
/-- The state of a walk: what is still to come, and what comes of it. -/
def walkFrom (m : Mesh) (t : List Int) (b : Int) (at_ : Int) (out : List Int) : List Int :=
  if sized m t then walkF m t b ((nodeCount m.g).toNat + 1 - out.length) at_ out else []
theorem walk_bad {m : Mesh} {t : List Int} {b at_ : Int} {out : List Int} (ha : isNode m.g at_ = true) (hb : isNode m.g b = true) (hl : out.length ≤ (nodeCount m.g).toNat)
    (hp : portAt m t at_ b < 0) : walkFrom m t b at_ out = [] := by
  unfold walkFrom
  split
  · rename_i hs
    rw [portAt_eq hs ha hb] at hp
    obtain ⟨k, hk⟩ : ∃ k, (nodeCount m.g).toNat + 1 - out.length = k + 1 := ⟨(nodeCount m.g).toNat - out.length, by omega⟩
    rw [hk]
    unfold walkF
    have hni : ¬ inside (entry m t at_ b) 0 4 = true := by
      intro h
      rw [if_pos h] at hp
      rw [inside_iff] at h
      omega
    rw [inside_iff] at hni
    rw [if_neg (by omega), if_neg (by rw [Bool.and_eq_true, inside_iff]; omega)]
  · rfl
theorem walk_port {m : Mesh} {t : List Int} {b at_ : Int} (ha : isNode m.g at_ = true) (hb : isNode m.g b = true)
    (hp : 0 ≤ portAt m t at_ b) : sized m t = true ∧ entry m t at_ b = portAt m t at_ b := by
  have hs : sized m t = true := by
    cases h : sized m t
    · simp [portAt, h] at hp
    · rfl
  refine ⟨hs, ?_⟩
  rw [portAt_eq hs ha hb] at hp ⊢
  split
  · rfl
  · rename_i h; rw [if_neg h] at hp; omega
theorem walk_here {m : Mesh} {t : List Int} {b at_ : Int} {out : List Int} (ha : isNode m.g at_ = true) (hb : isNode m.g b = true) (hl : out.length ≤ (nodeCount m.g).toNat)
    (hp : portAt m t at_ b = 4) : walkFrom m t b at_ out = if at_ = b then out else [] := by
  obtain ⟨hs, he⟩ := walk_port (m := m) (t := t) ha hb (by omega)
  unfold walkFrom
  rw [if_pos hs]
  obtain ⟨k, hk⟩ : ∃ k, (nodeCount m.g).toNat + 1 - out.length = k + 1 := ⟨(nodeCount m.g).toNat - out.length, by omega⟩
  rw [hk]
  unfold walkF
  rw [if_pos (by omega)]
theorem walk_stop {m : Mesh} {t : List Int} {b at_ : Int} {out : List Int} (ha : isNode m.g at_ = true) (hb : isNode m.g b = true) (hl : out.length ≤ (nodeCount m.g).toNat)
    (h0 : 0 ≤ portAt m t at_ b) (h4 : ¬ portAt m t at_ b = 4) (hc : hasChannel m (4 * at_ + portAt m t at_ b) = false) : walkFrom m t b at_ out = [] := by
  obtain ⟨hs, he⟩ := walk_port (m := m) (t := t) ha hb h0
  unfold walkFrom
  rw [if_pos hs]
  obtain ⟨k, hk⟩ : ∃ k, (nodeCount m.g).toNat + 1 - out.length = k + 1 := ⟨(nodeCount m.g).toNat - out.length, by omega⟩
  rw [hk]
  unfold walkF
  rw [he, if_neg h4]
  have hm := (sized_iff.1 hs).1
  have : live m (4 * at_ + portAt m t at_ b) = false := by simpa [hasChannel, hm] using hc
  rw [this, Bool.and_false]
  rfl
theorem walk_full {m : Mesh} {t : List Int} {b at_ : Int} {out : List Int} (ha : isNode m.g at_ = true) (hb : isNode m.g b = true) (hl : (out.length : Int) = nodeCount m.g)
    (h0 : 0 ≤ portAt m t at_ b) (h4 : ¬ portAt m t at_ b = 4) : walkFrom m t b at_ out = [] := by
  obtain ⟨hs, he⟩ := walk_port (m := m) (t := t) ha hb h0
  unfold walkFrom
  rw [if_pos hs, show (nodeCount m.g).toNat + 1 - out.length = 0 + 1 by omega]
  unfold walkF
  rw [he, if_neg h4]
  split
  · rfl
  · rfl
theorem walk_on {m : Mesh} {t : List Int} {b at_ : Int} {out : List Int} (ha : isNode m.g at_ = true) (hb : isNode m.g b = true) (hl : (out.length : Int) < nodeCount m.g)
    (h0 : 0 ≤ portAt m t at_ b) (h4 : ¬ portAt m t at_ b = 4) (hc : hasChannel m (4 * at_ + portAt m t at_ b) = true) :
    walkFrom m t b at_ out = walkFrom m t b (nextNode m.g at_ (portAt m t at_ b)) (out ++ [4 * at_ + portAt m t at_ b]) := by
  obtain ⟨hs, he⟩ := walk_port (m := m) (t := t) ha hb h0
  have hr := portAt_range m t at_ b
  unfold walkFrom
  rw [if_pos hs, if_pos hs, show (nodeCount m.g).toNat + 1 - out.length = ((nodeCount m.g).toNat + 1 - (out ++ [4 * at_ + portAt m t at_ b]).length) + 1 by simp; omega]
  rw [walkF]
  rw [he, if_neg h4]
  have hm := (sized_iff.1 hs).1
  have : live m (4 * at_ + portAt m t at_ b) = true := by simpa [hasChannel, hm] using hc
  rw [this, Bool.and_true, if_pos (inside_iff.2 (by omega))]
theorem wt_start {m : Mesh} {t : List Int} {a b : Int} (hab : ¬ a = b) (ha : isNode m.g a = true) (hb : isNode m.g b = true) : wt m t a b = walkFrom m t b a [] := by
  simp [wt, walkFrom, walk, hab, ha, hb]
theorem chan_div {a p : Int} (h0 : 0 ≤ p) (h3 : p ≤ 3) : (4 * a + p) / 4 = a ∧ (4 * a + p) % 4 = p := by omega
theorem next_node {m : Mesh} {a p : Int} (h0 : 0 ≤ p) (h3 : p ≤ 3) (hc : hasChannel m (4 * a + p) = true) : isNode m.g (nextNode m.g a p) = true := by
  simp only [hasChannel, live, leads, Bool.and_eq_true, decide_eq_true_eq] at hc
  obtain ⟨_, ⟨_, h⟩, _⟩ := hc
  rw [(chan_div h0 h3).1, (chan_div h0 h3).2] at h
  have hcl := count_le m.g
  revert h
  unfold nextNode
  have hn : ∀ x y, 0 ≤ nodeAt m.g x y → isNode m.g (nodeAt m.g x y) = true := by
    intro x y h
    unfold nodeAt at h ⊢
    split
    · rename_i hi
      rw [if_pos hi] at h
      simp only [Bool.and_eq_true, inside_iff] at hi
      obtain ⟨⟨hg, hx⟩, hy⟩ := hi
      rw [isNode_iff]
      simp only [nodeCount, hg, if_true]
      have : (y + 1) * m.g.w ≤ m.g.h * m.g.w := Int.mul_le_mul_of_nonneg_right (by omega) (by omega)
      rw [Int.add_mul, Int.one_mul, Int.mul_comm m.g.h] at this
      omega
    · rename_i hi; rw [if_neg hi] at h; omega
  split
  · split
    · exact hn _ _
    · split
      · exact hn _ _
      · split
        · exact hn _ _
        · split
          · exact hn _ _
          · split
            · intro _; assumption
            · intro h; omega
  · intro h; omega

theorem walk_over {m : Mesh} {t : List Int} {b at_ : Int} {out : List Int} (hl : (nodeCount m.g).toNat < out.length) : walkFrom m t b at_ out = [] := by
  unfold walkFrom
  rw [show (nodeCount m.g).toNat + 1 - out.length = 0 by omega]
  split <;> rfl
theorem walkE {m : Mesh} {t : List Int} {b at_ : Int} {out : List Int} (hs : sized m t = true) (hl : out.length ≤ (nodeCount m.g).toNat) :
    walkFrom m t b at_ out = if entry m t at_ b = 4 then (if at_ = b then out else [])
      else if inside (entry m t at_ b) 0 3 && live m (4 * at_ + entry m t at_ b) then walkFrom m t b (nextNode m.g at_ (entry m t at_ b)) (out ++ [4 * at_ + entry m t at_ b]) else [] := by
  unfold walkFrom
  rw [if_pos hs, if_pos hs]
  obtain ⟨k, hk⟩ : ∃ k, (nodeCount m.g).toNat + 1 - out.length = k + 1 := ⟨(nodeCount m.g).toNat - out.length, by omega⟩
  rw [hk, walkF, show (nodeCount m.g).toNat + 1 - (out ++ [4 * at_ + entry m t at_ b]).length = k by simp; omega]
theorem next_live {m : Mesh} {a p : Int} (h0 : 0 ≤ p) (h3 : p ≤ 3) (hm : meshOk m = true) (hc : live m (4 * a + p) = true) : isNode m.g (nextNode m.g a p) = true :=
  next_node h0 h3 (by simp [hasChannel, hm, hc])

def nN (g : Grid) : Nat := (nodeCount g).toNat
def diagOk (m : Mesh) (t : List Int) : Bool := allI (nN m.g) fun a => entry m t a a == 4
def pairOk (m : Mesh) (t : List Int) (a b : Nat) : Bool := decide (a = b) || decide (0 < (wt m t a b).length)
def pairsOk (m : Mesh) (t : List Int) : Bool := allI (nN m.g) fun a => allI (nN m.g) (pairOk m t a)
def cellOk (m : Mesh) (t : List Int) (a b : Nat) : Bool := if a = b then entry m t a a == 4 else decide (0 < (walkFrom m t b a []).length)
theorem isNode_nat {g : Grid} {a : Nat} (h : a < nN g) : isNode g (a : Int) = true := by
  unfold nN at h
  exact isNode_iff.2 ⟨by omega, by omega⟩
theorem tableOk_cells (m : Mesh) (t : List Int) : tableOk m t = (sized m t && allI (nN m.g) fun a => allI (nN m.g) (cellOk m t a)) := by
  unfold tableOk
  cases hs : sized m t
  · rfl
  · simp only [Bool.true_and]
    rw [Bool.eq_iff_iff, allI_iff, allI_iff]
    refine forall_congr' fun a => forall_congr' fun ha => ?_
    rw [allI_iff, allI_iff]
    refine forall_congr' fun b => forall_congr' fun hb => ?_
    unfold cellOk
    by_cases e : a = b
    · subst e; simp
    · rw [if_neg e, if_neg e]
      simp only [walkFrom, walk, hs, if_true, List.length_nil, Nat.sub_zero]
      exact ⟨fun h => decide_eq_true (of_decide_eq_true h), fun h => decide_eq_true (of_decide_eq_true h)⟩
theorem tableOk_parts (m : Mesh) (t : List Int) : tableOk m t = (sized m t && (diagOk m t && pairsOk m t)) := by
  rw [tableOk_cells]
  cases hs : sized m t
  · rfl
  · simp only [Bool.true_and]
    rw [Bool.eq_iff_iff, Bool.and_eq_true]
    unfold diagOk pairsOk
    rw [allI_iff, allI_iff, allI_iff]
    have key : ∀ a b : Nat, a < nN m.g → b < nN m.g → (cellOk m t a b = true ↔ ((a = b → (entry m t a a == 4) = true) ∧ pairOk m t a b = true)) := by
      intro a b ha hb
      unfold cellOk pairOk
      by_cases e : a = b
      · subst e; simp
      · have : ¬ (a : Int) = (b : Int) := by omega
        rw [if_neg e]
        simp [e, wt_start this (isNode_nat ha) (isNode_nat hb)]
    constructor
    · intro h
      refine ⟨fun a ha => ((key a a ha ha).1 (allI_iff.1 (h a ha) a ha)).1 rfl, fun a ha => allI_iff.2 fun b hb => ((key a b ha hb).1 (allI_iff.1 (h a ha) b hb)).2⟩
    · rintro ⟨h1, h2⟩ a ha
      exact allI_iff.2 fun b hb => (key a b ha hb).2 ⟨fun _ => h1 a ha, allI_iff.1 (h2 a ha) b hb⟩
end NoC
