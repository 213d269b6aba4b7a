/- Whole packets among flits; what arrived; no program, no memory. -/
import Derived.Test.YtinnfahmfggghaaMR
set_option linter.unusedVariables false
namespace NoC
/-- Is flit i as the packet of the first flit wants it. -/
def isW (l : List Flit) (i : Nat) : Bool :=
  decide ((rf l i).pk = (rf l 0).pk) && decide ((rf l i).dst = (rf l 0).dst) && decide ((rf l i).cls = (rf l 0).cls) && ((rf l i).head == decide (i = 0)) && ((rf l i).tail == decide (i + 1 = l.length))
def wholeTo (l : List Flit) : Nat → Bool
  | 0 => true
  | k + 1 => wholeTo l k && isW l k
def wholeF (l : List Flit) : Bool := decide (0 < l.length) && wholeTo l l.length
theorem wholeTo_miss {l : List Flit} {k : Nat} (h : isW l k = false) : ∀ j : Nat, k < j → wholeTo l j = false := by
  intro j
  induction j with
  | zero => intro h; omega
  | succ j ih =>
    intro h1
    by_cases e : k = j
    · subst e; simp [wholeTo, h]
    · simp [wholeTo, ih (by omega)]
theorem wholeF_miss {l : List Flit} {k : Nat} (hk : k < l.length) (h : isW l k = false) : wholeF l = false := by simp [wholeF, wholeTo_miss h l.length hk]
theorem wholeF_0 {l : List Flit} (h : l.length = 0) : wholeF l = false := by simp [wholeF, h]
theorem wholeF_all {l : List Flit} (h0 : 0 < l.length) (h : wholeTo l l.length = true) : wholeF l = true := by simp [wholeF, h, h0]
theorem wholeTo_at {l : List Flit} : ∀ (j k : Nat), k < j → wholeTo l j = true → isW l k = true := by
  intro j
  induction j with
  | zero => intro k h; omega
  | succ j ih =>
    intro k hk h
    simp only [wholeTo, Bool.and_eq_true] at h
    by_cases e : k = j
    · subst e; exact h.2
    · exact ih k (by omega) h.1
theorem wholeF_pk {l : List Flit} (h : wholeF l = true) {k : Nat} (hk : k < l.length) : (rf l k).pk = (rf l 0).pk := by
  simp only [wholeF, Bool.and_eq_true] at h
  have := wholeTo_at _ k hk h.2
  simp only [isW, Bool.and_eq_true, decide_eq_true_eq] at this
  exact this.1.1.1.1
/-- The ids of the whole packets of the first k flits, and where the next begins. -/
def wpAt (l : List Flit) : Nat → List Int × Nat
  | 0 => ([], 0)
  | k + 1 => if wholeF ((l.take (k + 1)).drop (wpAt l k).2) = true then ((wpAt l k).1 ++ [(rf l ((wpAt l k).2 : Nat)).pk], k + 1) else wpAt l k
theorem wpAt_le (l : List Flit) (k : Nat) : (wpAt l k).2 ≤ k ∧ (wpAt l k).1.length ≤ k := by
  induction k with
  | zero => simp [wpAt]
  | succ k ih =>
    unfold wpAt
    split
    · simp; omega
    · omega
theorem wpAt_yes {l : List Flit} {k f : Nat} {ids : List Int} (e : wpAt l k = (ids, f)) (h : wholeF ((l.take (k + 1)).drop f) = true) : wpAt l (k + 1) = (ids ++ [(rf l f).pk], k + 1) := by
  rw [wpAt, e, if_pos h]
theorem wpAt_no {l : List Flit} {k f : Nat} {ids : List Int} (e : wpAt l k = (ids, f)) (h : wholeF ((l.take (k + 1)).drop f) = false) : wpAt l (k + 1) = (ids, f) := by
  rw [wpAt, e, if_neg (by simp [h])]
theorem rf_mid {l : List Flit} {f k : Nat} {j : Nat} (hk : k ≤ l.length) (hj : f + j < k) : rf ((l.take k).drop f) (j : Int) = rf l ((f + j : Nat) : Int) := by
  unfold rf
  simp only [Int.toNat_natCast, List.getD_eq_getElem?_getD, List.getElem?_drop, List.getElem?_take]
  rw [if_pos hj]
theorem wpAt_same {l : List Flit} {k f : Nat} (hf : f ≤ k) (hk : k < l.length) (h : wholeF ((l.take (k + 1)).drop f) = true) : (rf l k).pk = (rf l f).pk := by
  have hl : ((l.take (k + 1)).drop f).length = k + 1 - f := by rw [List.length_drop, List.length_take]; omega
  have h1 := wholeF_pk h (k := k - f) (by omega)
  rw [rf_mid (by omega) (by omega)] at h1
  have h2 : rf ((l.take (k + 1)).drop f) (0 : Int) = rf l (f : Int) := by
    have := rf_mid (l := l) (f := f) (k := k + 1) (j := 0) (by omega) (by omega)
    simpa using this
  rw [h2, show f + (k - f) = k by omega] at h1
  exact h1
def wholeB (l : List Flit) : Bool := !decide ((wpAt l l.length).2 < l.length)
def wholeP (l : List Flit) : List Int := if (wpAt l l.length).2 < l.length then [] else (wpAt l l.length).1
theorem wholeP_no {l : List Flit} {ids : List Int} {f : Nat} (e : wpAt l l.length = (ids, f)) (h : f < l.length) : wholeP l = [] ∧ wholeB l = false := by simp [wholeP, wholeB, e, h]
theorem wholeP_yes {l : List Flit} {ids : List Int} {f : Nat} (e : wpAt l l.length = (ids, f)) (h : ¬ f < l.length) : wholeP l = ids ∧ wholeB l = true := by simp [wholeP, wholeB, e, h]
/-- How many of the first k flits stand before the last tail (that tail too). -/
def trimTo (l : List Flit) : Nat → Nat
  | 0 => 0
  | k + 1 => if (rf l k).tail = true then k + 1 else trimTo l k
theorem trimTo_le (l : List Flit) (k : Nat) : trimTo l k ≤ k := by
  induction k with
  | zero => simp [trimTo]
  | succ k ih => unfold trimTo; split <;> omega
/-- What arrived at a node in a class. -/
def trimF (l : List Flit) : List Flit := l.take (trimTo l l.length)
end NoC
