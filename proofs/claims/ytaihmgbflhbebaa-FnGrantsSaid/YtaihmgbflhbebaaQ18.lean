/- Lemmas for laws of this seat, for all inputs: Hop Fr NetM NetK GrL GrA Gt GtI Open OpenP OpenY. -/
import Derived.Test.YtaihmgbflhbebaaQ17
import Derived.Test.YtaihmgbflhbebaaQ11
import Derived.Test.YtaihmgbflhbebaaQ9
import Derived.Test.YtaihmgbflhbebaaQ10
import Derived.Lib.SliceRun
import Derived.Test.YtaihmgbflhbebaaQ3
import Derived.Test.YtaihmgbflhbebaaQ1
import Derived.ProofKit
import Derived.OpenShut
import Derived.SizedLaws
import Derived.WideShapes
import Derived.ChangeSame
import Derived.Test.YtaihmgbflhbebaaQ6
set_option linter.unusedVariables false
set_option linter.unusedSimpArgs false
namespace NoC
def wk (m : Mesh) (t : List Int) (b : Int) : Nat → Int → Option (List Int)
  | 0, _ => none
  | k + 1, a => if entry m t a b = 4 then (if a = b then some [] else none)
    else if (inside (entry m t a b) 0 3 && live m (4 * a + entry m t a b)) = true then (wk m t b k (nextNode m.g a (entry m t a b))).map (fun l => (4 * a + entry m t a b) :: l)
    else none
theorem walkF_wk (m : Mesh) (t : List Int) (b : Int) : ∀ (k : Nat) (a : Int) (out : List Int), walkF m t b k a out = match wk m t b k a with | none => [] | some l => out ++ l := by
  intro k
  induction k with
  | zero => intro a out; rfl
  | succ k ih =>
    intro a out
    unfold walkF wk
    by_cases h4 : entry m t a b = 4
    · rw [if_pos h4, if_pos h4]
      by_cases e : a = b
      · rw [if_pos e, if_pos e]; simp
      · rw [if_neg e, if_neg e]
    · rw [if_neg h4, if_neg h4]
      by_cases hi : (inside (entry m t a b) 0 3 && live m (4 * a + entry m t a b)) = true
      · rw [if_pos hi, if_pos hi, ih]
        cases wk m t b k (nextNode m.g a (entry m t a b)) <;> simp
      · rw [if_neg hi, if_neg hi]
theorem wk_mono (m : Mesh) (t : List Int) (b : Int) : ∀ (k : Nat) (a : Int) (l : List Int), wk m t b k a = some l → wk m t b (k + 1) a = some l := by
  intro k
  induction k with
  | zero => intro a l h; cases h
  | succ k ih =>
    intro a l h
    unfold wk at h ⊢
    by_cases h4 : entry m t a b = 4
    · rw [if_pos h4] at h ⊢; exact h
    · rw [if_neg h4] at h ⊢
      by_cases hi : (inside (entry m t a b) 0 3 && live m (4 * a + entry m t a b)) = true
      · rw [if_pos hi] at h ⊢
        cases e : wk m t b k (nextNode m.g a (entry m t a b)) with
        | none => rw [e] at h; cases h
        | some l' => rw [e] at h; rw [ih _ _ e]; exact h
      · rw [if_neg hi] at h; cases h
theorem table_at {m : Mesh} {t : List Int} {a b : Int} (h : tableOk m t = true) (ha : isNode m.g a = true) (hb : isNode m.g b = true) : (a = b → entry m t a a = 4) ∧ (a ≠ b → 0 < (walk m t a b).length) := by
  simp only [tableOk, Bool.and_eq_true] at h
  have ha' := isNode_iff.1 ha
  have hb' := isNode_iff.1 hb
  have h2 := allI_iff.1 (allI_iff.1 h.2 a.toNat (by omega)) b.toNat (by omega)
  rw [Int.toNat_of_nonneg ha'.1, Int.toNat_of_nonneg hb'.1] at h2
  by_cases e : a = b
  · subst e
    rw [if_pos rfl, beq_iff_eq] at h2
    exact ⟨fun _ => h2, fun e => absurd rfl e⟩
  · rw [if_neg (by omega), decide_eq_true_eq] at h2
    exact ⟨fun e2 => absurd e2 e, fun _ => h2⟩
theorem wk_ok {m : Mesh} {t : List Int} {a b : Int} (h : tableOk m t = true) (ha : isNode m.g a = true) (hb : isNode m.g b = true) : wk m t b ((nodeCount m.g).toNat + 1) a = some (walk m t a b) := by
  obtain ⟨h1, h2⟩ := table_at h ha hb
  have hw : walk m t a b = match wk m t b ((nodeCount m.g).toNat + 1) a with | none => [] | some l => [] ++ l := walkF_wk m t b _ a []
  cases e : wk m t b ((nodeCount m.g).toNat + 1) a with
  | none =>
    rw [e] at hw
    by_cases hab : a = b
    · subst hab
      unfold wk at e
      rw [if_pos (h1 rfl), if_pos rfl] at e
      cases e
    · have := h2 hab
      rw [hw] at this
      simp at this
  | some l =>
    rw [e] at hw
    rw [hw]
    simp
structure Hop (m : Mesh) (t : List Int) (a b : Int) : Prop where
  p0 : 0 ≤ entry m t a b
  p3 : entry m t a b ≤ 3
  lv : live m (4 * a + entry m t a b) = true
  nd : isNode m.g (nextNode m.g a (entry m t a b)) = true
  wk : walk m t a b = (4 * a + entry m t a b) :: walk m t (nextNode m.g a (entry m t a b)) b
theorem table_mesh {m : Mesh} {t : List Int} (h : tableOk m t = true) : meshOk m = true := by
  simp only [tableOk, Bool.and_eq_true] at h
  exact (sized_iff.1 h.1).1
theorem hop {m : Mesh} {t : List Int} {a b : Int} (h : tableOk m t = true) (ha : isNode m.g a = true) (hb : isNode m.g b = true) (hne : a ≠ b) : Hop m t a b := by
  have e := wk_ok h ha hb
  have e' := e
  unfold NoC.wk at e
  by_cases h4 : entry m t a b = 4
  · rw [if_pos h4, if_neg hne] at e; cases e
  · rw [if_neg h4] at e
    by_cases hi : (inside (entry m t a b) 0 3 && live m (4 * a + entry m t a b)) = true
    · rw [if_pos hi] at e
      rw [Bool.and_eq_true, inside_iff] at hi
      have nd := next_live hi.1.1 hi.1.2 (table_mesh h) hi.2
      cases e2 : NoC.wk m t b (nodeCount m.g).toNat (nextNode m.g a (entry m t a b)) with
      | none => rw [e2] at e; cases e
      | some l =>
        rw [e2] at e
        have e3 := wk_mono m t b _ _ _ e2
        rw [wk_ok h nd hb] at e3
        refine ⟨hi.1.1, hi.1.2, hi.2, nd, ?_⟩
        have e4 : (4 * a + entry m t a b) :: l = walk m t a b := Option.some.inj e
        rw [← e4, Option.some.inj e3]
    · rw [if_neg hi] at e; cases e
theorem requests_of {n : Net} {a i p : Int} (i0 : 0 ≤ i) (i9 : i ≤ 9) (p0 : 0 ≤ p) (p4 : p ≤ 4) (h : requestN n a i p = true) : i ∈ requestsN n a p := by
  unfold requestsN requestsTo
  obtain ⟨k, rfl⟩ : ∃ k : Nat, i = k := ⟨i.toNat, by omega⟩
  refine List.mem_map.2 ⟨k, List.mem_filter.2 ⟨List.mem_range.2 (by omega), ?_⟩, rfl⟩
  rw [reqI_in p0 p4]
  exact h
theorem firstTo_some {l : List Int} {turn : Int} (h : smallL l) : ∀ k, 0 < k → k ≤ l.length → 0 ≤ firstTo l turn k := by
  intro k
  induction k with
  | zero => intro h; omega
  | succ k ih =>
    intro _ hk
    have h2 := h k (by omega)
    rw [firstTo_succ l turn k (by omega)]
    unfold better
    split
    · exact h2.1
    · split
      · exact h2.1
      · omega
theorem gst_keeps (n : Net) (a : Int) : ∀ p : Nat, (gst n a p).2 ≠ [] → (gst n a (p + 1)).2 ≠ [] := by
  intro p h
  rw [gst]
  split
  · simp
  · exact h
theorem grants_some {n : Net} {a i p : Int} (i0 : 0 ≤ i) (i9 : i ≤ 9) (p0 : 0 ≤ p) (p4 : p ≤ 4) (h : requestN n a i p = true) : grantsN n a ≠ [] := by
  intro he
  have back : ∀ k : Nat, k ≤ 5 → (gst n a k).2 = [] := by
    have : ∀ j k : Nat, k + j = 5 → (gst n a k).2 = [] := by
      intro j
      induction j with
      | zero => intro k hk; obtain rfl : k = 5 := (by omega); exact he
      | succ j ih =>
        intro k hk
        have h1 := ih (k + 1) (by omega)
        cases e : (gst n a k).2 with
        | nil => rfl
        | cons x xs => exact absurd h1 (gst_keeps n a k (by rw [e]; simp))
    exact fun k hk => this (5 - k) k (by omega)
  have us : ∀ k : Nat, k ≤ 5 → (gst n a k).1 = [false, false, false, false, false] := by
    intro k
    induction k with
    | zero => intro _; rfl
    | succ k ih =>
      intro hk
      have h1 := back (k + 1) hk
      rw [gst] at h1 ⊢
      split at h1
      · simp at h1
      · rename_i hn
        rw [if_neg hn]
        exact ih (by omega)
  obtain ⟨q, rfl⟩ : ∃ q : Nat, p = q := ⟨p.toNat, by omega⟩
  have h1 := back (q + 1) (by omega)
  rw [gst] at h1
  have hl : i ∈ leftOf n a q (gst n a q).1 := by
    unfold leftOf
    rw [us q (by omega)]
    refine List.mem_filter.2 ⟨requests_of i0 i9 p0 p4 h, ?_⟩
    have : ∀ k : Nat, k ≤ 4 → ([false, false, false, false, false] : List Bool).getD k false = false := by
      intro k hk
      rcases (by omega : k = 0 ∨ k = 1 ∨ k = 2 ∨ k = 3 ∨ k = 4) with rfl | rfl | rfl | rfl | rfl <;> rfl
    unfold keepU usedAt
    rw [this _ (by omega)]
    rfl
  have hp : 0 ≤ pick n a q (gst n a q).1 := firstTo_some (smallL_mem (left_small n a q _)) _ (List.length_pos_of_mem hl) (Nat.le_refl _)
  rw [if_pos hp] at h1
  simp at h1
theorem grants_all {n : Net} {a : Int} (ha : isNode n.mesh.g a = true) {g : Grant} (h : g ∈ grantsN n a) : g ∈ allGrants n := by
  have h1 := isNode_iff.1 ha
  unfold allGrants allTo joinI
  refine List.mem_flatMap.2 ⟨a.toNat, List.mem_range.2 (by omega), ?_⟩
  rw [Int.toNat_of_nonneg h1.1]
  exact h
end NoC
namespace Go.Proofs.Ytaihmgbflhbebaa
open Go.RowKit Go.Proofs.YtaihmgbflhbebaaW.PrintWords
open NoC
theorem RU.off {α : Type} {d : Kd α} {e : Nat} {w : World} {lo hi : Nat} {v : Value} {xs : List α} (h : RU d e w lo hi v xs) {g : Nat} (hg : g < lo) (j : Nat) (u : Value) : RU d e (w.setCell ⟨g, j, none⟩ u) lo hi v xs :=
  h.step (fun k h1 _ _ => Below.heap_setCell w ⟨g, j, none⟩ u k (by show k ≠ g; omega))
theorem OB.off {w : World} {lo hi : Nat} {v : Value} {l : List (List Flit)} {vs : List Value} (h : OB w lo hi v l vs) {g : Nat} (hg : g < lo) (j : Nat) (u : Value) : OB (w.setCell ⟨g, j, none⟩ u) lo hi v l vs :=
  h.step (fun k h1 _ _ => Below.heap_setCell w ⟨g, j, none⟩ u k (by show k ≠ g; omega))
theorem RU.bel {α : Type} {d : Kd α} {e : Nat} {w w1 : World} {lo hi : Nat} {v : Value} {xs : List α} (hb : Below w.heap.size w w1) (h : RU d e w lo hi v xs) : RU d e w1 lo hi v xs := h.below hb
theorem OB.bel {w w1 : World} {lo hi : Nat} {v : Value} {l : List (List Flit)} {vs : List Value} (hb : Below w.heap.size w w1) (h : OB w lo hi v l vs) : OB w1 lo hi v l vs := h.below hb
def grantsAtN (n : Net) (a : Int) : List Grant := if (netOk n && isNode n.mesh.g a) = true then grantsN n a else []
def allGrantsN (n : Net) : List Grant := if netOk n = true then allGrants n else []
set_option maxHeartbeats 2000000 in
theorem impl_GrantsAt (n : Net) (q : NA) (a : Int) (w : World) (hr : NetR 77 w n q) : Calls Try.prog 9 #[.agg (netCells n q), .int .i64 a] w fun e w' => GotG w w' (grantsAtN n a) e ∧ Below w.heap.size w w' := by
  have R := Lib.hid hr
  obtain ⟨a1, a2, a3, a4, a5, a6, a7, a8, c1, c2, c3, c4, c5, c6, c7, c8⟩ := q
  clear hr
  dsimp only [netCells]
  have X := fun (W : World) hb => Box.below (w1 := W) (Box.new w _ #[.int .i64 n.mesh.g.w, .int .i64 n.mesh.g.h, .slice a1 n.mesh.br.length c1, .slice a2 n.pa.length c2, .slice a3 n.pb.length c3, .slice a4 n.bufs.length c4, .slice a5 n.owners.length c5, .slice a6 n.turns.length c6, .slice a7 n.srcs.length c7, .slice a8 n.arrs.length c8, .int .i64 n.time] 35 rfl) hb
  cases hk : (netOk n && isNode n.mesh.g a)
  · have HE : Hid (grantsAtN n a = []) := Lib.hid (by rw [grantsAtN, hk]; rfl)
    have HK := Lib.hid hk
    clear hk
    go_enter Try.func9, Try.ntmps9
    go_wp2_with (go_at_call 15; refine (impl_isPlace n _ a _ (R.out.below bel)).mono ?_; rintro e w1 ⟨he, hb1⟩; rw [HK.out] at he; subst he; obtain ⟨hc1, hf1, hz1⟩ := bcell hb1; (try simp only [szs] at hz1); have hb2 := far2; obtain ⟨hc2, hf2, hz2⟩ := bcell hb2; (try simp only [szs] at hz2); try (first | obtain ⟨hy1, hy2, hy3, hy4⟩ := lts4 hz2 | obtain ⟨hy1, hy2, hy3⟩ := lts3 hz2 | obtain ⟨hy1, hy2⟩ := lts2 hz2 | have hy1 := lts1 hz2); have hb9 := hb1)
    go_ret
    exact ⟨by rw [HE.out]; exact GotG.nil _ _, bel⟩
  · have HE : Hid (grantsAtN n a = grantsN n a) := Lib.hid (by rw [grantsAtN, hk]; rfl)
    have HK := Lib.hid hk
    rw [Bool.and_eq_true] at hk
    have HK2 := Lib.hid hk
    clear hk
    go_enter Try.func9, Try.ntmps9
    go_wp2_with (first | (go_at_call 15; refine (impl_isPlace n _ a _ (R.out.below bel)).mono ?_; rintro e w1 ⟨he, hb1⟩; rw [HK.out] at he; subst he; obtain ⟨hc1, hf1, hz1⟩ := bcell hb1; (try simp only [szs] at hz1); have hb2 := far2; obtain ⟨hc2, hf2, hz2⟩ := bcell hb2; (try simp only [szs] at hz2); try (first | obtain ⟨hy1, hy2, hy3, hy4⟩ := lts4 hz2 | obtain ⟨hy1, hy2, hy3⟩ := lts3 hz2 | obtain ⟨hy1, hy2⟩ := lts2 hz2 | have hy1 := lts1 hz2); have hb9 := hb1) | (go_at_call 19; refine (impl_grants n _ _ a _ (R.out.below bel) (X _ bel) HK2.out.1 HK2.out.2).mono ?_; rintro e w1 ⟨hg1, hb1⟩; obtain ⟨v1, rfl, HO1⟩ := hg1; obtain ⟨A1, c1, rfl⟩ := Kd.R_slice HO1; obtain ⟨hc1, hf1, hz1⟩ := bcell hb1; (try simp only [szs] at hz1); have hb2 := far2; obtain ⟨hc2, hf2, hz2⟩ := bcell hb2; (try simp only [szs] at hz2); try (first | obtain ⟨hy1, hy2, hy3, hy4⟩ := lts4 hz2 | obtain ⟨hy1, hy2, hy3⟩ := lts3 hz2 | obtain ⟨hy1, hy2⟩ := lts2 hz2 | have hy1 := lts1 hz2); have hb9 := hb1))
    go_ret
    exact ⟨by rw [HE.out]; exact ⟨_, rfl, Kd.R_lower (by exact Kd.R_below HO1 bel) (by first | omega | (simp only [szs]; omega))⟩, bel⟩
set_option maxHeartbeats 2000000 in
theorem impl_AllGrants (n : Net) (q : NA) (w : World) (hr : NetR 77 w n q) : Calls Try.prog 6 #[.agg (netCells n q)] w fun e w' => GotG w w' (allGrantsN n) e ∧ Below w.heap.size w w' := by
  have R := Lib.hid hr
  obtain ⟨a1, a2, a3, a4, a5, a6, a7, a8, c1, c2, c3, c4, c5, c6, c7, c8⟩ := q
  clear hr
  dsimp only [netCells]
  have X := fun (W : World) hb => Box.below (w1 := W) (Box.new w _ #[.int .i64 n.mesh.g.w, .int .i64 n.mesh.g.h, .slice a1 n.mesh.br.length c1, .slice a2 n.pa.length c2, .slice a3 n.pb.length c3, .slice a4 n.bufs.length c4, .slice a5 n.owners.length c5, .slice a6 n.turns.length c6, .slice a7 n.srcs.length c7, .slice a8 n.arrs.length c8, .int .i64 n.time] 35 rfl) hb
  cases hk : netOk n
  · have HE : Hid (allGrantsN n = []) := Lib.hid (by rw [allGrantsN, hk]; rfl)
    go_enter Try.func6, Try.ntmps6
    go_wp2_with (go_at_call 13; refine (impl_NetOk n _ _ (R.out.below bel)).mono ?_; rintro e w1 ⟨rfl, hb1⟩; obtain ⟨hc1, hf1, hz1⟩ := bcell hb1; (try simp only [szs] at hz1); have hb2 := far2; obtain ⟨hc2, hf2, hz2⟩ := bcell hb2; (try simp only [szs] at hz2); try (first | obtain ⟨hy1, hy2, hy3, hy4⟩ := lts4 hz2 | obtain ⟨hy1, hy2, hy3⟩ := lts3 hz2 | obtain ⟨hy1, hy2⟩ := lts2 hz2 | have hy1 := lts1 hz2); have hb9 := hb1)
    go_ret
    exact ⟨by rw [HE.out]; exact GotG.nil _ _, bel⟩
  · have HE : Hid (allGrantsN n = allGrants n) := Lib.hid (by rw [allGrantsN, hk]; rfl)
    have HK := Lib.hid hk
    go_enter Try.func6, Try.ntmps6
    go_wp2_with (first | (go_at_call 13; refine (impl_NetOk n _ _ (R.out.below bel)).mono ?_; rintro e w1 ⟨rfl, hb1⟩; obtain ⟨hc1, hf1, hz1⟩ := bcell hb1; (try simp only [szs] at hz1); have hb2 := far2; obtain ⟨hc2, hf2, hz2⟩ := bcell hb2; (try simp only [szs] at hz2); try (first | obtain ⟨hy1, hy2, hy3, hy4⟩ := lts4 hz2 | obtain ⟨hy1, hy2, hy3⟩ := lts3 hz2 | obtain ⟨hy1, hy2⟩ := lts2 hz2 | have hy1 := lts1 hz2); have hb9 := hb1) | (go_at_call 14; refine (impl_allGrants n _ _ _ (R.out.below bel) (X _ bel) HK.out).mono ?_; rintro e w1 ⟨hg1, hb1⟩; obtain ⟨v1, rfl, HO1⟩ := hg1; obtain ⟨A1, c1, rfl⟩ := Kd.R_slice HO1; obtain ⟨hc1, hf1, hz1⟩ := bcell hb1; (try simp only [szs] at hz1); have hb2 := far2; obtain ⟨hc2, hf2, hz2⟩ := bcell hb2; (try simp only [szs] at hz2); try (first | obtain ⟨hy1, hy2, hy3, hy4⟩ := lts4 hz2 | obtain ⟨hy1, hy2, hy3⟩ := lts3 hz2 | obtain ⟨hy1, hy2⟩ := lts2 hz2 | have hy1 := lts1 hz2); have hb9 := hb1))
    go_ret
    exact ⟨by rw [HE.out]; exact ⟨_, rfl, Kd.R_lower (by exact Kd.R_below HO1 bel) (by first | omega | (simp only [szs]; omega))⟩, bel⟩
theorem rg_at4 (l : List Grant) (k : Nat) (hk : k < l.length) : rg l (k : Int) = l[k] := by
  simp [rg, hk]
theorem grants_apart (n : Net) {i j : Nat} (hj : j < i) (hi : i < (allGrants n).length) :
    (rg (allGrants n) (i : Int)).node = (rg (allGrants n) (j : Int)).node → ¬ (rg (allGrants n) (i : Int)).port = (rg (allGrants n) (j : Int)).port ∧ ¬ (rg (allGrants n) (i : Int)).input / 2 = (rg (allGrants n) (j : Int)).input / 2 := by
  have h := List.pairwise_iff_getElem.1 (grants_pw n) j i (by omega) hi hj
  rw [rg_at4 _ i hi, rg_at4 _ j (by omega)]
  intro e
  rcases h with h | ⟨_, h1, h2⟩
  · omega
  · exact ⟨by omega, fun h => h2 h.symm⟩
theorem requestsAt_yes {n : Net} {a p : Int} (ok : netOk n = true) (nd : isNode n.mesh.g a = true) : requestsAt n a p = requestsN n a p := by
  unfold requestsAt
  rw [ok, nd]; rfl
theorem grantsAt_yes {n : Net} {a : Int} (ok : netOk n = true) (nd : isNode n.mesh.g a = true) : grantsAtN n a = grantsN n a := by
  unfold grantsAtN
  rw [ok, nd]; rfl
theorem any_iff {n : Net} {a : Int} (nd : isNode n.mesh.g a = true) : (∃ p : Nat, p < 5 ∧ 0 < (requestsN n a (p : Int)).length) ↔ 0 < (grantsN n a).length := by
  constructor
  · rintro ⟨p, hp, hl⟩
    obtain ⟨x, hx⟩ : ∃ x, x ∈ requestsN n a (p : Int) := ⟨_, List.getElem_mem hl⟩
    have h1 := requests_small n a p x hx
    have hq : requestN n a x p = true := by
      unfold requestsN requestsTo at hx
      obtain ⟨k, hk, rfl⟩ := List.mem_map.1 hx
      have h2 := (List.mem_filter.1 hk).2
      rw [reqI_in (by omega) (by omega)] at h2
      exact h2
    exact List.length_pos_iff.2 (grants_some h1.1 h1.2 (by omega) (by omega) hq)
  · intro hl
    obtain ⟨g, hg⟩ : ∃ g, g ∈ grantsN n a := ⟨_, List.getElem_mem hl⟩
    have one := grants_one (grants_all nd hg)
    have hn : g.node = a := ((gst_GI n a 5).mem g hg).1
    refine ⟨g.port.toNat, by have := one.p4; omega, ?_⟩
    have e : ((g.port.toNat : Nat) : Int) = g.port := by have := one.p0; omega
    rw [e]
    have h := requests_of one.i0 one.i9 one.p0 one.p4 one.req
    rw [hn] at h
    exact List.length_pos_of_mem h
set_option maxHeartbeats 2000000 in
theorem impl_IsRequest (n : Net) (q : NA) (a i p : Int) (w : World) (hr : NetR 77 w n q) (ok : netOk n = true) (nd : isNode n.mesh.g a = true) (i0 : 0 ≤ i) (i9 : i ≤ 9) (hq : reqI n a i p = true) :
    Calls Try.prog 7 #[.agg (netCells n q), .int .i64 a, .int .i64 i, .int .i64 p] w fun e w' => e = .returned (.bool true) ∧ Below w.heap.size w w' := by
  have R := Lib.hid hr
  obtain ⟨a1, a2, a3, a4, a5, a6, a7, a8, c1, c2, c3, c4, c5, c6, c7, c8⟩ := q
  clear hr
  dsimp only [netCells]
  have X := fun (W : World) hb => Box.below (w1 := W) (Box.new w _ #[.int .i64 n.mesh.g.w, .int .i64 n.mesh.g.h, .slice a1 n.mesh.br.length c1, .slice a2 n.pa.length c2, .slice a3 n.pb.length c3, .slice a4 n.bufs.length c4, .slice a5 n.owners.length c5, .slice a6 n.turns.length c6, .slice a7 n.srcs.length c7, .slice a8 n.arrs.length c8, .int .i64 n.time] 35 rfl) hb
  have HK : Hid ((netOk n && isNode n.mesh.g a) = true) := Lib.hid (by rw [ok, nd]; rfl)
  have HI : Hid (inside i 0 9 = true) := Lib.hid (inside_iff.2 ⟨i0, i9⟩)
  have HQ := Lib.hid hq
  have OK := Lib.hid ok
  have ND := Lib.hid nd
  clear hq ok nd
  go_enter Try.func7, Try.ntmps7
  go_wp2_with (first | (go_at_call 15; refine (impl_isPlace n _ a _ (R.out.below bel)).mono ?_; rintro e w1 ⟨he, hb1⟩; rw [HK.out] at he; subst he; obtain ⟨hc1, hf1, hz1⟩ := bcell hb1; (try simp only [szs] at hz1); have hb2 := far2; obtain ⟨hc2, hf2, hz2⟩ := bcell hb2; (try simp only [szs] at hz2); try (first | obtain ⟨hy1, hy2, hy3, hy4⟩ := lts4 hz2 | obtain ⟨hy1, hy2, hy3⟩ := lts3 hz2 | obtain ⟨hy1, hy2⟩ := lts2 hz2 | have hy1 := lts1 hz2); have hb9 := hb1) | (go_at_call 16; refine (impl_inside i 0 9 _).mono ?_; rintro e w' ⟨he, rfl⟩; rw [HI.out] at he; subst he) | (go_at_call 17; refine (impl_isRequest n _ _ a i p _ (R.out.below bel) (X _ bel) ⟨OK.out, ND.out, by omega, by omega⟩).mono ?_; rintro e w1 ⟨he, hb1⟩; rw [HQ.out] at he; subst he; obtain ⟨hc1, hf1, hz1⟩ := bcell hb1; (try simp only [szs] at hz1); have hb2 := far2; obtain ⟨hc2, hf2, hz2⟩ := bcell hb2; (try simp only [szs] at hz2); try (first | obtain ⟨hy1, hy2, hy3, hy4⟩ := lts4 hz2 | obtain ⟨hy1, hy2, hy3⟩ := lts3 hz2 | obtain ⟨hy1, hy2⟩ := lts2 hz2 | have hy1 := lts1 hz2); have hb9 := hb1))
  go_ret
  exact ⟨rfl, bel⟩
theorem cut_toG (A : Option Addr) (n c : Nat) (hi : Int) (h0 : 0 ≤ hi) (h2 : hi ≤ n) (hc : n ≤ c) (W : World) :
    (Instr.slice 37 (.slice A n c) none (some (.int .i64 hi)) none).run Try.prog W = .ok (.slice A hi.toNat c) W := by
  obtain ⟨i, hi', hs⟩ := Option.map_eq_some_iff.1 info_G
  exact cut_to (P := Try.prog) 37 41 .i64 Try.underlying37 hi' A n c hi h0 h2 hc W
set_option maxRecDepth 100000 in
set_option maxHeartbeats 8000000 in
theorem impl_GrantOk (l : List Grant) (A : Option Addr) (c : Nat) (w : World) (hr : kG.C w A l.length l) (hn : l.length ≤ 2097152) (hlc : l.length ≤ c)
  (hok : ∀ i j : Nat, j < i → i < l.length → (rg l (i : Int)).node = (rg l (j : Int)).node → ¬ (rg l (i : Int)).port = (rg l (j : Int)).port ∧ ¬ (rg l (i : Int)).input / 2 = (rg l (j : Int)).input / 2)
  (hin : ∀ k : Nat, k < l.length → 0 ≤ (rg l (k : Int)).input ∧ (rg l (k : Int)).input ≤ 9) :
  Calls Try.prog 10 #[.slice A l.length c] w fun e w' => e = .returned (.bool true) ∧ Below w.heap.size w w' := by
 have R := Lib.hid hr
 have HOK := Lib.hid hok
 have HIN := Lib.hid hin
 clear hok hin hr
 go_enter Try.func10, Try.ntmps10
 go_wp2
 go_loopw [9] (fun i wr => ∃ k : Nat, i = .int .i64 k ∧ k ≤ l.length ∧ Hid (Below w.heap.size w wr)) (fun i _ => l.length - (intOf i).toNat)
 case atStart => exact ⟨0, rfl, Nat.zero_le _, Lib.hid bel⟩
 case round =>
  obtain ⟨k, rfl, hk, HB⟩ := hrel
  obtain ⟨wo, rfl⟩ : ∃ z, z = wr := ⟨_, rfl⟩
  by_cases hlt : k < l.length
  ·obtain ⟨b1, o1, rfl, hb1, x0, x1, x2⟩ := rdG_at (Kd.C_below R.out HB.out) k hlt
   obtain ⟨a0, a9⟩ := HIN.out k hlt
   have i0 : (k : Int) < (l.length : Int) := by omega
   have HCUT : ∀ W : World, (Instr.slice 37 (.slice (some ⟨b1, o1, none⟩) l.length c) none (some (.int .i64 (k : Int))) none).run Try.prog W = .ok (.slice (some ⟨b1, o1, none⟩) k c) W := fun W => cut_toG _ _ _ (k : Int) (by omega) (by omega) (by omega) W
   have HO1 : Hid (∀ j : Nat, j < k → (rg l (k : Int)).node = (rg l (j : Int)).node → ¬ (rg l (k : Int)).port = (rg l (j : Int)).port ∧ ¬ (rg l (k : Int)).input / 2 = (rg l (j : Int)).input / 2) := Lib.hid (fun j hj => HOK.out k j hj hlt)
   obtain ⟨G, hG⟩ : ∃ z, rg l (k : Int) = z := ⟨_, rfl⟩
   rw [hG] at x0 x1 x2 HO1 a0 a9
   clear hG
   obtain ⟨gn, gp, gi⟩ := G
   dsimp only at x0 x1 x2 HO1 a0 a9
   go_wp2
   have BX := Lib.hid (show Box (wo.alloc (.cells #[.int .i64 gn, .int .i64 gp, .int .i64 gi] 41)) wo.heap.size #[.int .i64 gn, .int .i64 gp, .int .i64 gi] from Box.new wo _ _ _ rfl)
   have hba : Below wo.heap.size wo (wo.alloc (.cells #[.int .i64 gn, .int .i64 gp, .int .i64 gi] 41)) := bw_alloc _ (bw_refl wo)
   have HBA := Lib.hid (bw_then HB.out hba)
   have zz : wo.heap.size + 1 ≤ (wo.alloc (.cells #[.int .i64 gn, .int .i64 gp, .int .i64 gi] 41)).heap.size := Nat.le_of_eq (World.size_alloc _ _).symm
   clear hba x0 x1 x2
   go_loopw [18] (fun j wr => ∃ m : Nat, j = .int .i64 m ∧ m ≤ k ∧ Hid (Below w.heap.size w wr) ∧ Hid (Box wr wo.heap.size #[.int .i64 gn, .int .i64 gp, .int .i64 gi])) (fun j _ => k - (intOf j).toNat)
   case atStart => exact ⟨0, rfl, Nat.zero_le _, HBA, BX⟩
   case round =>
    obtain ⟨m, rfl, hm, HBz, BZ⟩ := hrel
    by_cases hlm : m < k
    ·obtain ⟨b2, o2, hp, hb2, u0, u1, u2⟩ := rdG_at (Kd.C_below R.out HBz.out) m (by omega)
     obtain ⟨rfl, rfl⟩ : b2 = b1 ∧ o2 = o1 := by simp only [Option.some.injEq, Addr.mk.injEq] at hp; exact ⟨hp.1.symm, hp.2.1.symm⟩
     obtain ⟨d0, d9⟩ := HIN.out m (by omega)
     have hone := HO1.out m hlm
     have i1 : (m : Int) < (k : Int) := by omega
     obtain ⟨G2, hG2⟩ : ∃ z, rg l (m : Int) = z := ⟨_, rfl⟩
     rw [hG2] at u0 u1 u2 hone d0 d9
     clear hG2 hp
     obtain ⟨hnd, hpt, hip⟩ := G2
     dsimp only at u0 u1 u2 hone d0 d9
     have v0 : wr.cell? ⟨wo.heap.size, 0, none⟩ = some (.int .i64 gn) := BZ.out.get 0
     have v1 : wr.cell? ⟨wo.heap.size, 1, none⟩ = some (.int .i64 gp) := BZ.out.get 1
     have v2 : wr.cell? ⟨wo.heap.size, 2, none⟩ = some (.int .i64 gi) := BZ.out.get 2
     have vl := BZ.out.lt
     have t1 : gi.tdiv 2 = gi / 2 := Int.tdiv_eq_ediv_of_nonneg a0
     have t2 : hip.tdiv 2 = hip / 2 := Int.tdiv_eq_ediv_of_nonneg d0
     have wr1 : IntKind.i64.wrap (gi / 2) = gi / 2 := IntWalk.i64_in _ (by omega)
     have wr2 : IntKind.i64.wrap (hip / 2) = hip / 2 := IntWalk.i64_in _ (by omega)
     by_cases hnode : gn = hnd
     ·obtain ⟨h1, h2⟩ := hone hnode
      subst hnode
      have e1 : decide (gp = hpt) = false := decide_eq_false h1
      have e2 : decide (gi / 2 = hip / 2) = false := decide_eq_false h2
      have e3 : (gp == hpt) = false := beq_eq_false_iff_ne.2 h1
      have e4 : (gi / 2 == hip / 2) = false := beq_eq_false_iff_ne.2 h2
      go_wp2
      go_roundw
      case rel => exact ⟨m + 1, by go_num, by omega, Lib.hid (bw_then HBz.out (bw_alloc _ (bw_refl _))), Lib.hid (BZ.out.below (bw_alloc _ (bw_refl _)))⟩
      case measure => simp [intOf]; omega
     ·have e0 : (gn == hnd) = false := beq_eq_false_iff_ne.2 hnode
      clear hone
      go_wp2
      go_roundw
      case rel => exact ⟨m + 1, by go_num, by omega, Lib.hid (bw_then HBz.out (bw_alloc _ (bw_refl _))), Lib.hid (BZ.out.below (bw_alloc _ (bw_refl _)))⟩
      case measure => simp [intOf]; omega
    ·obtain rfl : m = k := by omega
     have i1 : ¬ (m : Int) < (m : Int) := by omega
     go_wp2
     go_roundw
     case rel => exact ⟨m + 1, by go_num, by omega, HBz⟩
     case measure => simp [intOf]; omega
  ·obtain rfl : k = l.length := by omega
   have i0 : ¬ (l.length : Int) < (l.length : Int) := by omega
   go_wp2
   go_ret
   exact ⟨rfl, HB.out⟩
end Go.Proofs.Ytaihmgbflhbebaa
namespace Go.Proofs.Ytaihmgbflhbebaa
open Go.ChangeShapes Go.WideShapes Go.ChangeAt Go.RowKit Go.Proofs.YtaihmgbflhbebaaW.PrintWords
open NoC
section
variable {H : Type} {enc : TypeId × Value → H} {W : World} {base : Nat} {spare : Nat → Bool} {held : Bool} {fuel : Nat} {cs : List Value} {x : DataW H × List MemPlace}
def Light (t : TypeId) (d : DataW H) : Prop := ∀ n ∈ d.weights Try.prog t, n ≤ reachBytes
theorem light_arg {ts : List TypeId} {ds : List (DataW H)} (h : (DataW.weightsEach Try.prog ts ds).all (· ≤ reachBytes) = true) {j : Nat} {t : TypeId} {d : DataW H} (ht : ts[j]? = some t) (hd : ds[j]? = some d) : Light t d :=
  fun n hn => by simpa using List.all_eq_true.1 h n (DataW.weights_mem_each ht hd n hn)
end
section
variable {H : Type} {enc : TypeId × Value → H} {W : World} {base : Nat} {spare : Nat → Bool} {held : Bool} {fuel : Nat} {cs : List Value} {x : DataW H × List MemPlace}
end
section
variable {H : Type} {enc : TypeId × Value → H} {W : World} {base : Nat} {spare : Nat → Bool} {held : Bool} {fuel : Nat} {cs : List Value} {x : DataW H × List MemPlace}
theorem op_bytes (h : DataW.trod enc Try.prog W base spare held fuel 22 cs = some x) (hl : Light 22 x.1) :
    ∃ A c N, cs = [.slice A N c] ∧ Byt W A N := by
  rcases open_ints Try.underlying22 Try.underlying5 (by kernel_rfl) h with ⟨rfl, _⟩ | ⟨a, len, cap, zs, rfl, _, hle, hm, hz, hx, hc, _⟩
  · exact ⟨none, 0, 0, rfl, by decide, fun n h => absurd h (Nat.not_lt_zero _)⟩
  · have hlen : len ≤ zs.length := by rw [hz]; split <;> omega
    have e : (zs.take len).length = len := by rw [List.length_take, Nat.min_eq_left hlen]
    have hb : len * 1 ≤ 140737488351232 := by
      subst hx
      have z := hl _ (by unfold DataW.weights; rw [show Try.prog.underlying 22 = _ from Try.underlying22]; exact List.mem_cons_self)
      rw [show Try.prog.bytesOf 5 = 1 by kernel_rfl] at z
      have hr : reachBytes = 140737488351232 := by decide
      have h1 : (lits (H := H) .u8 (zs.take len)).length = len := by simp [lits, hlen]
      rw [h1] at z
      omega
    have hC : Kd.C (Kd.int .u8) W (some a) (zs.take len).length (zs.take len) := by
      refine ⟨rfl, by rw [e]; omega, fun _ => ⟨a, rfl, ?_⟩⟩
      intro j p hj
      refine ⟨[.int .u8 p], rfl, rfl, ?_⟩
      intro i u hi
      obtain ⟨rfl, rfl⟩ : i = 0 ∧ u = .int .u8 p := by
        cases i with
        | zero => simp at hi; exact ⟨rfl, hi.symm⟩
        | succ i => simp at hi
      have hj2 := List.getElem?_eq_some_iff.1 hj
      obtain ⟨hj3, hj4⟩ := hj2
      have hj5 : j < zs.length := by omega
      have := hc j hj5
      rw [show j * (Kd.int .u8).sz + 0 = j by show j * 1 + 0 = j; omega, this]
      rw [List.getElem_take] at hj4
      simp [hj5, hj4]
    refine ⟨some a, cap, len, rfl, by omega, fun n hn => ?_⟩
    obtain ⟨B, off, ha, hB, hcell⟩ := rdU_at hC n (by omega)
    exact ⟨B, off, _, ha, hB, hcell n (by omega)⟩
end
end Go.Proofs.Ytaihmgbflhbebaa
