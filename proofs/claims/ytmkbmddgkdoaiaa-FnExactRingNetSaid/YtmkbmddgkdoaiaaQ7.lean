/- Lemmas for laws of this seat, for all inputs: NetOkS ReqS GrD GrI StW GrS Mv StH StP Snd SndP New. -/
import Derived.Test.YtmkbmddgkdoaiaaQ6
import Derived.Lib.SliceRun
import Derived.Test.YtmkbmddgkdoaiaaQ3
import Derived.Test.YtmkbmddgkdoaiaaQ5
import Derived.Test.YtmkbmddgkdoaiaaQ4
set_option linter.unusedVariables false
set_option linter.unusedSimpArgs false
namespace Go.Proofs.Ytmkbmddgkdoaiaa
open Go.RowKit Go.Proofs.YtmkbmddgkdoaiaaW.PrintWords
open NoC
theorem netOk_no5 {n : Net} (k : Nat) (hk : k < n.owners.length) (h : inside (ri n.owners k) (-1) 4 = false) : netOk n = false := by simp [netOk, allI_false (p := fun (i : Nat) => inside (ri n.owners i) (-1) 4) k hk h]
theorem netOk_no6 {n : Net} (k : Nat) (hk : k < n.turns.length) (h : inside (ri n.turns k) 0 9 = false) : netOk n = false := by simp [netOk, allI_false (p := fun (i : Nat) => inside (ri n.turns i) 0 9) k hk h]
theorem netOk_no7 {n : Net} (h : inside n.time 0 1000000 = false) : netOk n = false := by simp [netOk, h]
def clsIs (i : Nat) (l : List Flit) (j : Nat) : Prop := (rf l j).cls = ((i % 2 : Nat) : Int)
theorem cls_all {i : Nat} {l : List Flit} (h : ∀ j : Nat, j < l.length → clsIs i l j) : l.all (fun f => f.cls == ((i % 2 : Nat) : Int)) = true := by
  rw [List.all_eq_true]
  intro f hf
  obtain ⟨j, hj, rfl⟩ := List.getElem_of_mem hf
  have := h j hj
  unfold clsIs at this
  rw [rf_get l j hj] at this
  simpa using this
theorem bufOk_5 {g : Grid} {i : Nat} {l : List Flit} (h1 : ¬ 3 < l.length) (h3 : areFl g l = true) (h2 : ∀ j : Nat, j < l.length → clsIs i l j) : bufOk g i l = true := by
  simp only [bufOk, cls_all h2, h3, Bool.and_true, decide_eq_true_eq]
  omega
theorem bufOk_6 {g : Grid} {i : Nat} {l : List Flit} (j : Nat) (hj : j < l.length) (h : ¬ clsIs i l j) : bufOk g i l = false := by
  have : l.all (fun f => f.cls == ((i % 2 : Nat) : Int)) = false := by
    rw [Bool.eq_false_iff]
    intro ha
    rw [List.all_eq_true] at ha
    have := ha _ (List.getElem_mem hj)
    unfold clsIs at h
    rw [rf_get l j hj] at h
    exact h (by simpa using this)
  simp only [bufOk, this, Bool.and_false, Bool.false_and]

set_option maxHeartbeats 8000000 in
set_option maxRecDepth 100000 in
theorem spec_NetOk (n : Net) (q : NA) (w : World) (hr : NetR 77 w n q) : Calls Try.prog 32 #[.agg (netCells n q)] w fun e w' => e = .returned (.bool (netOk n)) ∧ Below w.heap.size w w' := by
 obtain ⟨a1, a2, a3, a4, a5, a6, a7, a8, c1, c2, c3, c4, c5, c6, c7, c8⟩ := q; obtain ⟨Rbr, Rpa, Rpb, Rbu, Row, Rtu, Rso, Rar, L1, L2, L3, L4, L5, L6, L7, L8, L9, L10, L11⟩ := hr; have M9 := Lib.hid L9; have M10 := Lib.hid L10; have M11 := Lib.hid L11; clear L9 L10 L11; dsimp only [netCells] at *
 obtain ⟨n0, n1⟩ := count_le n.mesh.g
 cases hc : classesOk n.mesh n.pa n.pb
 ·have HC := Lib.hid hc
  go_enter Try.func32, Try.ntmps32
  go_wp2_with (first | (go_at_call 28; refine (spec_NodeCount n.mesh.g _).mono ?_; rintro e w1 ⟨rfl, hb1⟩; obtain ⟨hc1, hf1, hz1⟩ := bcell hb1; (try simp only [szs] at hz1); have hb2 := far2; obtain ⟨hc2, hf2, hz2⟩ := bcell hb2; (try simp only [szs] at hz2); try (first | obtain ⟨hy1, hy2, hy3, hy4⟩ := lts4 hz2 | obtain ⟨hy1, hy2, hy3⟩ := lts3 hz2 | obtain ⟨hy1, hy2⟩ := lts2 hz2 | have hy1 := lts1 hz2); have hb9 := hb1) | (go_at_call 27; refine (spec_ClassesOk n.mesh n.pa n.pb a1 a2 a3 _ _ _ _ (by exact Kd.C_below Rbr bel) L1 (by exact Kd.C_below Rpa bel) L2 (by exact Kd.C_below Rpb bel) L3).mono ?_; rintro e w1 ⟨rfl, hb1⟩; obtain ⟨hc1, hf1, hz1⟩ := bcell hb1; (try simp only [szs] at hz1); have hb2 := far2; obtain ⟨hc2, hf2, hz2⟩ := bcell hb2; (try simp only [szs] at hz2); try (first | obtain ⟨hy1, hy2, hy3, hy4⟩ := lts4 hz2 | obtain ⟨hy1, hy2, hy3⟩ := lts3 hz2 | obtain ⟨hy1, hy2⟩ := lts2 hz2 | have hy1 := lts1 hz2); have hb9 := hb1) | (go_at_call 53; refine (spec_l01In _ _ _ _).mono ?_; rintro e w' ⟨rfl, rfl⟩))
  go_ret
  exact ⟨ret_bool (netOk_no1 HC.out).symm, bel⟩
 by_cases s0 : (n.bufs.length : Int) = 10 * nodeCount n.mesh.g
 case neg =>
  have e0 : ((n.bufs.length : Int) != 10 * nodeCount n.mesh.g) = true := bne_iff_ne.2 s0
  have S0 := Lib.hid s0
  clear s0
  go_enter Try.func32, Try.ntmps32
  go_wp2_with (first | (go_at_call 28; refine (spec_NodeCount n.mesh.g _).mono ?_; rintro e w1 ⟨rfl, hb1⟩; obtain ⟨hc1, hf1, hz1⟩ := bcell hb1; (try simp only [szs] at hz1); have hb2 := far2; obtain ⟨hc2, hf2, hz2⟩ := bcell hb2; (try simp only [szs] at hz2); try (first | obtain ⟨hy1, hy2, hy3, hy4⟩ := lts4 hz2 | obtain ⟨hy1, hy2, hy3⟩ := lts3 hz2 | obtain ⟨hy1, hy2⟩ := lts2 hz2 | have hy1 := lts1 hz2); have hb9 := hb1) | (go_at_call 27; refine (spec_ClassesOk n.mesh n.pa n.pb a1 a2 a3 _ _ _ _ (by exact Kd.C_below Rbr bel) L1 (by exact Kd.C_below Rpa bel) L2 (by exact Kd.C_below Rpb bel) L3).mono ?_; rintro e w1 ⟨rfl, hb1⟩; obtain ⟨hc1, hf1, hz1⟩ := bcell hb1; (try simp only [szs] at hz1); have hb2 := far2; obtain ⟨hc2, hf2, hz2⟩ := bcell hb2; (try simp only [szs] at hz2); try (first | obtain ⟨hy1, hy2, hy3, hy4⟩ := lts4 hz2 | obtain ⟨hy1, hy2, hy3⟩ := lts3 hz2 | obtain ⟨hy1, hy2⟩ := lts2 hz2 | have hy1 := lts1 hz2); have hb9 := hb1) | (go_at_call 53; refine (spec_l01In _ _ _ _).mono ?_; rintro e w' ⟨rfl, rfl⟩))
  go_ret
  exact ⟨ret_bool (netOk_no2 (shape_no1 S0.out)).symm, bel⟩
 have e0 : ((n.bufs.length : Int) != 10 * nodeCount n.mesh.g) = false := bne_eq_false_iff_eq.2 s0
 have S0 := Lib.hid s0
 have u0 : (n.bufs.length : Int) ≤ 10 * nodeCount n.mesh.g := by omega
 have v0 : 10 * nodeCount n.mesh.g ≤ (n.bufs.length : Int) := by omega
 clear s0
 by_cases s1 : (n.owners.length : Int) = 10 * nodeCount n.mesh.g
 case neg =>
  have e1 : ((n.owners.length : Int) != 10 * nodeCount n.mesh.g) = true := bne_iff_ne.2 s1
  have S1 := Lib.hid s1
  clear s1
  go_enter Try.func32, Try.ntmps32
  go_wp2_with (first | (go_at_call 28; refine (spec_NodeCount n.mesh.g _).mono ?_; rintro e w1 ⟨rfl, hb1⟩; obtain ⟨hc1, hf1, hz1⟩ := bcell hb1; (try simp only [szs] at hz1); have hb2 := far2; obtain ⟨hc2, hf2, hz2⟩ := bcell hb2; (try simp only [szs] at hz2); try (first | obtain ⟨hy1, hy2, hy3, hy4⟩ := lts4 hz2 | obtain ⟨hy1, hy2, hy3⟩ := lts3 hz2 | obtain ⟨hy1, hy2⟩ := lts2 hz2 | have hy1 := lts1 hz2); have hb9 := hb1) | (go_at_call 27; refine (spec_ClassesOk n.mesh n.pa n.pb a1 a2 a3 _ _ _ _ (by exact Kd.C_below Rbr bel) L1 (by exact Kd.C_below Rpa bel) L2 (by exact Kd.C_below Rpb bel) L3).mono ?_; rintro e w1 ⟨rfl, hb1⟩; obtain ⟨hc1, hf1, hz1⟩ := bcell hb1; (try simp only [szs] at hz1); have hb2 := far2; obtain ⟨hc2, hf2, hz2⟩ := bcell hb2; (try simp only [szs] at hz2); try (first | obtain ⟨hy1, hy2, hy3, hy4⟩ := lts4 hz2 | obtain ⟨hy1, hy2, hy3⟩ := lts3 hz2 | obtain ⟨hy1, hy2⟩ := lts2 hz2 | have hy1 := lts1 hz2); have hb9 := hb1) | (go_at_call 53; refine (spec_l01In _ _ _ _).mono ?_; rintro e w' ⟨rfl, rfl⟩))
  go_ret
  exact ⟨ret_bool (netOk_no2 (shape_no2 S1.out)).symm, bel⟩
 have e1 : ((n.owners.length : Int) != 10 * nodeCount n.mesh.g) = false := bne_eq_false_iff_eq.2 s1
 have S1 := Lib.hid s1
 have u1 : (n.owners.length : Int) ≤ 10 * nodeCount n.mesh.g := by omega
 have v1 : 10 * nodeCount n.mesh.g ≤ (n.owners.length : Int) := by omega
 clear s1
 by_cases s2 : (n.turns.length : Int) = 5 * nodeCount n.mesh.g
 case neg =>
  have e2 : ((n.turns.length : Int) != 5 * nodeCount n.mesh.g) = true := bne_iff_ne.2 s2
  have S2 := Lib.hid s2
  clear s2
  go_enter Try.func32, Try.ntmps32
  go_wp2_with (first | (go_at_call 28; refine (spec_NodeCount n.mesh.g _).mono ?_; rintro e w1 ⟨rfl, hb1⟩; obtain ⟨hc1, hf1, hz1⟩ := bcell hb1; (try simp only [szs] at hz1); have hb2 := far2; obtain ⟨hc2, hf2, hz2⟩ := bcell hb2; (try simp only [szs] at hz2); try (first | obtain ⟨hy1, hy2, hy3, hy4⟩ := lts4 hz2 | obtain ⟨hy1, hy2, hy3⟩ := lts3 hz2 | obtain ⟨hy1, hy2⟩ := lts2 hz2 | have hy1 := lts1 hz2); have hb9 := hb1) | (go_at_call 27; refine (spec_ClassesOk n.mesh n.pa n.pb a1 a2 a3 _ _ _ _ (by exact Kd.C_below Rbr bel) L1 (by exact Kd.C_below Rpa bel) L2 (by exact Kd.C_below Rpb bel) L3).mono ?_; rintro e w1 ⟨rfl, hb1⟩; obtain ⟨hc1, hf1, hz1⟩ := bcell hb1; (try simp only [szs] at hz1); have hb2 := far2; obtain ⟨hc2, hf2, hz2⟩ := bcell hb2; (try simp only [szs] at hz2); try (first | obtain ⟨hy1, hy2, hy3, hy4⟩ := lts4 hz2 | obtain ⟨hy1, hy2, hy3⟩ := lts3 hz2 | obtain ⟨hy1, hy2⟩ := lts2 hz2 | have hy1 := lts1 hz2); have hb9 := hb1) | (go_at_call 53; refine (spec_l01In _ _ _ _).mono ?_; rintro e w' ⟨rfl, rfl⟩))
  go_ret
  exact ⟨ret_bool (netOk_no2 (shape_no3 S2.out)).symm, bel⟩
 have e2 : ((n.turns.length : Int) != 5 * nodeCount n.mesh.g) = false := bne_eq_false_iff_eq.2 s2
 have S2 := Lib.hid s2
 have u2 : (n.turns.length : Int) ≤ 5 * nodeCount n.mesh.g := by omega
 have v2 : 5 * nodeCount n.mesh.g ≤ (n.turns.length : Int) := by omega
 clear s2
 by_cases s3 : (n.srcs.length : Int) = nodeCount n.mesh.g
 case neg =>
  have e3 : ((n.srcs.length : Int) != nodeCount n.mesh.g) = true := bne_iff_ne.2 s3
  have S3 := Lib.hid s3
  clear s3
  go_enter Try.func32, Try.ntmps32
  go_wp2_with (first | (go_at_call 28; refine (spec_NodeCount n.mesh.g _).mono ?_; rintro e w1 ⟨rfl, hb1⟩; obtain ⟨hc1, hf1, hz1⟩ := bcell hb1; (try simp only [szs] at hz1); have hb2 := far2; obtain ⟨hc2, hf2, hz2⟩ := bcell hb2; (try simp only [szs] at hz2); try (first | obtain ⟨hy1, hy2, hy3, hy4⟩ := lts4 hz2 | obtain ⟨hy1, hy2, hy3⟩ := lts3 hz2 | obtain ⟨hy1, hy2⟩ := lts2 hz2 | have hy1 := lts1 hz2); have hb9 := hb1) | (go_at_call 27; refine (spec_ClassesOk n.mesh n.pa n.pb a1 a2 a3 _ _ _ _ (by exact Kd.C_below Rbr bel) L1 (by exact Kd.C_below Rpa bel) L2 (by exact Kd.C_below Rpb bel) L3).mono ?_; rintro e w1 ⟨rfl, hb1⟩; obtain ⟨hc1, hf1, hz1⟩ := bcell hb1; (try simp only [szs] at hz1); have hb2 := far2; obtain ⟨hc2, hf2, hz2⟩ := bcell hb2; (try simp only [szs] at hz2); try (first | obtain ⟨hy1, hy2, hy3, hy4⟩ := lts4 hz2 | obtain ⟨hy1, hy2, hy3⟩ := lts3 hz2 | obtain ⟨hy1, hy2⟩ := lts2 hz2 | have hy1 := lts1 hz2); have hb9 := hb1) | (go_at_call 53; refine (spec_l01In _ _ _ _).mono ?_; rintro e w' ⟨rfl, rfl⟩))
  go_ret
  exact ⟨ret_bool (netOk_no2 (shape_no4 S3.out)).symm, bel⟩
 have e3 : ((n.srcs.length : Int) != nodeCount n.mesh.g) = false := bne_eq_false_iff_eq.2 s3
 have S3 := Lib.hid s3
 have u3 : (n.srcs.length : Int) ≤ nodeCount n.mesh.g := by omega
 have v3 : nodeCount n.mesh.g ≤ (n.srcs.length : Int) := by omega
 clear s3
 by_cases s4 : (n.arrs.length : Int) = nodeCount n.mesh.g
 case neg =>
  have e4 : ((n.arrs.length : Int) != nodeCount n.mesh.g) = true := bne_iff_ne.2 s4
  have S4 := Lib.hid s4
  clear s4
  go_enter Try.func32, Try.ntmps32
  go_wp2_with (first | (go_at_call 28; refine (spec_NodeCount n.mesh.g _).mono ?_; rintro e w1 ⟨rfl, hb1⟩; obtain ⟨hc1, hf1, hz1⟩ := bcell hb1; (try simp only [szs] at hz1); have hb2 := far2; obtain ⟨hc2, hf2, hz2⟩ := bcell hb2; (try simp only [szs] at hz2); try (first | obtain ⟨hy1, hy2, hy3, hy4⟩ := lts4 hz2 | obtain ⟨hy1, hy2, hy3⟩ := lts3 hz2 | obtain ⟨hy1, hy2⟩ := lts2 hz2 | have hy1 := lts1 hz2); have hb9 := hb1) | (go_at_call 27; refine (spec_ClassesOk n.mesh n.pa n.pb a1 a2 a3 _ _ _ _ (by exact Kd.C_below Rbr bel) L1 (by exact Kd.C_below Rpa bel) L2 (by exact Kd.C_below Rpb bel) L3).mono ?_; rintro e w1 ⟨rfl, hb1⟩; obtain ⟨hc1, hf1, hz1⟩ := bcell hb1; (try simp only [szs] at hz1); have hb2 := far2; obtain ⟨hc2, hf2, hz2⟩ := bcell hb2; (try simp only [szs] at hz2); try (first | obtain ⟨hy1, hy2, hy3, hy4⟩ := lts4 hz2 | obtain ⟨hy1, hy2, hy3⟩ := lts3 hz2 | obtain ⟨hy1, hy2⟩ := lts2 hz2 | have hy1 := lts1 hz2); have hb9 := hb1) | (go_at_call 53; refine (spec_l01In _ _ _ _).mono ?_; rintro e w' ⟨rfl, rfl⟩))
  go_ret
  exact ⟨ret_bool (netOk_no2 (shape_no5 S4.out)).symm, bel⟩
 have e4 : ((n.arrs.length : Int) != nodeCount n.mesh.g) = false := bne_eq_false_iff_eq.2 s4
 have S4 := Lib.hid s4
 have u4 : (n.arrs.length : Int) ≤ nodeCount n.mesh.g := by omega
 have v4 : nodeCount n.mesh.g ≤ (n.arrs.length : Int) := by omega
 clear s4
 cases tm : inside n.time 0 1000000
 ·have HT := Lib.hid tm
  go_enter Try.func32, Try.ntmps32
  go_wp2_with (first | (go_at_call 28; refine (spec_NodeCount n.mesh.g _).mono ?_; rintro e w1 ⟨rfl, hb1⟩; obtain ⟨hc1, hf1, hz1⟩ := bcell hb1; (try simp only [szs] at hz1); have hb2 := far2; obtain ⟨hc2, hf2, hz2⟩ := bcell hb2; (try simp only [szs] at hz2); try (first | obtain ⟨hy1, hy2, hy3, hy4⟩ := lts4 hz2 | obtain ⟨hy1, hy2, hy3⟩ := lts3 hz2 | obtain ⟨hy1, hy2⟩ := lts2 hz2 | have hy1 := lts1 hz2); have hb9 := hb1) | (go_at_call 27; refine (spec_ClassesOk n.mesh n.pa n.pb a1 a2 a3 _ _ _ _ (by exact Kd.C_below Rbr bel) L1 (by exact Kd.C_below Rpa bel) L2 (by exact Kd.C_below Rpb bel) L3).mono ?_; rintro e w1 ⟨rfl, hb1⟩; obtain ⟨hc1, hf1, hz1⟩ := bcell hb1; (try simp only [szs] at hz1); have hb2 := far2; obtain ⟨hc2, hf2, hz2⟩ := bcell hb2; (try simp only [szs] at hz2); try (first | obtain ⟨hy1, hy2, hy3, hy4⟩ := lts4 hz2 | obtain ⟨hy1, hy2, hy3⟩ := lts3 hz2 | obtain ⟨hy1, hy2⟩ := lts2 hz2 | have hy1 := lts1 hz2); have hb9 := hb1) | (go_at_call 53; refine (spec_l01In _ _ _ _).mono ?_; rintro e w' ⟨rfl, rfl⟩))
  go_ret
  exact ⟨ret_bool (netOk_no7 HT.out).symm, bel⟩
 have HT := Lib.hid tm
 have HSH := Lib.hid (shape_mk S0.out S1.out S2.out S3.out S4.out)
 have HC := Lib.hid hc
 go_enter Try.func32, Try.ntmps32
 go_wp2_with (first | (go_at_call 28; refine (spec_NodeCount n.mesh.g _).mono ?_; rintro e w1 ⟨rfl, hb1⟩; obtain ⟨hc1, hf1, hz1⟩ := bcell hb1; (try simp only [szs] at hz1); have hb2 := far2; obtain ⟨hc2, hf2, hz2⟩ := bcell hb2; (try simp only [szs] at hz2); try (first | obtain ⟨hy1, hy2, hy3, hy4⟩ := lts4 hz2 | obtain ⟨hy1, hy2, hy3⟩ := lts3 hz2 | obtain ⟨hy1, hy2⟩ := lts2 hz2 | have hy1 := lts1 hz2); have hb9 := hb1) | (go_at_call 27; refine (spec_ClassesOk n.mesh n.pa n.pb a1 a2 a3 _ _ _ _ (by exact Kd.C_below Rbr bel) L1 (by exact Kd.C_below Rpa bel) L2 (by exact Kd.C_below Rpb bel) L3).mono ?_; rintro e w1 ⟨rfl, hb1⟩; obtain ⟨hc1, hf1, hz1⟩ := bcell hb1; (try simp only [szs] at hz1); have hb2 := far2; obtain ⟨hc2, hf2, hz2⟩ := bcell hb2; (try simp only [szs] at hz2); try (first | obtain ⟨hy1, hy2, hy3, hy4⟩ := lts4 hz2 | obtain ⟨hy1, hy2, hy3⟩ := lts3 hz2 | obtain ⟨hy1, hy2⟩ := lts2 hz2 | have hy1 := lts1 hz2); have hb9 := hb1) | (go_at_call 53; refine (spec_l01In _ _ _ _).mono ?_; rintro e w' ⟨rfl, rfl⟩))
 go_loopw [4] (fun i wr => ∃ k : Nat, i = .int .i64 k ∧ k ≤ n.bufs.length ∧ Hid (∀ j : Nat, j < k → bufOk n.mesh.g j (rl n.bufs j) = true ∧ inside (ri n.owners j) (-1) 4 = true) ∧ Below (w.alloc (.cells #[.int .i64 n.mesh.g.w, .int .i64 n.mesh.g.h, .slice a1 n.mesh.br.length c1, .slice a2 n.pa.length c2, .slice a3 n.pb.length c3, .slice a4 n.bufs.length c4, .slice a5 n.owners.length c5, .slice a6 n.turns.length c6, .slice a7 n.srcs.length c7, .slice a8 n.arrs.length c8, .int .i64 n.time] 33)).heap.size (w.alloc (.cells #[.int .i64 n.mesh.g.w, .int .i64 n.mesh.g.h, .slice a1 n.mesh.br.length c1, .slice a2 n.pa.length c2, .slice a3 n.pb.length c3, .slice a4 n.bufs.length c4, .slice a5 n.owners.length c5, .slice a6 n.turns.length c6, .slice a7 n.srcs.length c7, .slice a8 n.arrs.length c8, .int .i64 n.time] 33)) wr) (fun i _ => n.bufs.length - (intOf i).toNat)
 case atStart => exact ⟨0, rfl, Nat.zero_le _, Lib.hid fun j h => absurd h (Nat.not_lt_zero _), bel⟩
 case round =>
  obtain ⟨k, rfl, hk, HA, HB⟩ := hrel
  obtain ⟨hcr, hfr, hzr⟩ := bcell HB
  simp only [szs] at hzr
  have yy1 := lts1 hzr
  by_cases hlt : k < n.bufs.length
  ·obtain ⟨b, off, rfl, hb, Ai, ci, p0, hle, hCi⟩ := rdB_at Rbu k hlt
   obtain ⟨z1, z2, z3, z4, z5, z6⟩ := more hb
   have hlo : k < n.owners.length := by omega
   obtain ⟨b5, off5, rfl, hb5, hx5⟩ := rdI_at Row k hlo
   have p5 := hx5 k hlo
   clear hx5
   obtain ⟨z7, z8, z9, z10, z11, z12⟩ := more hb5
   have hki := M9.out _ (rl_mem hlt)
   have i0 : (k : Int) < 10 * nodeCount n.mesh.g := by omega
   have i1 : (k : Int) < (n.bufs.length : Int) := by omega
   have i2 : (k : Int) < (n.owners.length : Int) := by omega
   have i3 : (0 : Int) ≤ (k : Int) := by omega
   by_cases g1 : 3 < (rl n.bufs k).length
   ·have g1' : (3 : Int) < ((rl n.bufs k).length : Int) := by omega
    go_wp2
    go_ret
    exact ⟨ret_bool (netOk_no3 k hlt (bufOk_1 g1)).symm, bel⟩
   have g1' : ¬ (3 : Int) < ((rl n.bufs k).length : Int) := by omega
   cases h3 : areFl n.mesh.g (rl n.bufs k)
   ·have H3 := Lib.hid h3
    go_wp2_with (go_at_call 54; refine (spec_l15Flits n.mesh.g (rl n.bufs k) Ai ci _ (by exact Kd.C_below hCi bel) hki).mono ?_; rintro e w1 ⟨rfl, hb1⟩; obtain ⟨hc1, hf1, hz1⟩ := bcell hb1; (try simp only [szs] at hz1); have hb2 := far2; obtain ⟨hc2, hf2, hz2⟩ := bcell hb2; (try simp only [szs] at hz2); try (first | obtain ⟨hy1, hy2, hy3, hy4⟩ := lts4 hz2 | obtain ⟨hy1, hy2, hy3⟩ := lts3 hz2 | obtain ⟨hy1, hy2⟩ := lts2 hz2 | have hy1 := lts1 hz2); have hb9 := hb1)
    go_ret
    exact ⟨ret_bool (netOk_no3 k hlt (bufOk_3 H3.out)).symm, bel⟩
   have H3 := Lib.hid h3
   cases h5 : inside (ri n.owners k) (-1) 4
   ·have H5 := Lib.hid h5
    go_wp2_with (first | (go_at_call 54; refine (spec_l15Flits n.mesh.g (rl n.bufs k) Ai ci _ (by exact Kd.C_below hCi bel) hki).mono ?_; rintro e w1 ⟨rfl, hb1⟩; obtain ⟨hc1, hf1, hz1⟩ := bcell hb1; (try simp only [szs] at hz1); have hb2 := far2; obtain ⟨hc2, hf2, hz2⟩ := bcell hb2; (try simp only [szs] at hz2); try (first | obtain ⟨hy1, hy2, hy3, hy4⟩ := lts4 hz2 | obtain ⟨hy1, hy2, hy3⟩ := lts3 hz2 | obtain ⟨hy1, hy2⟩ := lts2 hz2 | have hy1 := lts1 hz2); have hb9 := hb1) | (go_at_call 53; refine (spec_l01In _ _ _ _).mono ?_; rintro e w' ⟨rfl, rfl⟩))
    go_ret
    exact ⟨ret_bool (netOk_no5 k hlo H5.out).symm, bel⟩
   have H5 := Lib.hid h5
   go_wp2_with (first | (go_at_call 54; refine (spec_l15Flits n.mesh.g (rl n.bufs k) Ai ci _ (by exact Kd.C_below hCi bel) hki).mono ?_; rintro e w1 ⟨rfl, hb1⟩; obtain ⟨hc1, hf1, hz1⟩ := bcell hb1; (try simp only [szs] at hz1); have hb2 := far2; obtain ⟨hc2, hf2, hz2⟩ := bcell hb2; (try simp only [szs] at hz2); try (first | obtain ⟨hy1, hy2, hy3, hy4⟩ := lts4 hz2 | obtain ⟨hy1, hy2, hy3⟩ := lts3 hz2 | obtain ⟨hy1, hy2⟩ := lts2 hz2 | have hy1 := lts1 hz2); have hb9 := hb1) | (go_at_call 53; refine (spec_l01In _ _ _ _).mono ?_; rintro e w' ⟨rfl, rfl⟩))
   have hb0 := hb2
   clear hb1 hb9
   go_loopw [6] (fun i wr => ∃ x : Nat, i = .int .i64 x ∧ x ≤ (rl n.bufs k).length ∧ Hid (∀ j : Nat, j < x → clsIs k (rl n.bufs k) j) ∧ Below w1.heap.size w1 wr) (fun i _ => (rl n.bufs k).length - (intOf i).toNat)
   case atStart => exact ⟨0, rfl, Nat.zero_le _, Lib.hid fun j h => absurd h (Nat.not_lt_zero _), bw_refl _⟩
   case round =>
    obtain ⟨x, rfl, hx, HX, HBi⟩ := hrel
    obtain ⟨hci, hfi, hzi⟩ := bcell HBi
    by_cases hlx : x < (rl n.bufs k).length
    ·obtain ⟨b7, off7, rfl, hb7, r0, r1, r2, r3, r4⟩ := rdFl_at hCi x hlx
     obtain ⟨z13, z14, z15, z16, z17, z18⟩ := more hb7
     have z19 : b7 < w1.heap.size := by omega
     have z20 : b7 < wr.heap.size := by omega
     have j1 : (x : Int) < ((rl n.bufs k).length : Int) := by omega
     by_cases hq : clsIs k (rl n.bufs k) x
     ·have HQ := Lib.hid hq
      unfold clsIs at hq
      have f2 : ((rf (rl n.bufs k) x).cls != (k : Int) % 2) = false := bne_eq_false_iff_eq.2 (by rw [hq, mod2])
      clear hq
      go_wp2
      go_roundw
      case rel => exact ⟨x + 1, by go_num, by omega, Lib.hid (upto HX.out HQ.out), bel⟩
      case measure => simp [intOf]; omega
     ·have HQ := Lib.hid hq
      unfold clsIs at hq
      have f2 : ((rf (rl n.bufs k) x).cls != (k : Int) % 2) = true := bne_iff_ne.2 (by rw [mod2]; exact hq)
      clear hq
      go_wp2
      go_ret
      exact ⟨ret_bool (netOk_no3 k hlt (bufOk_6 x hlx HQ.out)).symm, bel⟩
    ·have j1 : ¬ (x : Int) < ((rl n.bufs k).length : Int) := by omega
     go_wp2
     go_roundw
     case rel => exact ⟨k + 1, by go_num, by omega, Lib.hid (upto HA.out ⟨bufOk_5 g1 H3.out (fun j hj => HX.out j (by omega)), H5.out⟩), bel⟩
     case measure => simp [intOf]; omega
  ·have i0 : ¬ (k : Int) < 10 * nodeCount n.mesh.g := by omega
   have HBU : Hid (∀ j : Nat, j < n.bufs.length → bufOk n.mesh.g j (rl n.bufs j) = true) := Lib.hid fun j hj => (HA.out j (by omega)).1
   have HOW : Hid (∀ j : Nat, j < n.owners.length → inside (ri n.owners j) (-1) 4 = true) := Lib.hid fun j hj => (HA.out j (by omega)).2
   go_wp2
   go_loopw [7] (fun i wr => ∃ k : Nat, i = .int .i64 k ∧ k ≤ n.turns.length ∧ Hid (∀ j : Nat, j < k → inside (ri n.turns j) 0 9 = true) ∧ Below (w.alloc (.cells #[.int .i64 n.mesh.g.w, .int .i64 n.mesh.g.h, .slice a1 n.mesh.br.length c1, .slice a2 n.pa.length c2, .slice a3 n.pb.length c3, .slice a4 n.bufs.length c4, .slice a5 n.owners.length c5, .slice a6 n.turns.length c6, .slice a7 n.srcs.length c7, .slice a8 n.arrs.length c8, .int .i64 n.time] 33)).heap.size (w.alloc (.cells #[.int .i64 n.mesh.g.w, .int .i64 n.mesh.g.h, .slice a1 n.mesh.br.length c1, .slice a2 n.pa.length c2, .slice a3 n.pb.length c3, .slice a4 n.bufs.length c4, .slice a5 n.owners.length c5, .slice a6 n.turns.length c6, .slice a7 n.srcs.length c7, .slice a8 n.arrs.length c8, .int .i64 n.time] 33)) wr) (fun i _ => n.turns.length - (intOf i).toNat)
   case atStart => exact ⟨0, rfl, Nat.zero_le _, Lib.hid fun j h => absurd h (Nat.not_lt_zero _), bel⟩
   case round =>
    clear HA HB hcr hfr hzr yy1 hlt i0 hk
    obtain ⟨k, rfl, hk, HA, HB⟩ := hrel
    obtain ⟨hcr, hfr, hzr⟩ := bcell HB
    simp only [szs] at hzr
    have yy1 := lts1 hzr
    by_cases hlt : k < n.turns.length
    ·obtain ⟨b, off, rfl, hb, hx⟩ := rdI_at Rtu k hlt
     have p6 := hx k hlt
     clear hx
     obtain ⟨z1, z2, z3, z4, z5, z6⟩ := more hb
     have i0 : (k : Int) < 5 * nodeCount n.mesh.g := by omega
     have i1 : (k : Int) < (n.turns.length : Int) := by omega
     cases h5 : inside (ri n.turns k) 0 9
     ·have H5 := Lib.hid h5
      go_wp2_with (go_at_call 53; refine (spec_l01In _ _ _ _).mono ?_; rintro e w' ⟨rfl, rfl⟩)
      go_ret
      exact ⟨ret_bool (netOk_no6 k hlt H5.out).symm, bel⟩
     ·have H5 := Lib.hid h5
      go_wp2_with (go_at_call 53; refine (spec_l01In _ _ _ _).mono ?_; rintro e w' ⟨rfl, rfl⟩)
      go_roundw
      case rel => exact ⟨k + 1, by go_num, by omega, Lib.hid (upto HA.out H5.out), bel⟩
      case measure => simp [intOf]; omega
    ·have i0 : ¬ (k : Int) < 5 * nodeCount n.mesh.g := by omega
     have HTU : Hid (∀ j : Nat, j < n.turns.length → inside (ri n.turns j) 0 9 = true) := Lib.hid fun j hj => HA.out j (by omega)
     go_wp2
     go_loopw [8] (fun i wr => ∃ k : Nat, i = .int .i64 k ∧ k ≤ n.srcs.length ∧ Hid (∀ j : Nat, j < k → srcOk n.mesh.g (rl n.srcs j) = true) ∧ Below (w.alloc (.cells #[.int .i64 n.mesh.g.w, .int .i64 n.mesh.g.h, .slice a1 n.mesh.br.length c1, .slice a2 n.pa.length c2, .slice a3 n.pb.length c3, .slice a4 n.bufs.length c4, .slice a5 n.owners.length c5, .slice a6 n.turns.length c6, .slice a7 n.srcs.length c7, .slice a8 n.arrs.length c8, .int .i64 n.time] 33)).heap.size (w.alloc (.cells #[.int .i64 n.mesh.g.w, .int .i64 n.mesh.g.h, .slice a1 n.mesh.br.length c1, .slice a2 n.pa.length c2, .slice a3 n.pb.length c3, .slice a4 n.bufs.length c4, .slice a5 n.owners.length c5, .slice a6 n.turns.length c6, .slice a7 n.srcs.length c7, .slice a8 n.arrs.length c8, .int .i64 n.time] 33)) wr) (fun i _ => n.srcs.length - (intOf i).toNat)
     case atStart => exact ⟨0, rfl, Nat.zero_le _, Lib.hid fun j h => absurd h (Nat.not_lt_zero _), bel⟩
     case round =>
      clear HA HB hcr hfr hzr yy1 hlt i0 hk
      obtain ⟨k, rfl, hk, HA, HB⟩ := hrel
      obtain ⟨hcr, hfr, hzr⟩ := bcell HB
      simp only [szs] at hzr
      have yy1 := lts1 hzr
      by_cases hlt : k < n.srcs.length
      ·obtain ⟨b, off, rfl, hb, Ai, ci, p0, hle, hCi⟩ := rdB_at Rso k hlt
       obtain ⟨z1, z2, z3, z4, z5, z6⟩ := more hb
       have hki := M10.out _ (rl_mem hlt)
       have i0 : (k : Int) < nodeCount n.mesh.g := by omega
       have i1 : (k : Int) < (n.srcs.length : Int) := by omega
       have i3 : (0 : Int) ≤ (k : Int) := by omega
       have x0 : (w.alloc (.cells #[.int .i64 n.mesh.g.w, .int .i64 n.mesh.g.h, .slice a1 n.mesh.br.length c1, .slice a2 n.pa.length c2, .slice a3 n.pb.length c3, .slice a4 n.bufs.length c4, .slice a5 n.owners.length c5, .slice a6 n.turns.length c6, .slice (some ⟨b, off, none⟩) n.srcs.length c7, .slice a8 n.arrs.length c8, .int .i64 n.time] 33)).cell? ⟨w.heap.size, 0, none⟩ = some (.int .i64 n.mesh.g.w) := (Box.new w _ #[.int .i64 n.mesh.g.w, .int .i64 n.mesh.g.h, .slice a1 n.mesh.br.length c1, .slice a2 n.pa.length c2, .slice a3 n.pb.length c3, .slice a4 n.bufs.length c4, .slice a5 n.owners.length c5, .slice a6 n.turns.length c6, .slice (some ⟨b, off, none⟩) n.srcs.length c7, .slice a8 n.arrs.length c8, .int .i64 n.time] 33 rfl).get 0
       have x1 : (w.alloc (.cells #[.int .i64 n.mesh.g.w, .int .i64 n.mesh.g.h, .slice a1 n.mesh.br.length c1, .slice a2 n.pa.length c2, .slice a3 n.pb.length c3, .slice a4 n.bufs.length c4, .slice a5 n.owners.length c5, .slice a6 n.turns.length c6, .slice (some ⟨b, off, none⟩) n.srcs.length c7, .slice a8 n.arrs.length c8, .int .i64 n.time] 33)).cell? ⟨w.heap.size, 1, none⟩ = some (.int .i64 n.mesh.g.h) := (Box.new w _ #[.int .i64 n.mesh.g.w, .int .i64 n.mesh.g.h, .slice a1 n.mesh.br.length c1, .slice a2 n.pa.length c2, .slice a3 n.pb.length c3, .slice a4 n.bufs.length c4, .slice a5 n.owners.length c5, .slice a6 n.turns.length c6, .slice (some ⟨b, off, none⟩) n.srcs.length c7, .slice a8 n.arrs.length c8, .int .i64 n.time] 33 rfl).get 1
       have x7 : (w.alloc (.cells #[.int .i64 n.mesh.g.w, .int .i64 n.mesh.g.h, .slice a1 n.mesh.br.length c1, .slice a2 n.pa.length c2, .slice a3 n.pb.length c3, .slice a4 n.bufs.length c4, .slice a5 n.owners.length c5, .slice a6 n.turns.length c6, .slice (some ⟨b, off, none⟩) n.srcs.length c7, .slice a8 n.arrs.length c8, .int .i64 n.time] 33)).cell? ⟨w.heap.size, 8, none⟩ = some (.slice (some ⟨b, off, none⟩) n.srcs.length c7) := (Box.new w _ #[.int .i64 n.mesh.g.w, .int .i64 n.mesh.g.h, .slice a1 n.mesh.br.length c1, .slice a2 n.pa.length c2, .slice a3 n.pb.length c3, .slice a4 n.bufs.length c4, .slice a5 n.owners.length c5, .slice a6 n.turns.length c6, .slice (some ⟨b, off, none⟩) n.srcs.length c7, .slice a8 n.arrs.length c8, .int .i64 n.time] 33 rfl).get 8
       by_cases g1 : 60 < (rl n.srcs k).length
       ·have g1' : (60 : Int) < ((rl n.srcs k).length : Int) := by omega
        go_wp2_with fail
        refine wp_region_far ((w.alloc (.cells #[.int .i64 n.mesh.g.w, .int .i64 n.mesh.g.h, .slice a1 n.mesh.br.length c1, .slice a2 n.pa.length c2, .slice a3 n.pb.length c3, .slice a4 n.bufs.length c4, .slice a5 n.owners.length c5, .slice a6 n.turns.length c6, .slice (some ⟨b, off, none⟩) n.srcs.length c7, .slice a8 n.arrs.length c8, .int .i64 n.time] 33))) (by kernel_rfl) (by kernel_rfl) bel ?_
        have hqc := far_cell ((w.alloc (.cells #[.int .i64 n.mesh.g.w, .int .i64 n.mesh.g.h, .slice a1 n.mesh.br.length c1, .slice a2 n.pa.length c2, .slice a3 n.pb.length c3, .slice a4 n.bufs.length c4, .slice a5 n.owners.length c5, .slice a6 n.turns.length c6, .slice (some ⟨b, off, none⟩) n.srcs.length c7, .slice a8 n.arrs.length c8, .int .i64 n.time] 33)))
        have hqf := far_frozen ((w.alloc (.cells #[.int .i64 n.mesh.g.w, .int .i64 n.mesh.g.h, .slice a1 n.mesh.br.length c1, .slice a2 n.pa.length c2, .slice a3 n.pb.length c3, .slice a4 n.bufs.length c4, .slice a5 n.owners.length c5, .slice a6 n.turns.length c6, .slice (some ⟨b, off, none⟩) n.srcs.length c7, .slice a8 n.arrs.length c8, .int .i64 n.time] 33)))
        repeat (first | go_big_quiet_step (fail) | quiet_step (fail))
        refine wpQuiet_nil ?_
        intro wq hbq
        clear hqc hqf
        obtain ⟨hcq, hfq, hzq⟩ := bcell hbq
        try simp only [szs] at hzq
        go_wp2
        go_ret
        exact ⟨ret_bool (netOk_no4 k hlt (srcOk_1 g1)).symm, bel⟩
       have g1' : ¬ (60 : Int) < ((rl n.srcs k).length : Int) := by omega
       cases h3 : areFl n.mesh.g (rl n.srcs k)
       ·have H3 := Lib.hid h3
        go_wp2_with fail
        refine wp_region_far ((w.alloc (.cells #[.int .i64 n.mesh.g.w, .int .i64 n.mesh.g.h, .slice a1 n.mesh.br.length c1, .slice a2 n.pa.length c2, .slice a3 n.pb.length c3, .slice a4 n.bufs.length c4, .slice a5 n.owners.length c5, .slice a6 n.turns.length c6, .slice (some ⟨b, off, none⟩) n.srcs.length c7, .slice a8 n.arrs.length c8, .int .i64 n.time] 33))) (by kernel_rfl) (by kernel_rfl) bel ?_
        have hqc := far_cell ((w.alloc (.cells #[.int .i64 n.mesh.g.w, .int .i64 n.mesh.g.h, .slice a1 n.mesh.br.length c1, .slice a2 n.pa.length c2, .slice a3 n.pb.length c3, .slice a4 n.bufs.length c4, .slice a5 n.owners.length c5, .slice a6 n.turns.length c6, .slice (some ⟨b, off, none⟩) n.srcs.length c7, .slice a8 n.arrs.length c8, .int .i64 n.time] 33)))
        have hqf := far_frozen ((w.alloc (.cells #[.int .i64 n.mesh.g.w, .int .i64 n.mesh.g.h, .slice a1 n.mesh.br.length c1, .slice a2 n.pa.length c2, .slice a3 n.pb.length c3, .slice a4 n.bufs.length c4, .slice a5 n.owners.length c5, .slice a6 n.turns.length c6, .slice (some ⟨b, off, none⟩) n.srcs.length c7, .slice a8 n.arrs.length c8, .int .i64 n.time] 33)))
        repeat (first | go_big_quiet_step (first | (go_at_call 54; exact far_call (Calls.says (spec_l15Flits n.mesh.g (rl n.srcs k) Ai ci _ (by exact Kd.C_below (by exact Kd.C_below hCi bel) (Far.h _)) hki) (congrArg Value.bool H3.out)))) | quiet_step (first | (go_at_call 54; exact far_call (Calls.says (spec_l15Flits n.mesh.g (rl n.srcs k) Ai ci _ (by exact Kd.C_below (by exact Kd.C_below hCi bel) (Far.h _)) hki) (congrArg Value.bool H3.out)))))
        refine wpQuiet_nil ?_
        intro wq hbq
        clear hqc hqf
        obtain ⟨hcq, hfq, hzq⟩ := bcell hbq
        try simp only [szs] at hzq
        go_wp2
        go_ret
        exact ⟨ret_bool (netOk_no4 k hlt (srcOk_2 H3.out)).symm, bel⟩
       ·have H3 := Lib.hid h3
        go_wp2_with fail
        refine wp_region_far ((w.alloc (.cells #[.int .i64 n.mesh.g.w, .int .i64 n.mesh.g.h, .slice a1 n.mesh.br.length c1, .slice a2 n.pa.length c2, .slice a3 n.pb.length c3, .slice a4 n.bufs.length c4, .slice a5 n.owners.length c5, .slice a6 n.turns.length c6, .slice (some ⟨b, off, none⟩) n.srcs.length c7, .slice a8 n.arrs.length c8, .int .i64 n.time] 33))) (by kernel_rfl) (by kernel_rfl) bel ?_
        have hqc := far_cell ((w.alloc (.cells #[.int .i64 n.mesh.g.w, .int .i64 n.mesh.g.h, .slice a1 n.mesh.br.length c1, .slice a2 n.pa.length c2, .slice a3 n.pb.length c3, .slice a4 n.bufs.length c4, .slice a5 n.owners.length c5, .slice a6 n.turns.length c6, .slice (some ⟨b, off, none⟩) n.srcs.length c7, .slice a8 n.arrs.length c8, .int .i64 n.time] 33)))
        have hqf := far_frozen ((w.alloc (.cells #[.int .i64 n.mesh.g.w, .int .i64 n.mesh.g.h, .slice a1 n.mesh.br.length c1, .slice a2 n.pa.length c2, .slice a3 n.pb.length c3, .slice a4 n.bufs.length c4, .slice a5 n.owners.length c5, .slice a6 n.turns.length c6, .slice (some ⟨b, off, none⟩) n.srcs.length c7, .slice a8 n.arrs.length c8, .int .i64 n.time] 33)))
        repeat (first | go_big_quiet_step (first | (go_at_call 54; exact far_call (Calls.says (spec_l15Flits n.mesh.g (rl n.srcs k) Ai ci _ (by exact Kd.C_below (by exact Kd.C_below hCi bel) (Far.h _)) hki) (congrArg Value.bool H3.out)))) | quiet_step (first | (go_at_call 54; exact far_call (Calls.says (spec_l15Flits n.mesh.g (rl n.srcs k) Ai ci _ (by exact Kd.C_below (by exact Kd.C_below hCi bel) (Far.h _)) hki) (congrArg Value.bool H3.out)))))
        refine wpQuiet_nil ?_
        intro wq hbq
        clear hqc hqf
        obtain ⟨hcq, hfq, hzq⟩ := bcell hbq
        try simp only [szs] at hzq
        go_wp2
        go_roundw
        case rel => exact ⟨k + 1, by go_num, by omega, Lib.hid (upto HA.out (srcOk_3 g1 H3.out)), bel⟩
        case measure => simp [intOf]; omega
      ·have i0 : ¬ (k : Int) < nodeCount n.mesh.g := by omega
       have HE := Lib.hid (netOk_eq HC.out HSH.out HBU.out (fun j hj => HA.out j (by omega)))
       go_wp2
       go_ret
       exact ⟨ret_bool (by rw [HE.out, allI_true HOW.out, allI_true HTU.out, HT.out]; rfl), bel⟩
def Blk (W : World) (b : Nat) (t : TypeId) (cs : Array Value) : Prop := W.heap[b]? = some (.cells cs t (0, 0))
theorem Blk.lt {W : World} {b : Nat} {t : TypeId} {cs : Array Value} (h : Blk W b t cs) : b < W.heap.size := (Array.getElem?_eq_some_iff.1 h).1
theorem Blk.cell {W : World} {b : Nat} {t : TypeId} {cs : Array Value} (h : Blk W b t cs) (o : Nat) : W.cell? ⟨b, o, none⟩ = cs[o]? := by
  unfold World.cell?
  rw [show W.heap[b]? = _ from h]
  rfl
theorem Blk.frozen {W : World} {b : Nat} {t : TypeId} {cs : Array Value} (h : Blk W b t cs) (o : Nat) : W.frozen? ⟨b, o, none⟩ = false := by
  unfold World.frozen?
  rw [show W.heap[b]? = _ from h]
  simp
theorem Blk.new (W : World) (b : Nat) (t : TypeId) (cs : Array Value) (hb : b = W.heap.size) : Blk (W.alloc (.cells cs t)) b t cs := by
  subst hb
  exact (show (W.heap.push _)[W.heap.size]? = _ from Array.getElem?_push_size)
theorem Blk.below {W W1 : World} {b : Nat} {t : TypeId} {cs : Array Value} (h : Blk W b t cs) (hb : Below W.heap.size W W1) : Blk W1 b t cs := (hb.block b h.lt).trans h
theorem Blk.grown {W W1 : World} {b : Nat} {t : TypeId} {cs : Array Value} {row : Option Nat} (h : Blk W b t cs) (hg : W.grownBy W1 row) (hne : some b ≠ row) : Blk W1 b t cs := (hg.block b h.lt hne).trans h
theorem Blk.set {W : World} {b : Nat} {t : TypeId} {cs : Array Value} (h : Blk W b t cs) (i : Nat) (v : Value) : Blk (W.setCell ⟨b, i, none⟩ v) b t (cs.setIfInBounds i v) := by
  show (W.heap.modify b _)[b]? = _
  have hlt := h.lt
  have h2 : W.heap[b]? = some (.cells cs t (0, 0)) := h
  rw [Array.getElem?_eq_getElem hlt] at h2
  injection h2 with h2
  rw [Array.getElem?_eq_getElem (by rw [Array.size_modify]; exact hlt), Array.getElem_modify_self, h2]
  rfl
def uCells (us : List Bool) : Array Value := (us.map Value.bool).toArray
theorem uCells_get {us : List Bool} {o : Nat} (h : o < us.length) : (uCells us)[o]? = some (.bool (us.getD o false)) := by
  simp [uCells, h, List.getD_eq_getElem?_getD]
def UB (t : TypeId) (w : World) (gm : Nat) (us : List Bool) : Prop := us.length = 5 ∧ Blk w gm t (uCells us)
theorem UB.cell {t : TypeId} {w : World} {gm : Nat} {us : List Bool} (h : UB t w gm us) {x : Int} (h0 : 0 ≤ x) (h9 : x ≤ 9) : w.cell? ⟨gm, (x / 2).toNat, none⟩ = some (.bool (usedAt us x)) := by
  rw [h.2.cell, uCells_get (by have := h.1; omega)]
  rfl
theorem UB.below {t : TypeId} {w w1 : World} {gm : Nat} {us : List Bool} (h : UB t w gm us) (hb : Below w.heap.size w w1) : UB t w1 gm us := ⟨h.1, h.2.below hb⟩
theorem UB.grown {t : TypeId} {w w1 : World} {gm : Nat} {us : List Bool} {row : Option Nat} (h : UB t w gm us) (hg : w.grownBy w1 row) (hne : some gm ≠ row) : UB t w1 gm us := ⟨h.1, h.2.grown hg hne⟩

section
variable {ops : Array Oper} {rest : List Oper} {o : Oper} {a : Act} {Q : Exit → Act → World → Prop}
end
structure SV where
  q : NA
  v4 : List Value
  v7 : List Value
  v8 : List Value
  vg : Value
  vt : Value
  ve : Value
  vm : Value
  gs : List Grant
  ts : List Int
  es : List Int
  ms : List Flit
section
variable {w0 w w1 : World} {lo bx : Nat} {n0 : Net} {s : SV} {x : Net}
theorem Below.cut {B C : Nat} {w w1 : World} (h : Below C w w1) (hB : B ≤ C) : Below B w w1 := ⟨h.os, h.tape, h.output, h.size, fun i hi => h.block i (by omega)⟩
theorem Below.grownRow {B : Nat} {w w1 w2 : World} {v : Value} (h : Below B w w1) (hg : w1.grownBy w2 v.ownBlock) (hB : B ≤ w1.heap.size) (hv : ∀ k, v.ownBlock = some k → B ≤ k) : Below B w w2 := h.grown hg hB hv
theorem below_setc {B : Nat} {w w1 : World} (h : Below B w w1) {g : Nat} (hg : B ≤ g) (o : Nat) (u : Value) : Below B w (w1.setCell ⟨g, o, none⟩ u) := h.setCell hg _
end
section
variable {ops : Array Oper} {rest : List Oper} {o : Oper} {a : Act} {Q : Exit → Act → World → Prop}
theorem app_Fg {B : Nat} {W : World} (hgd : o.guard = none) (s x : Operand)
    (ho : o.op = .call { callee := .builtin .append, args := #[s, x], argTypes := #[67, 67] })
    (v : Value) (xs : List Flit) (q : Flit) (hs : a.eval s = v) (hx : a.eval x = .slice (some ⟨W.heap.size, 0, none⟩) 1 1)
    (HO : kF.R 77 W B (fun _ => True) v xs) (hB : B ≤ W.heap.size) (hl : xs.length ≤ 100000000)
    (h : ∀ v1 w1, kF.R 77 w1 B (fun _ => True) v1 (xs ++ [q]) → W.grownBy w1 v.ownBlock → Anew W v1 v → wpList Try.prog ops Q rest (a.put o.dst v1) w1) :
    wpList Try.prog ops Q (o :: rest) a (W.alloc (.cells #[.int .i64 q.pk, .int .i64 q.dst, .int .i64 q.cls, .bool q.head, .bool q.tail] 77)) :=
  Kd.R_append (P := Try.prog) kF (w0 := W) B hgd s x 67 77 (.agg #[.int .i64 0, .int .i64 0, .int .i64 0, .bool false, .bool false]) 32 ho Try.underlying67 info_F rfl (by decide) (by omega) v xs q (fCells q) (fun _ => True) (fun _ => False) hs hx rfl (fun _ h => h.elim) (fun _ _ => trivial) HO (Below.refl _ _) hB (by omega) (fun v1 w1 h1 _ h3 h4 => h v1 w1 h1 h3 (.inr h4))
end
structure Lens (n x : Net) : Prop where
  b : x.bufs.length = n.bufs.length
  o : x.owners.length = n.owners.length
  t : x.turns.length = n.turns.length
  s : x.srcs.length = n.srcs.length
  a : x.arrs.length = n.arrs.length
theorem Lens.push {n x : Net} (h : Lens n x) (m : Net) (g : Grant) : Lens n (pushG m x g) := by
  unfold pushG
  split <;> exact ⟨by simp [h.b], by simp [h.o], by simp [h.t], by simp [h.s], by simp [h.a]⟩
theorem BlkT.grown {w w1 : World} {g lo : Nat} {v : Value} {y : List Flit} (h : BlkT w g 67) (hg : w.grownBy w1 v.ownBlock) (hr : kF.R 77 w lo (fun _ => True) v y) : BlkT w1 g 67 := by
  obtain ⟨cs, hc⟩ := h
  obtain ⟨inner, hin⟩ := Kd.R_own hr
  exact ⟨cs, blk_grown hc hg (own_ne hin hc (by decide))⟩
section
variable {ops : Array Oper} {o : Oper} {a : Act} {Kc : Act → World → Prop} {Q' : Exit → Act → World → Prop}
end
theorem Lens.enter {n m : Net} : ∀ (ks : List Int) (x : Net), Lens n x → Lens n (enterL m x ks) := by
  intro ks
  induction ks with
  | nil => intro x h; exact h
  | cons a ks ih => intro x h; exact ih _ ⟨by simp [enterB, h.b], h.o, h.t, by simp [enterB, h.s], h.a⟩
theorem own_facts7 {w : World} {lo g j c len : Nat} {x : Net} {q : NA} {v4 u7 v8 : List Value} {A : Option Addr} (h : NX w lo x q v4 u7 v8) (ea : q.a7 = some ⟨g, 0, none⟩) (hj : j < x.srcs.length) (hv : vr u7 j = .slice A len c) : w.cell? ⟨g, j, none⟩ = some (.slice A len c) ∧ w.frozen? ⟨g, j, none⟩ = false := by
  have h4 := h.srcs
  rw [ea] at h4
  have := own_cell h4 hj
  rw [hv] at this
  exact this
theorem lens_ok {n : Net} (ok : netOk n = true) : 0 < n.bufs.length ∧ 0 < n.owners.length ∧ 0 < n.turns.length ∧ 0 < n.srcs.length ∧ 0 < n.arrs.length := by
  obtain ⟨h0, h1, h2, h3, h4, h5, _⟩ := netOk_parts ok
  have := sized_count (classesOk_sized h0).1
  omega
end Go.Proofs.Ytmkbmddgkdoaiaa
namespace NoC
end NoC
namespace Go.Proofs.Ytmkbmddgkdoaiaa
open Go.RowKit Go.Proofs.YtmkbmddgkdoaiaaW.PrintWords
open NoC
def flitAt (p : Packet) (k : Nat) : Flit := ⟨p.id, p.dst, p.cls, (k : Int) == 0, (k : Int) == p.len - 1⟩
def flitsTo (p : Packet) (k : Nat) : List Flit := (List.range k).map (flitAt p)
theorem flitsTo_succ (p : Packet) (k : Nat) : flitsTo p (k + 1) = flitsTo p k ++ [flitAt p k] := by simp [flitsTo, List.range_succ]
theorem flitsTo_len (p : Packet) (k : Nat) : (flitsTo p k).length = k := by simp [flitsTo]
theorem flitsOf_yes {g : Grid} {p : Packet} (h : packetOk g p = true) : flitsOf g p = flitsTo p p.len.toNat := by
  unfold flitsOf flitsTo
  rw [if_pos h]
  apply List.map_congr_left
  intro i _
  have e : (i == 0) = ((i : Int) == 0) := by
    by_cases h0 : i = 0
    · subst h0; rfl
    · rw [beq_eq_false_iff_ne.2 h0, beq_eq_false_iff_ne.2 (by omega)]
  unfold flitAt
  rw [e]
theorem flitsOf_no {g : Grid} {p : Packet} (h : packetOk g p = false) : flitsOf g p = [] := by
  unfold flitsOf
  rw [if_neg (by simp [h])]
theorem packet_parts {g : Grid} {p : Packet} (h : packetOk g p = true) : isNode g p.src = true ∧ isNode g p.dst = true ∧ 0 ≤ p.cls ∧ p.cls ≤ 1 ∧ 1 ≤ p.len ∧ p.len ≤ 5 := by
  simp only [packetOk, Bool.and_eq_true] at h
  have h1 := inside_iff.1 h.1.2
  have h2 := inside_iff.1 h.2
  exact ⟨h.1.1.1.1.2, h.1.1.1.2, h1.1, h1.2, h2.1, h2.2⟩
theorem flitsOf_len {g : Grid} {p : Packet} (h : packetOk g p = true) : ((flitsOf g p).length : Int) = p.len := by
  rw [flitsOf_yes h, flitsTo_len]
  have := packet_parts h
  omega
set_option maxHeartbeats 4000000 in
theorem impl_FlitsOf (g : Grid) (p : Packet) (w : World) : Calls Try.prog 65 #[.agg #[.int .i64 g.w, .int .i64 g.h], .agg #[.int .i64 p.id, .int .i64 p.src, .int .i64 p.dst, .int .i64 p.cls, .int .i64 p.len]] w fun e w' => GotF w w' (flitsOf g p) e ∧ Below w.heap.size w w' := by
  cases hk : packetOk g p
  · have HE := Lib.hid (flitsOf_no hk)
    rw [HE.out]
    have HL0 : Hid (kF.R 77 (((w.alloc (.cells #[.int .i64 g.w, .int .i64 g.h] 23)).alloc (.cells #[.int .i64 p.id, .int .i64 p.src, .int .i64 p.dst, .int .i64 p.cls, .int .i64 p.len] 44)).alloc (.cells #[] 77)) w.heap.size (fun _ => True) (.slice (some ⟨w.heap.size + 1 + 1, 0, none⟩) 0 0) []) := Lib.hid (R_lit kF (lit_new (by simp only [szs])) (by omega))
    go_enter Try.func65, Try.ntmps65
    go_wp2_with (go_at_call 76; refine (impl_PacketOk g p _).mono ?_; rintro e w1 ⟨he, hb1⟩; rw [hk] at he; subst he; obtain ⟨hc1, hf1, hz1⟩ := bcell hb1; (try simp only [szs] at hz1); have hb2 := far2; obtain ⟨hc2, hf2, hz2⟩ := bcell hb2; (try simp only [szs] at hz2); try (first | obtain ⟨hy1, hy2, hy3, hy4⟩ := lts4 hz2 | obtain ⟨hy1, hy2, hy3⟩ := lts3 hz2 | obtain ⟨hy1, hy2⟩ := lts2 hz2 | have hy1 := lts1 hz2); have hb9 := hb1)
    go_ret
    exact ⟨⟨_, rfl, Kd.R_below HL0.out hb1⟩, bel⟩
  · have HE := Lib.hid (flitsOf_yes hk)
    obtain ⟨_, _, _, _, n1, n5⟩ := packet_parts hk
    rw [HE.out]
    obtain ⟨N, hN⟩ : ∃ N : Nat, p.len = (N : Int) := ⟨p.len.toNat, by omega⟩
    have HN : Hid (p.len.toNat = N) := Lib.hid (by rw [hN]; exact Int.toNat_natCast N)
    have HLN := Lib.hid hN
    have N5 : N ≤ 5 := by omega
    clear hN
    rw [HN.out]
    have XP : Hid (Box (((w.alloc (.cells #[.int .i64 g.w, .int .i64 g.h] 23)).alloc (.cells #[.int .i64 p.id, .int .i64 p.src, .int .i64 p.dst, .int .i64 p.cls, .int .i64 p.len] 44)).alloc (.cells #[] 77)) (w.heap.size + 1) #[.int .i64 p.id, .int .i64 p.src, .int .i64 p.dst, .int .i64 p.cls, .int .i64 p.len]) := Lib.hid ((Box.new _ _ _ _ (by simp only [szs])).alloc _)
    go_enter Try.func65, Try.ntmps65
    go_wp2_with fail
    refine (impl_PacketOk g p _).mono ?_
    rintro e w1 ⟨he, hb1⟩
    rw [hk] at he
    subst he
    have HB1 : Hid (Below w.heap.size w w1) := Lib.hid bel
    have HR1 : Hid (kF.R 77 w1 (w.heap.size + 2) (fun _ => True) (.slice (some ⟨w.heap.size + 2, 0, none⟩) 0 0) []) := Lib.hid (Kd.R_below (R_lit kF (lit_new (by simp only [szs])) (Nat.le_refl _)) hb1)
    have HX1 := Lib.hid (XP.out.below hb1)
    have x4 : w1.cell? ⟨w.heap.size + 1, 4, none⟩ = some (.int .i64 p.len) := HX1.out.get 4
    have xl := HX1.out.lt
    clear hb1 XP hk
    go_wp2_with fail
    go_loopw [5, 15] (fun v i wr => ∃ k : Nat, i = .int .i64 k ∧ k ≤ N ∧ Hid (kF.R 77 wr (w.heap.size + 2) (fun _ => True) v (flitsTo p k)) ∧ Hid (Box wr (w.heap.size + 1) #[.int .i64 p.id, .int .i64 p.src, .int .i64 p.dst, .int .i64 p.cls, .int .i64 p.len]) ∧ Hid (Below w.heap.size w wr)) (fun _ i _ => N - (intOf i).toNat)
    case atStart => exact ⟨0, rfl, Nat.zero_le _, Lib.hid HR1.out, Lib.hid HX1.out, Lib.hid HB1.out⟩
    case round =>
      clear HR1 HX1 HB1 x4 xl
      obtain ⟨k, rfl, hk, HO, HX, HB⟩ := hrel
      obtain ⟨wk, ewk⟩ : ∃ z, z = wr := ⟨_, rfl⟩
      subst ewk
      have xl := HX.out.lt
      have ll := flitsTo_len p k
      have hL : (flitsTo p k).length ≤ 100 := by omega
      obtain ⟨L, eL⟩ : ∃ L, flitsTo p k = L := ⟨_, rfl⟩
      have HS : Hid (flitsTo p (k + 1) = L ++ [flitAt p k]) := Lib.hid (by rw [flitsTo_succ, eL])
      have HL : Hid (flitsTo p k = L) := Lib.hid eL
      rw [eL] at HO hL
      clear ll eL
      obtain ⟨Av, cv, rfl⟩ := Kd.R_slice HO.out
      have x0 : wk.cell? ⟨w.heap.size + 1, 0, none⟩ = some (.int .i64 p.id) := HX.out.get 0
      have x2 : wk.cell? ⟨w.heap.size + 1, 2, none⟩ = some (.int .i64 p.dst) := HX.out.get 2
      have x3 : wk.cell? ⟨w.heap.size + 1, 3, none⟩ = some (.int .i64 p.cls) := HX.out.get 3
      have x4 : wk.cell? ⟨w.heap.size + 1, 4, none⟩ = some (.int .i64 p.len) := HX.out.get 4
      have zk := HB.out.size
      by_cases hlt : k < N
      · have hk1 : (k : Int) < p.len := by have := HLN.out; omega
        have k0 : (0 : Int) ≤ (k : Int) := by omega
        have hB2 : w.heap.size + 2 ≤ wk.heap.size := by omega
        go_wp2_with (at_builtin; refine app_Fg (B := w.heap.size + 2) rfl (.tmp 18) (.tmp 33) rfl _ L (flitAt p k) rfl (by first | rfl | exact congrArg (fun z => Value.slice (some ⟨z, 0, none⟩) 1 1) (World.size_alloc _ _).symm) HO.out hB2 (by omega) ?_; intro v1 w3 HO1 hg1 ha1)
        go_roundw
        case rel => exact ⟨k + 1, by go_num, by omega, Lib.hid (by rw [HS.out]; exact HO1), Lib.hid (HX.out.grown hg1 (fun e => by have := Kd.R_base HO.out _ e.symm; omega)), Lib.hid (HB.out.grown hg1 HB.out.size (fun i hi => by have := Kd.R_base HO.out i hi; omega))⟩
        case measure => simp [intOf]; omega
      · obtain rfl : k = N := by omega
        have hk1 : ¬ (k : Int) < p.len := by have := HLN.out; omega
        have h9 : kF.R 77 wk (w.heap.size + 2) (fun _ => True) (.slice Av L.length cv) (flitsTo p k) := by rw [HL.out]; exact HO.out
        go_wp2
        go_ret
        exact ⟨⟨_, rfl, Kd.R_lower h9 (by omega)⟩, HB.out⟩
set_option maxHeartbeats 4000000 in
theorem spec_FlitsOf (g : Grid) (p : Packet) (w : World) : Calls Try.prog 70 #[.agg #[.int .i64 g.w, .int .i64 g.h], .agg #[.int .i64 p.id, .int .i64 p.src, .int .i64 p.dst, .int .i64 p.cls, .int .i64 p.len]] w fun e w' => GotF w w' (flitsOf g p) e ∧ Below w.heap.size w w' := by
 have XP : Hid (Box (((w.alloc (.cells #[.int .i64 g.w, .int .i64 g.h] 23)).alloc (.cells #[.int .i64 p.id, .int .i64 p.src, .int .i64 p.dst, .int .i64 p.cls, .int .i64 p.len] 44)).alloc (.cells #[] 77)) (w.heap.size + 1) #[.int .i64 p.id, .int .i64 p.src, .int .i64 p.dst, .int .i64 p.cls, .int .i64 p.len]) := Lib.hid ((Box.new _ _ _ _ (by simp only [szs])).alloc _)
 have XG : Hid (Box (((w.alloc (.cells #[.int .i64 g.w, .int .i64 g.h] 23)).alloc (.cells #[.int .i64 p.id, .int .i64 p.src, .int .i64 p.dst, .int .i64 p.cls, .int .i64 p.len] 44)).alloc (.cells #[] 77)) w.heap.size #[.int .i64 g.w, .int .i64 g.h]) := Lib.hid (((Box.new _ _ _ _ rfl).alloc _).alloc _)
 have HB1 : Hid (Below w.heap.size w (((w.alloc (.cells #[.int .i64 g.w, .int .i64 g.h] 23)).alloc (.cells #[.int .i64 p.id, .int .i64 p.src, .int .i64 p.dst, .int .i64 p.cls, .int .i64 p.len] 44)).alloc (.cells #[] 77))) := Lib.hid bel
 have HR1 : Hid (kF.R 77 (((w.alloc (.cells #[.int .i64 g.w, .int .i64 g.h] 23)).alloc (.cells #[.int .i64 p.id, .int .i64 p.src, .int .i64 p.dst, .int .i64 p.cls, .int .i64 p.len] 44)).alloc (.cells #[] 77)) (w.heap.size + 2) (fun _ => True) (.slice (some ⟨w.heap.size + 2, 0, none⟩) 0 0) []) := Lib.hid (R_lit kF (lit_new (by simp only [szs])) (Nat.le_refl _))
 obtain ⟨N, hN⟩ : ∃ N : Nat, N = if packetOk g p = true then p.len.toNat else 0 := ⟨_, rfl⟩
 have HE : Hid (flitsOf g p = flitsTo p N) := Lib.hid (by
  rw [hN]
  cases hk : packetOk g p
  ·rw [flitsOf_no hk]; rfl
  ·rw [flitsOf_yes hk]; rfl)
 have HP : Hid (packetOk g p = true → p.len = (N : Int) ∧ N ≤ 5) := Lib.hid (fun h => by
  have := packet_parts h
  rw [hN, if_pos h]
  omega)
 have HQ : Hid (packetOk g p = false → N = 0) := Lib.hid (fun h => by rw [hN, if_neg (by simp [h])])
 clear hN
 rw [HE.out]
 go_enter Try.func70, Try.ntmps70
 go_wp2_with fail
 go_loopw [5, 6] (fun v i wr => ∃ k : Nat, i = .int .i64 k ∧ k ≤ N ∧ Hid (kF.R 77 wr (w.heap.size + 2) (fun _ => True) v (flitsTo p k)) ∧ Hid (Box wr (w.heap.size + 1) #[.int .i64 p.id, .int .i64 p.src, .int .i64 p.dst, .int .i64 p.cls, .int .i64 p.len]) ∧ Hid (Box wr w.heap.size #[.int .i64 g.w, .int .i64 g.h]) ∧ Hid (Below w.heap.size w wr)) (fun _ i _ => N - (intOf i).toNat)
 case atStart => exact ⟨0, rfl, Nat.zero_le _, Lib.hid HR1.out, Lib.hid XP.out, Lib.hid XG.out, Lib.hid HB1.out⟩
 case round =>
  clear HR1 XP XG HB1
  obtain ⟨k, rfl, hk, HO, HX, HG, HB⟩ := hrel
  obtain ⟨wk, ewk⟩ : ∃ z, z = wr := ⟨_, rfl⟩
  subst ewk
  have xl := HX.out.lt
  have gl := HG.out.lt
  have ll := flitsTo_len p k
  obtain ⟨L, eL⟩ : ∃ L, flitsTo p k = L := ⟨_, rfl⟩
  have HS : Hid (flitsTo p (k + 1) = L ++ [flitAt p k]) := Lib.hid (by rw [flitsTo_succ, eL])
  have HL : Hid (flitsTo p k = L) := Lib.hid eL
  have hL : L.length = k := by rw [← eL]; exact ll
  rw [eL] at HO
  clear ll eL
  obtain ⟨Av, cv, rfl⟩ := Kd.R_slice HO.out
  have x0 : wk.cell? ⟨w.heap.size + 1, 0, none⟩ = some (.int .i64 p.id) := HX.out.get 0
  have x1 : wk.cell? ⟨w.heap.size + 1, 1, none⟩ = some (.int .i64 p.src) := HX.out.get 1
  have x2 : wk.cell? ⟨w.heap.size + 1, 2, none⟩ = some (.int .i64 p.dst) := HX.out.get 2
  have x3 : wk.cell? ⟨w.heap.size + 1, 3, none⟩ = some (.int .i64 p.cls) := HX.out.get 3
  have x4 : wk.cell? ⟨w.heap.size + 1, 4, none⟩ = some (.int .i64 p.len) := HX.out.get 4
  have g0 : wk.cell? ⟨w.heap.size, 0, none⟩ = some (.int .i64 g.w) := HG.out.get 0
  have g1 : wk.cell? ⟨w.heap.size, 1, none⟩ = some (.int .i64 g.h) := HG.out.get 1
  have zk := HB.out.size
  have HLL := Lib.hid hL
  clear hL
  have h9 : Hid (kF.R 77 wk (w.heap.size + 2) (fun _ => True) (.slice Av L.length cv) (flitsTo p k)) := Lib.hid (by rw [HL.out]; exact HO.out)
  cases hk2 : packetOk g p
  ·obtain rfl : N = 0 := HQ.out hk2
   obtain rfl : k = 0 := by omega
   by_cases hl : 0 < p.len
   ·have hl2 : ((0 : Nat) : Int) < p.len := by simpa using hl
    go_wp2_with fail
    refine (spec_PacketOk g p _).mono ?_
    rintro e w5 ⟨he, hb5⟩
    rw [hk2] at he
    subst he
    go_wp2
    go_ret
    exact ⟨⟨_, rfl, Kd.R_lower (Kd.R_below h9.out hb5) (by omega)⟩, bw_then HB.out hb5⟩
   ·have hl2 : ¬ ((0 : Nat) : Int) < p.len := by simpa using hl
    go_wp2
    go_ret
    exact ⟨⟨_, rfl, Kd.R_lower h9.out (by omega)⟩, HB.out⟩
  ·obtain ⟨hlen, N5⟩ := HP.out hk2
   have HLN := Lib.hid hlen
   clear hlen
   by_cases hlt : k < N
   ·have hk1 : (k : Int) < p.len := by have := HLN.out; omega
    have k0 : (0 : Int) ≤ (k : Int) := by omega
    have l5 : p.len ≤ 5 := by have := HLN.out; omega
    go_wp2_with fail
    refine (spec_PacketOk g p _).mono ?_
    rintro e w5 ⟨he, hb5⟩
    rw [hk2] at he
    subst he
    have HO5 := Lib.hid (Kd.R_below HO.out hb5)
    have HX5 := Lib.hid (HX.out.below hb5)
    have HG5 := Lib.hid (HG.out.below hb5)
    have HB5 : Hid (Below w.heap.size w w5) := Lib.hid (bw_then HB.out hb5)
    have zk5 := HB5.out.size
    have y0 : w5.cell? ⟨w.heap.size + 1, 0, none⟩ = some (.int .i64 p.id) := HX5.out.get 0
    have y2 : w5.cell? ⟨w.heap.size + 1, 2, none⟩ = some (.int .i64 p.dst) := HX5.out.get 2
    have y3 : w5.cell? ⟨w.heap.size + 1, 3, none⟩ = some (.int .i64 p.cls) := HX5.out.get 3
    have y4 : w5.cell? ⟨w.heap.size + 1, 4, none⟩ = some (.int .i64 p.len) := HX5.out.get 4
    have yl := HX5.out.lt
    have hB2 : w.heap.size + 2 ≤ w5.heap.size := by omega
    have hL100 : L.length ≤ 100 := by have := HLL.out; omega
    clear hb5 x0 x1 x2 x3 x4 g0 g1 hk2
    go_wp2_with (at_builtin; refine app_Fg (B := w.heap.size + 2) rfl (.tmp 19) (.tmp 34) rfl _ L (flitAt p k) rfl (by first | rfl | exact congrArg (fun z => Value.slice (some ⟨z, 0, none⟩) 1 1) (World.size_alloc _ _).symm) HO5.out hB2 (by omega) ?_; intro v1 w3 HO1 hg1 ha1)
    go_roundw
    case rel => exact ⟨k + 1, by go_num, by omega, Lib.hid (by rw [HS.out]; exact HO1), Lib.hid (HX5.out.grown hg1 (fun e => by have := Kd.R_base HO5.out _ e.symm; omega)), Lib.hid (HG5.out.grown hg1 (fun e => by have := Kd.R_base HO5.out _ e.symm; omega)), Lib.hid (HB5.out.grown hg1 HB5.out.size (fun i hi => by have := Kd.R_base HO5.out i hi; omega))⟩
    case measure => simp [intOf]; omega
   ·obtain rfl : k = N := by omega
    have hk1 : ¬ (k : Int) < p.len := by have := HLN.out; omega
    go_wp2
    go_ret
    exact ⟨⟨_, rfl, Kd.R_lower h9.out (by omega)⟩, HB.out⟩
end Go.Proofs.Ytmkbmddgkdoaiaa
namespace Go.Proofs.Ytmkbmddgkdoaiaa
open NoC
def sendOk (n : Net) (p : Packet) : Bool := packetOk n.mesh.g p && decide (((rl n.srcs p.src).length : Int) + p.len ≤ 60)
def sendN (n : Net) (p : Packet) : Net := { n with srcs := n.srcs.set p.src.toNat (rl n.srcs p.src ++ flitsOf n.mesh.g p) }
def sndN (n : Net) (p : Packet) : Net := if sendOk n p = true then sendN n p else n
theorem flits_ok {g : Grid} {p : Packet} (h : packetOk g p = true) : areFl g (flitsOf g p) = true := by
  obtain ⟨_, h2, h3, h4, _, _⟩ := packet_parts h
  rw [flitsOf_yes h]
  unfold areFl flitsTo
  rw [List.all_eq_true]
  intro f hf
  obtain ⟨i, _, rfl⟩ := List.mem_map.1 hf
  simp only [flitOk, flitAt, Bool.and_eq_true]
  exact ⟨h2, inside_iff.2 ⟨h3, h4⟩⟩
theorem sendN_ok {n : Net} {p : Packet} (ok : netOk n = true) (h : sendOk n p = true) : netOk (sendN n p) = true := by
  obtain ⟨c, s1, s2, s3, s4, s5, hb, hs, ho, hu, hm⟩ := netOk_parts ok
  simp only [sendOk, Bool.and_eq_true, decide_eq_true_eq] at h
  obtain ⟨hp, hl⟩ := h
  have hfl := flitsOf_len hp
  rw [inside_iff] at hm
  simp only [netOk, shapeOk, Bool.and_eq_true, decide_eq_true_eq, allI_iff]
  have el : (sendN n p).srcs.length = n.srcs.length := by simp [sendN]
  rw [el]
  refine ⟨⟨⟨⟨⟨⟨c, ⟨⟨⟨⟨s1, s2⟩, s3⟩, s4⟩, s5⟩⟩, hb⟩, fun i hi => ?_⟩, fun i hi => ho i hi⟩, fun i hi => hu i hi⟩, inside_iff.2 hm⟩
  have h1 := hs i hi
  have nd := isNode_iff.1 (packet_parts hp).1
  show srcOk n.mesh.g (rl (n.srcs.set p.src.toNat (rl n.srcs p.src ++ flitsOf n.mesh.g p)) i) = true
  by_cases e : p.src.toNat = i
  · have e2 : rl (n.srcs.set p.src.toNat (rl n.srcs p.src ++ flitsOf n.mesh.g p)) i = rl n.srcs p.src ++ flitsOf n.mesh.g p := by
      simp [rl, List.getD_eq_getElem?_getD, e, hi]
    have e3 : rl n.srcs p.src = rl n.srcs (i : Int) := by unfold rl; rw [e, Int.toNat_natCast]
    rw [e2, e3]
    rw [e3] at hl
    simp only [srcOk, areFl, Bool.and_eq_true, decide_eq_true_eq, List.all_append] at h1 ⊢
    have h2 := flits_ok hp
    unfold areFl at h2
    refine ⟨?_, h1.2, h2⟩
    rw [List.length_append]
    omega
  · have e2 : rl (n.srcs.set p.src.toNat (rl n.srcs p.src ++ flitsOf n.mesh.g p)) i = rl n.srcs i := by
      simp [rl, List.getD_eq_getElem?_getD, e]
    rw [e2]
    exact h1
theorem sndN_ok {n : Net} {p : Packet} (ok : netOk n = true) : netOk (sndN n p) = true := by
  unfold sndN
  split
  · rename_i h; exact sendN_ok ok h
  · exact ok
theorem sndN_nb {n : Net} {p : Packet} (nb : NB n) (ok : netOk n = true) : NB (sndN n p) := by
  unfold sndN
  split
  · rename_i h
    obtain ⟨_, _, _, _, _, _, _, hs, _⟩ := netOk_parts (sendN_ok ok h)
    refine ⟨nb.h1, nb.h2, nb.h3, nb.h4, nb.h5, nb.h6, by show (n.srcs.set _ _).length ≤ _; rw [List.length_set]; exact nb.h7, nb.h8, nb.h9, fun x hx => ?_, nb.h11⟩
    obtain ⟨i, hi, e⟩ : ∃ i : Nat, i < (sendN n p).srcs.length ∧ rl (sendN n p).srcs i = x := by
      obtain ⟨i, hi, rfl⟩ := List.getElem_of_mem hx
      exact ⟨i, hi, by simp [rl, List.getD_eq_getElem?_getD, hi]⟩
    have h1 := hs i hi
    rw [e] at h1
    simp only [srcOk, Bool.and_eq_true, decide_eq_true_eq] at h1
    omega
  · exact nb
def sndTo (n : Net) (l : List Packet) : Nat → Net
  | 0 => n
  | k + 1 => sndN (sndTo n l k) (rp l k)
def cntTo (n : Net) (l : List Packet) : Nat → Int
  | 0 => 0
  | k + 1 => cntTo n l k + (if sendOk (sndTo n l k) (rp l k) = true then 1 else 0)
theorem sndTo_ok {n : Net} (ok : netOk n = true) (l : List Packet) : ∀ k, netOk (sndTo n l k) = true := by
  intro k
  induction k with
  | zero => exact ok
  | succ k ih => exact sndN_ok ih
theorem sndTo_nb {n : Net} (nb : NB n) (ok : netOk n = true) (l : List Packet) : ∀ k, NB (sndTo n l k) := by
  intro k
  induction k with
  | zero => exact nb
  | succ k ih => exact sndN_nb ih (sndTo_ok ok l k)
theorem cntTo_range (n : Net) (l : List Packet) : ∀ k : Nat, 0 ≤ cntTo n l k ∧ cntTo n l k ≤ (k : Int) := by
  intro k
  induction k with
  | zero => simp [cntTo]
  | succ k ih =>
    simp only [cntTo]
    split <;> omega
def canAll (n : Net) (l : List Packet) : Bool := netOk n && decide (l.length ≤ 40)
def sendAllN (n : Net) (l : List Packet) : Net := if canAll n l = true then sndTo n l l.length else n
def sendAllK (n : Net) (l : List Packet) : Int := if canAll n l = true then cntTo n l l.length else -1
def sendPacketN (n : Net) (p : Packet) : Net := if netOk n = true then sndN n p else n
def sendPacketB (n : Net) (p : Packet) : Bool := netOk n && sendOk n p
theorem sendAll_nb {n : Net} {l : List Packet} (nb : NB n) : NB (sendAllN n l) := by
  unfold sendAllN
  split
  · rename_i h
    simp only [canAll, Bool.and_eq_true] at h
    exact sndTo_nb nb h.1 l _
  · exact nb
def newN (m : Mesh) (pa pb : List Int) : Net :=
  { mesh := m, pa := pa, pb := pb, bufs := List.replicate (10 * (nodeCount m.g).toNat) [], owners := List.replicate (10 * (nodeCount m.g).toNat) (-1), turns := List.replicate (5 * (nodeCount m.g).toNat) 0, srcs := List.replicate (nodeCount m.g).toNat [], arrs := List.replicate (nodeCount m.g).toNat [], time := 0 }
def zeroN : Net := ⟨⟨⟨0, 0⟩, []⟩, [], [], [], [], [], [], [], 0⟩
def netNewN (m : Mesh) (pa pb : List Int) : Net := if classesOk m pa pb = true then newN m pa pb else zeroN
theorem rl_replicate (k : Nat) (i : Int) : rl (List.replicate k []) i = [] := by
  unfold rl
  rw [List.getD_eq_getElem?_getD, List.getElem?_replicate]
  split <;> rfl
theorem newN_nb {m : Mesh} {pa pb : List Int} (h1 : m.br.length ≤ 2097152) (h2 : pa.length ≤ 2097152) (h3 : pb.length ≤ 2097152) : NB (newN m pa pb) := by
  have hc := count_le m.g
  have hr : ∀ k : Nat, ∀ x ∈ (List.replicate k ([] : List Flit)), x.length ≤ 2097152 := fun k x hx => by rw [(List.mem_replicate.1 hx).2]; simp
  refine ⟨h1, h2, h3, ?_, ?_, ?_, ?_, ?_, hr _, hr _, hr _⟩ <;> simp only [newN, List.length_replicate] <;> omega
theorem zeroN_nb : NB zeroN := by
  refine ⟨?_, ?_, ?_, ?_, ?_, ?_, ?_, ?_, fun x hx => ?_, fun x hx => ?_, fun x hx => ?_⟩ <;> simp_all [zeroN]
theorem netNew_nb {m : Mesh} {pa pb : List Int} (h1 : m.br.length ≤ 2097152) (h2 : pa.length ≤ 2097152) (h3 : pb.length ≤ 2097152) : NB (netNewN m pa pb) := by
  unfold netNewN
  split
  · exact newN_nb h1 h2 h3
  · exact zeroN_nb
end Go.Proofs.Ytmkbmddgkdoaiaa
