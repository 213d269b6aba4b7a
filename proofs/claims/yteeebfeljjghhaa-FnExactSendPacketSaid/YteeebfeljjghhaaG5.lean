/- Lemmas for laws of this seat, for all inputs: NetOkI ReqI ReqJ NetOkS ReqS GrD GrI StW CpW. -/
import Derived.Test.YteeebfeljjghhaaG4
import Derived.IntWalk
import Derived.Lib.SliceRun
import Derived.Test.YteeebfeljjghhaaG3
import Derived.ArgAppend
import Derived.Deep.Upon
/- Valid networks: both sides come to netOk; for all networks whose rows hold at most a million entries each. -/
set_option linter.unusedVariables false
set_option linter.unusedSimpArgs false
namespace Go.Proofs.Yteeebfeljjghhaa
open Go.RowKit Go.Proofs.YteeebfeljjghhaaW.PrintWords
open NoC

theorem bufOk_1 {g : Grid} {i : Nat} {l : List Flit} (h : 3 < l.length) : bufOk g i l = false := by
  simp [bufOk]; omega
theorem bufOk_2 {g : Grid} {i : Nat} {l : List Flit} (h : ¬ (clsOnly l ((i % 2 : Nat) : Int)).length = l.length) : bufOk g i l = false := by
  have h2 := clsOnly_len l ((i % 2 : Nat) : Int)
  rw [beq_eq_false_iff_ne.2 h] at h2
  simp only [bufOk, ← h2, Bool.and_false, Bool.false_and]
theorem bufOk_3 {g : Grid} {i : Nat} {l : List Flit} (h : areFl g l = false) : bufOk g i l = false := by simp [bufOk, h]
theorem bufOk_4 {g : Grid} {i : Nat} {l : List Flit} (h1 : ¬ 3 < l.length) (h2 : (clsOnly l ((i % 2 : Nat) : Int)).length = l.length) (h3 : areFl g l = true) : bufOk g i l = true := by
  have h4 := clsOnly_len l ((i % 2 : Nat) : Int)
  rw [beq_iff_eq.2 h2] at h4
  simp only [bufOk, ← h4, h3, Bool.and_true, decide_eq_true_eq]
  omega
theorem srcOk_1 {g : Grid} {l : List Flit} (h : 60 < l.length) : srcOk g l = false := by
  simp [srcOk]; omega
theorem srcOk_2 {g : Grid} {l : List Flit} (h : areFl g l = false) : srcOk g l = false := by simp [srcOk, h]
theorem srcOk_3 {g : Grid} {l : List Flit} (h1 : ¬ 60 < l.length) (h : areFl g l = true) : srcOk g l = true := by
  simp only [srcOk, h, Bool.and_true, decide_eq_true_eq]
  omega
theorem mod2 (k : Nat) : ((k : Int) % 2) = ((k % 2 : Nat) : Int) := by omega
theorem netOk_eq {n : Net} (hc : classesOk n.mesh n.pa n.pb = true) (hs : shapeOk n = true) (hb : ∀ j : Nat, j < n.bufs.length → bufOk n.mesh.g j (rl n.bufs j) = true) (hr : ∀ j : Nat, j < n.srcs.length → srcOk n.mesh.g (rl n.srcs j) = true) :
    netOk n = (allI n.owners.length (fun i => inside (ri n.owners i) (-1) 4) && allI n.turns.length (fun i => inside (ri n.turns i) 0 9) && inside n.time 0 1000000) := by
  simp only [netOk, hc, hs, allI_true hb, allI_true hr, Bool.true_and]
theorem shape_mk {n : Net} (s1 : (n.bufs.length : Int) = 10 * nodeCount n.mesh.g) (s2 : (n.owners.length : Int) = 10 * nodeCount n.mesh.g) (s3 : (n.turns.length : Int) = 5 * nodeCount n.mesh.g) (s4 : (n.srcs.length : Int) = nodeCount n.mesh.g) (s5 : (n.arrs.length : Int) = nodeCount n.mesh.g) : shapeOk n = true := by
  simp only [shapeOk, s1, s2, s3, s4, s5, decide_true, Bool.and_true]
theorem netOk_no1 {n : Net} (h : classesOk n.mesh n.pa n.pb = false) : netOk n = false := by simp [netOk, h]
theorem netOk_no2 {n : Net} (h : shapeOk n = false) : netOk n = false := by simp [netOk, h]
theorem netOk_no3 {n : Net} (k : Nat) (hk : k < n.bufs.length) (h : bufOk n.mesh.g k (rl n.bufs k) = false) : netOk n = false := by simp [netOk, allI_false (p := fun (i : Nat) => bufOk n.mesh.g i (rl n.bufs i)) k hk h]
theorem netOk_no4 {n : Net} (k : Nat) (hk : k < n.srcs.length) (h : srcOk n.mesh.g (rl n.srcs k) = false) : netOk n = false := by simp [netOk, allI_false (p := fun (i : Nat) => srcOk n.mesh.g (rl n.srcs i)) k hk h]
theorem shape_no1 {n : Net} (h : ¬ (n.bufs.length : Int) = 10 * nodeCount n.mesh.g) : shapeOk n = false := by simp [shapeOk, h]
theorem shape_no2 {n : Net} (h : ¬ (n.owners.length : Int) = 10 * nodeCount n.mesh.g) : shapeOk n = false := by simp [shapeOk, h]
theorem shape_no3 {n : Net} (h : ¬ (n.turns.length : Int) = 5 * nodeCount n.mesh.g) : shapeOk n = false := by simp [shapeOk, h]
theorem shape_no4 {n : Net} (h : ¬ (n.srcs.length : Int) = nodeCount n.mesh.g) : shapeOk n = false := by simp [shapeOk, h]
theorem shape_no5 {n : Net} (h : ¬ (n.arrs.length : Int) = nodeCount n.mesh.g) : shapeOk n = false := by simp [shapeOk, h]

set_option maxHeartbeats 8000000 in
set_option maxRecDepth 100000 in
theorem impl_NetOk (n : Net) (q : NA) (w : World) (hr : NetR 83 w n q) : Calls Try.prog 25 #[.agg (netCells n q)] w fun e w' => e = .returned (.bool (netOk n)) ∧ Below w.heap.size w w' := by
 obtain ⟨a1, a2, a3, a4, a5, a6, a7, a8, c1, c2, c3, c4, c5, c6, c7, c8⟩ := q; obtain ⟨Rbr, Rpa, Rpb, Rbu, Row, Rtu, Rso, Rar, L1, L2, L3, L4, L5, L6, L7, L8, L9, L10, L11⟩ := hr; have M9 := Lib.hid L9; have M10 := Lib.hid L10; have M11 := Lib.hid L11; clear L9 L10 L11; dsimp only [netCells] at *
 obtain ⟨n0, n1⟩ := count_le n.mesh.g
 cases hc : classesOk n.mesh n.pa n.pb
 ·have HC := Lib.hid hc
  go_enter Try.func25, Try.ntmps25
  go_wp2_with (first | (go_at_call 56; refine (impl_NodeCount n.mesh.g _).mono ?_; rintro e w1 ⟨rfl, hb1⟩; obtain ⟨hc1, hf1, hz1⟩ := bcell hb1; (try simp only [szs] at hz1); have hb2 := (by first | exact bw_then hb2 hb1 | exact bw_then (bw_drewN _ hb2) hb1 | exact bw_then (bw_alloc _ hb2) hb1 | exact bw_then (bw_drew hb2) hb1 | exact bw_then HB hb1 | exact bw_then (bw_drewN _ HB) hb1 | exact bw_then (bw_alloc _ HB) hb1 | exact bw_then (bw_drew HB) hb1 | exact hb1); obtain ⟨hc2, hf2, hz2⟩ := bcell hb2; (try simp only [szs] at hz2); try (first | obtain ⟨hy1, hy2, hy3, hy4⟩ := lts4 hz2 | obtain ⟨hy1, hy2, hy3⟩ := lts3 hz2 | obtain ⟨hy1, hy2⟩ := lts2 hz2 | have hy1 := lts1 hz2); have hb9 := hb1) | (go_at_call 57; refine (impl_ClassesOk n.mesh n.pa n.pb a1 a2 a3 _ _ _ _ (by exact Kd.C_below Rbr bel) L1 (by exact Kd.C_below Rpa bel) L2 (by exact Kd.C_below Rpb bel) L3).mono ?_; rintro e w1 ⟨rfl, hb1⟩; obtain ⟨hc1, hf1, hz1⟩ := bcell hb1; (try simp only [szs] at hz1); have hb2 := (by first | exact bw_then hb2 hb1 | exact bw_then (bw_drewN _ hb2) hb1 | exact bw_then (bw_alloc _ hb2) hb1 | exact bw_then (bw_drew hb2) hb1 | exact bw_then HB hb1 | exact bw_then (bw_drewN _ HB) hb1 | exact bw_then (bw_alloc _ HB) hb1 | exact bw_then (bw_drew HB) hb1 | exact hb1); obtain ⟨hc2, hf2, hz2⟩ := bcell hb2; (try simp only [szs] at hz2); try (first | obtain ⟨hy1, hy2, hy3, hy4⟩ := lts4 hz2 | obtain ⟨hy1, hy2, hy3⟩ := lts3 hz2 | obtain ⟨hy1, hy2⟩ := lts2 hz2 | have hy1 := lts1 hz2); have hb9 := hb1))
  go_ret
  exact ⟨ret_bool (netOk_no1 HC.out).symm, bel⟩
 by_cases s0 : (n.bufs.length : Int) = 10 * nodeCount n.mesh.g
 case neg =>
  have e0 : ((n.bufs.length : Int) != 10 * nodeCount n.mesh.g) = true := bne_iff_ne.2 s0
  have S0 := Lib.hid s0
  clear s0
  go_enter Try.func25, Try.ntmps25
  go_wp2_with (first | (go_at_call 56; refine (impl_NodeCount n.mesh.g _).mono ?_; rintro e w1 ⟨rfl, hb1⟩; obtain ⟨hc1, hf1, hz1⟩ := bcell hb1; (try simp only [szs] at hz1); have hb2 := (by first | exact bw_then hb2 hb1 | exact bw_then (bw_drewN _ hb2) hb1 | exact bw_then (bw_alloc _ hb2) hb1 | exact bw_then (bw_drew hb2) hb1 | exact bw_then HB hb1 | exact bw_then (bw_drewN _ HB) hb1 | exact bw_then (bw_alloc _ HB) hb1 | exact bw_then (bw_drew HB) hb1 | exact hb1); obtain ⟨hc2, hf2, hz2⟩ := bcell hb2; (try simp only [szs] at hz2); try (first | obtain ⟨hy1, hy2, hy3, hy4⟩ := lts4 hz2 | obtain ⟨hy1, hy2, hy3⟩ := lts3 hz2 | obtain ⟨hy1, hy2⟩ := lts2 hz2 | have hy1 := lts1 hz2); have hb9 := hb1) | (go_at_call 57; refine (impl_ClassesOk n.mesh n.pa n.pb a1 a2 a3 _ _ _ _ (by exact Kd.C_below Rbr bel) L1 (by exact Kd.C_below Rpa bel) L2 (by exact Kd.C_below Rpb bel) L3).mono ?_; rintro e w1 ⟨rfl, hb1⟩; obtain ⟨hc1, hf1, hz1⟩ := bcell hb1; (try simp only [szs] at hz1); have hb2 := (by first | exact bw_then hb2 hb1 | exact bw_then (bw_drewN _ hb2) hb1 | exact bw_then (bw_alloc _ hb2) hb1 | exact bw_then (bw_drew hb2) hb1 | exact bw_then HB hb1 | exact bw_then (bw_drewN _ HB) hb1 | exact bw_then (bw_alloc _ HB) hb1 | exact bw_then (bw_drew HB) hb1 | exact hb1); obtain ⟨hc2, hf2, hz2⟩ := bcell hb2; (try simp only [szs] at hz2); try (first | obtain ⟨hy1, hy2, hy3, hy4⟩ := lts4 hz2 | obtain ⟨hy1, hy2, hy3⟩ := lts3 hz2 | obtain ⟨hy1, hy2⟩ := lts2 hz2 | have hy1 := lts1 hz2); have hb9 := hb1))
  go_ret
  exact ⟨ret_bool (netOk_no2 (shape_no1 S0.out)).symm, bel⟩
 have e0 : ((n.bufs.length : Int) != 10 * nodeCount n.mesh.g) = false := bne_eq_false_iff_eq.2 s0
 have S0 := Lib.hid s0
 have u0 : (n.bufs.length : Int) ≤ 10 * nodeCount n.mesh.g := by omega
 have v0 : 10 * nodeCount n.mesh.g ≤ (n.bufs.length : Int) := by omega
 clear s0
 by_cases s1 : (n.owners.length : Int) = 10 * nodeCount n.mesh.g
 case neg =>
  have e1 : ((n.owners.length : Int) != 10 * nodeCount n.mesh.g) = true := bne_iff_ne.2 s1
  have S1 := Lib.hid s1
  clear s1
  go_enter Try.func25, Try.ntmps25
  go_wp2_with (first | (go_at_call 56; refine (impl_NodeCount n.mesh.g _).mono ?_; rintro e w1 ⟨rfl, hb1⟩; obtain ⟨hc1, hf1, hz1⟩ := bcell hb1; (try simp only [szs] at hz1); have hb2 := (by first | exact bw_then hb2 hb1 | exact bw_then (bw_drewN _ hb2) hb1 | exact bw_then (bw_alloc _ hb2) hb1 | exact bw_then (bw_drew hb2) hb1 | exact bw_then HB hb1 | exact bw_then (bw_drewN _ HB) hb1 | exact bw_then (bw_alloc _ HB) hb1 | exact bw_then (bw_drew HB) hb1 | exact hb1); obtain ⟨hc2, hf2, hz2⟩ := bcell hb2; (try simp only [szs] at hz2); try (first | obtain ⟨hy1, hy2, hy3, hy4⟩ := lts4 hz2 | obtain ⟨hy1, hy2, hy3⟩ := lts3 hz2 | obtain ⟨hy1, hy2⟩ := lts2 hz2 | have hy1 := lts1 hz2); have hb9 := hb1) | (go_at_call 57; refine (impl_ClassesOk n.mesh n.pa n.pb a1 a2 a3 _ _ _ _ (by exact Kd.C_below Rbr bel) L1 (by exact Kd.C_below Rpa bel) L2 (by exact Kd.C_below Rpb bel) L3).mono ?_; rintro e w1 ⟨rfl, hb1⟩; obtain ⟨hc1, hf1, hz1⟩ := bcell hb1; (try simp only [szs] at hz1); have hb2 := (by first | exact bw_then hb2 hb1 | exact bw_then (bw_drewN _ hb2) hb1 | exact bw_then (bw_alloc _ hb2) hb1 | exact bw_then (bw_drew hb2) hb1 | exact bw_then HB hb1 | exact bw_then (bw_drewN _ HB) hb1 | exact bw_then (bw_alloc _ HB) hb1 | exact bw_then (bw_drew HB) hb1 | exact hb1); obtain ⟨hc2, hf2, hz2⟩ := bcell hb2; (try simp only [szs] at hz2); try (first | obtain ⟨hy1, hy2, hy3, hy4⟩ := lts4 hz2 | obtain ⟨hy1, hy2, hy3⟩ := lts3 hz2 | obtain ⟨hy1, hy2⟩ := lts2 hz2 | have hy1 := lts1 hz2); have hb9 := hb1))
  go_ret
  exact ⟨ret_bool (netOk_no2 (shape_no2 S1.out)).symm, bel⟩
 have e1 : ((n.owners.length : Int) != 10 * nodeCount n.mesh.g) = false := bne_eq_false_iff_eq.2 s1
 have S1 := Lib.hid s1
 have u1 : (n.owners.length : Int) ≤ 10 * nodeCount n.mesh.g := by omega
 have v1 : 10 * nodeCount n.mesh.g ≤ (n.owners.length : Int) := by omega
 clear s1
 by_cases s2 : (n.turns.length : Int) = 5 * nodeCount n.mesh.g
 case neg =>
  have e2 : ((n.turns.length : Int) != 5 * nodeCount n.mesh.g) = true := bne_iff_ne.2 s2
  have S2 := Lib.hid s2
  clear s2
  go_enter Try.func25, Try.ntmps25
  go_wp2_with (first | (go_at_call 56; refine (impl_NodeCount n.mesh.g _).mono ?_; rintro e w1 ⟨rfl, hb1⟩; obtain ⟨hc1, hf1, hz1⟩ := bcell hb1; (try simp only [szs] at hz1); have hb2 := (by first | exact bw_then hb2 hb1 | exact bw_then (bw_drewN _ hb2) hb1 | exact bw_then (bw_alloc _ hb2) hb1 | exact bw_then (bw_drew hb2) hb1 | exact bw_then HB hb1 | exact bw_then (bw_drewN _ HB) hb1 | exact bw_then (bw_alloc _ HB) hb1 | exact bw_then (bw_drew HB) hb1 | exact hb1); obtain ⟨hc2, hf2, hz2⟩ := bcell hb2; (try simp only [szs] at hz2); try (first | obtain ⟨hy1, hy2, hy3, hy4⟩ := lts4 hz2 | obtain ⟨hy1, hy2, hy3⟩ := lts3 hz2 | obtain ⟨hy1, hy2⟩ := lts2 hz2 | have hy1 := lts1 hz2); have hb9 := hb1) | (go_at_call 57; refine (impl_ClassesOk n.mesh n.pa n.pb a1 a2 a3 _ _ _ _ (by exact Kd.C_below Rbr bel) L1 (by exact Kd.C_below Rpa bel) L2 (by exact Kd.C_below Rpb bel) L3).mono ?_; rintro e w1 ⟨rfl, hb1⟩; obtain ⟨hc1, hf1, hz1⟩ := bcell hb1; (try simp only [szs] at hz1); have hb2 := (by first | exact bw_then hb2 hb1 | exact bw_then (bw_drewN _ hb2) hb1 | exact bw_then (bw_alloc _ hb2) hb1 | exact bw_then (bw_drew hb2) hb1 | exact bw_then HB hb1 | exact bw_then (bw_drewN _ HB) hb1 | exact bw_then (bw_alloc _ HB) hb1 | exact bw_then (bw_drew HB) hb1 | exact hb1); obtain ⟨hc2, hf2, hz2⟩ := bcell hb2; (try simp only [szs] at hz2); try (first | obtain ⟨hy1, hy2, hy3, hy4⟩ := lts4 hz2 | obtain ⟨hy1, hy2, hy3⟩ := lts3 hz2 | obtain ⟨hy1, hy2⟩ := lts2 hz2 | have hy1 := lts1 hz2); have hb9 := hb1))
  go_ret
  exact ⟨ret_bool (netOk_no2 (shape_no3 S2.out)).symm, bel⟩
 have e2 : ((n.turns.length : Int) != 5 * nodeCount n.mesh.g) = false := bne_eq_false_iff_eq.2 s2
 have S2 := Lib.hid s2
 have u2 : (n.turns.length : Int) ≤ 5 * nodeCount n.mesh.g := by omega
 have v2 : 5 * nodeCount n.mesh.g ≤ (n.turns.length : Int) := by omega
 clear s2
 by_cases s3 : (n.srcs.length : Int) = nodeCount n.mesh.g
 case neg =>
  have e3 : ((n.srcs.length : Int) != nodeCount n.mesh.g) = true := bne_iff_ne.2 s3
  have S3 := Lib.hid s3
  clear s3
  go_enter Try.func25, Try.ntmps25
  go_wp2_with (first | (go_at_call 56; refine (impl_NodeCount n.mesh.g _).mono ?_; rintro e w1 ⟨rfl, hb1⟩; obtain ⟨hc1, hf1, hz1⟩ := bcell hb1; (try simp only [szs] at hz1); have hb2 := (by first | exact bw_then hb2 hb1 | exact bw_then (bw_drewN _ hb2) hb1 | exact bw_then (bw_alloc _ hb2) hb1 | exact bw_then (bw_drew hb2) hb1 | exact bw_then HB hb1 | exact bw_then (bw_drewN _ HB) hb1 | exact bw_then (bw_alloc _ HB) hb1 | exact bw_then (bw_drew HB) hb1 | exact hb1); obtain ⟨hc2, hf2, hz2⟩ := bcell hb2; (try simp only [szs] at hz2); try (first | obtain ⟨hy1, hy2, hy3, hy4⟩ := lts4 hz2 | obtain ⟨hy1, hy2, hy3⟩ := lts3 hz2 | obtain ⟨hy1, hy2⟩ := lts2 hz2 | have hy1 := lts1 hz2); have hb9 := hb1) | (go_at_call 57; refine (impl_ClassesOk n.mesh n.pa n.pb a1 a2 a3 _ _ _ _ (by exact Kd.C_below Rbr bel) L1 (by exact Kd.C_below Rpa bel) L2 (by exact Kd.C_below Rpb bel) L3).mono ?_; rintro e w1 ⟨rfl, hb1⟩; obtain ⟨hc1, hf1, hz1⟩ := bcell hb1; (try simp only [szs] at hz1); have hb2 := (by first | exact bw_then hb2 hb1 | exact bw_then (bw_drewN _ hb2) hb1 | exact bw_then (bw_alloc _ hb2) hb1 | exact bw_then (bw_drew hb2) hb1 | exact bw_then HB hb1 | exact bw_then (bw_drewN _ HB) hb1 | exact bw_then (bw_alloc _ HB) hb1 | exact bw_then (bw_drew HB) hb1 | exact hb1); obtain ⟨hc2, hf2, hz2⟩ := bcell hb2; (try simp only [szs] at hz2); try (first | obtain ⟨hy1, hy2, hy3, hy4⟩ := lts4 hz2 | obtain ⟨hy1, hy2, hy3⟩ := lts3 hz2 | obtain ⟨hy1, hy2⟩ := lts2 hz2 | have hy1 := lts1 hz2); have hb9 := hb1))
  go_ret
  exact ⟨ret_bool (netOk_no2 (shape_no4 S3.out)).symm, bel⟩
 have e3 : ((n.srcs.length : Int) != nodeCount n.mesh.g) = false := bne_eq_false_iff_eq.2 s3
 have S3 := Lib.hid s3
 have u3 : (n.srcs.length : Int) ≤ nodeCount n.mesh.g := by omega
 have v3 : nodeCount n.mesh.g ≤ (n.srcs.length : Int) := by omega
 clear s3
 by_cases s4 : (n.arrs.length : Int) = nodeCount n.mesh.g
 case neg =>
  have e4 : ((n.arrs.length : Int) != nodeCount n.mesh.g) = true := bne_iff_ne.2 s4
  have S4 := Lib.hid s4
  clear s4
  go_enter Try.func25, Try.ntmps25
  go_wp2_with (first | (go_at_call 56; refine (impl_NodeCount n.mesh.g _).mono ?_; rintro e w1 ⟨rfl, hb1⟩; obtain ⟨hc1, hf1, hz1⟩ := bcell hb1; (try simp only [szs] at hz1); have hb2 := (by first | exact bw_then hb2 hb1 | exact bw_then (bw_drewN _ hb2) hb1 | exact bw_then (bw_alloc _ hb2) hb1 | exact bw_then (bw_drew hb2) hb1 | exact bw_then HB hb1 | exact bw_then (bw_drewN _ HB) hb1 | exact bw_then (bw_alloc _ HB) hb1 | exact bw_then (bw_drew HB) hb1 | exact hb1); obtain ⟨hc2, hf2, hz2⟩ := bcell hb2; (try simp only [szs] at hz2); try (first | obtain ⟨hy1, hy2, hy3, hy4⟩ := lts4 hz2 | obtain ⟨hy1, hy2, hy3⟩ := lts3 hz2 | obtain ⟨hy1, hy2⟩ := lts2 hz2 | have hy1 := lts1 hz2); have hb9 := hb1) | (go_at_call 57; refine (impl_ClassesOk n.mesh n.pa n.pb a1 a2 a3 _ _ _ _ (by exact Kd.C_below Rbr bel) L1 (by exact Kd.C_below Rpa bel) L2 (by exact Kd.C_below Rpb bel) L3).mono ?_; rintro e w1 ⟨rfl, hb1⟩; obtain ⟨hc1, hf1, hz1⟩ := bcell hb1; (try simp only [szs] at hz1); have hb2 := (by first | exact bw_then hb2 hb1 | exact bw_then (bw_drewN _ hb2) hb1 | exact bw_then (bw_alloc _ hb2) hb1 | exact bw_then (bw_drew hb2) hb1 | exact bw_then HB hb1 | exact bw_then (bw_drewN _ HB) hb1 | exact bw_then (bw_alloc _ HB) hb1 | exact bw_then (bw_drew HB) hb1 | exact hb1); obtain ⟨hc2, hf2, hz2⟩ := bcell hb2; (try simp only [szs] at hz2); try (first | obtain ⟨hy1, hy2, hy3, hy4⟩ := lts4 hz2 | obtain ⟨hy1, hy2, hy3⟩ := lts3 hz2 | obtain ⟨hy1, hy2⟩ := lts2 hz2 | have hy1 := lts1 hz2); have hb9 := hb1))
  go_ret
  exact ⟨ret_bool (netOk_no2 (shape_no5 S4.out)).symm, bel⟩
 have e4 : ((n.arrs.length : Int) != nodeCount n.mesh.g) = false := bne_eq_false_iff_eq.2 s4
 have S4 := Lib.hid s4
 have u4 : (n.arrs.length : Int) ≤ nodeCount n.mesh.g := by omega
 have v4 : nodeCount n.mesh.g ≤ (n.arrs.length : Int) := by omega
 clear s4
 have HSH := Lib.hid (shape_mk S0.out S1.out S2.out S3.out S4.out)
 have HC := Lib.hid hc
 go_enter Try.func25, Try.ntmps25
 go_wp2_with (first | (go_at_call 56; refine (impl_NodeCount n.mesh.g _).mono ?_; rintro e w1 ⟨rfl, hb1⟩; obtain ⟨hc1, hf1, hz1⟩ := bcell hb1; (try simp only [szs] at hz1); have hb2 := (by first | exact bw_then hb2 hb1 | exact bw_then (bw_drewN _ hb2) hb1 | exact bw_then (bw_alloc _ hb2) hb1 | exact bw_then (bw_drew hb2) hb1 | exact bw_then HB hb1 | exact bw_then (bw_drewN _ HB) hb1 | exact bw_then (bw_alloc _ HB) hb1 | exact bw_then (bw_drew HB) hb1 | exact hb1); obtain ⟨hc2, hf2, hz2⟩ := bcell hb2; (try simp only [szs] at hz2); try (first | obtain ⟨hy1, hy2, hy3, hy4⟩ := lts4 hz2 | obtain ⟨hy1, hy2, hy3⟩ := lts3 hz2 | obtain ⟨hy1, hy2⟩ := lts2 hz2 | have hy1 := lts1 hz2); have hb9 := hb1) | (go_at_call 57; refine (impl_ClassesOk n.mesh n.pa n.pb a1 a2 a3 _ _ _ _ (by exact Kd.C_below Rbr bel) L1 (by exact Kd.C_below Rpa bel) L2 (by exact Kd.C_below Rpb bel) L3).mono ?_; rintro e w1 ⟨rfl, hb1⟩; obtain ⟨hc1, hf1, hz1⟩ := bcell hb1; (try simp only [szs] at hz1); have hb2 := (by first | exact bw_then hb2 hb1 | exact bw_then (bw_drewN _ hb2) hb1 | exact bw_then (bw_alloc _ hb2) hb1 | exact bw_then (bw_drew hb2) hb1 | exact bw_then HB hb1 | exact bw_then (bw_drewN _ HB) hb1 | exact bw_then (bw_alloc _ HB) hb1 | exact bw_then (bw_drew HB) hb1 | exact hb1); obtain ⟨hc2, hf2, hz2⟩ := bcell hb2; (try simp only [szs] at hz2); try (first | obtain ⟨hy1, hy2, hy3, hy4⟩ := lts4 hz2 | obtain ⟨hy1, hy2, hy3⟩ := lts3 hz2 | obtain ⟨hy1, hy2⟩ := lts2 hz2 | have hy1 := lts1 hz2); have hb9 := hb1))
 go_loopw [59] (fun i wr => ∃ k : Nat, i = .int .i64 k ∧ k ≤ n.bufs.length ∧ Hid (∀ j : Nat, j < k → bufOk n.mesh.g j (rl n.bufs j) = true) ∧ Below (w.alloc (.cells #[.int .i64 n.mesh.g.w, .int .i64 n.mesh.g.h, .slice a1 n.mesh.br.length c1, .slice a2 n.pa.length c2, .slice a3 n.pb.length c3, .slice a4 n.bufs.length c4, .slice a5 n.owners.length c5, .slice a6 n.turns.length c6, .slice a7 n.srcs.length c7, .slice a8 n.arrs.length c8, .int .i64 n.time] 45)).heap.size (w.alloc (.cells #[.int .i64 n.mesh.g.w, .int .i64 n.mesh.g.h, .slice a1 n.mesh.br.length c1, .slice a2 n.pa.length c2, .slice a3 n.pb.length c3, .slice a4 n.bufs.length c4, .slice a5 n.owners.length c5, .slice a6 n.turns.length c6, .slice a7 n.srcs.length c7, .slice a8 n.arrs.length c8, .int .i64 n.time] 45)) wr) (fun i _ => n.bufs.length - (intOf i).toNat)
 case atStart => exact ⟨0, rfl, Nat.zero_le _, Lib.hid fun j h => absurd h (Nat.not_lt_zero _), bel⟩
 case round =>
  obtain ⟨k, rfl, hk, HA, HB⟩ := hrel
  obtain ⟨hcr, hfr, hzr⟩ := bcell HB
  simp only [szs] at hzr
  have yy1 := lts1 hzr
  by_cases hlt : k < n.bufs.length
  ·obtain ⟨b, off, rfl, hb, Ai, ci, p0, hle, hCi⟩ := rdB_at Rbu k hlt
   obtain ⟨z1, z2, z3, z4, z5, z6⟩ := more hb
   have hki := M9.out _ (rl_mem hlt)
   have i0 : (k : Int) < (n.bufs.length : Int) := by omega
   by_cases g1 : 3 < (rl n.bufs k).length
   ·have g1' : (3 : Int) < ((rl n.bufs k).length : Int) := by omega
    go_wp2
    go_ret
    exact ⟨ret_bool (netOk_no3 k hlt (bufOk_1 g1)).symm, bel⟩
   have g1' : ¬ (3 : Int) < ((rl n.bufs k).length : Int) := by omega
   have hco := clsOnly_take_len (rl n.bufs k) ((k : Int) % 2) (rl n.bufs k).length
   rw [List.take_length] at hco
   by_cases g2 : (clsOnly (rl n.bufs k) ((k % 2 : Nat) : Int)).length = (rl n.bufs k).length
   case neg =>
    have G2 := Lib.hid g2
    rw [← mod2] at g2
    have f2 : (((clsOnly (rl n.bufs k) ((k : Int) % 2)).length : Int) != ((rl n.bufs k).length : Int)) = true := bne_iff_ne.2 (by omega)
    clear g2
    go_wp2_with (go_at_call 58; refine (impl_ClassOnly (rl n.bufs k) ((k : Int) % 2) Ai ci _ (by exact Kd.C_below hCi bel) hki).mono ?_; rintro e w1 ⟨hg1, hb1⟩; obtain ⟨A1, d1, rfl, hk1, hC1⟩ := hg1.read; obtain ⟨hc1, hf1, hz1⟩ := bcell hb1; (try simp only [szs] at hz1); have hb2 := (by first | exact bw_then hb2 hb1 | exact bw_then (bw_drewN _ hb2) hb1 | exact bw_then (bw_alloc _ hb2) hb1 | exact bw_then (bw_drew hb2) hb1 | exact bw_then HB hb1 | exact bw_then (bw_drewN _ HB) hb1 | exact bw_then (bw_alloc _ HB) hb1 | exact bw_then (bw_drew HB) hb1 | exact hb1); obtain ⟨hc2, hf2, hz2⟩ := bcell hb2; (try simp only [szs] at hz2); try (first | obtain ⟨hy1, hy2, hy3, hy4⟩ := lts4 hz2 | obtain ⟨hy1, hy2, hy3⟩ := lts3 hz2 | obtain ⟨hy1, hy2⟩ := lts2 hz2 | have hy1 := lts1 hz2); have hb9 := hb1)
    go_ret
    exact ⟨ret_bool (netOk_no3 k hlt (bufOk_2 G2.out)).symm, bel⟩
   have G2 := Lib.hid g2
   rw [← mod2] at g2
   have f2 : (((clsOnly (rl n.bufs k) ((k : Int) % 2)).length : Int) != ((rl n.bufs k).length : Int)) = false := bne_eq_false_iff_eq.2 (by omega)
   clear g2
   cases h3 : areFl n.mesh.g (rl n.bufs k)
   ·have H3 := Lib.hid h3
    go_wp2_with (first | (go_at_call 58; refine (impl_ClassOnly (rl n.bufs k) ((k : Int) % 2) Ai ci _ (by exact Kd.C_below hCi bel) hki).mono ?_; rintro e w1 ⟨hg1, hb1⟩; obtain ⟨A1, d1, rfl, hk1, hC1⟩ := hg1.read; obtain ⟨hc1, hf1, hz1⟩ := bcell hb1; (try simp only [szs] at hz1); have hb2 := (by first | exact bw_then hb2 hb1 | exact bw_then (bw_drewN _ hb2) hb1 | exact bw_then (bw_alloc _ hb2) hb1 | exact bw_then (bw_drew hb2) hb1 | exact bw_then HB hb1 | exact bw_then (bw_drewN _ HB) hb1 | exact bw_then (bw_alloc _ HB) hb1 | exact bw_then (bw_drew HB) hb1 | exact hb1); obtain ⟨hc2, hf2, hz2⟩ := bcell hb2; (try simp only [szs] at hz2); try (first | obtain ⟨hy1, hy2, hy3, hy4⟩ := lts4 hz2 | obtain ⟨hy1, hy2, hy3⟩ := lts3 hz2 | obtain ⟨hy1, hy2⟩ := lts2 hz2 | have hy1 := lts1 hz2); have hb9 := hb1) | (go_at_call 59; refine (impl_areFlits n.mesh.g (rl n.bufs k) Ai ci _ (by exact Kd.C_below hCi bel) hki).mono ?_; rintro e w1 ⟨rfl, hb1⟩; obtain ⟨hc1, hf1, hz1⟩ := bcell hb1; (try simp only [szs] at hz1); have hb2 := (by first | exact bw_then hb2 hb1 | exact bw_then (bw_drewN _ hb2) hb1 | exact bw_then (bw_alloc _ hb2) hb1 | exact bw_then (bw_drew hb2) hb1 | exact bw_then HB hb1 | exact bw_then (bw_drewN _ HB) hb1 | exact bw_then (bw_alloc _ HB) hb1 | exact bw_then (bw_drew HB) hb1 | exact hb1); obtain ⟨hc2, hf2, hz2⟩ := bcell hb2; (try simp only [szs] at hz2); try (first | obtain ⟨hy1, hy2, hy3, hy4⟩ := lts4 hz2 | obtain ⟨hy1, hy2, hy3⟩ := lts3 hz2 | obtain ⟨hy1, hy2⟩ := lts2 hz2 | have hy1 := lts1 hz2); have hb9 := hb1))
    go_ret
    exact ⟨ret_bool (netOk_no3 k hlt (bufOk_3 H3.out)).symm, bel⟩
   ·have H3 := Lib.hid h3
    go_wp2_with (first | (go_at_call 58; refine (impl_ClassOnly (rl n.bufs k) ((k : Int) % 2) Ai ci _ (by exact Kd.C_below hCi bel) hki).mono ?_; rintro e w1 ⟨hg1, hb1⟩; obtain ⟨A1, d1, rfl, hk1, hC1⟩ := hg1.read; obtain ⟨hc1, hf1, hz1⟩ := bcell hb1; (try simp only [szs] at hz1); have hb2 := (by first | exact bw_then hb2 hb1 | exact bw_then (bw_drewN _ hb2) hb1 | exact bw_then (bw_alloc _ hb2) hb1 | exact bw_then (bw_drew hb2) hb1 | exact bw_then HB hb1 | exact bw_then (bw_drewN _ HB) hb1 | exact bw_then (bw_alloc _ HB) hb1 | exact bw_then (bw_drew HB) hb1 | exact hb1); obtain ⟨hc2, hf2, hz2⟩ := bcell hb2; (try simp only [szs] at hz2); try (first | obtain ⟨hy1, hy2, hy3, hy4⟩ := lts4 hz2 | obtain ⟨hy1, hy2, hy3⟩ := lts3 hz2 | obtain ⟨hy1, hy2⟩ := lts2 hz2 | have hy1 := lts1 hz2); have hb9 := hb1) | (go_at_call 59; refine (impl_areFlits n.mesh.g (rl n.bufs k) Ai ci _ (by exact Kd.C_below hCi bel) hki).mono ?_; rintro e w1 ⟨rfl, hb1⟩; obtain ⟨hc1, hf1, hz1⟩ := bcell hb1; (try simp only [szs] at hz1); have hb2 := (by first | exact bw_then hb2 hb1 | exact bw_then (bw_drewN _ hb2) hb1 | exact bw_then (bw_alloc _ hb2) hb1 | exact bw_then (bw_drew hb2) hb1 | exact bw_then HB hb1 | exact bw_then (bw_drewN _ HB) hb1 | exact bw_then (bw_alloc _ HB) hb1 | exact bw_then (bw_drew HB) hb1 | exact hb1); obtain ⟨hc2, hf2, hz2⟩ := bcell hb2; (try simp only [szs] at hz2); try (first | obtain ⟨hy1, hy2, hy3, hy4⟩ := lts4 hz2 | obtain ⟨hy1, hy2, hy3⟩ := lts3 hz2 | obtain ⟨hy1, hy2⟩ := lts2 hz2 | have hy1 := lts1 hz2); have hb9 := hb1))
    go_roundw
    case rel => exact ⟨k + 1, by go_num, by omega, Lib.hid (upto HA.out (bufOk_4 g1 G2.out H3.out)), bel⟩
    case measure => simp [intOf]; omega
  ·have i0 : ¬ (k : Int) < (n.bufs.length : Int) := by omega
   have HBU : Hid (∀ j : Nat, j < n.bufs.length → bufOk n.mesh.g j (rl n.bufs j) = true) := Lib.hid fun j hj => HA.out j (by omega)
   go_wp2
   go_loopw [89] (fun i wr => ∃ k : Nat, i = .int .i64 k ∧ k ≤ n.srcs.length ∧ Hid (∀ j : Nat, j < k → srcOk n.mesh.g (rl n.srcs j) = true) ∧ Below (w.alloc (.cells #[.int .i64 n.mesh.g.w, .int .i64 n.mesh.g.h, .slice a1 n.mesh.br.length c1, .slice a2 n.pa.length c2, .slice a3 n.pb.length c3, .slice a4 n.bufs.length c4, .slice a5 n.owners.length c5, .slice a6 n.turns.length c6, .slice a7 n.srcs.length c7, .slice a8 n.arrs.length c8, .int .i64 n.time] 45)).heap.size (w.alloc (.cells #[.int .i64 n.mesh.g.w, .int .i64 n.mesh.g.h, .slice a1 n.mesh.br.length c1, .slice a2 n.pa.length c2, .slice a3 n.pb.length c3, .slice a4 n.bufs.length c4, .slice a5 n.owners.length c5, .slice a6 n.turns.length c6, .slice a7 n.srcs.length c7, .slice a8 n.arrs.length c8, .int .i64 n.time] 45)) wr) (fun i _ => n.srcs.length - (intOf i).toNat)
   case atStart => exact ⟨0, rfl, Nat.zero_le _, Lib.hid fun j h => absurd h (Nat.not_lt_zero _), bel⟩
   case round =>
    clear HA HB hcr hfr hzr yy1 hlt i0 hk
    obtain ⟨k, rfl, hk, HA, HB⟩ := hrel
    obtain ⟨hcr, hfr, hzr⟩ := bcell HB
    simp only [szs] at hzr
    have yy1 := lts1 hzr
    by_cases hlt : k < n.srcs.length
    ·obtain ⟨b, off, rfl, hb, Ai, ci, p0, hle, hCi⟩ := rdB_at Rso k hlt
     obtain ⟨z1, z2, z3, z4, z5, z6⟩ := more hb
     have hki := M10.out _ (rl_mem hlt)
     have i0 : (k : Int) < (n.srcs.length : Int) := by omega
     by_cases g1 : 60 < (rl n.srcs k).length
     ·have g1' : (60 : Int) < ((rl n.srcs k).length : Int) := by omega
      go_wp2
      go_ret
      exact ⟨ret_bool (netOk_no4 k hlt (srcOk_1 g1)).symm, bel⟩
     have g1' : ¬ (60 : Int) < ((rl n.srcs k).length : Int) := by omega
     cases h3 : areFl n.mesh.g (rl n.srcs k)
     ·have H3 := Lib.hid h3
      go_wp2_with (go_at_call 59; refine (impl_areFlits n.mesh.g (rl n.srcs k) Ai ci _ (by exact Kd.C_below hCi bel) hki).mono ?_; rintro e w1 ⟨rfl, hb1⟩; obtain ⟨hc1, hf1, hz1⟩ := bcell hb1; (try simp only [szs] at hz1); have hb2 := (by first | exact bw_then hb2 hb1 | exact bw_then (bw_drewN _ hb2) hb1 | exact bw_then (bw_alloc _ hb2) hb1 | exact bw_then (bw_drew hb2) hb1 | exact bw_then HB hb1 | exact bw_then (bw_drewN _ HB) hb1 | exact bw_then (bw_alloc _ HB) hb1 | exact bw_then (bw_drew HB) hb1 | exact hb1); obtain ⟨hc2, hf2, hz2⟩ := bcell hb2; (try simp only [szs] at hz2); try (first | obtain ⟨hy1, hy2, hy3, hy4⟩ := lts4 hz2 | obtain ⟨hy1, hy2, hy3⟩ := lts3 hz2 | obtain ⟨hy1, hy2⟩ := lts2 hz2 | have hy1 := lts1 hz2); have hb9 := hb1)
      go_ret
      exact ⟨ret_bool (netOk_no4 k hlt (srcOk_2 H3.out)).symm, bel⟩
     ·have H3 := Lib.hid h3
      go_wp2_with (go_at_call 59; refine (impl_areFlits n.mesh.g (rl n.srcs k) Ai ci _ (by exact Kd.C_below hCi bel) hki).mono ?_; rintro e w1 ⟨rfl, hb1⟩; obtain ⟨hc1, hf1, hz1⟩ := bcell hb1; (try simp only [szs] at hz1); have hb2 := (by first | exact bw_then hb2 hb1 | exact bw_then (bw_drewN _ hb2) hb1 | exact bw_then (bw_alloc _ hb2) hb1 | exact bw_then (bw_drew hb2) hb1 | exact bw_then HB hb1 | exact bw_then (bw_drewN _ HB) hb1 | exact bw_then (bw_alloc _ HB) hb1 | exact bw_then (bw_drew HB) hb1 | exact hb1); obtain ⟨hc2, hf2, hz2⟩ := bcell hb2; (try simp only [szs] at hz2); try (first | obtain ⟨hy1, hy2, hy3, hy4⟩ := lts4 hz2 | obtain ⟨hy1, hy2, hy3⟩ := lts3 hz2 | obtain ⟨hy1, hy2⟩ := lts2 hz2 | have hy1 := lts1 hz2); have hb9 := hb1)
      go_roundw
      case rel => exact ⟨k + 1, by go_num, by omega, Lib.hid (upto HA.out (srcOk_3 g1 H3.out)), bel⟩
      case measure => simp [intOf]; omega
    ·have i0 : ¬ (k : Int) < (n.srcs.length : Int) := by omega
     have HE := Lib.hid (netOk_eq HC.out HSH.out HBU.out (fun j hj => HA.out j (by omega)))
     cases t1 : allI n.owners.length (fun i => inside (ri n.owners i) (-1) 4)
     ·have T1 := Lib.hid t1
      go_wp2_with (go_at_call_of 60 n.owners; refine (impl_areInside n.owners (-1) 4 a5 c5 _ (by exact Kd.C_below Row bel) L5).mono ?_; rintro e w' ⟨rfl, rfl⟩)
      go_ret
      exact ⟨ret_bool (by rw [HE.out, T1.out]; rfl), bel⟩
     cases t2 : allI n.turns.length (fun i => inside (ri n.turns i) 0 9)
     ·have T1 := Lib.hid t1
      have T2 := Lib.hid t2
      go_wp2_with (first | (go_at_call_of 60 n.owners; refine (impl_areInside n.owners (-1) 4 a5 c5 _ (by exact Kd.C_below Row bel) L5).mono ?_; rintro e w' ⟨rfl, rfl⟩) | (go_at_call_of 60 n.turns; refine (impl_areInside n.turns 0 9 a6 c6 _ (by exact Kd.C_below Rtu bel) L6).mono ?_; rintro e w' ⟨rfl, rfl⟩))
      go_ret
      exact ⟨ret_bool (by rw [HE.out, T1.out, T2.out]; rfl), bel⟩
     ·have T1 := Lib.hid t1
      have T2 := Lib.hid t2
      go_wp2_with (first | (go_at_call_of 60 n.owners; refine (impl_areInside n.owners (-1) 4 a5 c5 _ (by exact Kd.C_below Row bel) L5).mono ?_; rintro e w' ⟨rfl, rfl⟩) | (go_at_call_of 60 n.turns; refine (impl_areInside n.turns 0 9 a6 c6 _ (by exact Kd.C_below Rtu bel) L6).mono ?_; rintro e w' ⟨rfl, rfl⟩) | (go_at_call 61; refine (impl_inside _ _ _ _).mono ?_; rintro e w' ⟨rfl, rfl⟩))
      go_ret
      exact ⟨ret_bool (by rw [HE.out, T1.out, T2.out]; rfl), bel⟩
end Go.Proofs.Yteeebfeljjghhaa
/- Requests: the program's side; for all valid networks. -/
set_option linter.unusedVariables false
set_option linter.unusedSimpArgs false
namespace Go.Proofs.Yteeebfeljjghhaa
open Go.RowKit Go.Proofs.YteeebfeljjghhaaW.PrintWords
open NoC

theorem rdB_int {e : Nat} {w : World} {A : Option Addr} {l : List (List Flit)} (h : (kB e).C w A l.length l) (i : Int) (h0 : 0 ≤ i) (h1 : i < (l.length : Int)) :
    ∃ b off, A = some ⟨b, off, none⟩ ∧ b < w.heap.size ∧ ∃ Ai ci, w.cell? ⟨b, off + i.toNat, none⟩ = some (.slice Ai (rl l i).length ci) ∧ (rl l i).length ≤ ci ∧ kF.C w Ai (rl l i).length (rl l i) := by
  obtain ⟨b, off, e1, hb, Ai, ci, h2, h3, h4⟩ := rdB_at h i.toNat (by omega)
  rw [Int.toNat_of_nonneg h0] at h2 h3 h4
  exact ⟨b, off, e1, hb, Ai, ci, h2, h3, h4⟩
end Go.Proofs.Yteeebfeljjghhaa
/- Requests: the program's side, at a node; for all networks. -/
set_option linter.unusedVariables false
set_option linter.unusedSimpArgs false
namespace Go.Proofs.Yteeebfeljjghhaa
open Go.RowKit Go.Proofs.YteeebfeljjghhaaW.PrintWords
open NoC

end Go.Proofs.Yteeebfeljjghhaa
/- Valid networks: the reference comes to netOk; for all networks whose rows hold at most a million entries each. -/
set_option linter.unusedVariables false
set_option linter.unusedSimpArgs false
namespace Go.Proofs.Yteeebfeljjghhaa
open Go.RowKit Go.Proofs.YteeebfeljjghhaaW.PrintWords
open NoC
theorem netOk_no5 {n : Net} (k : Nat) (hk : k < n.owners.length) (h : inside (ri n.owners k) (-1) 4 = false) : netOk n = false := by simp [netOk, allI_false (p := fun (i : Nat) => inside (ri n.owners i) (-1) 4) k hk h]
theorem netOk_no6 {n : Net} (k : Nat) (hk : k < n.turns.length) (h : inside (ri n.turns k) 0 9 = false) : netOk n = false := by simp [netOk, allI_false (p := fun (i : Nat) => inside (ri n.turns i) 0 9) k hk h]
theorem netOk_no7 {n : Net} (h : inside n.time 0 1000000 = false) : netOk n = false := by simp [netOk, h]
def clsIs (i : Nat) (l : List Flit) (j : Nat) : Prop := (rf l j).cls = ((i % 2 : Nat) : Int)
theorem cls_all {i : Nat} {l : List Flit} (h : ∀ j : Nat, j < l.length → clsIs i l j) : l.all (fun f => f.cls == ((i % 2 : Nat) : Int)) = true := by
  rw [List.all_eq_true]
  intro f hf
  obtain ⟨j, hj, rfl⟩ := List.getElem_of_mem hf
  have := h j hj
  unfold clsIs at this
  rw [rf_get l j hj] at this
  simpa using this
theorem bufOk_5 {g : Grid} {i : Nat} {l : List Flit} (h1 : ¬ 3 < l.length) (h3 : areFl g l = true) (h2 : ∀ j : Nat, j < l.length → clsIs i l j) : bufOk g i l = true := by
  simp only [bufOk, cls_all h2, h3, Bool.and_true, decide_eq_true_eq]
  omega
theorem bufOk_6 {g : Grid} {i : Nat} {l : List Flit} (j : Nat) (hj : j < l.length) (h : ¬ clsIs i l j) : bufOk g i l = false := by
  have : l.all (fun f => f.cls == ((i % 2 : Nat) : Int)) = false := by
    rw [Bool.eq_false_iff]
    intro ha
    rw [List.all_eq_true] at ha
    have := ha _ (List.getElem_mem hj)
    unfold clsIs at h
    rw [rf_get l j hj] at h
    exact h (by simpa using this)
  simp only [bufOk, this, Bool.and_false, Bool.false_and]

set_option maxHeartbeats 8000000 in
set_option maxRecDepth 100000 in
theorem spec_NetOk (n : Net) (q : NA) (w : World) (hr : NetR 83 w n q) : Calls Try.prog 16 #[.agg (netCells n q)] w fun e w' => e = .returned (.bool (netOk n)) ∧ Below w.heap.size w w' := by
 obtain ⟨a1, a2, a3, a4, a5, a6, a7, a8, c1, c2, c3, c4, c5, c6, c7, c8⟩ := q; obtain ⟨Rbr, Rpa, Rpb, Rbu, Row, Rtu, Rso, Rar, L1, L2, L3, L4, L5, L6, L7, L8, L9, L10, L11⟩ := hr; have M9 := Lib.hid L9; have M10 := Lib.hid L10; have M11 := Lib.hid L11; clear L9 L10 L11; dsimp only [netCells] at *
 obtain ⟨n0, n1⟩ := count_le n.mesh.g
 cases hc : classesOk n.mesh n.pa n.pb
 ·have HC := Lib.hid hc
  go_enter Try.func16, Try.ntmps16
  go_wp2_with (first | (go_at_call 41; refine (spec_NodeCount n.mesh.g _).mono ?_; rintro e w1 ⟨rfl, hb1⟩; obtain ⟨hc1, hf1, hz1⟩ := bcell hb1; (try simp only [szs] at hz1); have hb2 := (by first | exact bw_then hb2 hb1 | exact bw_then (bw_drewN _ hb2) hb1 | exact bw_then (bw_alloc _ hb2) hb1 | exact bw_then (bw_drew hb2) hb1 | exact bw_then HB hb1 | exact bw_then (bw_drewN _ HB) hb1 | exact bw_then (bw_alloc _ HB) hb1 | exact bw_then (bw_drew HB) hb1 | exact hb1); obtain ⟨hc2, hf2, hz2⟩ := bcell hb2; (try simp only [szs] at hz2); try (first | obtain ⟨hy1, hy2, hy3, hy4⟩ := lts4 hz2 | obtain ⟨hy1, hy2, hy3⟩ := lts3 hz2 | obtain ⟨hy1, hy2⟩ := lts2 hz2 | have hy1 := lts1 hz2); have hb9 := hb1) | (go_at_call 42; refine (spec_ClassesOk n.mesh n.pa n.pb a1 a2 a3 _ _ _ _ (by exact Kd.C_below Rbr bel) L1 (by exact Kd.C_below Rpa bel) L2 (by exact Kd.C_below Rpb bel) L3).mono ?_; rintro e w1 ⟨rfl, hb1⟩; obtain ⟨hc1, hf1, hz1⟩ := bcell hb1; (try simp only [szs] at hz1); have hb2 := (by first | exact bw_then hb2 hb1 | exact bw_then (bw_drewN _ hb2) hb1 | exact bw_then (bw_alloc _ hb2) hb1 | exact bw_then (bw_drew hb2) hb1 | exact bw_then HB hb1 | exact bw_then (bw_drewN _ HB) hb1 | exact bw_then (bw_alloc _ HB) hb1 | exact bw_then (bw_drew HB) hb1 | exact hb1); obtain ⟨hc2, hf2, hz2⟩ := bcell hb2; (try simp only [szs] at hz2); try (first | obtain ⟨hy1, hy2, hy3, hy4⟩ := lts4 hz2 | obtain ⟨hy1, hy2, hy3⟩ := lts3 hz2 | obtain ⟨hy1, hy2⟩ := lts2 hz2 | have hy1 := lts1 hz2); have hb9 := hb1) | (go_at_call 43; refine (spec_l01In _ _ _ _).mono ?_; rintro e w' ⟨rfl, rfl⟩))
  go_ret
  exact ⟨ret_bool (netOk_no1 HC.out).symm, bel⟩
 by_cases s0 : (n.bufs.length : Int) = 10 * nodeCount n.mesh.g
 case neg =>
  have e0 : ((n.bufs.length : Int) != 10 * nodeCount n.mesh.g) = true := bne_iff_ne.2 s0
  have S0 := Lib.hid s0
  clear s0
  go_enter Try.func16, Try.ntmps16
  go_wp2_with (first | (go_at_call 41; refine (spec_NodeCount n.mesh.g _).mono ?_; rintro e w1 ⟨rfl, hb1⟩; obtain ⟨hc1, hf1, hz1⟩ := bcell hb1; (try simp only [szs] at hz1); have hb2 := (by first | exact bw_then hb2 hb1 | exact bw_then (bw_drewN _ hb2) hb1 | exact bw_then (bw_alloc _ hb2) hb1 | exact bw_then (bw_drew hb2) hb1 | exact bw_then HB hb1 | exact bw_then (bw_drewN _ HB) hb1 | exact bw_then (bw_alloc _ HB) hb1 | exact bw_then (bw_drew HB) hb1 | exact hb1); obtain ⟨hc2, hf2, hz2⟩ := bcell hb2; (try simp only [szs] at hz2); try (first | obtain ⟨hy1, hy2, hy3, hy4⟩ := lts4 hz2 | obtain ⟨hy1, hy2, hy3⟩ := lts3 hz2 | obtain ⟨hy1, hy2⟩ := lts2 hz2 | have hy1 := lts1 hz2); have hb9 := hb1) | (go_at_call 42; refine (spec_ClassesOk n.mesh n.pa n.pb a1 a2 a3 _ _ _ _ (by exact Kd.C_below Rbr bel) L1 (by exact Kd.C_below Rpa bel) L2 (by exact Kd.C_below Rpb bel) L3).mono ?_; rintro e w1 ⟨rfl, hb1⟩; obtain ⟨hc1, hf1, hz1⟩ := bcell hb1; (try simp only [szs] at hz1); have hb2 := (by first | exact bw_then hb2 hb1 | exact bw_then (bw_drewN _ hb2) hb1 | exact bw_then (bw_alloc _ hb2) hb1 | exact bw_then (bw_drew hb2) hb1 | exact bw_then HB hb1 | exact bw_then (bw_drewN _ HB) hb1 | exact bw_then (bw_alloc _ HB) hb1 | exact bw_then (bw_drew HB) hb1 | exact hb1); obtain ⟨hc2, hf2, hz2⟩ := bcell hb2; (try simp only [szs] at hz2); try (first | obtain ⟨hy1, hy2, hy3, hy4⟩ := lts4 hz2 | obtain ⟨hy1, hy2, hy3⟩ := lts3 hz2 | obtain ⟨hy1, hy2⟩ := lts2 hz2 | have hy1 := lts1 hz2); have hb9 := hb1) | (go_at_call 43; refine (spec_l01In _ _ _ _).mono ?_; rintro e w' ⟨rfl, rfl⟩))
  go_ret
  exact ⟨ret_bool (netOk_no2 (shape_no1 S0.out)).symm, bel⟩
 have e0 : ((n.bufs.length : Int) != 10 * nodeCount n.mesh.g) = false := bne_eq_false_iff_eq.2 s0
 have S0 := Lib.hid s0
 have u0 : (n.bufs.length : Int) ≤ 10 * nodeCount n.mesh.g := by omega
 have v0 : 10 * nodeCount n.mesh.g ≤ (n.bufs.length : Int) := by omega
 clear s0
 by_cases s1 : (n.owners.length : Int) = 10 * nodeCount n.mesh.g
 case neg =>
  have e1 : ((n.owners.length : Int) != 10 * nodeCount n.mesh.g) = true := bne_iff_ne.2 s1
  have S1 := Lib.hid s1
  clear s1
  go_enter Try.func16, Try.ntmps16
  go_wp2_with (first | (go_at_call 41; refine (spec_NodeCount n.mesh.g _).mono ?_; rintro e w1 ⟨rfl, hb1⟩; obtain ⟨hc1, hf1, hz1⟩ := bcell hb1; (try simp only [szs] at hz1); have hb2 := (by first | exact bw_then hb2 hb1 | exact bw_then (bw_drewN _ hb2) hb1 | exact bw_then (bw_alloc _ hb2) hb1 | exact bw_then (bw_drew hb2) hb1 | exact bw_then HB hb1 | exact bw_then (bw_drewN _ HB) hb1 | exact bw_then (bw_alloc _ HB) hb1 | exact bw_then (bw_drew HB) hb1 | exact hb1); obtain ⟨hc2, hf2, hz2⟩ := bcell hb2; (try simp only [szs] at hz2); try (first | obtain ⟨hy1, hy2, hy3, hy4⟩ := lts4 hz2 | obtain ⟨hy1, hy2, hy3⟩ := lts3 hz2 | obtain ⟨hy1, hy2⟩ := lts2 hz2 | have hy1 := lts1 hz2); have hb9 := hb1) | (go_at_call 42; refine (spec_ClassesOk n.mesh n.pa n.pb a1 a2 a3 _ _ _ _ (by exact Kd.C_below Rbr bel) L1 (by exact Kd.C_below Rpa bel) L2 (by exact Kd.C_below Rpb bel) L3).mono ?_; rintro e w1 ⟨rfl, hb1⟩; obtain ⟨hc1, hf1, hz1⟩ := bcell hb1; (try simp only [szs] at hz1); have hb2 := (by first | exact bw_then hb2 hb1 | exact bw_then (bw_drewN _ hb2) hb1 | exact bw_then (bw_alloc _ hb2) hb1 | exact bw_then (bw_drew hb2) hb1 | exact bw_then HB hb1 | exact bw_then (bw_drewN _ HB) hb1 | exact bw_then (bw_alloc _ HB) hb1 | exact bw_then (bw_drew HB) hb1 | exact hb1); obtain ⟨hc2, hf2, hz2⟩ := bcell hb2; (try simp only [szs] at hz2); try (first | obtain ⟨hy1, hy2, hy3, hy4⟩ := lts4 hz2 | obtain ⟨hy1, hy2, hy3⟩ := lts3 hz2 | obtain ⟨hy1, hy2⟩ := lts2 hz2 | have hy1 := lts1 hz2); have hb9 := hb1) | (go_at_call 43; refine (spec_l01In _ _ _ _).mono ?_; rintro e w' ⟨rfl, rfl⟩))
  go_ret
  exact ⟨ret_bool (netOk_no2 (shape_no2 S1.out)).symm, bel⟩
 have e1 : ((n.owners.length : Int) != 10 * nodeCount n.mesh.g) = false := bne_eq_false_iff_eq.2 s1
 have S1 := Lib.hid s1
 have u1 : (n.owners.length : Int) ≤ 10 * nodeCount n.mesh.g := by omega
 have v1 : 10 * nodeCount n.mesh.g ≤ (n.owners.length : Int) := by omega
 clear s1
 by_cases s2 : (n.turns.length : Int) = 5 * nodeCount n.mesh.g
 case neg =>
  have e2 : ((n.turns.length : Int) != 5 * nodeCount n.mesh.g) = true := bne_iff_ne.2 s2
  have S2 := Lib.hid s2
  clear s2
  go_enter Try.func16, Try.ntmps16
  go_wp2_with (first | (go_at_call 41; refine (spec_NodeCount n.mesh.g _).mono ?_; rintro e w1 ⟨rfl, hb1⟩; obtain ⟨hc1, hf1, hz1⟩ := bcell hb1; (try simp only [szs] at hz1); have hb2 := (by first | exact bw_then hb2 hb1 | exact bw_then (bw_drewN _ hb2) hb1 | exact bw_then (bw_alloc _ hb2) hb1 | exact bw_then (bw_drew hb2) hb1 | exact bw_then HB hb1 | exact bw_then (bw_drewN _ HB) hb1 | exact bw_then (bw_alloc _ HB) hb1 | exact bw_then (bw_drew HB) hb1 | exact hb1); obtain ⟨hc2, hf2, hz2⟩ := bcell hb2; (try simp only [szs] at hz2); try (first | obtain ⟨hy1, hy2, hy3, hy4⟩ := lts4 hz2 | obtain ⟨hy1, hy2, hy3⟩ := lts3 hz2 | obtain ⟨hy1, hy2⟩ := lts2 hz2 | have hy1 := lts1 hz2); have hb9 := hb1) | (go_at_call 42; refine (spec_ClassesOk n.mesh n.pa n.pb a1 a2 a3 _ _ _ _ (by exact Kd.C_below Rbr bel) L1 (by exact Kd.C_below Rpa bel) L2 (by exact Kd.C_below Rpb bel) L3).mono ?_; rintro e w1 ⟨rfl, hb1⟩; obtain ⟨hc1, hf1, hz1⟩ := bcell hb1; (try simp only [szs] at hz1); have hb2 := (by first | exact bw_then hb2 hb1 | exact bw_then (bw_drewN _ hb2) hb1 | exact bw_then (bw_alloc _ hb2) hb1 | exact bw_then (bw_drew hb2) hb1 | exact bw_then HB hb1 | exact bw_then (bw_drewN _ HB) hb1 | exact bw_then (bw_alloc _ HB) hb1 | exact bw_then (bw_drew HB) hb1 | exact hb1); obtain ⟨hc2, hf2, hz2⟩ := bcell hb2; (try simp only [szs] at hz2); try (first | obtain ⟨hy1, hy2, hy3, hy4⟩ := lts4 hz2 | obtain ⟨hy1, hy2, hy3⟩ := lts3 hz2 | obtain ⟨hy1, hy2⟩ := lts2 hz2 | have hy1 := lts1 hz2); have hb9 := hb1) | (go_at_call 43; refine (spec_l01In _ _ _ _).mono ?_; rintro e w' ⟨rfl, rfl⟩))
  go_ret
  exact ⟨ret_bool (netOk_no2 (shape_no3 S2.out)).symm, bel⟩
 have e2 : ((n.turns.length : Int) != 5 * nodeCount n.mesh.g) = false := bne_eq_false_iff_eq.2 s2
 have S2 := Lib.hid s2
 have u2 : (n.turns.length : Int) ≤ 5 * nodeCount n.mesh.g := by omega
 have v2 : 5 * nodeCount n.mesh.g ≤ (n.turns.length : Int) := by omega
 clear s2
 by_cases s3 : (n.srcs.length : Int) = nodeCount n.mesh.g
 case neg =>
  have e3 : ((n.srcs.length : Int) != nodeCount n.mesh.g) = true := bne_iff_ne.2 s3
  have S3 := Lib.hid s3
  clear s3
  go_enter Try.func16, Try.ntmps16
  go_wp2_with (first | (go_at_call 41; refine (spec_NodeCount n.mesh.g _).mono ?_; rintro e w1 ⟨rfl, hb1⟩; obtain ⟨hc1, hf1, hz1⟩ := bcell hb1; (try simp only [szs] at hz1); have hb2 := (by first | exact bw_then hb2 hb1 | exact bw_then (bw_drewN _ hb2) hb1 | exact bw_then (bw_alloc _ hb2) hb1 | exact bw_then (bw_drew hb2) hb1 | exact bw_then HB hb1 | exact bw_then (bw_drewN _ HB) hb1 | exact bw_then (bw_alloc _ HB) hb1 | exact bw_then (bw_drew HB) hb1 | exact hb1); obtain ⟨hc2, hf2, hz2⟩ := bcell hb2; (try simp only [szs] at hz2); try (first | obtain ⟨hy1, hy2, hy3, hy4⟩ := lts4 hz2 | obtain ⟨hy1, hy2, hy3⟩ := lts3 hz2 | obtain ⟨hy1, hy2⟩ := lts2 hz2 | have hy1 := lts1 hz2); have hb9 := hb1) | (go_at_call 42; refine (spec_ClassesOk n.mesh n.pa n.pb a1 a2 a3 _ _ _ _ (by exact Kd.C_below Rbr bel) L1 (by exact Kd.C_below Rpa bel) L2 (by exact Kd.C_below Rpb bel) L3).mono ?_; rintro e w1 ⟨rfl, hb1⟩; obtain ⟨hc1, hf1, hz1⟩ := bcell hb1; (try simp only [szs] at hz1); have hb2 := (by first | exact bw_then hb2 hb1 | exact bw_then (bw_drewN _ hb2) hb1 | exact bw_then (bw_alloc _ hb2) hb1 | exact bw_then (bw_drew hb2) hb1 | exact bw_then HB hb1 | exact bw_then (bw_drewN _ HB) hb1 | exact bw_then (bw_alloc _ HB) hb1 | exact bw_then (bw_drew HB) hb1 | exact hb1); obtain ⟨hc2, hf2, hz2⟩ := bcell hb2; (try simp only [szs] at hz2); try (first | obtain ⟨hy1, hy2, hy3, hy4⟩ := lts4 hz2 | obtain ⟨hy1, hy2, hy3⟩ := lts3 hz2 | obtain ⟨hy1, hy2⟩ := lts2 hz2 | have hy1 := lts1 hz2); have hb9 := hb1) | (go_at_call 43; refine (spec_l01In _ _ _ _).mono ?_; rintro e w' ⟨rfl, rfl⟩))
  go_ret
  exact ⟨ret_bool (netOk_no2 (shape_no4 S3.out)).symm, bel⟩
 have e3 : ((n.srcs.length : Int) != nodeCount n.mesh.g) = false := bne_eq_false_iff_eq.2 s3
 have S3 := Lib.hid s3
 have u3 : (n.srcs.length : Int) ≤ nodeCount n.mesh.g := by omega
 have v3 : nodeCount n.mesh.g ≤ (n.srcs.length : Int) := by omega
 clear s3
 by_cases s4 : (n.arrs.length : Int) = nodeCount n.mesh.g
 case neg =>
  have e4 : ((n.arrs.length : Int) != nodeCount n.mesh.g) = true := bne_iff_ne.2 s4
  have S4 := Lib.hid s4
  clear s4
  go_enter Try.func16, Try.ntmps16
  go_wp2_with (first | (go_at_call 41; refine (spec_NodeCount n.mesh.g _).mono ?_; rintro e w1 ⟨rfl, hb1⟩; obtain ⟨hc1, hf1, hz1⟩ := bcell hb1; (try simp only [szs] at hz1); have hb2 := (by first | exact bw_then hb2 hb1 | exact bw_then (bw_drewN _ hb2) hb1 | exact bw_then (bw_alloc _ hb2) hb1 | exact bw_then (bw_drew hb2) hb1 | exact bw_then HB hb1 | exact bw_then (bw_drewN _ HB) hb1 | exact bw_then (bw_alloc _ HB) hb1 | exact bw_then (bw_drew HB) hb1 | exact hb1); obtain ⟨hc2, hf2, hz2⟩ := bcell hb2; (try simp only [szs] at hz2); try (first | obtain ⟨hy1, hy2, hy3, hy4⟩ := lts4 hz2 | obtain ⟨hy1, hy2, hy3⟩ := lts3 hz2 | obtain ⟨hy1, hy2⟩ := lts2 hz2 | have hy1 := lts1 hz2); have hb9 := hb1) | (go_at_call 42; refine (spec_ClassesOk n.mesh n.pa n.pb a1 a2 a3 _ _ _ _ (by exact Kd.C_below Rbr bel) L1 (by exact Kd.C_below Rpa bel) L2 (by exact Kd.C_below Rpb bel) L3).mono ?_; rintro e w1 ⟨rfl, hb1⟩; obtain ⟨hc1, hf1, hz1⟩ := bcell hb1; (try simp only [szs] at hz1); have hb2 := (by first | exact bw_then hb2 hb1 | exact bw_then (bw_drewN _ hb2) hb1 | exact bw_then (bw_alloc _ hb2) hb1 | exact bw_then (bw_drew hb2) hb1 | exact bw_then HB hb1 | exact bw_then (bw_drewN _ HB) hb1 | exact bw_then (bw_alloc _ HB) hb1 | exact bw_then (bw_drew HB) hb1 | exact hb1); obtain ⟨hc2, hf2, hz2⟩ := bcell hb2; (try simp only [szs] at hz2); try (first | obtain ⟨hy1, hy2, hy3, hy4⟩ := lts4 hz2 | obtain ⟨hy1, hy2, hy3⟩ := lts3 hz2 | obtain ⟨hy1, hy2⟩ := lts2 hz2 | have hy1 := lts1 hz2); have hb9 := hb1) | (go_at_call 43; refine (spec_l01In _ _ _ _).mono ?_; rintro e w' ⟨rfl, rfl⟩))
  go_ret
  exact ⟨ret_bool (netOk_no2 (shape_no5 S4.out)).symm, bel⟩
 have e4 : ((n.arrs.length : Int) != nodeCount n.mesh.g) = false := bne_eq_false_iff_eq.2 s4
 have S4 := Lib.hid s4
 have u4 : (n.arrs.length : Int) ≤ nodeCount n.mesh.g := by omega
 have v4 : nodeCount n.mesh.g ≤ (n.arrs.length : Int) := by omega
 clear s4
 cases tm : inside n.time 0 1000000
 ·have HT := Lib.hid tm
  go_enter Try.func16, Try.ntmps16
  go_wp2_with (first | (go_at_call 41; refine (spec_NodeCount n.mesh.g _).mono ?_; rintro e w1 ⟨rfl, hb1⟩; obtain ⟨hc1, hf1, hz1⟩ := bcell hb1; (try simp only [szs] at hz1); have hb2 := (by first | exact bw_then hb2 hb1 | exact bw_then (bw_drewN _ hb2) hb1 | exact bw_then (bw_alloc _ hb2) hb1 | exact bw_then (bw_drew hb2) hb1 | exact bw_then HB hb1 | exact bw_then (bw_drewN _ HB) hb1 | exact bw_then (bw_alloc _ HB) hb1 | exact bw_then (bw_drew HB) hb1 | exact hb1); obtain ⟨hc2, hf2, hz2⟩ := bcell hb2; (try simp only [szs] at hz2); try (first | obtain ⟨hy1, hy2, hy3, hy4⟩ := lts4 hz2 | obtain ⟨hy1, hy2, hy3⟩ := lts3 hz2 | obtain ⟨hy1, hy2⟩ := lts2 hz2 | have hy1 := lts1 hz2); have hb9 := hb1) | (go_at_call 42; refine (spec_ClassesOk n.mesh n.pa n.pb a1 a2 a3 _ _ _ _ (by exact Kd.C_below Rbr bel) L1 (by exact Kd.C_below Rpa bel) L2 (by exact Kd.C_below Rpb bel) L3).mono ?_; rintro e w1 ⟨rfl, hb1⟩; obtain ⟨hc1, hf1, hz1⟩ := bcell hb1; (try simp only [szs] at hz1); have hb2 := (by first | exact bw_then hb2 hb1 | exact bw_then (bw_drewN _ hb2) hb1 | exact bw_then (bw_alloc _ hb2) hb1 | exact bw_then (bw_drew hb2) hb1 | exact bw_then HB hb1 | exact bw_then (bw_drewN _ HB) hb1 | exact bw_then (bw_alloc _ HB) hb1 | exact bw_then (bw_drew HB) hb1 | exact hb1); obtain ⟨hc2, hf2, hz2⟩ := bcell hb2; (try simp only [szs] at hz2); try (first | obtain ⟨hy1, hy2, hy3, hy4⟩ := lts4 hz2 | obtain ⟨hy1, hy2, hy3⟩ := lts3 hz2 | obtain ⟨hy1, hy2⟩ := lts2 hz2 | have hy1 := lts1 hz2); have hb9 := hb1) | (go_at_call 43; refine (spec_l01In _ _ _ _).mono ?_; rintro e w' ⟨rfl, rfl⟩))
  go_ret
  exact ⟨ret_bool (netOk_no7 HT.out).symm, bel⟩
 have HT := Lib.hid tm
 have HSH := Lib.hid (shape_mk S0.out S1.out S2.out S3.out S4.out)
 have HC := Lib.hid hc
 go_enter Try.func16, Try.ntmps16
 go_wp2_with (first | (go_at_call 41; refine (spec_NodeCount n.mesh.g _).mono ?_; rintro e w1 ⟨rfl, hb1⟩; obtain ⟨hc1, hf1, hz1⟩ := bcell hb1; (try simp only [szs] at hz1); have hb2 := (by first | exact bw_then hb2 hb1 | exact bw_then (bw_drewN _ hb2) hb1 | exact bw_then (bw_alloc _ hb2) hb1 | exact bw_then (bw_drew hb2) hb1 | exact bw_then HB hb1 | exact bw_then (bw_drewN _ HB) hb1 | exact bw_then (bw_alloc _ HB) hb1 | exact bw_then (bw_drew HB) hb1 | exact hb1); obtain ⟨hc2, hf2, hz2⟩ := bcell hb2; (try simp only [szs] at hz2); try (first | obtain ⟨hy1, hy2, hy3, hy4⟩ := lts4 hz2 | obtain ⟨hy1, hy2, hy3⟩ := lts3 hz2 | obtain ⟨hy1, hy2⟩ := lts2 hz2 | have hy1 := lts1 hz2); have hb9 := hb1) | (go_at_call 42; refine (spec_ClassesOk n.mesh n.pa n.pb a1 a2 a3 _ _ _ _ (by exact Kd.C_below Rbr bel) L1 (by exact Kd.C_below Rpa bel) L2 (by exact Kd.C_below Rpb bel) L3).mono ?_; rintro e w1 ⟨rfl, hb1⟩; obtain ⟨hc1, hf1, hz1⟩ := bcell hb1; (try simp only [szs] at hz1); have hb2 := (by first | exact bw_then hb2 hb1 | exact bw_then (bw_drewN _ hb2) hb1 | exact bw_then (bw_alloc _ hb2) hb1 | exact bw_then (bw_drew hb2) hb1 | exact bw_then HB hb1 | exact bw_then (bw_drewN _ HB) hb1 | exact bw_then (bw_alloc _ HB) hb1 | exact bw_then (bw_drew HB) hb1 | exact hb1); obtain ⟨hc2, hf2, hz2⟩ := bcell hb2; (try simp only [szs] at hz2); try (first | obtain ⟨hy1, hy2, hy3, hy4⟩ := lts4 hz2 | obtain ⟨hy1, hy2, hy3⟩ := lts3 hz2 | obtain ⟨hy1, hy2⟩ := lts2 hz2 | have hy1 := lts1 hz2); have hb9 := hb1) | (go_at_call 43; refine (spec_l01In _ _ _ _).mono ?_; rintro e w' ⟨rfl, rfl⟩))
 go_loopw [4] (fun i wr => ∃ k : Nat, i = .int .i64 k ∧ k ≤ n.bufs.length ∧ Hid (∀ j : Nat, j < k → bufOk n.mesh.g j (rl n.bufs j) = true ∧ inside (ri n.owners j) (-1) 4 = true) ∧ Below (w.alloc (.cells #[.int .i64 n.mesh.g.w, .int .i64 n.mesh.g.h, .slice a1 n.mesh.br.length c1, .slice a2 n.pa.length c2, .slice a3 n.pb.length c3, .slice a4 n.bufs.length c4, .slice a5 n.owners.length c5, .slice a6 n.turns.length c6, .slice a7 n.srcs.length c7, .slice a8 n.arrs.length c8, .int .i64 n.time] 45)).heap.size (w.alloc (.cells #[.int .i64 n.mesh.g.w, .int .i64 n.mesh.g.h, .slice a1 n.mesh.br.length c1, .slice a2 n.pa.length c2, .slice a3 n.pb.length c3, .slice a4 n.bufs.length c4, .slice a5 n.owners.length c5, .slice a6 n.turns.length c6, .slice a7 n.srcs.length c7, .slice a8 n.arrs.length c8, .int .i64 n.time] 45)) wr) (fun i _ => n.bufs.length - (intOf i).toNat)
 case atStart => exact ⟨0, rfl, Nat.zero_le _, Lib.hid fun j h => absurd h (Nat.not_lt_zero _), bel⟩
 case round =>
  obtain ⟨k, rfl, hk, HA, HB⟩ := hrel
  obtain ⟨hcr, hfr, hzr⟩ := bcell HB
  simp only [szs] at hzr
  have yy1 := lts1 hzr
  by_cases hlt : k < n.bufs.length
  ·obtain ⟨b, off, rfl, hb, Ai, ci, p0, hle, hCi⟩ := rdB_at Rbu k hlt
   obtain ⟨z1, z2, z3, z4, z5, z6⟩ := more hb
   have hlo : k < n.owners.length := by omega
   obtain ⟨b5, off5, rfl, hb5, hx5⟩ := rdI_at Row k hlo
   have p5 := hx5 k hlo
   clear hx5
   obtain ⟨z7, z8, z9, z10, z11, z12⟩ := more hb5
   have hki := M9.out _ (rl_mem hlt)
   have i0 : (k : Int) < 10 * nodeCount n.mesh.g := by omega
   have i1 : (k : Int) < (n.bufs.length : Int) := by omega
   have i2 : (k : Int) < (n.owners.length : Int) := by omega
   have i3 : (0 : Int) ≤ (k : Int) := by omega
   by_cases g1 : 3 < (rl n.bufs k).length
   ·have g1' : (3 : Int) < ((rl n.bufs k).length : Int) := by omega
    go_wp2
    go_ret
    exact ⟨ret_bool (netOk_no3 k hlt (bufOk_1 g1)).symm, bel⟩
   have g1' : ¬ (3 : Int) < ((rl n.bufs k).length : Int) := by omega
   cases h3 : areFl n.mesh.g (rl n.bufs k)
   ·have H3 := Lib.hid h3
    go_wp2_with (go_at_call 44; refine (spec_l15Flits n.mesh.g (rl n.bufs k) Ai ci _ (by exact Kd.C_below hCi bel) hki).mono ?_; rintro e w1 ⟨rfl, hb1⟩; obtain ⟨hc1, hf1, hz1⟩ := bcell hb1; (try simp only [szs] at hz1); have hb2 := (by first | exact bw_then hb2 hb1 | exact bw_then (bw_drewN _ hb2) hb1 | exact bw_then (bw_alloc _ hb2) hb1 | exact bw_then (bw_drew hb2) hb1 | exact bw_then HB hb1 | exact bw_then (bw_drewN _ HB) hb1 | exact bw_then (bw_alloc _ HB) hb1 | exact bw_then (bw_drew HB) hb1 | exact hb1); obtain ⟨hc2, hf2, hz2⟩ := bcell hb2; (try simp only [szs] at hz2); try (first | obtain ⟨hy1, hy2, hy3, hy4⟩ := lts4 hz2 | obtain ⟨hy1, hy2, hy3⟩ := lts3 hz2 | obtain ⟨hy1, hy2⟩ := lts2 hz2 | have hy1 := lts1 hz2); have hb9 := hb1)
    go_ret
    exact ⟨ret_bool (netOk_no3 k hlt (bufOk_3 H3.out)).symm, bel⟩
   have H3 := Lib.hid h3
   cases h5 : inside (ri n.owners k) (-1) 4
   ·have H5 := Lib.hid h5
    go_wp2_with (first | (go_at_call 44; refine (spec_l15Flits n.mesh.g (rl n.bufs k) Ai ci _ (by exact Kd.C_below hCi bel) hki).mono ?_; rintro e w1 ⟨rfl, hb1⟩; obtain ⟨hc1, hf1, hz1⟩ := bcell hb1; (try simp only [szs] at hz1); have hb2 := (by first | exact bw_then hb2 hb1 | exact bw_then (bw_drewN _ hb2) hb1 | exact bw_then (bw_alloc _ hb2) hb1 | exact bw_then (bw_drew hb2) hb1 | exact bw_then HB hb1 | exact bw_then (bw_drewN _ HB) hb1 | exact bw_then (bw_alloc _ HB) hb1 | exact bw_then (bw_drew HB) hb1 | exact hb1); obtain ⟨hc2, hf2, hz2⟩ := bcell hb2; (try simp only [szs] at hz2); try (first | obtain ⟨hy1, hy2, hy3, hy4⟩ := lts4 hz2 | obtain ⟨hy1, hy2, hy3⟩ := lts3 hz2 | obtain ⟨hy1, hy2⟩ := lts2 hz2 | have hy1 := lts1 hz2); have hb9 := hb1) | (go_at_call 43; refine (spec_l01In _ _ _ _).mono ?_; rintro e w' ⟨rfl, rfl⟩))
    go_ret
    exact ⟨ret_bool (netOk_no5 k hlo H5.out).symm, bel⟩
   have H5 := Lib.hid h5
   go_wp2_with (first | (go_at_call 44; refine (spec_l15Flits n.mesh.g (rl n.bufs k) Ai ci _ (by exact Kd.C_below hCi bel) hki).mono ?_; rintro e w1 ⟨rfl, hb1⟩; obtain ⟨hc1, hf1, hz1⟩ := bcell hb1; (try simp only [szs] at hz1); have hb2 := (by first | exact bw_then hb2 hb1 | exact bw_then (bw_drewN _ hb2) hb1 | exact bw_then (bw_alloc _ hb2) hb1 | exact bw_then (bw_drew hb2) hb1 | exact bw_then HB hb1 | exact bw_then (bw_drewN _ HB) hb1 | exact bw_then (bw_alloc _ HB) hb1 | exact bw_then (bw_drew HB) hb1 | exact hb1); obtain ⟨hc2, hf2, hz2⟩ := bcell hb2; (try simp only [szs] at hz2); try (first | obtain ⟨hy1, hy2, hy3, hy4⟩ := lts4 hz2 | obtain ⟨hy1, hy2, hy3⟩ := lts3 hz2 | obtain ⟨hy1, hy2⟩ := lts2 hz2 | have hy1 := lts1 hz2); have hb9 := hb1) | (go_at_call 43; refine (spec_l01In _ _ _ _).mono ?_; rintro e w' ⟨rfl, rfl⟩))
   have hb0 := hb2
   clear hb1 hb9
   go_loopw [6] (fun i wr => ∃ x : Nat, i = .int .i64 x ∧ x ≤ (rl n.bufs k).length ∧ Hid (∀ j : Nat, j < x → clsIs k (rl n.bufs k) j) ∧ Below w1.heap.size w1 wr) (fun i _ => (rl n.bufs k).length - (intOf i).toNat)
   case atStart => exact ⟨0, rfl, Nat.zero_le _, Lib.hid fun j h => absurd h (Nat.not_lt_zero _), bw_refl _⟩
   case round =>
    obtain ⟨x, rfl, hx, HX, HBi⟩ := hrel
    obtain ⟨hci, hfi, hzi⟩ := bcell HBi
    by_cases hlx : x < (rl n.bufs k).length
    ·obtain ⟨b7, off7, rfl, hb7, r0, r1, r2, r3, r4⟩ := rdFl_at hCi x hlx
     obtain ⟨z13, z14, z15, z16, z17, z18⟩ := more hb7
     have z19 : b7 < w1.heap.size := by omega
     have z20 : b7 < wr.heap.size := by omega
     have j1 : (x : Int) < ((rl n.bufs k).length : Int) := by omega
     by_cases hq : clsIs k (rl n.bufs k) x
     ·have HQ := Lib.hid hq
      unfold clsIs at hq
      have f2 : ((rf (rl n.bufs k) x).cls != (k : Int) % 2) = false := bne_eq_false_iff_eq.2 (by rw [hq, mod2])
      clear hq
      go_wp2
      go_roundw
      case rel => exact ⟨x + 1, by go_num, by omega, Lib.hid (upto HX.out HQ.out), bel⟩
      case measure => simp [intOf]; omega
     ·have HQ := Lib.hid hq
      unfold clsIs at hq
      have f2 : ((rf (rl n.bufs k) x).cls != (k : Int) % 2) = true := bne_iff_ne.2 (by rw [mod2]; exact hq)
      clear hq
      go_wp2
      go_ret
      exact ⟨ret_bool (netOk_no3 k hlt (bufOk_6 x hlx HQ.out)).symm, bel⟩
    ·have j1 : ¬ (x : Int) < ((rl n.bufs k).length : Int) := by omega
     go_wp2
     go_roundw
     case rel => exact ⟨k + 1, by go_num, by omega, Lib.hid (upto HA.out ⟨bufOk_5 g1 H3.out (fun j hj => HX.out j (by omega)), H5.out⟩), bel⟩
     case measure => simp [intOf]; omega
  ·have i0 : ¬ (k : Int) < 10 * nodeCount n.mesh.g := by omega
   have HBU : Hid (∀ j : Nat, j < n.bufs.length → bufOk n.mesh.g j (rl n.bufs j) = true) := Lib.hid fun j hj => (HA.out j (by omega)).1
   have HOW : Hid (∀ j : Nat, j < n.owners.length → inside (ri n.owners j) (-1) 4 = true) := Lib.hid fun j hj => (HA.out j (by omega)).2
   go_wp2
   go_loopw [7] (fun i wr => ∃ k : Nat, i = .int .i64 k ∧ k ≤ n.turns.length ∧ Hid (∀ j : Nat, j < k → inside (ri n.turns j) 0 9 = true) ∧ Below (w.alloc (.cells #[.int .i64 n.mesh.g.w, .int .i64 n.mesh.g.h, .slice a1 n.mesh.br.length c1, .slice a2 n.pa.length c2, .slice a3 n.pb.length c3, .slice a4 n.bufs.length c4, .slice a5 n.owners.length c5, .slice a6 n.turns.length c6, .slice a7 n.srcs.length c7, .slice a8 n.arrs.length c8, .int .i64 n.time] 45)).heap.size (w.alloc (.cells #[.int .i64 n.mesh.g.w, .int .i64 n.mesh.g.h, .slice a1 n.mesh.br.length c1, .slice a2 n.pa.length c2, .slice a3 n.pb.length c3, .slice a4 n.bufs.length c4, .slice a5 n.owners.length c5, .slice a6 n.turns.length c6, .slice a7 n.srcs.length c7, .slice a8 n.arrs.length c8, .int .i64 n.time] 45)) wr) (fun i _ => n.turns.length - (intOf i).toNat)
   case atStart => exact ⟨0, rfl, Nat.zero_le _, Lib.hid fun j h => absurd h (Nat.not_lt_zero _), bel⟩
   case round =>
    clear HA HB hcr hfr hzr yy1 hlt i0 hk
    obtain ⟨k, rfl, hk, HA, HB⟩ := hrel
    obtain ⟨hcr, hfr, hzr⟩ := bcell HB
    simp only [szs] at hzr
    have yy1 := lts1 hzr
    by_cases hlt : k < n.turns.length
    ·obtain ⟨b, off, rfl, hb, hx⟩ := rdI_at Rtu k hlt
     have p6 := hx k hlt
     clear hx
     obtain ⟨z1, z2, z3, z4, z5, z6⟩ := more hb
     have i0 : (k : Int) < 5 * nodeCount n.mesh.g := by omega
     have i1 : (k : Int) < (n.turns.length : Int) := by omega
     cases h5 : inside (ri n.turns k) 0 9
     ·have H5 := Lib.hid h5
      go_wp2_with (go_at_call 43; refine (spec_l01In _ _ _ _).mono ?_; rintro e w' ⟨rfl, rfl⟩)
      go_ret
      exact ⟨ret_bool (netOk_no6 k hlt H5.out).symm, bel⟩
     ·have H5 := Lib.hid h5
      go_wp2_with (go_at_call 43; refine (spec_l01In _ _ _ _).mono ?_; rintro e w' ⟨rfl, rfl⟩)
      go_roundw
      case rel => exact ⟨k + 1, by go_num, by omega, Lib.hid (upto HA.out H5.out), bel⟩
      case measure => simp [intOf]; omega
    ·have i0 : ¬ (k : Int) < 5 * nodeCount n.mesh.g := by omega
     have HTU : Hid (∀ j : Nat, j < n.turns.length → inside (ri n.turns j) 0 9 = true) := Lib.hid fun j hj => HA.out j (by omega)
     go_wp2
     go_loopw [8] (fun i wr => ∃ k : Nat, i = .int .i64 k ∧ k ≤ n.srcs.length ∧ Hid (∀ j : Nat, j < k → srcOk n.mesh.g (rl n.srcs j) = true) ∧ Below (w.alloc (.cells #[.int .i64 n.mesh.g.w, .int .i64 n.mesh.g.h, .slice a1 n.mesh.br.length c1, .slice a2 n.pa.length c2, .slice a3 n.pb.length c3, .slice a4 n.bufs.length c4, .slice a5 n.owners.length c5, .slice a6 n.turns.length c6, .slice a7 n.srcs.length c7, .slice a8 n.arrs.length c8, .int .i64 n.time] 45)).heap.size (w.alloc (.cells #[.int .i64 n.mesh.g.w, .int .i64 n.mesh.g.h, .slice a1 n.mesh.br.length c1, .slice a2 n.pa.length c2, .slice a3 n.pb.length c3, .slice a4 n.bufs.length c4, .slice a5 n.owners.length c5, .slice a6 n.turns.length c6, .slice a7 n.srcs.length c7, .slice a8 n.arrs.length c8, .int .i64 n.time] 45)) wr) (fun i _ => n.srcs.length - (intOf i).toNat)
     case atStart => exact ⟨0, rfl, Nat.zero_le _, Lib.hid fun j h => absurd h (Nat.not_lt_zero _), bel⟩
     case round =>
      clear HA HB hcr hfr hzr yy1 hlt i0 hk
      obtain ⟨k, rfl, hk, HA, HB⟩ := hrel
      obtain ⟨hcr, hfr, hzr⟩ := bcell HB
      simp only [szs] at hzr
      have yy1 := lts1 hzr
      by_cases hlt : k < n.srcs.length
      ·obtain ⟨b, off, rfl, hb, Ai, ci, p0, hle, hCi⟩ := rdB_at Rso k hlt
       obtain ⟨z1, z2, z3, z4, z5, z6⟩ := more hb
       have hki := M10.out _ (rl_mem hlt)
       have i0 : (k : Int) < nodeCount n.mesh.g := by omega
       have i1 : (k : Int) < (n.srcs.length : Int) := by omega
       have i3 : (0 : Int) ≤ (k : Int) := by omega
       have x0 : (w.alloc (.cells #[.int .i64 n.mesh.g.w, .int .i64 n.mesh.g.h, .slice a1 n.mesh.br.length c1, .slice a2 n.pa.length c2, .slice a3 n.pb.length c3, .slice a4 n.bufs.length c4, .slice a5 n.owners.length c5, .slice a6 n.turns.length c6, .slice (some ⟨b, off, none⟩) n.srcs.length c7, .slice a8 n.arrs.length c8, .int .i64 n.time] 45)).cell? ⟨w.heap.size, 0, none⟩ = some (.int .i64 n.mesh.g.w) := (Box.new w _ #[.int .i64 n.mesh.g.w, .int .i64 n.mesh.g.h, .slice a1 n.mesh.br.length c1, .slice a2 n.pa.length c2, .slice a3 n.pb.length c3, .slice a4 n.bufs.length c4, .slice a5 n.owners.length c5, .slice a6 n.turns.length c6, .slice (some ⟨b, off, none⟩) n.srcs.length c7, .slice a8 n.arrs.length c8, .int .i64 n.time] 45 rfl).get 0
       have x1 : (w.alloc (.cells #[.int .i64 n.mesh.g.w, .int .i64 n.mesh.g.h, .slice a1 n.mesh.br.length c1, .slice a2 n.pa.length c2, .slice a3 n.pb.length c3, .slice a4 n.bufs.length c4, .slice a5 n.owners.length c5, .slice a6 n.turns.length c6, .slice (some ⟨b, off, none⟩) n.srcs.length c7, .slice a8 n.arrs.length c8, .int .i64 n.time] 45)).cell? ⟨w.heap.size, 1, none⟩ = some (.int .i64 n.mesh.g.h) := (Box.new w _ #[.int .i64 n.mesh.g.w, .int .i64 n.mesh.g.h, .slice a1 n.mesh.br.length c1, .slice a2 n.pa.length c2, .slice a3 n.pb.length c3, .slice a4 n.bufs.length c4, .slice a5 n.owners.length c5, .slice a6 n.turns.length c6, .slice (some ⟨b, off, none⟩) n.srcs.length c7, .slice a8 n.arrs.length c8, .int .i64 n.time] 45 rfl).get 1
       have x7 : (w.alloc (.cells #[.int .i64 n.mesh.g.w, .int .i64 n.mesh.g.h, .slice a1 n.mesh.br.length c1, .slice a2 n.pa.length c2, .slice a3 n.pb.length c3, .slice a4 n.bufs.length c4, .slice a5 n.owners.length c5, .slice a6 n.turns.length c6, .slice (some ⟨b, off, none⟩) n.srcs.length c7, .slice a8 n.arrs.length c8, .int .i64 n.time] 45)).cell? ⟨w.heap.size, 8, none⟩ = some (.slice (some ⟨b, off, none⟩) n.srcs.length c7) := (Box.new w _ #[.int .i64 n.mesh.g.w, .int .i64 n.mesh.g.h, .slice a1 n.mesh.br.length c1, .slice a2 n.pa.length c2, .slice a3 n.pb.length c3, .slice a4 n.bufs.length c4, .slice a5 n.owners.length c5, .slice a6 n.turns.length c6, .slice (some ⟨b, off, none⟩) n.srcs.length c7, .slice a8 n.arrs.length c8, .int .i64 n.time] 45 rfl).get 8
       by_cases g1 : 60 < (rl n.srcs k).length
       ·have g1' : (60 : Int) < ((rl n.srcs k).length : Int) := by omega
        go_wp2_with fail
        refine wp_region_far ((w.alloc (.cells #[.int .i64 n.mesh.g.w, .int .i64 n.mesh.g.h, .slice a1 n.mesh.br.length c1, .slice a2 n.pa.length c2, .slice a3 n.pb.length c3, .slice a4 n.bufs.length c4, .slice a5 n.owners.length c5, .slice a6 n.turns.length c6, .slice (some ⟨b, off, none⟩) n.srcs.length c7, .slice a8 n.arrs.length c8, .int .i64 n.time] 45))) (by kernel_rfl) (by kernel_rfl) bel ?_
        have hqc := far_cell ((w.alloc (.cells #[.int .i64 n.mesh.g.w, .int .i64 n.mesh.g.h, .slice a1 n.mesh.br.length c1, .slice a2 n.pa.length c2, .slice a3 n.pb.length c3, .slice a4 n.bufs.length c4, .slice a5 n.owners.length c5, .slice a6 n.turns.length c6, .slice (some ⟨b, off, none⟩) n.srcs.length c7, .slice a8 n.arrs.length c8, .int .i64 n.time] 45)))
        have hqf := far_frozen ((w.alloc (.cells #[.int .i64 n.mesh.g.w, .int .i64 n.mesh.g.h, .slice a1 n.mesh.br.length c1, .slice a2 n.pa.length c2, .slice a3 n.pb.length c3, .slice a4 n.bufs.length c4, .slice a5 n.owners.length c5, .slice a6 n.turns.length c6, .slice (some ⟨b, off, none⟩) n.srcs.length c7, .slice a8 n.arrs.length c8, .int .i64 n.time] 45)))
        repeat (first | go_big_quiet_step (fail) | quiet_step (fail))
        refine wpQuiet_nil ?_
        intro wq hbq
        clear hqc hqf
        obtain ⟨hcq, hfq, hzq⟩ := bcell hbq
        try simp only [szs] at hzq
        go_wp2
        go_ret
        exact ⟨ret_bool (netOk_no4 k hlt (srcOk_1 g1)).symm, bel⟩
       have g1' : ¬ (60 : Int) < ((rl n.srcs k).length : Int) := by omega
       cases h3 : areFl n.mesh.g (rl n.srcs k)
       ·have H3 := Lib.hid h3
        go_wp2_with fail
        refine wp_region_far ((w.alloc (.cells #[.int .i64 n.mesh.g.w, .int .i64 n.mesh.g.h, .slice a1 n.mesh.br.length c1, .slice a2 n.pa.length c2, .slice a3 n.pb.length c3, .slice a4 n.bufs.length c4, .slice a5 n.owners.length c5, .slice a6 n.turns.length c6, .slice (some ⟨b, off, none⟩) n.srcs.length c7, .slice a8 n.arrs.length c8, .int .i64 n.time] 45))) (by kernel_rfl) (by kernel_rfl) bel ?_
        have hqc := far_cell ((w.alloc (.cells #[.int .i64 n.mesh.g.w, .int .i64 n.mesh.g.h, .slice a1 n.mesh.br.length c1, .slice a2 n.pa.length c2, .slice a3 n.pb.length c3, .slice a4 n.bufs.length c4, .slice a5 n.owners.length c5, .slice a6 n.turns.length c6, .slice (some ⟨b, off, none⟩) n.srcs.length c7, .slice a8 n.arrs.length c8, .int .i64 n.time] 45)))
        have hqf := far_frozen ((w.alloc (.cells #[.int .i64 n.mesh.g.w, .int .i64 n.mesh.g.h, .slice a1 n.mesh.br.length c1, .slice a2 n.pa.length c2, .slice a3 n.pb.length c3, .slice a4 n.bufs.length c4, .slice a5 n.owners.length c5, .slice a6 n.turns.length c6, .slice (some ⟨b, off, none⟩) n.srcs.length c7, .slice a8 n.arrs.length c8, .int .i64 n.time] 45)))
        repeat (first | go_big_quiet_step (first | (go_at_call 44; exact far_call (Calls.says (spec_l15Flits n.mesh.g (rl n.srcs k) Ai ci _ (by exact Kd.C_below (by exact Kd.C_below hCi bel) (Far.h _)) hki) (congrArg Value.bool H3.out)))) | quiet_step (first | (go_at_call 44; exact far_call (Calls.says (spec_l15Flits n.mesh.g (rl n.srcs k) Ai ci _ (by exact Kd.C_below (by exact Kd.C_below hCi bel) (Far.h _)) hki) (congrArg Value.bool H3.out)))))
        refine wpQuiet_nil ?_
        intro wq hbq
        clear hqc hqf
        obtain ⟨hcq, hfq, hzq⟩ := bcell hbq
        try simp only [szs] at hzq
        go_wp2
        go_ret
        exact ⟨ret_bool (netOk_no4 k hlt (srcOk_2 H3.out)).symm, bel⟩
       ·have H3 := Lib.hid h3
        go_wp2_with fail
        refine wp_region_far ((w.alloc (.cells #[.int .i64 n.mesh.g.w, .int .i64 n.mesh.g.h, .slice a1 n.mesh.br.length c1, .slice a2 n.pa.length c2, .slice a3 n.pb.length c3, .slice a4 n.bufs.length c4, .slice a5 n.owners.length c5, .slice a6 n.turns.length c6, .slice (some ⟨b, off, none⟩) n.srcs.length c7, .slice a8 n.arrs.length c8, .int .i64 n.time] 45))) (by kernel_rfl) (by kernel_rfl) bel ?_
        have hqc := far_cell ((w.alloc (.cells #[.int .i64 n.mesh.g.w, .int .i64 n.mesh.g.h, .slice a1 n.mesh.br.length c1, .slice a2 n.pa.length c2, .slice a3 n.pb.length c3, .slice a4 n.bufs.length c4, .slice a5 n.owners.length c5, .slice a6 n.turns.length c6, .slice (some ⟨b, off, none⟩) n.srcs.length c7, .slice a8 n.arrs.length c8, .int .i64 n.time] 45)))
        have hqf := far_frozen ((w.alloc (.cells #[.int .i64 n.mesh.g.w, .int .i64 n.mesh.g.h, .slice a1 n.mesh.br.length c1, .slice a2 n.pa.length c2, .slice a3 n.pb.length c3, .slice a4 n.bufs.length c4, .slice a5 n.owners.length c5, .slice a6 n.turns.length c6, .slice (some ⟨b, off, none⟩) n.srcs.length c7, .slice a8 n.arrs.length c8, .int .i64 n.time] 45)))
        repeat (first | go_big_quiet_step (first | (go_at_call 44; exact far_call (Calls.says (spec_l15Flits n.mesh.g (rl n.srcs k) Ai ci _ (by exact Kd.C_below (by exact Kd.C_below hCi bel) (Far.h _)) hki) (congrArg Value.bool H3.out)))) | quiet_step (first | (go_at_call 44; exact far_call (Calls.says (spec_l15Flits n.mesh.g (rl n.srcs k) Ai ci _ (by exact Kd.C_below (by exact Kd.C_below hCi bel) (Far.h _)) hki) (congrArg Value.bool H3.out)))))
        refine wpQuiet_nil ?_
        intro wq hbq
        clear hqc hqf
        obtain ⟨hcq, hfq, hzq⟩ := bcell hbq
        try simp only [szs] at hzq
        go_wp2
        go_roundw
        case rel => exact ⟨k + 1, by go_num, by omega, Lib.hid (upto HA.out (srcOk_3 g1 H3.out)), bel⟩
        case measure => simp [intOf]; omega
      ·have i0 : ¬ (k : Int) < nodeCount n.mesh.g := by omega
       have HE := Lib.hid (netOk_eq HC.out HSH.out HBU.out (fun j hj => HA.out j (by omega)))
       go_wp2
       go_ret
       exact ⟨ret_bool (by rw [HE.out, allI_true HOW.out, allI_true HTU.out, HT.out]; rfl), bel⟩
end Go.Proofs.Yteeebfeljjghhaa
/- Requests: the reference's side; for all networks. -/
set_option linter.unusedVariables false
set_option linter.unusedSimpArgs false
namespace Go.Proofs.Yteeebfeljjghhaa
open Go.RowKit Go.Proofs.YteeebfeljjghhaaW.PrintWords
open NoC

end Go.Proofs.Yteeebfeljjghhaa
/- The first of some inputs from a turn on; what slices.DeleteFunc keeps: the program's helpers of GrantsAt. -/
set_option linter.unusedVariables false
set_option linter.unusedSimpArgs false
namespace Go.Proofs.Yteeebfeljjghhaa
open Go.RowKit Go.Proofs.YteeebfeljjghhaaW.PrintWords
open NoC

def Blk (W : World) (b : Nat) (t : TypeId) (cs : Array Value) : Prop := W.heap[b]? = some (.cells cs t (0, 0))
theorem Blk.lt {W : World} {b : Nat} {t : TypeId} {cs : Array Value} (h : Blk W b t cs) : b < W.heap.size := (Array.getElem?_eq_some_iff.1 h).1
theorem Blk.cell {W : World} {b : Nat} {t : TypeId} {cs : Array Value} (h : Blk W b t cs) (o : Nat) : W.cell? ⟨b, o, none⟩ = cs[o]? := by
  unfold World.cell?
  rw [show W.heap[b]? = _ from h]
  rfl
theorem Blk.frozen {W : World} {b : Nat} {t : TypeId} {cs : Array Value} (h : Blk W b t cs) (o : Nat) : W.frozen? ⟨b, o, none⟩ = false := by
  unfold World.frozen?
  rw [show W.heap[b]? = _ from h]
  simp
theorem Blk.new (W : World) (b : Nat) (t : TypeId) (cs : Array Value) (hb : b = W.heap.size) : Blk (W.alloc (.cells cs t)) b t cs := by
  subst hb
  exact (show (W.heap.push _)[W.heap.size]? = _ from Array.getElem?_push_size)
theorem Blk.below {W W1 : World} {b : Nat} {t : TypeId} {cs : Array Value} (h : Blk W b t cs) (hb : Below W.heap.size W W1) : Blk W1 b t cs := (hb.block b h.lt).trans h
theorem Blk.grown {W W1 : World} {b : Nat} {t : TypeId} {cs : Array Value} {row : Option Nat} (h : Blk W b t cs) (hg : W.grownBy W1 row) (hne : some b ≠ row) : Blk W1 b t cs := (hg.block b h.lt hne).trans h
theorem Blk.set {W : World} {b : Nat} {t : TypeId} {cs : Array Value} (h : Blk W b t cs) (i : Nat) (v : Value) : Blk (W.setCell ⟨b, i, none⟩ v) b t (cs.setIfInBounds i v) := by
  show (W.heap.modify b _)[b]? = _
  have hlt := h.lt
  have h2 : W.heap[b]? = some (.cells cs t (0, 0)) := h
  rw [Array.getElem?_eq_getElem hlt] at h2
  injection h2 with h2
  rw [Array.getElem?_eq_getElem (by rw [Array.size_modify]; exact hlt), Array.getElem_modify_self, h2]
  rfl
def uCells (us : List Bool) : Array Value := (us.map Value.bool).toArray
theorem uCells_get {us : List Bool} {o : Nat} (h : o < us.length) : (uCells us)[o]? = some (.bool (us.getD o false)) := by
  simp [uCells, h, List.getD_eq_getElem?_getD]
def UB (t : TypeId) (w : World) (gm : Nat) (us : List Bool) : Prop := us.length = 5 ∧ Blk w gm t (uCells us)
theorem UB.cell {t : TypeId} {w : World} {gm : Nat} {us : List Bool} (h : UB t w gm us) {x : Int} (h0 : 0 ≤ x) (h9 : x ≤ 9) : w.cell? ⟨gm, (x / 2).toNat, none⟩ = some (.bool (usedAt us x)) := by
  rw [h.2.cell, uCells_get (by have := h.1; omega)]
  rfl
theorem UB.below {t : TypeId} {w w1 : World} {gm : Nat} {us : List Bool} (h : UB t w gm us) (hb : Below w.heap.size w w1) : UB t w1 gm us := ⟨h.1, h.2.below hb⟩
theorem UB.grown {t : TypeId} {w w1 : World} {gm : Nat} {us : List Bool} {row : Option Nat} (h : UB t w gm us) (hg : w.grownBy w1 row) (hne : some gm ≠ row) : UB t w1 gm us := ⟨h.1, h.2.grown hg hne⟩

end Go.Proofs.Yteeebfeljjghhaa
/- Grants and moves of a valid network: the program's side. -/
set_option linter.unusedVariables false
set_option linter.unusedSimpArgs false
namespace Go.Proofs.Yteeebfeljjghhaa
open Go.RowKit Go.Proofs.YteeebfeljjghhaaW.PrintWords
open NoC

section
variable {ops : Array Oper} {rest : List Oper} {o : Oper} {a : Act} {Q : Exit → Act → World → Prop}
end
end Go.Proofs.Yteeebfeljjghhaa
/- The state of a step's walk: the network in its box, its rows, and the step's own rows; what each store and append leaves. -/
set_option linter.unusedVariables false
set_option linter.unusedSimpArgs false
namespace Go.Proofs.Yteeebfeljjghhaa
open Go.RowKit Go.Proofs.YteeebfeljjghhaaW.PrintWords
open NoC

structure SV where
  q : NA
  v4 : List Value
  v7 : List Value
  v8 : List Value
  vg : Value
  vt : Value
  ve : Value
  vm : Value
  gs : List Grant
  ts : List Int
  es : List Int
  ms : List Flit
section
variable {w0 w w1 : World} {lo bx : Nat} {n0 : Net} {s : SV} {x : Net}
theorem Below.cut {B C : Nat} {w w1 : World} (h : Below C w w1) (hB : B ≤ C) : Below B w w1 := ⟨h.os, h.tape, h.output, h.size, fun i hi => h.block i (by omega)⟩
theorem Below.grownRow {B : Nat} {w w1 w2 : World} {v : Value} (h : Below B w w1) (hg : w1.grownBy w2 v.ownBlock) (hB : B ≤ w1.heap.size) (hv : ∀ k, v.ownBlock = some k → B ≤ k) : Below B w w2 := h.grown hg hB hv
theorem below_setc {B : Nat} {w w1 : World} (h : Below B w w1) {g : Nat} (hg : B ≤ g) (o : Nat) (u : Value) : Below B w (w1.setCell ⟨g, o, none⟩ u) := h.setCell hg _
end
end Go.Proofs.Yteeebfeljjghhaa
/- Words on copies: an empty literal's block; append(lit, xs...) walked in order and inside a region that draws its order. -/
set_option linter.unusedVariables false
set_option linter.unusedSimpArgs false
namespace Go.Proofs.Yteeebfeljjghhaa
open Go.RowKit Go.Proofs.YteeebfeljjghhaaW.PrintWords
open NoC

def Lit (e : Nat) (w : World) (g : Nat) : Prop := w.heap[g]? = some (.cells #[] e (0, 0))
theorem lit_new {e g : Nat} {w : World} (h : g = w.heap.size) : Lit e (w.alloc (.cells #[] e)) g := by subst h; exact blk_new w _
theorem lit_alloc {e g : Nat} {w : World} (o : Obj) (h : Lit e w g) : Lit e (w.alloc o) g := blk_alloc h o
theorem lit_drew {e g : Nat} {w : World} (h : Lit e w g) : Lit e w.drew g := h
structure Stp (w w1 : World) : Prop where
  h : Below w.heap.size w w1
theorem lit_stp {e g : Nat} {w w1 : World} (hs : Stp w w1) (h : Lit e w g) : Lit e w1 g := blk_below h hs.h
theorem R_lit {α : Type} (d : Kd α) {e g B : Nat} {w : World} (h : Lit e w g) (hB : B ≤ g) : d.R e w B (fun _ => True) (.slice (some ⟨g, 0, none⟩) 0 0) [] := by
  refine ⟨fun _ _ => trivial, [], ?_, Reps.none _ _⟩
  exact ⟨by simp, .inr ⟨g, 0, #[], rfl, hB, h, Nat.le_refl _, Nat.zero_le _, by simp, by simp⟩⟩
def At2 (g lo hi : Nat) (v : Value) : Prop := ∀ k, v.ownBlock = some k → k = g ∨ (lo ≤ k ∧ k < hi)
theorem apart_of {u v : Value} {p r : Nat → Prop} (hu : ∀ k, u.ownBlock = some k → p k) (hv : ∀ k, v.ownBlock = some k → r k) (h : ∀ k, p k → r k → False) : Apart u v := by
  cases e : u.ownBlock with
  | none => exact .inl e
  | some k =>
    right
    rw [e]
    intro e2
    exact h k (hu k e) (hv k e2.symm)
section
variable {ops : Array Oper} {rest : List Oper} {o : Oper} {a : Act} {Q : Exit → Act → World → Prop} {Kc : Act → World → Prop} {α : Type}
theorem run_copy (d : Kd α) {B : Nat} {W : World} (t ty e : TypeId) (z : Value) (bytes : Nat)
    (ht : Try.prog.underlying t = some (.slice e)) (hinfo : (Try.prog.info? e).map (fun i => (i.zero, i.size, i.bytes)) = some (some z, d.sz, bytes)) (hz : z.cells.size = d.sz) (hs0 : 0 < d.sz) (hb1 : bytes ≤ 1000)
    (hKM : ∀ (w1 : World) (b : Nat) (ok : Nat → Prop) x cs, d.K W x cs → d.M w1 b ok x cs) (hK1 : ∀ x cs, d.K W x cs → ∀ u ∈ cs, u.oneCell' = true)
    (g : Nat) (ys : List α) (A : Option Addr) (m c : Nat) (HL : Lit e W g) (hg : B ≤ g) (HR : d.C W A m ys) (hB : B ≤ W.heap.size) (hl : m ≤ 10000000) :
    ∃ v1 w1, (Builtin.append_ #[t, t] ty #[.slice (some ⟨g, 0, none⟩) 0 0, .slice A m c]).run Try.prog W = .ok v1 w1 ∧ d.R e w1 B (fun _ => True) v1 ys ∧ Below W.heap.size W w1 ∧ At2 g W.heap.size w1.heap.size v1 := by
  obtain ⟨i0, hi, hzz⟩ := Option.map_eq_some_iff.1 hinfo
  simp only [Prod.mk.injEq] at hzz
  obtain ⟨hz0, hz1, hz2⟩ := hzz
  have hm : ys.length = m := HR.1
  have nothing : ∀ (_ : m = 0), Src Try.prog i0.size t (.slice A m c) 0 [] W → ∃ v1 w1, (Builtin.append_ #[t, t] ty #[.slice (some ⟨g, 0, none⟩) 0 0, .slice A m c]).run Try.prog W = .ok v1 w1 ∧ d.R e w1 B (fun _ => True) v1 ys ∧ Below W.heap.size W w1 ∧ At2 g W.heap.size w1.heap.size v1 := by
    intro h0 hs
    obtain rfl : ys = [] := List.eq_nil_of_length_eq_zero (hm.trans h0)
    exact ⟨_, W, run_append_nothing W t t ty e i0 ht hi (some ⟨g, 0, none⟩) 0 0 (Nat.le_refl _) _ hs, R_lit d HL hg, Below.refl _ _, fun k hk => .inl (Option.some.inj hk).symm⟩
  rcases A with _ | ad
  · have h0 : m = 0 := by
      rcases Nat.eq_zero_or_pos m with h0 | h0
      · exact h0
      · obtain ⟨ad, h, _⟩ := HR.2.2 h0
        cases h
    subst h0
    exact nothing rfl (Src.ofNil W ht c)
  · by_cases h0 : m = 0
    · subst h0
      exact nothing rfl (Src.ofSlice W ht ad 0 c [] (by simp) (fun j u h => by simp at h) (fun u h => by cases h))
    · obtain ⟨news, hnr, hnc⟩ := ReadsRow.inner_ HR
      obtain ⟨v1, w1, hrun, hown, hgr⟩ := run_append_arg_grows (P := Try.prog) W t ty e i0 z d.sz bytes ht hi hz0 hz1 hz2 hz hs0 ⟨g, 0, none⟩ 0 0 [] (by simp) (fun j u h => by simp at h) ad m c news (by rw [hnr.1, hm]) hnc (by omega) (by simp only [maxLen]; omega) (by simp only [Nat.zero_add]; exact Nat.le_trans (Nat.mul_le_mul hl hb1) (by omega))
      have hb : Below W.heap.size W w1 := ⟨hgr.os, hgr.tape, hgr.output, hgr.size, fun i hi2 => hgr.block i hi2 (by simp)⟩
      rw [List.nil_append, Nat.zero_add] at hown
      refine ⟨v1, w1, hrun, ⟨fun _ _ => trivial, news, ?_, hnr.imp_ (fun p cs hp => hKM _ _ _ p cs hp)⟩, hb, fun k hk => .inr ⟨own_base hown k hk, own_lt hown k hk⟩⟩
      rw [hm]
      exact own_weaken hown hB
theorem copy_row (d : Kd α) {B : Nat} {W : World} (hgd : o.guard = none) (s x : Operand) (t e : TypeId) (z : Value) (bytes : Nat)
    (ho : o.op = .call { callee := .builtin .append, args := #[s, x], argTypes := #[t, t] })
    (ht : Try.prog.underlying t = some (.slice e)) (hinfo : (Try.prog.info? e).map (fun i => (i.zero, i.size, i.bytes)) = some (some z, d.sz, bytes)) (hz : z.cells.size = d.sz) (hs0 : 0 < d.sz) (hb1 : bytes ≤ 1000)
    (hKM : ∀ (w1 : World) (b : Nat) (ok : Nat → Prop) x cs, d.K W x cs → d.M w1 b ok x cs) (hK1 : ∀ x cs, d.K W x cs → ∀ u ∈ cs, u.oneCell' = true)
    (g : Nat) (ys : List α) (A : Option Addr) (m c : Nat) (hs : a.eval s = .slice (some ⟨g, 0, none⟩) 0 0) (hx : a.eval x = .slice A m c)
    (HL : Lit e W g) (hg : B ≤ g) (HR : d.C W A m ys) (hB : B ≤ W.heap.size) (hl : m ≤ 10000000)
    (h : ∀ v1 w1, d.R e w1 B (fun _ => True) v1 ys → Below W.heap.size W w1 → At2 g W.heap.size w1.heap.size v1 → wpList Try.prog ops Q rest (a.put o.dst v1) w1) : wpList Try.prog ops Q (o :: rest) a W := by
  obtain ⟨v1, w1, hr1, h1, h2, h3⟩ := run_copy d t o.type e z bytes ht hinfo hz hs0 hb1 hKM hK1 g ys A m c HL hg HR hB hl
  refine wpList_plain hgd fun K hK => ?_
  unfold Oper.wp execOp
  simp only [ho, resolve, invoke, builtin, Sem.run_bind, Sem.run_pure, Result.andThen_ok, List.map_toArray, List.map_cons, List.map_nil, hs, hx, hr1]
  exact hK _ _ (h v1 w1 h1 h2 h3)
theorem copy_row_step (d : Kd α) {B : Nat} {W : World} {Q' : Exit → Act → World → Prop} {E : Prop} (hw : Region.wanted o (yielded ops a.tmps) = true) (s x : Operand) (t e : TypeId) (z : Value) (bytes : Nat)
    (ho : o.op = .call { callee := .builtin .append, args := #[s, x], argTypes := #[t, t] })
    (ht : Try.prog.underlying t = some (.slice e)) (hinfo : (Try.prog.info? e).map (fun i => (i.zero, i.size, i.bytes)) = some (some z, d.sz, bytes)) (hz : z.cells.size = d.sz) (hs0 : 0 < d.sz) (hb1 : bytes ≤ 1000)
    (hKM : ∀ (w1 : World) (b : Nat) (ok : Nat → Prop) x cs, d.K W x cs → d.M w1 b ok x cs) (hK1 : ∀ x cs, d.K W x cs → ∀ u ∈ cs, u.oneCell' = true)
    (g : Nat) (ys : List α) (A : Option Addr) (m c : Nat) (hs : a.eval s = .slice (some ⟨g, 0, none⟩) 0 0) (hx : a.eval x = .slice A m c)
    (HL : Lit e W g) (hg : B ≤ g) (HR : d.C W A m ys) (hB : B ≤ W.heap.size) (hl : m ≤ 10000000)
    (h : ∀ v1 w1, d.R e w1 B (fun _ => True) v1 ys → Below W.heap.size W w1 → At2 g W.heap.size w1.heap.size v1 → Kc (a.put o.dst v1) w1) : if Region.wanted o (yielded ops a.tmps) = true then Oper.wp Try.prog o a W Kc Q' else E := by
  obtain ⟨v1, w1, hr1, h1, h2, h3⟩ := run_copy d t o.type e z bytes ht hinfo hz hs0 hb1 hKM hK1 g ys A m c HL hg HR hB hl
  rw [if_pos hw]
  unfold Oper.wp execOp
  simp only [ho, resolve, invoke, builtin, Sem.run_bind, Sem.run_pure, Result.andThen_ok, List.map_toArray, List.map_cons, List.map_nil, hs, hx, hr1]
  exact h v1 w1 h1 h2 h3
theorem KM_int {W : World} : ∀ (w1 : World) (b : Nat) (ok : Nat → Prop) (x : Int) cs, (Kd.int .i64).K W x cs → (Kd.int .i64).M w1 b ok x cs := fun _ _ _ _ _ h => h
theorem K1_int {W : World} : ∀ (x : Int) cs, (Kd.int .i64).K W x cs → ∀ u ∈ cs, u.oneCell' = true := fun _ _ h => (Kd.int .i64).K_one h
theorem KM_F {W : World} : ∀ (w1 : World) (b : Nat) (ok : Nat → Prop) (x : Flit) cs, kF.K W x cs → kF.M w1 b ok x cs := fun _ _ _ _ _ h => h
theorem K1_F {W : World} : ∀ (x : Flit) cs, kF.K W x cs → ∀ u ∈ cs, u.oneCell' = true := fun _ _ h => kF.K_one h
theorem copy_int {B : Nat} {W : World} (hgd : o.guard = none) (s x : Operand)
    (ho : o.op = .call { callee := .builtin .append, args := #[s, x], argTypes := #[24, 24] })
    (g : Nat) (ys : List Int) (A : Option Addr) (c : Nat) (hs : a.eval s = .slice (some ⟨g, 0, none⟩) 0 0) (hx : a.eval x = .slice A ys.length c)
    (HL : Lit 3 W g) (hg : B ≤ g) (HR : (Kd.int .i64).C W A ys.length ys) (hB : B ≤ W.heap.size) (hl : ys.length ≤ 10000000)
    (h : ∀ v1 w1, (Kd.int .i64).R 3 w1 B (fun _ => True) v1 ys → Below W.heap.size W w1 → At2 g W.heap.size w1.heap.size v1 → wpList Try.prog ops Q rest (a.put o.dst v1) w1) : wpList Try.prog ops Q (o :: rest) a W :=
  copy_row (Kd.int .i64) hgd s x 24 3 (.int .i64 0) 8 ho Try.underlying24 info_int rfl (by decide) (by omega) KM_int K1_int g ys A ys.length c hs hx HL hg HR hB hl h
theorem copyS_int {B : Nat} {W : World} {Q' : Exit → Act → World → Prop} {E : Prop} (hw : Region.wanted o (yielded ops a.tmps) = true) (s x : Operand)
    (ho : o.op = .call { callee := .builtin .append, args := #[s, x], argTypes := #[24, 24] })
    (g : Nat) (ys : List Int) (A : Option Addr) (c : Nat) (hs : a.eval s = .slice (some ⟨g, 0, none⟩) 0 0) (hx : a.eval x = .slice A ys.length c)
    (HL : Lit 3 W g) (hg : B ≤ g) (HR : (Kd.int .i64).C W A ys.length ys) (hB : B ≤ W.heap.size) (hl : ys.length ≤ 10000000)
    (h : ∀ v1 w1, (Kd.int .i64).R 3 w1 B (fun _ => True) v1 ys → Below W.heap.size W w1 → At2 g W.heap.size w1.heap.size v1 → Kc (a.put o.dst v1) w1) : if Region.wanted o (yielded ops a.tmps) = true then Oper.wp Try.prog o a W Kc Q' else E :=
  copy_row_step (Kd.int .i64) hw s x 24 3 (.int .i64 0) 8 ho Try.underlying24 info_int rfl (by decide) (by omega) KM_int K1_int g ys A ys.length c hs hx HL hg HR hB hl h
theorem copy_F {B : Nat} {W : World} (hgd : o.guard = none) (s x : Operand)
    (ho : o.op = .call { callee := .builtin .append, args := #[s, x], argTypes := #[60, 60] })
    (g : Nat) (ys : List Flit) (A : Option Addr) (c : Nat) (hs : a.eval s = .slice (some ⟨g, 0, none⟩) 0 0) (hx : a.eval x = .slice A ys.length c)
    (HL : Lit 83 W g) (hg : B ≤ g) (HR : kF.C W A ys.length ys) (hB : B ≤ W.heap.size) (hl : ys.length ≤ 10000000)
    (h : ∀ v1 w1, kF.R 83 w1 B (fun _ => True) v1 ys → Below W.heap.size W w1 → At2 g W.heap.size w1.heap.size v1 → wpList Try.prog ops Q rest (a.put o.dst v1) w1) : wpList Try.prog ops Q (o :: rest) a W :=
  copy_row kF hgd s x 60 83 (.agg #[.int .i64 0, .int .i64 0, .int .i64 0, .bool false, .bool false]) 32 ho Try.underlying60 info_F rfl (by decide) (by omega) KM_F K1_F g ys A ys.length c hs hx HL hg HR hB hl h
end
end Go.Proofs.Yteeebfeljjghhaa
