/- Lemmas for laws of this seat, for all inputs: NetOkI ReqI ReqJ NetOkS ReqS GrD GrI StW. -/
import Derived.Test.YteeebfeljjghhaaGreatH4
import Derived.IntWalk
import Derived.Lib.SliceRun
/- Valid networks: both sides come to netOk; for all networks whose rows hold at most a million entries each. -/
set_option linter.unusedVariables false
set_option linter.unusedSimpArgs false
namespace Go.Proofs.YteeebfeljjghhaaGreat
open Go.RowKit Go.Proofs.YteeebfeljjghhaaGreatW.PrintWords
open NoC

theorem bufOk_1 {g : Grid} {i : Nat} {l : List Flit} (h : 3 < l.length) : bufOk g i l = false := by
  simp [bufOk]; omega
theorem bufOk_2 {g : Grid} {i : Nat} {l : List Flit} (h : ¬ (clsOnly l ((i % 2 : Nat) : Int)).length = l.length) : bufOk g i l = false := by
  have h2 := clsOnly_len l ((i % 2 : Nat) : Int)
  rw [beq_eq_false_iff_ne.2 h] at h2
  simp only [bufOk, ← h2, Bool.and_false, Bool.false_and]
theorem bufOk_3 {g : Grid} {i : Nat} {l : List Flit} (h : areFl g l = false) : bufOk g i l = false := by simp [bufOk, h]
theorem bufOk_4 {g : Grid} {i : Nat} {l : List Flit} (h1 : ¬ 3 < l.length) (h2 : (clsOnly l ((i % 2 : Nat) : Int)).length = l.length) (h3 : areFl g l = true) : bufOk g i l = true := by
  have h4 := clsOnly_len l ((i % 2 : Nat) : Int)
  rw [beq_iff_eq.2 h2] at h4
  simp only [bufOk, ← h4, h3, Bool.and_true, decide_eq_true_eq]
  omega
theorem srcOk_1 {g : Grid} {l : List Flit} (h : 60 < l.length) : srcOk g l = false := by
  simp [srcOk]; omega
theorem srcOk_2 {g : Grid} {l : List Flit} (h : areFl g l = false) : srcOk g l = false := by simp [srcOk, h]
theorem srcOk_3 {g : Grid} {l : List Flit} (h1 : ¬ 60 < l.length) (h : areFl g l = true) : srcOk g l = true := by
  simp only [srcOk, h, Bool.and_true, decide_eq_true_eq]
  omega
theorem mod2 (k : Nat) : ((k : Int) % 2) = ((k % 2 : Nat) : Int) := by omega
theorem netOk_eq {n : Net} (hc : classesOk n.mesh n.pa n.pb = true) (hs : shapeOk n = true) (hb : ∀ j : Nat, j < n.bufs.length → bufOk n.mesh.g j (rl n.bufs j) = true) (hr : ∀ j : Nat, j < n.srcs.length → srcOk n.mesh.g (rl n.srcs j) = true) :
    netOk n = (allI n.owners.length (fun i => inside (ri n.owners i) (-1) 4) && allI n.turns.length (fun i => inside (ri n.turns i) 0 9) && inside n.time 0 1000000) := by
  simp only [netOk, hc, hs, allI_true hb, allI_true hr, Bool.true_and]
theorem shape_mk {n : Net} (s1 : (n.bufs.length : Int) = 10 * nodeCount n.mesh.g) (s2 : (n.owners.length : Int) = 10 * nodeCount n.mesh.g) (s3 : (n.turns.length : Int) = 5 * nodeCount n.mesh.g) (s4 : (n.srcs.length : Int) = nodeCount n.mesh.g) (s5 : (n.arrs.length : Int) = nodeCount n.mesh.g) : shapeOk n = true := by
  simp only [shapeOk, s1, s2, s3, s4, s5, decide_true, Bool.and_true]
theorem netOk_no1 {n : Net} (h : classesOk n.mesh n.pa n.pb = false) : netOk n = false := by simp [netOk, h]
theorem netOk_no2 {n : Net} (h : shapeOk n = false) : netOk n = false := by simp [netOk, h]
theorem netOk_no3 {n : Net} (k : Nat) (hk : k < n.bufs.length) (h : bufOk n.mesh.g k (rl n.bufs k) = false) : netOk n = false := by simp [netOk, allI_false (p := fun (i : Nat) => bufOk n.mesh.g i (rl n.bufs i)) k hk h]
theorem netOk_no4 {n : Net} (k : Nat) (hk : k < n.srcs.length) (h : srcOk n.mesh.g (rl n.srcs k) = false) : netOk n = false := by simp [netOk, allI_false (p := fun (i : Nat) => srcOk n.mesh.g (rl n.srcs i)) k hk h]
theorem shape_no1 {n : Net} (h : ¬ (n.bufs.length : Int) = 10 * nodeCount n.mesh.g) : shapeOk n = false := by simp [shapeOk, h]
theorem shape_no2 {n : Net} (h : ¬ (n.owners.length : Int) = 10 * nodeCount n.mesh.g) : shapeOk n = false := by simp [shapeOk, h]
theorem shape_no3 {n : Net} (h : ¬ (n.turns.length : Int) = 5 * nodeCount n.mesh.g) : shapeOk n = false := by simp [shapeOk, h]
theorem shape_no4 {n : Net} (h : ¬ (n.srcs.length : Int) = nodeCount n.mesh.g) : shapeOk n = false := by simp [shapeOk, h]
theorem shape_no5 {n : Net} (h : ¬ (n.arrs.length : Int) = nodeCount n.mesh.g) : shapeOk n = false := by simp [shapeOk, h]

set_option maxHeartbeats 8000000 in
set_option maxRecDepth 100000 in
theorem impl_NetOk (n : Net) (q : NA) (w : World) (hr : NetR 103 w n q) : Calls Tryz.prog 45 #[.agg (netCells n q)] w fun e w' => e = .returned (.bool (netOk n)) ∧ Below w.heap.size w w' := by
 obtain ⟨a1, a2, a3, a4, a5, a6, a7, a8, c1, c2, c3, c4, c5, c6, c7, c8⟩ := q; obtain ⟨Rbr, Rpa, Rpb, Rbu, Row, Rtu, Rso, Rar, L1, L2, L3, L4, L5, L6, L7, L8, L9, L10, L11⟩ := hr; have M9 := Lib.hid L9; have M10 := Lib.hid L10; have M11 := Lib.hid L11; clear L9 L10 L11; dsimp only [netCells] at *
 obtain ⟨n0, n1⟩ := count_le n.mesh.g
 cases hc : classesOk n.mesh n.pa n.pb
 ·have HC := Lib.hid hc
  go_enter Tryz.func45, Tryz.ntmps45
  go_wp2_with (first | (go_at_call 89; refine (impl_NodeCount n.mesh.g _).mono ?_; rintro e w1 ⟨rfl, hb1⟩; obtain ⟨hc1, hf1, hz1⟩ := bcell hb1; (try simp only [szs] at hz1); have hb2 := (by first | exact bw_then hb2 hb1 | exact bw_then (bw_drewN _ hb2) hb1 | exact bw_then (bw_alloc _ hb2) hb1 | exact bw_then (bw_drew hb2) hb1 | exact bw_then HB hb1 | exact bw_then (bw_drewN _ HB) hb1 | exact bw_then (bw_alloc _ HB) hb1 | exact bw_then (bw_drew HB) hb1 | exact hb1); obtain ⟨hc2, hf2, hz2⟩ := bcell hb2; (try simp only [szs] at hz2); try (first | obtain ⟨hy1, hy2, hy3, hy4⟩ := lts4 hz2 | obtain ⟨hy1, hy2, hy3⟩ := lts3 hz2 | obtain ⟨hy1, hy2⟩ := lts2 hz2 | have hy1 := lts1 hz2); have hb9 := hb1) | (go_at_call 90; refine (impl_ClassesOk n.mesh n.pa n.pb a1 a2 a3 _ _ _ _ (by exact Kd.C_below Rbr bel) L1 (by exact Kd.C_below Rpa bel) L2 (by exact Kd.C_below Rpb bel) L3).mono ?_; rintro e w1 ⟨rfl, hb1⟩; obtain ⟨hc1, hf1, hz1⟩ := bcell hb1; (try simp only [szs] at hz1); have hb2 := (by first | exact bw_then hb2 hb1 | exact bw_then (bw_drewN _ hb2) hb1 | exact bw_then (bw_alloc _ hb2) hb1 | exact bw_then (bw_drew hb2) hb1 | exact bw_then HB hb1 | exact bw_then (bw_drewN _ HB) hb1 | exact bw_then (bw_alloc _ HB) hb1 | exact bw_then (bw_drew HB) hb1 | exact hb1); obtain ⟨hc2, hf2, hz2⟩ := bcell hb2; (try simp only [szs] at hz2); try (first | obtain ⟨hy1, hy2, hy3, hy4⟩ := lts4 hz2 | obtain ⟨hy1, hy2, hy3⟩ := lts3 hz2 | obtain ⟨hy1, hy2⟩ := lts2 hz2 | have hy1 := lts1 hz2); have hb9 := hb1))
  go_ret
  exact ⟨ret_bool (netOk_no1 HC.out).symm, bel⟩
 by_cases s0 : (n.bufs.length : Int) = 10 * nodeCount n.mesh.g
 case neg =>
  have e0 : ((n.bufs.length : Int) != 10 * nodeCount n.mesh.g) = true := bne_iff_ne.2 s0
  have S0 := Lib.hid s0
  clear s0
  go_enter Tryz.func45, Tryz.ntmps45
  go_wp2_with (first | (go_at_call 89; refine (impl_NodeCount n.mesh.g _).mono ?_; rintro e w1 ⟨rfl, hb1⟩; obtain ⟨hc1, hf1, hz1⟩ := bcell hb1; (try simp only [szs] at hz1); have hb2 := (by first | exact bw_then hb2 hb1 | exact bw_then (bw_drewN _ hb2) hb1 | exact bw_then (bw_alloc _ hb2) hb1 | exact bw_then (bw_drew hb2) hb1 | exact bw_then HB hb1 | exact bw_then (bw_drewN _ HB) hb1 | exact bw_then (bw_alloc _ HB) hb1 | exact bw_then (bw_drew HB) hb1 | exact hb1); obtain ⟨hc2, hf2, hz2⟩ := bcell hb2; (try simp only [szs] at hz2); try (first | obtain ⟨hy1, hy2, hy3, hy4⟩ := lts4 hz2 | obtain ⟨hy1, hy2, hy3⟩ := lts3 hz2 | obtain ⟨hy1, hy2⟩ := lts2 hz2 | have hy1 := lts1 hz2); have hb9 := hb1) | (go_at_call 90; refine (impl_ClassesOk n.mesh n.pa n.pb a1 a2 a3 _ _ _ _ (by exact Kd.C_below Rbr bel) L1 (by exact Kd.C_below Rpa bel) L2 (by exact Kd.C_below Rpb bel) L3).mono ?_; rintro e w1 ⟨rfl, hb1⟩; obtain ⟨hc1, hf1, hz1⟩ := bcell hb1; (try simp only [szs] at hz1); have hb2 := (by first | exact bw_then hb2 hb1 | exact bw_then (bw_drewN _ hb2) hb1 | exact bw_then (bw_alloc _ hb2) hb1 | exact bw_then (bw_drew hb2) hb1 | exact bw_then HB hb1 | exact bw_then (bw_drewN _ HB) hb1 | exact bw_then (bw_alloc _ HB) hb1 | exact bw_then (bw_drew HB) hb1 | exact hb1); obtain ⟨hc2, hf2, hz2⟩ := bcell hb2; (try simp only [szs] at hz2); try (first | obtain ⟨hy1, hy2, hy3, hy4⟩ := lts4 hz2 | obtain ⟨hy1, hy2, hy3⟩ := lts3 hz2 | obtain ⟨hy1, hy2⟩ := lts2 hz2 | have hy1 := lts1 hz2); have hb9 := hb1))
  go_ret
  exact ⟨ret_bool (netOk_no2 (shape_no1 S0.out)).symm, bel⟩
 have e0 : ((n.bufs.length : Int) != 10 * nodeCount n.mesh.g) = false := bne_eq_false_iff_eq.2 s0
 have S0 := Lib.hid s0
 have u0 : (n.bufs.length : Int) ≤ 10 * nodeCount n.mesh.g := by omega
 have v0 : 10 * nodeCount n.mesh.g ≤ (n.bufs.length : Int) := by omega
 clear s0
 by_cases s1 : (n.owners.length : Int) = 10 * nodeCount n.mesh.g
 case neg =>
  have e1 : ((n.owners.length : Int) != 10 * nodeCount n.mesh.g) = true := bne_iff_ne.2 s1
  have S1 := Lib.hid s1
  clear s1
  go_enter Tryz.func45, Tryz.ntmps45
  go_wp2_with (first | (go_at_call 89; refine (impl_NodeCount n.mesh.g _).mono ?_; rintro e w1 ⟨rfl, hb1⟩; obtain ⟨hc1, hf1, hz1⟩ := bcell hb1; (try simp only [szs] at hz1); have hb2 := (by first | exact bw_then hb2 hb1 | exact bw_then (bw_drewN _ hb2) hb1 | exact bw_then (bw_alloc _ hb2) hb1 | exact bw_then (bw_drew hb2) hb1 | exact bw_then HB hb1 | exact bw_then (bw_drewN _ HB) hb1 | exact bw_then (bw_alloc _ HB) hb1 | exact bw_then (bw_drew HB) hb1 | exact hb1); obtain ⟨hc2, hf2, hz2⟩ := bcell hb2; (try simp only [szs] at hz2); try (first | obtain ⟨hy1, hy2, hy3, hy4⟩ := lts4 hz2 | obtain ⟨hy1, hy2, hy3⟩ := lts3 hz2 | obtain ⟨hy1, hy2⟩ := lts2 hz2 | have hy1 := lts1 hz2); have hb9 := hb1) | (go_at_call 90; refine (impl_ClassesOk n.mesh n.pa n.pb a1 a2 a3 _ _ _ _ (by exact Kd.C_below Rbr bel) L1 (by exact Kd.C_below Rpa bel) L2 (by exact Kd.C_below Rpb bel) L3).mono ?_; rintro e w1 ⟨rfl, hb1⟩; obtain ⟨hc1, hf1, hz1⟩ := bcell hb1; (try simp only [szs] at hz1); have hb2 := (by first | exact bw_then hb2 hb1 | exact bw_then (bw_drewN _ hb2) hb1 | exact bw_then (bw_alloc _ hb2) hb1 | exact bw_then (bw_drew hb2) hb1 | exact bw_then HB hb1 | exact bw_then (bw_drewN _ HB) hb1 | exact bw_then (bw_alloc _ HB) hb1 | exact bw_then (bw_drew HB) hb1 | exact hb1); obtain ⟨hc2, hf2, hz2⟩ := bcell hb2; (try simp only [szs] at hz2); try (first | obtain ⟨hy1, hy2, hy3, hy4⟩ := lts4 hz2 | obtain ⟨hy1, hy2, hy3⟩ := lts3 hz2 | obtain ⟨hy1, hy2⟩ := lts2 hz2 | have hy1 := lts1 hz2); have hb9 := hb1))
  go_ret
  exact ⟨ret_bool (netOk_no2 (shape_no2 S1.out)).symm, bel⟩
 have e1 : ((n.owners.length : Int) != 10 * nodeCount n.mesh.g) = false := bne_eq_false_iff_eq.2 s1
 have S1 := Lib.hid s1
 have u1 : (n.owners.length : Int) ≤ 10 * nodeCount n.mesh.g := by omega
 have v1 : 10 * nodeCount n.mesh.g ≤ (n.owners.length : Int) := by omega
 clear s1
 by_cases s2 : (n.turns.length : Int) = 5 * nodeCount n.mesh.g
 case neg =>
  have e2 : ((n.turns.length : Int) != 5 * nodeCount n.mesh.g) = true := bne_iff_ne.2 s2
  have S2 := Lib.hid s2
  clear s2
  go_enter Tryz.func45, Tryz.ntmps45
  go_wp2_with (first | (go_at_call 89; refine (impl_NodeCount n.mesh.g _).mono ?_; rintro e w1 ⟨rfl, hb1⟩; obtain ⟨hc1, hf1, hz1⟩ := bcell hb1; (try simp only [szs] at hz1); have hb2 := (by first | exact bw_then hb2 hb1 | exact bw_then (bw_drewN _ hb2) hb1 | exact bw_then (bw_alloc _ hb2) hb1 | exact bw_then (bw_drew hb2) hb1 | exact bw_then HB hb1 | exact bw_then (bw_drewN _ HB) hb1 | exact bw_then (bw_alloc _ HB) hb1 | exact bw_then (bw_drew HB) hb1 | exact hb1); obtain ⟨hc2, hf2, hz2⟩ := bcell hb2; (try simp only [szs] at hz2); try (first | obtain ⟨hy1, hy2, hy3, hy4⟩ := lts4 hz2 | obtain ⟨hy1, hy2, hy3⟩ := lts3 hz2 | obtain ⟨hy1, hy2⟩ := lts2 hz2 | have hy1 := lts1 hz2); have hb9 := hb1) | (go_at_call 90; refine (impl_ClassesOk n.mesh n.pa n.pb a1 a2 a3 _ _ _ _ (by exact Kd.C_below Rbr bel) L1 (by exact Kd.C_below Rpa bel) L2 (by exact Kd.C_below Rpb bel) L3).mono ?_; rintro e w1 ⟨rfl, hb1⟩; obtain ⟨hc1, hf1, hz1⟩ := bcell hb1; (try simp only [szs] at hz1); have hb2 := (by first | exact bw_then hb2 hb1 | exact bw_then (bw_drewN _ hb2) hb1 | exact bw_then (bw_alloc _ hb2) hb1 | exact bw_then (bw_drew hb2) hb1 | exact bw_then HB hb1 | exact bw_then (bw_drewN _ HB) hb1 | exact bw_then (bw_alloc _ HB) hb1 | exact bw_then (bw_drew HB) hb1 | exact hb1); obtain ⟨hc2, hf2, hz2⟩ := bcell hb2; (try simp only [szs] at hz2); try (first | obtain ⟨hy1, hy2, hy3, hy4⟩ := lts4 hz2 | obtain ⟨hy1, hy2, hy3⟩ := lts3 hz2 | obtain ⟨hy1, hy2⟩ := lts2 hz2 | have hy1 := lts1 hz2); have hb9 := hb1))
  go_ret
  exact ⟨ret_bool (netOk_no2 (shape_no3 S2.out)).symm, bel⟩
 have e2 : ((n.turns.length : Int) != 5 * nodeCount n.mesh.g) = false := bne_eq_false_iff_eq.2 s2
 have S2 := Lib.hid s2
 have u2 : (n.turns.length : Int) ≤ 5 * nodeCount n.mesh.g := by omega
 have v2 : 5 * nodeCount n.mesh.g ≤ (n.turns.length : Int) := by omega
 clear s2
 by_cases s3 : (n.srcs.length : Int) = nodeCount n.mesh.g
 case neg =>
  have e3 : ((n.srcs.length : Int) != nodeCount n.mesh.g) = true := bne_iff_ne.2 s3
  have S3 := Lib.hid s3
  clear s3
  go_enter Tryz.func45, Tryz.ntmps45
  go_wp2_with (first | (go_at_call 89; refine (impl_NodeCount n.mesh.g _).mono ?_; rintro e w1 ⟨rfl, hb1⟩; obtain ⟨hc1, hf1, hz1⟩ := bcell hb1; (try simp only [szs] at hz1); have hb2 := (by first | exact bw_then hb2 hb1 | exact bw_then (bw_drewN _ hb2) hb1 | exact bw_then (bw_alloc _ hb2) hb1 | exact bw_then (bw_drew hb2) hb1 | exact bw_then HB hb1 | exact bw_then (bw_drewN _ HB) hb1 | exact bw_then (bw_alloc _ HB) hb1 | exact bw_then (bw_drew HB) hb1 | exact hb1); obtain ⟨hc2, hf2, hz2⟩ := bcell hb2; (try simp only [szs] at hz2); try (first | obtain ⟨hy1, hy2, hy3, hy4⟩ := lts4 hz2 | obtain ⟨hy1, hy2, hy3⟩ := lts3 hz2 | obtain ⟨hy1, hy2⟩ := lts2 hz2 | have hy1 := lts1 hz2); have hb9 := hb1) | (go_at_call 90; refine (impl_ClassesOk n.mesh n.pa n.pb a1 a2 a3 _ _ _ _ (by exact Kd.C_below Rbr bel) L1 (by exact Kd.C_below Rpa bel) L2 (by exact Kd.C_below Rpb bel) L3).mono ?_; rintro e w1 ⟨rfl, hb1⟩; obtain ⟨hc1, hf1, hz1⟩ := bcell hb1; (try simp only [szs] at hz1); have hb2 := (by first | exact bw_then hb2 hb1 | exact bw_then (bw_drewN _ hb2) hb1 | exact bw_then (bw_alloc _ hb2) hb1 | exact bw_then (bw_drew hb2) hb1 | exact bw_then HB hb1 | exact bw_then (bw_drewN _ HB) hb1 | exact bw_then (bw_alloc _ HB) hb1 | exact bw_then (bw_drew HB) hb1 | exact hb1); obtain ⟨hc2, hf2, hz2⟩ := bcell hb2; (try simp only [szs] at hz2); try (first | obtain ⟨hy1, hy2, hy3, hy4⟩ := lts4 hz2 | obtain ⟨hy1, hy2, hy3⟩ := lts3 hz2 | obtain ⟨hy1, hy2⟩ := lts2 hz2 | have hy1 := lts1 hz2); have hb9 := hb1))
  go_ret
  exact ⟨ret_bool (netOk_no2 (shape_no4 S3.out)).symm, bel⟩
 have e3 : ((n.srcs.length : Int) != nodeCount n.mesh.g) = false := bne_eq_false_iff_eq.2 s3
 have S3 := Lib.hid s3
 have u3 : (n.srcs.length : Int) ≤ nodeCount n.mesh.g := by omega
 have v3 : nodeCount n.mesh.g ≤ (n.srcs.length : Int) := by omega
 clear s3
 by_cases s4 : (n.arrs.length : Int) = nodeCount n.mesh.g
 case neg =>
  have e4 : ((n.arrs.length : Int) != nodeCount n.mesh.g) = true := bne_iff_ne.2 s4
  have S4 := Lib.hid s4
  clear s4
  go_enter Tryz.func45, Tryz.ntmps45
  go_wp2_with (first | (go_at_call 89; refine (impl_NodeCount n.mesh.g _).mono ?_; rintro e w1 ⟨rfl, hb1⟩; obtain ⟨hc1, hf1, hz1⟩ := bcell hb1; (try simp only [szs] at hz1); have hb2 := (by first | exact bw_then hb2 hb1 | exact bw_then (bw_drewN _ hb2) hb1 | exact bw_then (bw_alloc _ hb2) hb1 | exact bw_then (bw_drew hb2) hb1 | exact bw_then HB hb1 | exact bw_then (bw_drewN _ HB) hb1 | exact bw_then (bw_alloc _ HB) hb1 | exact bw_then (bw_drew HB) hb1 | exact hb1); obtain ⟨hc2, hf2, hz2⟩ := bcell hb2; (try simp only [szs] at hz2); try (first | obtain ⟨hy1, hy2, hy3, hy4⟩ := lts4 hz2 | obtain ⟨hy1, hy2, hy3⟩ := lts3 hz2 | obtain ⟨hy1, hy2⟩ := lts2 hz2 | have hy1 := lts1 hz2); have hb9 := hb1) | (go_at_call 90; refine (impl_ClassesOk n.mesh n.pa n.pb a1 a2 a3 _ _ _ _ (by exact Kd.C_below Rbr bel) L1 (by exact Kd.C_below Rpa bel) L2 (by exact Kd.C_below Rpb bel) L3).mono ?_; rintro e w1 ⟨rfl, hb1⟩; obtain ⟨hc1, hf1, hz1⟩ := bcell hb1; (try simp only [szs] at hz1); have hb2 := (by first | exact bw_then hb2 hb1 | exact bw_then (bw_drewN _ hb2) hb1 | exact bw_then (bw_alloc _ hb2) hb1 | exact bw_then (bw_drew hb2) hb1 | exact bw_then HB hb1 | exact bw_then (bw_drewN _ HB) hb1 | exact bw_then (bw_alloc _ HB) hb1 | exact bw_then (bw_drew HB) hb1 | exact hb1); obtain ⟨hc2, hf2, hz2⟩ := bcell hb2; (try simp only [szs] at hz2); try (first | obtain ⟨hy1, hy2, hy3, hy4⟩ := lts4 hz2 | obtain ⟨hy1, hy2, hy3⟩ := lts3 hz2 | obtain ⟨hy1, hy2⟩ := lts2 hz2 | have hy1 := lts1 hz2); have hb9 := hb1))
  go_ret
  exact ⟨ret_bool (netOk_no2 (shape_no5 S4.out)).symm, bel⟩
 have e4 : ((n.arrs.length : Int) != nodeCount n.mesh.g) = false := bne_eq_false_iff_eq.2 s4
 have S4 := Lib.hid s4
 have u4 : (n.arrs.length : Int) ≤ nodeCount n.mesh.g := by omega
 have v4 : nodeCount n.mesh.g ≤ (n.arrs.length : Int) := by omega
 clear s4
 have HSH := Lib.hid (shape_mk S0.out S1.out S2.out S3.out S4.out)
 have HC := Lib.hid hc
 go_enter Tryz.func45, Tryz.ntmps45
 go_wp2_with (first | (go_at_call 89; refine (impl_NodeCount n.mesh.g _).mono ?_; rintro e w1 ⟨rfl, hb1⟩; obtain ⟨hc1, hf1, hz1⟩ := bcell hb1; (try simp only [szs] at hz1); have hb2 := (by first | exact bw_then hb2 hb1 | exact bw_then (bw_drewN _ hb2) hb1 | exact bw_then (bw_alloc _ hb2) hb1 | exact bw_then (bw_drew hb2) hb1 | exact bw_then HB hb1 | exact bw_then (bw_drewN _ HB) hb1 | exact bw_then (bw_alloc _ HB) hb1 | exact bw_then (bw_drew HB) hb1 | exact hb1); obtain ⟨hc2, hf2, hz2⟩ := bcell hb2; (try simp only [szs] at hz2); try (first | obtain ⟨hy1, hy2, hy3, hy4⟩ := lts4 hz2 | obtain ⟨hy1, hy2, hy3⟩ := lts3 hz2 | obtain ⟨hy1, hy2⟩ := lts2 hz2 | have hy1 := lts1 hz2); have hb9 := hb1) | (go_at_call 90; refine (impl_ClassesOk n.mesh n.pa n.pb a1 a2 a3 _ _ _ _ (by exact Kd.C_below Rbr bel) L1 (by exact Kd.C_below Rpa bel) L2 (by exact Kd.C_below Rpb bel) L3).mono ?_; rintro e w1 ⟨rfl, hb1⟩; obtain ⟨hc1, hf1, hz1⟩ := bcell hb1; (try simp only [szs] at hz1); have hb2 := (by first | exact bw_then hb2 hb1 | exact bw_then (bw_drewN _ hb2) hb1 | exact bw_then (bw_alloc _ hb2) hb1 | exact bw_then (bw_drew hb2) hb1 | exact bw_then HB hb1 | exact bw_then (bw_drewN _ HB) hb1 | exact bw_then (bw_alloc _ HB) hb1 | exact bw_then (bw_drew HB) hb1 | exact hb1); obtain ⟨hc2, hf2, hz2⟩ := bcell hb2; (try simp only [szs] at hz2); try (first | obtain ⟨hy1, hy2, hy3, hy4⟩ := lts4 hz2 | obtain ⟨hy1, hy2, hy3⟩ := lts3 hz2 | obtain ⟨hy1, hy2⟩ := lts2 hz2 | have hy1 := lts1 hz2); have hb9 := hb1))
 go_loopw [59] (fun i wr => ∃ k : Nat, i = .int .i64 k ∧ k ≤ n.bufs.length ∧ Hid (∀ j : Nat, j < k → bufOk n.mesh.g j (rl n.bufs j) = true) ∧ Below (w.alloc (.cells #[.int .i64 n.mesh.g.w, .int .i64 n.mesh.g.h, .slice a1 n.mesh.br.length c1, .slice a2 n.pa.length c2, .slice a3 n.pb.length c3, .slice a4 n.bufs.length c4, .slice a5 n.owners.length c5, .slice a6 n.turns.length c6, .slice a7 n.srcs.length c7, .slice a8 n.arrs.length c8, .int .i64 n.time] 43)).heap.size (w.alloc (.cells #[.int .i64 n.mesh.g.w, .int .i64 n.mesh.g.h, .slice a1 n.mesh.br.length c1, .slice a2 n.pa.length c2, .slice a3 n.pb.length c3, .slice a4 n.bufs.length c4, .slice a5 n.owners.length c5, .slice a6 n.turns.length c6, .slice a7 n.srcs.length c7, .slice a8 n.arrs.length c8, .int .i64 n.time] 43)) wr) (fun i _ => n.bufs.length - (intOf i).toNat)
 case atStart => exact ⟨0, rfl, Nat.zero_le _, Lib.hid fun j h => absurd h (Nat.not_lt_zero _), bel⟩
 case round =>
  obtain ⟨k, rfl, hk, HA, HB⟩ := hrel
  obtain ⟨hcr, hfr, hzr⟩ := bcell HB
  simp only [szs] at hzr
  have yy1 := lts1 hzr
  by_cases hlt : k < n.bufs.length
  ·obtain ⟨b, off, rfl, hb, Ai, ci, p0, hle, hCi⟩ := rdB_at Rbu k hlt
   obtain ⟨z1, z2, z3, z4, z5, z6⟩ := more hb
   have hki := M9.out _ (rl_mem hlt)
   have i0 : (k : Int) < (n.bufs.length : Int) := by omega
   by_cases g1 : 3 < (rl n.bufs k).length
   ·have g1' : (3 : Int) < ((rl n.bufs k).length : Int) := by omega
    go_wp2
    go_ret
    exact ⟨ret_bool (netOk_no3 k hlt (bufOk_1 g1)).symm, bel⟩
   have g1' : ¬ (3 : Int) < ((rl n.bufs k).length : Int) := by omega
   have hco := clsOnly_take_len (rl n.bufs k) ((k : Int) % 2) (rl n.bufs k).length
   rw [List.take_length] at hco
   by_cases g2 : (clsOnly (rl n.bufs k) ((k % 2 : Nat) : Int)).length = (rl n.bufs k).length
   case neg =>
    have G2 := Lib.hid g2
    rw [← mod2] at g2
    have f2 : (((clsOnly (rl n.bufs k) ((k : Int) % 2)).length : Int) != ((rl n.bufs k).length : Int)) = true := bne_iff_ne.2 (by omega)
    clear g2
    go_wp2_with (go_at_call 91; refine (impl_ClassOnly (rl n.bufs k) ((k : Int) % 2) Ai ci _ (by exact Kd.C_below hCi bel) hki).mono ?_; rintro e w1 ⟨hg1, hb1⟩; obtain ⟨A1, d1, rfl, hk1, hC1⟩ := hg1.read; obtain ⟨hc1, hf1, hz1⟩ := bcell hb1; (try simp only [szs] at hz1); have hb2 := (by first | exact bw_then hb2 hb1 | exact bw_then (bw_drewN _ hb2) hb1 | exact bw_then (bw_alloc _ hb2) hb1 | exact bw_then (bw_drew hb2) hb1 | exact bw_then HB hb1 | exact bw_then (bw_drewN _ HB) hb1 | exact bw_then (bw_alloc _ HB) hb1 | exact bw_then (bw_drew HB) hb1 | exact hb1); obtain ⟨hc2, hf2, hz2⟩ := bcell hb2; (try simp only [szs] at hz2); try (first | obtain ⟨hy1, hy2, hy3, hy4⟩ := lts4 hz2 | obtain ⟨hy1, hy2, hy3⟩ := lts3 hz2 | obtain ⟨hy1, hy2⟩ := lts2 hz2 | have hy1 := lts1 hz2); have hb9 := hb1)
    go_ret
    exact ⟨ret_bool (netOk_no3 k hlt (bufOk_2 G2.out)).symm, bel⟩
   have G2 := Lib.hid g2
   rw [← mod2] at g2
   have f2 : (((clsOnly (rl n.bufs k) ((k : Int) % 2)).length : Int) != ((rl n.bufs k).length : Int)) = false := bne_eq_false_iff_eq.2 (by omega)
   clear g2
   cases h3 : areFl n.mesh.g (rl n.bufs k)
   ·have H3 := Lib.hid h3
    go_wp2_with (first | (go_at_call 91; refine (impl_ClassOnly (rl n.bufs k) ((k : Int) % 2) Ai ci _ (by exact Kd.C_below hCi bel) hki).mono ?_; rintro e w1 ⟨hg1, hb1⟩; obtain ⟨A1, d1, rfl, hk1, hC1⟩ := hg1.read; obtain ⟨hc1, hf1, hz1⟩ := bcell hb1; (try simp only [szs] at hz1); have hb2 := (by first | exact bw_then hb2 hb1 | exact bw_then (bw_drewN _ hb2) hb1 | exact bw_then (bw_alloc _ hb2) hb1 | exact bw_then (bw_drew hb2) hb1 | exact bw_then HB hb1 | exact bw_then (bw_drewN _ HB) hb1 | exact bw_then (bw_alloc _ HB) hb1 | exact bw_then (bw_drew HB) hb1 | exact hb1); obtain ⟨hc2, hf2, hz2⟩ := bcell hb2; (try simp only [szs] at hz2); try (first | obtain ⟨hy1, hy2, hy3, hy4⟩ := lts4 hz2 | obtain ⟨hy1, hy2, hy3⟩ := lts3 hz2 | obtain ⟨hy1, hy2⟩ := lts2 hz2 | have hy1 := lts1 hz2); have hb9 := hb1) | (go_at_call 92; refine (impl_areFlits n.mesh.g (rl n.bufs k) Ai ci _ (by exact Kd.C_below hCi bel) hki).mono ?_; rintro e w1 ⟨rfl, hb1⟩; obtain ⟨hc1, hf1, hz1⟩ := bcell hb1; (try simp only [szs] at hz1); have hb2 := (by first | exact bw_then hb2 hb1 | exact bw_then (bw_drewN _ hb2) hb1 | exact bw_then (bw_alloc _ hb2) hb1 | exact bw_then (bw_drew hb2) hb1 | exact bw_then HB hb1 | exact bw_then (bw_drewN _ HB) hb1 | exact bw_then (bw_alloc _ HB) hb1 | exact bw_then (bw_drew HB) hb1 | exact hb1); obtain ⟨hc2, hf2, hz2⟩ := bcell hb2; (try simp only [szs] at hz2); try (first | obtain ⟨hy1, hy2, hy3, hy4⟩ := lts4 hz2 | obtain ⟨hy1, hy2, hy3⟩ := lts3 hz2 | obtain ⟨hy1, hy2⟩ := lts2 hz2 | have hy1 := lts1 hz2); have hb9 := hb1))
    go_ret
    exact ⟨ret_bool (netOk_no3 k hlt (bufOk_3 H3.out)).symm, bel⟩
   ·have H3 := Lib.hid h3
    go_wp2_with (first | (go_at_call 91; refine (impl_ClassOnly (rl n.bufs k) ((k : Int) % 2) Ai ci _ (by exact Kd.C_below hCi bel) hki).mono ?_; rintro e w1 ⟨hg1, hb1⟩; obtain ⟨A1, d1, rfl, hk1, hC1⟩ := hg1.read; obtain ⟨hc1, hf1, hz1⟩ := bcell hb1; (try simp only [szs] at hz1); have hb2 := (by first | exact bw_then hb2 hb1 | exact bw_then (bw_drewN _ hb2) hb1 | exact bw_then (bw_alloc _ hb2) hb1 | exact bw_then (bw_drew hb2) hb1 | exact bw_then HB hb1 | exact bw_then (bw_drewN _ HB) hb1 | exact bw_then (bw_alloc _ HB) hb1 | exact bw_then (bw_drew HB) hb1 | exact hb1); obtain ⟨hc2, hf2, hz2⟩ := bcell hb2; (try simp only [szs] at hz2); try (first | obtain ⟨hy1, hy2, hy3, hy4⟩ := lts4 hz2 | obtain ⟨hy1, hy2, hy3⟩ := lts3 hz2 | obtain ⟨hy1, hy2⟩ := lts2 hz2 | have hy1 := lts1 hz2); have hb9 := hb1) | (go_at_call 92; refine (impl_areFlits n.mesh.g (rl n.bufs k) Ai ci _ (by exact Kd.C_below hCi bel) hki).mono ?_; rintro e w1 ⟨rfl, hb1⟩; obtain ⟨hc1, hf1, hz1⟩ := bcell hb1; (try simp only [szs] at hz1); have hb2 := (by first | exact bw_then hb2 hb1 | exact bw_then (bw_drewN _ hb2) hb1 | exact bw_then (bw_alloc _ hb2) hb1 | exact bw_then (bw_drew hb2) hb1 | exact bw_then HB hb1 | exact bw_then (bw_drewN _ HB) hb1 | exact bw_then (bw_alloc _ HB) hb1 | exact bw_then (bw_drew HB) hb1 | exact hb1); obtain ⟨hc2, hf2, hz2⟩ := bcell hb2; (try simp only [szs] at hz2); try (first | obtain ⟨hy1, hy2, hy3, hy4⟩ := lts4 hz2 | obtain ⟨hy1, hy2, hy3⟩ := lts3 hz2 | obtain ⟨hy1, hy2⟩ := lts2 hz2 | have hy1 := lts1 hz2); have hb9 := hb1))
    go_roundw
    case rel => exact ⟨k + 1, by go_num, by omega, Lib.hid (upto HA.out (bufOk_4 g1 G2.out H3.out)), bel⟩
    case measure => simp [intOf]; omega
  ·have i0 : ¬ (k : Int) < (n.bufs.length : Int) := by omega
   have HBU : Hid (∀ j : Nat, j < n.bufs.length → bufOk n.mesh.g j (rl n.bufs j) = true) := Lib.hid fun j hj => HA.out j (by omega)
   go_wp2
   go_loopw [89] (fun i wr => ∃ k : Nat, i = .int .i64 k ∧ k ≤ n.srcs.length ∧ Hid (∀ j : Nat, j < k → srcOk n.mesh.g (rl n.srcs j) = true) ∧ Below (w.alloc (.cells #[.int .i64 n.mesh.g.w, .int .i64 n.mesh.g.h, .slice a1 n.mesh.br.length c1, .slice a2 n.pa.length c2, .slice a3 n.pb.length c3, .slice a4 n.bufs.length c4, .slice a5 n.owners.length c5, .slice a6 n.turns.length c6, .slice a7 n.srcs.length c7, .slice a8 n.arrs.length c8, .int .i64 n.time] 43)).heap.size (w.alloc (.cells #[.int .i64 n.mesh.g.w, .int .i64 n.mesh.g.h, .slice a1 n.mesh.br.length c1, .slice a2 n.pa.length c2, .slice a3 n.pb.length c3, .slice a4 n.bufs.length c4, .slice a5 n.owners.length c5, .slice a6 n.turns.length c6, .slice a7 n.srcs.length c7, .slice a8 n.arrs.length c8, .int .i64 n.time] 43)) wr) (fun i _ => n.srcs.length - (intOf i).toNat)
   case atStart => exact ⟨0, rfl, Nat.zero_le _, Lib.hid fun j h => absurd h (Nat.not_lt_zero _), bel⟩
   case round =>
    clear HA HB hcr hfr hzr yy1 hlt i0 hk
    obtain ⟨k, rfl, hk, HA, HB⟩ := hrel
    obtain ⟨hcr, hfr, hzr⟩ := bcell HB
    simp only [szs] at hzr
    have yy1 := lts1 hzr
    by_cases hlt : k < n.srcs.length
    ·obtain ⟨b, off, rfl, hb, Ai, ci, p0, hle, hCi⟩ := rdB_at Rso k hlt
     obtain ⟨z1, z2, z3, z4, z5, z6⟩ := more hb
     have hki := M10.out _ (rl_mem hlt)
     have i0 : (k : Int) < (n.srcs.length : Int) := by omega
     by_cases g1 : 60 < (rl n.srcs k).length
     ·have g1' : (60 : Int) < ((rl n.srcs k).length : Int) := by omega
      go_wp2
      go_ret
      exact ⟨ret_bool (netOk_no4 k hlt (srcOk_1 g1)).symm, bel⟩
     have g1' : ¬ (60 : Int) < ((rl n.srcs k).length : Int) := by omega
     cases h3 : areFl n.mesh.g (rl n.srcs k)
     ·have H3 := Lib.hid h3
      go_wp2_with (go_at_call 92; refine (impl_areFlits n.mesh.g (rl n.srcs k) Ai ci _ (by exact Kd.C_below hCi bel) hki).mono ?_; rintro e w1 ⟨rfl, hb1⟩; obtain ⟨hc1, hf1, hz1⟩ := bcell hb1; (try simp only [szs] at hz1); have hb2 := (by first | exact bw_then hb2 hb1 | exact bw_then (bw_drewN _ hb2) hb1 | exact bw_then (bw_alloc _ hb2) hb1 | exact bw_then (bw_drew hb2) hb1 | exact bw_then HB hb1 | exact bw_then (bw_drewN _ HB) hb1 | exact bw_then (bw_alloc _ HB) hb1 | exact bw_then (bw_drew HB) hb1 | exact hb1); obtain ⟨hc2, hf2, hz2⟩ := bcell hb2; (try simp only [szs] at hz2); try (first | obtain ⟨hy1, hy2, hy3, hy4⟩ := lts4 hz2 | obtain ⟨hy1, hy2, hy3⟩ := lts3 hz2 | obtain ⟨hy1, hy2⟩ := lts2 hz2 | have hy1 := lts1 hz2); have hb9 := hb1)
      go_ret
      exact ⟨ret_bool (netOk_no4 k hlt (srcOk_2 H3.out)).symm, bel⟩
     ·have H3 := Lib.hid h3
      go_wp2_with (go_at_call 92; refine (impl_areFlits n.mesh.g (rl n.srcs k) Ai ci _ (by exact Kd.C_below hCi bel) hki).mono ?_; rintro e w1 ⟨rfl, hb1⟩; obtain ⟨hc1, hf1, hz1⟩ := bcell hb1; (try simp only [szs] at hz1); have hb2 := (by first | exact bw_then hb2 hb1 | exact bw_then (bw_drewN _ hb2) hb1 | exact bw_then (bw_alloc _ hb2) hb1 | exact bw_then (bw_drew hb2) hb1 | exact bw_then HB hb1 | exact bw_then (bw_drewN _ HB) hb1 | exact bw_then (bw_alloc _ HB) hb1 | exact bw_then (bw_drew HB) hb1 | exact hb1); obtain ⟨hc2, hf2, hz2⟩ := bcell hb2; (try simp only [szs] at hz2); try (first | obtain ⟨hy1, hy2, hy3, hy4⟩ := lts4 hz2 | obtain ⟨hy1, hy2, hy3⟩ := lts3 hz2 | obtain ⟨hy1, hy2⟩ := lts2 hz2 | have hy1 := lts1 hz2); have hb9 := hb1)
      go_roundw
      case rel => exact ⟨k + 1, by go_num, by omega, Lib.hid (upto HA.out (srcOk_3 g1 H3.out)), bel⟩
      case measure => simp [intOf]; omega
    ·have i0 : ¬ (k : Int) < (n.srcs.length : Int) := by omega
     have HE := Lib.hid (netOk_eq HC.out HSH.out HBU.out (fun j hj => HA.out j (by omega)))
     cases t1 : allI n.owners.length (fun i => inside (ri n.owners i) (-1) 4)
     ·have T1 := Lib.hid t1
      go_wp2_with (go_at_call_of 93 n.owners; refine (impl_areInside n.owners (-1) 4 a5 c5 _ (by exact Kd.C_below Row bel) L5).mono ?_; rintro e w' ⟨rfl, rfl⟩)
      go_ret
      exact ⟨ret_bool (by rw [HE.out, T1.out]; rfl), bel⟩
     cases t2 : allI n.turns.length (fun i => inside (ri n.turns i) 0 9)
     ·have T1 := Lib.hid t1
      have T2 := Lib.hid t2
      go_wp2_with (first | (go_at_call_of 93 n.owners; refine (impl_areInside n.owners (-1) 4 a5 c5 _ (by exact Kd.C_below Row bel) L5).mono ?_; rintro e w' ⟨rfl, rfl⟩) | (go_at_call_of 93 n.turns; refine (impl_areInside n.turns 0 9 a6 c6 _ (by exact Kd.C_below Rtu bel) L6).mono ?_; rintro e w' ⟨rfl, rfl⟩))
      go_ret
      exact ⟨ret_bool (by rw [HE.out, T1.out, T2.out]; rfl), bel⟩
     ·have T1 := Lib.hid t1
      have T2 := Lib.hid t2
      go_wp2_with (first | (go_at_call_of 93 n.owners; refine (impl_areInside n.owners (-1) 4 a5 c5 _ (by exact Kd.C_below Row bel) L5).mono ?_; rintro e w' ⟨rfl, rfl⟩) | (go_at_call_of 93 n.turns; refine (impl_areInside n.turns 0 9 a6 c6 _ (by exact Kd.C_below Rtu bel) L6).mono ?_; rintro e w' ⟨rfl, rfl⟩) | (go_at_call 94; refine (impl_inside _ _ _ _).mono ?_; rintro e w' ⟨rfl, rfl⟩))
      go_ret
      exact ⟨ret_bool (by rw [HE.out, T1.out, T2.out]; rfl), bel⟩
end Go.Proofs.YteeebfeljjghhaaGreat
/- Requests: the program's side; for all valid networks. -/
set_option linter.unusedVariables false
set_option linter.unusedSimpArgs false
namespace Go.Proofs.YteeebfeljjghhaaGreat
open Go.RowKit Go.Proofs.YteeebfeljjghhaaGreatW.PrintWords
open NoC

theorem rdB_int {e : Nat} {w : World} {A : Option Addr} {l : List (List Flit)} (h : (kB e).C w A l.length l) (i : Int) (h0 : 0 ≤ i) (h1 : i < (l.length : Int)) :
    ∃ b off, A = some ⟨b, off, none⟩ ∧ b < w.heap.size ∧ ∃ Ai ci, w.cell? ⟨b, off + i.toNat, none⟩ = some (.slice Ai (rl l i).length ci) ∧ (rl l i).length ≤ ci ∧ kF.C w Ai (rl l i).length (rl l i) := by
  obtain ⟨b, off, e1, hb, Ai, ci, h2, h3, h4⟩ := rdB_at h i.toNat (by omega)
  rw [Int.toNat_of_nonneg h0] at h2 h3 h4
  exact ⟨b, off, e1, hb, Ai, ci, h2, h3, h4⟩
end Go.Proofs.YteeebfeljjghhaaGreat
/- Requests: the program's side, at a node; for all networks. -/
set_option linter.unusedVariables false
set_option linter.unusedSimpArgs false
namespace Go.Proofs.YteeebfeljjghhaaGreat
open Go.RowKit Go.Proofs.YteeebfeljjghhaaGreatW.PrintWords
open NoC

end Go.Proofs.YteeebfeljjghhaaGreat
/- Valid networks: the reference comes to netOk; for all networks whose rows hold at most a million entries each. -/
set_option linter.unusedVariables false
set_option linter.unusedSimpArgs false
namespace Go.Proofs.YteeebfeljjghhaaGreat
open Go.RowKit Go.Proofs.YteeebfeljjghhaaGreatW.PrintWords
open NoC
theorem netOk_no5 {n : Net} (k : Nat) (hk : k < n.owners.length) (h : inside (ri n.owners k) (-1) 4 = false) : netOk n = false := by simp [netOk, allI_false (p := fun (i : Nat) => inside (ri n.owners i) (-1) 4) k hk h]
theorem netOk_no6 {n : Net} (k : Nat) (hk : k < n.turns.length) (h : inside (ri n.turns k) 0 9 = false) : netOk n = false := by simp [netOk, allI_false (p := fun (i : Nat) => inside (ri n.turns i) 0 9) k hk h]
theorem netOk_no7 {n : Net} (h : inside n.time 0 1000000 = false) : netOk n = false := by simp [netOk, h]
def clsIs (i : Nat) (l : List Flit) (j : Nat) : Prop := (rf l j).cls = ((i % 2 : Nat) : Int)
theorem cls_all {i : Nat} {l : List Flit} (h : ∀ j : Nat, j < l.length → clsIs i l j) : l.all (fun f => f.cls == ((i % 2 : Nat) : Int)) = true := by
  rw [List.all_eq_true]
  intro f hf
  obtain ⟨j, hj, rfl⟩ := List.getElem_of_mem hf
  have := h j hj
  unfold clsIs at this
  rw [rf_get l j hj] at this
  simpa using this
theorem bufOk_5 {g : Grid} {i : Nat} {l : List Flit} (h1 : ¬ 3 < l.length) (h3 : areFl g l = true) (h2 : ∀ j : Nat, j < l.length → clsIs i l j) : bufOk g i l = true := by
  simp only [bufOk, cls_all h2, h3, Bool.and_true, decide_eq_true_eq]
  omega
theorem bufOk_6 {g : Grid} {i : Nat} {l : List Flit} (j : Nat) (hj : j < l.length) (h : ¬ clsIs i l j) : bufOk g i l = false := by
  have : l.all (fun f => f.cls == ((i % 2 : Nat) : Int)) = false := by
    rw [Bool.eq_false_iff]
    intro ha
    rw [List.all_eq_true] at ha
    have := ha _ (List.getElem_mem hj)
    unfold clsIs at h
    rw [rf_get l j hj] at h
    exact h (by simpa using this)
  simp only [bufOk, this, Bool.and_false, Bool.false_and]

set_option maxHeartbeats 8000000 in
set_option maxRecDepth 100000 in
theorem spec_NetOk (n : Net) (q : NA) (w : World) (hr : NetR 103 w n q) : Calls Tryz.prog 37 #[.agg (netCells n q)] w fun e w' => e = .returned (.bool (netOk n)) ∧ Below w.heap.size w w' := by
 obtain ⟨a1, a2, a3, a4, a5, a6, a7, a8, c1, c2, c3, c4, c5, c6, c7, c8⟩ := q; obtain ⟨Rbr, Rpa, Rpb, Rbu, Row, Rtu, Rso, Rar, L1, L2, L3, L4, L5, L6, L7, L8, L9, L10, L11⟩ := hr; have M9 := Lib.hid L9; have M10 := Lib.hid L10; have M11 := Lib.hid L11; clear L9 L10 L11; dsimp only [netCells] at *
 obtain ⟨n0, n1⟩ := count_le n.mesh.g
 cases hc : classesOk n.mesh n.pa n.pb
 ·have HC := Lib.hid hc
  go_enter Tryz.func37, Tryz.ntmps37
  go_wp2_with (first | (go_at_call 75; refine (spec_NodeCount n.mesh.g _).mono ?_; rintro e w1 ⟨rfl, hb1⟩; obtain ⟨hc1, hf1, hz1⟩ := bcell hb1; (try simp only [szs] at hz1); have hb2 := (by first | exact bw_then hb2 hb1 | exact bw_then (bw_drewN _ hb2) hb1 | exact bw_then (bw_alloc _ hb2) hb1 | exact bw_then (bw_drew hb2) hb1 | exact bw_then HB hb1 | exact bw_then (bw_drewN _ HB) hb1 | exact bw_then (bw_alloc _ HB) hb1 | exact bw_then (bw_drew HB) hb1 | exact hb1); obtain ⟨hc2, hf2, hz2⟩ := bcell hb2; (try simp only [szs] at hz2); try (first | obtain ⟨hy1, hy2, hy3, hy4⟩ := lts4 hz2 | obtain ⟨hy1, hy2, hy3⟩ := lts3 hz2 | obtain ⟨hy1, hy2⟩ := lts2 hz2 | have hy1 := lts1 hz2); have hb9 := hb1) | (go_at_call 76; refine (spec_ClassesOk n.mesh n.pa n.pb a1 a2 a3 _ _ _ _ (by exact Kd.C_below Rbr bel) L1 (by exact Kd.C_below Rpa bel) L2 (by exact Kd.C_below Rpb bel) L3).mono ?_; rintro e w1 ⟨rfl, hb1⟩; obtain ⟨hc1, hf1, hz1⟩ := bcell hb1; (try simp only [szs] at hz1); have hb2 := (by first | exact bw_then hb2 hb1 | exact bw_then (bw_drewN _ hb2) hb1 | exact bw_then (bw_alloc _ hb2) hb1 | exact bw_then (bw_drew hb2) hb1 | exact bw_then HB hb1 | exact bw_then (bw_drewN _ HB) hb1 | exact bw_then (bw_alloc _ HB) hb1 | exact bw_then (bw_drew HB) hb1 | exact hb1); obtain ⟨hc2, hf2, hz2⟩ := bcell hb2; (try simp only [szs] at hz2); try (first | obtain ⟨hy1, hy2, hy3, hy4⟩ := lts4 hz2 | obtain ⟨hy1, hy2, hy3⟩ := lts3 hz2 | obtain ⟨hy1, hy2⟩ := lts2 hz2 | have hy1 := lts1 hz2); have hb9 := hb1) | (go_at_call 59; refine (spec_l01In _ _ _ _).mono ?_; rintro e w' ⟨rfl, rfl⟩))
  go_ret
  exact ⟨ret_bool (netOk_no1 HC.out).symm, bel⟩
 by_cases s0 : (n.bufs.length : Int) = 10 * nodeCount n.mesh.g
 case neg =>
  have e0 : ((n.bufs.length : Int) != 10 * nodeCount n.mesh.g) = true := bne_iff_ne.2 s0
  have S0 := Lib.hid s0
  clear s0
  go_enter Tryz.func37, Tryz.ntmps37
  go_wp2_with (first | (go_at_call 75; refine (spec_NodeCount n.mesh.g _).mono ?_; rintro e w1 ⟨rfl, hb1⟩; obtain ⟨hc1, hf1, hz1⟩ := bcell hb1; (try simp only [szs] at hz1); have hb2 := (by first | exact bw_then hb2 hb1 | exact bw_then (bw_drewN _ hb2) hb1 | exact bw_then (bw_alloc _ hb2) hb1 | exact bw_then (bw_drew hb2) hb1 | exact bw_then HB hb1 | exact bw_then (bw_drewN _ HB) hb1 | exact bw_then (bw_alloc _ HB) hb1 | exact bw_then (bw_drew HB) hb1 | exact hb1); obtain ⟨hc2, hf2, hz2⟩ := bcell hb2; (try simp only [szs] at hz2); try (first | obtain ⟨hy1, hy2, hy3, hy4⟩ := lts4 hz2 | obtain ⟨hy1, hy2, hy3⟩ := lts3 hz2 | obtain ⟨hy1, hy2⟩ := lts2 hz2 | have hy1 := lts1 hz2); have hb9 := hb1) | (go_at_call 76; refine (spec_ClassesOk n.mesh n.pa n.pb a1 a2 a3 _ _ _ _ (by exact Kd.C_below Rbr bel) L1 (by exact Kd.C_below Rpa bel) L2 (by exact Kd.C_below Rpb bel) L3).mono ?_; rintro e w1 ⟨rfl, hb1⟩; obtain ⟨hc1, hf1, hz1⟩ := bcell hb1; (try simp only [szs] at hz1); have hb2 := (by first | exact bw_then hb2 hb1 | exact bw_then (bw_drewN _ hb2) hb1 | exact bw_then (bw_alloc _ hb2) hb1 | exact bw_then (bw_drew hb2) hb1 | exact bw_then HB hb1 | exact bw_then (bw_drewN _ HB) hb1 | exact bw_then (bw_alloc _ HB) hb1 | exact bw_then (bw_drew HB) hb1 | exact hb1); obtain ⟨hc2, hf2, hz2⟩ := bcell hb2; (try simp only [szs] at hz2); try (first | obtain ⟨hy1, hy2, hy3, hy4⟩ := lts4 hz2 | obtain ⟨hy1, hy2, hy3⟩ := lts3 hz2 | obtain ⟨hy1, hy2⟩ := lts2 hz2 | have hy1 := lts1 hz2); have hb9 := hb1) | (go_at_call 59; refine (spec_l01In _ _ _ _).mono ?_; rintro e w' ⟨rfl, rfl⟩))
  go_ret
  exact ⟨ret_bool (netOk_no2 (shape_no1 S0.out)).symm, bel⟩
 have e0 : ((n.bufs.length : Int) != 10 * nodeCount n.mesh.g) = false := bne_eq_false_iff_eq.2 s0
 have S0 := Lib.hid s0
 have u0 : (n.bufs.length : Int) ≤ 10 * nodeCount n.mesh.g := by omega
 have v0 : 10 * nodeCount n.mesh.g ≤ (n.bufs.length : Int) := by omega
 clear s0
 by_cases s1 : (n.owners.length : Int) = 10 * nodeCount n.mesh.g
 case neg =>
  have e1 : ((n.owners.length : Int) != 10 * nodeCount n.mesh.g) = true := bne_iff_ne.2 s1
  have S1 := Lib.hid s1
  clear s1
  go_enter Tryz.func37, Tryz.ntmps37
  go_wp2_with (first | (go_at_call 75; refine (spec_NodeCount n.mesh.g _).mono ?_; rintro e w1 ⟨rfl, hb1⟩; obtain ⟨hc1, hf1, hz1⟩ := bcell hb1; (try simp only [szs] at hz1); have hb2 := (by first | exact bw_then hb2 hb1 | exact bw_then (bw_drewN _ hb2) hb1 | exact bw_then (bw_alloc _ hb2) hb1 | exact bw_then (bw_drew hb2) hb1 | exact bw_then HB hb1 | exact bw_then (bw_drewN _ HB) hb1 | exact bw_then (bw_alloc _ HB) hb1 | exact bw_then (bw_drew HB) hb1 | exact hb1); obtain ⟨hc2, hf2, hz2⟩ := bcell hb2; (try simp only [szs] at hz2); try (first | obtain ⟨hy1, hy2, hy3, hy4⟩ := lts4 hz2 | obtain ⟨hy1, hy2, hy3⟩ := lts3 hz2 | obtain ⟨hy1, hy2⟩ := lts2 hz2 | have hy1 := lts1 hz2); have hb9 := hb1) | (go_at_call 76; refine (spec_ClassesOk n.mesh n.pa n.pb a1 a2 a3 _ _ _ _ (by exact Kd.C_below Rbr bel) L1 (by exact Kd.C_below Rpa bel) L2 (by exact Kd.C_below Rpb bel) L3).mono ?_; rintro e w1 ⟨rfl, hb1⟩; obtain ⟨hc1, hf1, hz1⟩ := bcell hb1; (try simp only [szs] at hz1); have hb2 := (by first | exact bw_then hb2 hb1 | exact bw_then (bw_drewN _ hb2) hb1 | exact bw_then (bw_alloc _ hb2) hb1 | exact bw_then (bw_drew hb2) hb1 | exact bw_then HB hb1 | exact bw_then (bw_drewN _ HB) hb1 | exact bw_then (bw_alloc _ HB) hb1 | exact bw_then (bw_drew HB) hb1 | exact hb1); obtain ⟨hc2, hf2, hz2⟩ := bcell hb2; (try simp only [szs] at hz2); try (first | obtain ⟨hy1, hy2, hy3, hy4⟩ := lts4 hz2 | obtain ⟨hy1, hy2, hy3⟩ := lts3 hz2 | obtain ⟨hy1, hy2⟩ := lts2 hz2 | have hy1 := lts1 hz2); have hb9 := hb1) | (go_at_call 59; refine (spec_l01In _ _ _ _).mono ?_; rintro e w' ⟨rfl, rfl⟩))
  go_ret
  exact ⟨ret_bool (netOk_no2 (shape_no2 S1.out)).symm, bel⟩
 have e1 : ((n.owners.length : Int) != 10 * nodeCount n.mesh.g) = false := bne_eq_false_iff_eq.2 s1
 have S1 := Lib.hid s1
 have u1 : (n.owners.length : Int) ≤ 10 * nodeCount n.mesh.g := by omega
 have v1 : 10 * nodeCount n.mesh.g ≤ (n.owners.length : Int) := by omega
 clear s1
 by_cases s2 : (n.turns.length : Int) = 5 * nodeCount n.mesh.g
 case neg =>
  have e2 : ((n.turns.length : Int) != 5 * nodeCount n.mesh.g) = true := bne_iff_ne.2 s2
  have S2 := Lib.hid s2
  clear s2
  go_enter Tryz.func37, Tryz.ntmps37
  go_wp2_with (first | (go_at_call 75; refine (spec_NodeCount n.mesh.g _).mono ?_; rintro e w1 ⟨rfl, hb1⟩; obtain ⟨hc1, hf1, hz1⟩ := bcell hb1; (try simp only [szs] at hz1); have hb2 := (by first | exact bw_then hb2 hb1 | exact bw_then (bw_drewN _ hb2) hb1 | exact bw_then (bw_alloc _ hb2) hb1 | exact bw_then (bw_drew hb2) hb1 | exact bw_then HB hb1 | exact bw_then (bw_drewN _ HB) hb1 | exact bw_then (bw_alloc _ HB) hb1 | exact bw_then (bw_drew HB) hb1 | exact hb1); obtain ⟨hc2, hf2, hz2⟩ := bcell hb2; (try simp only [szs] at hz2); try (first | obtain ⟨hy1, hy2, hy3, hy4⟩ := lts4 hz2 | obtain ⟨hy1, hy2, hy3⟩ := lts3 hz2 | obtain ⟨hy1, hy2⟩ := lts2 hz2 | have hy1 := lts1 hz2); have hb9 := hb1) | (go_at_call 76; refine (spec_ClassesOk n.mesh n.pa n.pb a1 a2 a3 _ _ _ _ (by exact Kd.C_below Rbr bel) L1 (by exact Kd.C_below Rpa bel) L2 (by exact Kd.C_below Rpb bel) L3).mono ?_; rintro e w1 ⟨rfl, hb1⟩; obtain ⟨hc1, hf1, hz1⟩ := bcell hb1; (try simp only [szs] at hz1); have hb2 := (by first | exact bw_then hb2 hb1 | exact bw_then (bw_drewN _ hb2) hb1 | exact bw_then (bw_alloc _ hb2) hb1 | exact bw_then (bw_drew hb2) hb1 | exact bw_then HB hb1 | exact bw_then (bw_drewN _ HB) hb1 | exact bw_then (bw_alloc _ HB) hb1 | exact bw_then (bw_drew HB) hb1 | exact hb1); obtain ⟨hc2, hf2, hz2⟩ := bcell hb2; (try simp only [szs] at hz2); try (first | obtain ⟨hy1, hy2, hy3, hy4⟩ := lts4 hz2 | obtain ⟨hy1, hy2, hy3⟩ := lts3 hz2 | obtain ⟨hy1, hy2⟩ := lts2 hz2 | have hy1 := lts1 hz2); have hb9 := hb1) | (go_at_call 59; refine (spec_l01In _ _ _ _).mono ?_; rintro e w' ⟨rfl, rfl⟩))
  go_ret
  exact ⟨ret_bool (netOk_no2 (shape_no3 S2.out)).symm, bel⟩
 have e2 : ((n.turns.length : Int) != 5 * nodeCount n.mesh.g) = false := bne_eq_false_iff_eq.2 s2
 have S2 := Lib.hid s2
 have u2 : (n.turns.length : Int) ≤ 5 * nodeCount n.mesh.g := by omega
 have v2 : 5 * nodeCount n.mesh.g ≤ (n.turns.length : Int) := by omega
 clear s2
 by_cases s3 : (n.srcs.length : Int) = nodeCount n.mesh.g
 case neg =>
  have e3 : ((n.srcs.length : Int) != nodeCount n.mesh.g) = true := bne_iff_ne.2 s3
  have S3 := Lib.hid s3
  clear s3
  go_enter Tryz.func37, Tryz.ntmps37
  go_wp2_with (first | (go_at_call 75; refine (spec_NodeCount n.mesh.g _).mono ?_; rintro e w1 ⟨rfl, hb1⟩; obtain ⟨hc1, hf1, hz1⟩ := bcell hb1; (try simp only [szs] at hz1); have hb2 := (by first | exact bw_then hb2 hb1 | exact bw_then (bw_drewN _ hb2) hb1 | exact bw_then (bw_alloc _ hb2) hb1 | exact bw_then (bw_drew hb2) hb1 | exact bw_then HB hb1 | exact bw_then (bw_drewN _ HB) hb1 | exact bw_then (bw_alloc _ HB) hb1 | exact bw_then (bw_drew HB) hb1 | exact hb1); obtain ⟨hc2, hf2, hz2⟩ := bcell hb2; (try simp only [szs] at hz2); try (first | obtain ⟨hy1, hy2, hy3, hy4⟩ := lts4 hz2 | obtain ⟨hy1, hy2, hy3⟩ := lts3 hz2 | obtain ⟨hy1, hy2⟩ := lts2 hz2 | have hy1 := lts1 hz2); have hb9 := hb1) | (go_at_call 76; refine (spec_ClassesOk n.mesh n.pa n.pb a1 a2 a3 _ _ _ _ (by exact Kd.C_below Rbr bel) L1 (by exact Kd.C_below Rpa bel) L2 (by exact Kd.C_below Rpb bel) L3).mono ?_; rintro e w1 ⟨rfl, hb1⟩; obtain ⟨hc1, hf1, hz1⟩ := bcell hb1; (try simp only [szs] at hz1); have hb2 := (by first | exact bw_then hb2 hb1 | exact bw_then (bw_drewN _ hb2) hb1 | exact bw_then (bw_alloc _ hb2) hb1 | exact bw_then (bw_drew hb2) hb1 | exact bw_then HB hb1 | exact bw_then (bw_drewN _ HB) hb1 | exact bw_then (bw_alloc _ HB) hb1 | exact bw_then (bw_drew HB) hb1 | exact hb1); obtain ⟨hc2, hf2, hz2⟩ := bcell hb2; (try simp only [szs] at hz2); try (first | obtain ⟨hy1, hy2, hy3, hy4⟩ := lts4 hz2 | obtain ⟨hy1, hy2, hy3⟩ := lts3 hz2 | obtain ⟨hy1, hy2⟩ := lts2 hz2 | have hy1 := lts1 hz2); have hb9 := hb1) | (go_at_call 59; refine (spec_l01In _ _ _ _).mono ?_; rintro e w' ⟨rfl, rfl⟩))
  go_ret
  exact ⟨ret_bool (netOk_no2 (shape_no4 S3.out)).symm, bel⟩
 have e3 : ((n.srcs.length : Int) != nodeCount n.mesh.g) = false := bne_eq_false_iff_eq.2 s3
 have S3 := Lib.hid s3
 have u3 : (n.srcs.length : Int) ≤ nodeCount n.mesh.g := by omega
 have v3 : nodeCount n.mesh.g ≤ (n.srcs.length : Int) := by omega
 clear s3
 by_cases s4 : (n.arrs.length : Int) = nodeCount n.mesh.g
 case neg =>
  have e4 : ((n.arrs.length : Int) != nodeCount n.mesh.g) = true := bne_iff_ne.2 s4
  have S4 := Lib.hid s4
  clear s4
  go_enter Tryz.func37, Tryz.ntmps37
  go_wp2_with (first | (go_at_call 75; refine (spec_NodeCount n.mesh.g _).mono ?_; rintro e w1 ⟨rfl, hb1⟩; obtain ⟨hc1, hf1, hz1⟩ := bcell hb1; (try simp only [szs] at hz1); have hb2 := (by first | exact bw_then hb2 hb1 | exact bw_then (bw_drewN _ hb2) hb1 | exact bw_then (bw_alloc _ hb2) hb1 | exact bw_then (bw_drew hb2) hb1 | exact bw_then HB hb1 | exact bw_then (bw_drewN _ HB) hb1 | exact bw_then (bw_alloc _ HB) hb1 | exact bw_then (bw_drew HB) hb1 | exact hb1); obtain ⟨hc2, hf2, hz2⟩ := bcell hb2; (try simp only [szs] at hz2); try (first | obtain ⟨hy1, hy2, hy3, hy4⟩ := lts4 hz2 | obtain ⟨hy1, hy2, hy3⟩ := lts3 hz2 | obtain ⟨hy1, hy2⟩ := lts2 hz2 | have hy1 := lts1 hz2); have hb9 := hb1) | (go_at_call 76; refine (spec_ClassesOk n.mesh n.pa n.pb a1 a2 a3 _ _ _ _ (by exact Kd.C_below Rbr bel) L1 (by exact Kd.C_below Rpa bel) L2 (by exact Kd.C_below Rpb bel) L3).mono ?_; rintro e w1 ⟨rfl, hb1⟩; obtain ⟨hc1, hf1, hz1⟩ := bcell hb1; (try simp only [szs] at hz1); have hb2 := (by first | exact bw_then hb2 hb1 | exact bw_then (bw_drewN _ hb2) hb1 | exact bw_then (bw_alloc _ hb2) hb1 | exact bw_then (bw_drew hb2) hb1 | exact bw_then HB hb1 | exact bw_then (bw_drewN _ HB) hb1 | exact bw_then (bw_alloc _ HB) hb1 | exact bw_then (bw_drew HB) hb1 | exact hb1); obtain ⟨hc2, hf2, hz2⟩ := bcell hb2; (try simp only [szs] at hz2); try (first | obtain ⟨hy1, hy2, hy3, hy4⟩ := lts4 hz2 | obtain ⟨hy1, hy2, hy3⟩ := lts3 hz2 | obtain ⟨hy1, hy2⟩ := lts2 hz2 | have hy1 := lts1 hz2); have hb9 := hb1) | (go_at_call 59; refine (spec_l01In _ _ _ _).mono ?_; rintro e w' ⟨rfl, rfl⟩))
  go_ret
  exact ⟨ret_bool (netOk_no2 (shape_no5 S4.out)).symm, bel⟩
 have e4 : ((n.arrs.length : Int) != nodeCount n.mesh.g) = false := bne_eq_false_iff_eq.2 s4
 have S4 := Lib.hid s4
 have u4 : (n.arrs.length : Int) ≤ nodeCount n.mesh.g := by omega
 have v4 : nodeCount n.mesh.g ≤ (n.arrs.length : Int) := by omega
 clear s4
 cases tm : inside n.time 0 1000000
 ·have HT := Lib.hid tm
  go_enter Tryz.func37, Tryz.ntmps37
  go_wp2_with (first | (go_at_call 75; refine (spec_NodeCount n.mesh.g _).mono ?_; rintro e w1 ⟨rfl, hb1⟩; obtain ⟨hc1, hf1, hz1⟩ := bcell hb1; (try simp only [szs] at hz1); have hb2 := (by first | exact bw_then hb2 hb1 | exact bw_then (bw_drewN _ hb2) hb1 | exact bw_then (bw_alloc _ hb2) hb1 | exact bw_then (bw_drew hb2) hb1 | exact bw_then HB hb1 | exact bw_then (bw_drewN _ HB) hb1 | exact bw_then (bw_alloc _ HB) hb1 | exact bw_then (bw_drew HB) hb1 | exact hb1); obtain ⟨hc2, hf2, hz2⟩ := bcell hb2; (try simp only [szs] at hz2); try (first | obtain ⟨hy1, hy2, hy3, hy4⟩ := lts4 hz2 | obtain ⟨hy1, hy2, hy3⟩ := lts3 hz2 | obtain ⟨hy1, hy2⟩ := lts2 hz2 | have hy1 := lts1 hz2); have hb9 := hb1) | (go_at_call 76; refine (spec_ClassesOk n.mesh n.pa n.pb a1 a2 a3 _ _ _ _ (by exact Kd.C_below Rbr bel) L1 (by exact Kd.C_below Rpa bel) L2 (by exact Kd.C_below Rpb bel) L3).mono ?_; rintro e w1 ⟨rfl, hb1⟩; obtain ⟨hc1, hf1, hz1⟩ := bcell hb1; (try simp only [szs] at hz1); have hb2 := (by first | exact bw_then hb2 hb1 | exact bw_then (bw_drewN _ hb2) hb1 | exact bw_then (bw_alloc _ hb2) hb1 | exact bw_then (bw_drew hb2) hb1 | exact bw_then HB hb1 | exact bw_then (bw_drewN _ HB) hb1 | exact bw_then (bw_alloc _ HB) hb1 | exact bw_then (bw_drew HB) hb1 | exact hb1); obtain ⟨hc2, hf2, hz2⟩ := bcell hb2; (try simp only [szs] at hz2); try (first | obtain ⟨hy1, hy2, hy3, hy4⟩ := lts4 hz2 | obtain ⟨hy1, hy2, hy3⟩ := lts3 hz2 | obtain ⟨hy1, hy2⟩ := lts2 hz2 | have hy1 := lts1 hz2); have hb9 := hb1) | (go_at_call 59; refine (spec_l01In _ _ _ _).mono ?_; rintro e w' ⟨rfl, rfl⟩))
  go_ret
  exact ⟨ret_bool (netOk_no7 HT.out).symm, bel⟩
 have HT := Lib.hid tm
 have HSH := Lib.hid (shape_mk S0.out S1.out S2.out S3.out S4.out)
 have HC := Lib.hid hc
 go_enter Tryz.func37, Tryz.ntmps37
 go_wp2_with (first | (go_at_call 75; refine (spec_NodeCount n.mesh.g _).mono ?_; rintro e w1 ⟨rfl, hb1⟩; obtain ⟨hc1, hf1, hz1⟩ := bcell hb1; (try simp only [szs] at hz1); have hb2 := (by first | exact bw_then hb2 hb1 | exact bw_then (bw_drewN _ hb2) hb1 | exact bw_then (bw_alloc _ hb2) hb1 | exact bw_then (bw_drew hb2) hb1 | exact bw_then HB hb1 | exact bw_then (bw_drewN _ HB) hb1 | exact bw_then (bw_alloc _ HB) hb1 | exact bw_then (bw_drew HB) hb1 | exact hb1); obtain ⟨hc2, hf2, hz2⟩ := bcell hb2; (try simp only [szs] at hz2); try (first | obtain ⟨hy1, hy2, hy3, hy4⟩ := lts4 hz2 | obtain ⟨hy1, hy2, hy3⟩ := lts3 hz2 | obtain ⟨hy1, hy2⟩ := lts2 hz2 | have hy1 := lts1 hz2); have hb9 := hb1) | (go_at_call 76; refine (spec_ClassesOk n.mesh n.pa n.pb a1 a2 a3 _ _ _ _ (by exact Kd.C_below Rbr bel) L1 (by exact Kd.C_below Rpa bel) L2 (by exact Kd.C_below Rpb bel) L3).mono ?_; rintro e w1 ⟨rfl, hb1⟩; obtain ⟨hc1, hf1, hz1⟩ := bcell hb1; (try simp only [szs] at hz1); have hb2 := (by first | exact bw_then hb2 hb1 | exact bw_then (bw_drewN _ hb2) hb1 | exact bw_then (bw_alloc _ hb2) hb1 | exact bw_then (bw_drew hb2) hb1 | exact bw_then HB hb1 | exact bw_then (bw_drewN _ HB) hb1 | exact bw_then (bw_alloc _ HB) hb1 | exact bw_then (bw_drew HB) hb1 | exact hb1); obtain ⟨hc2, hf2, hz2⟩ := bcell hb2; (try simp only [szs] at hz2); try (first | obtain ⟨hy1, hy2, hy3, hy4⟩ := lts4 hz2 | obtain ⟨hy1, hy2, hy3⟩ := lts3 hz2 | obtain ⟨hy1, hy2⟩ := lts2 hz2 | have hy1 := lts1 hz2); have hb9 := hb1) | (go_at_call 59; refine (spec_l01In _ _ _ _).mono ?_; rintro e w' ⟨rfl, rfl⟩))
 go_loopw [4] (fun i wr => ∃ k : Nat, i = .int .i64 k ∧ k ≤ n.bufs.length ∧ Hid (∀ j : Nat, j < k → bufOk n.mesh.g j (rl n.bufs j) = true ∧ inside (ri n.owners j) (-1) 4 = true) ∧ Below (w.alloc (.cells #[.int .i64 n.mesh.g.w, .int .i64 n.mesh.g.h, .slice a1 n.mesh.br.length c1, .slice a2 n.pa.length c2, .slice a3 n.pb.length c3, .slice a4 n.bufs.length c4, .slice a5 n.owners.length c5, .slice a6 n.turns.length c6, .slice a7 n.srcs.length c7, .slice a8 n.arrs.length c8, .int .i64 n.time] 43)).heap.size (w.alloc (.cells #[.int .i64 n.mesh.g.w, .int .i64 n.mesh.g.h, .slice a1 n.mesh.br.length c1, .slice a2 n.pa.length c2, .slice a3 n.pb.length c3, .slice a4 n.bufs.length c4, .slice a5 n.owners.length c5, .slice a6 n.turns.length c6, .slice a7 n.srcs.length c7, .slice a8 n.arrs.length c8, .int .i64 n.time] 43)) wr) (fun i _ => n.bufs.length - (intOf i).toNat)
 case atStart => exact ⟨0, rfl, Nat.zero_le _, Lib.hid fun j h => absurd h (Nat.not_lt_zero _), bel⟩
 case round =>
  obtain ⟨k, rfl, hk, HA, HB⟩ := hrel
  obtain ⟨hcr, hfr, hzr⟩ := bcell HB
  simp only [szs] at hzr
  have yy1 := lts1 hzr
  by_cases hlt : k < n.bufs.length
  ·obtain ⟨b, off, rfl, hb, Ai, ci, p0, hle, hCi⟩ := rdB_at Rbu k hlt
   obtain ⟨z1, z2, z3, z4, z5, z6⟩ := more hb
   have hlo : k < n.owners.length := by omega
   obtain ⟨b5, off5, rfl, hb5, hx5⟩ := rdI_at Row k hlo
   have p5 := hx5 k hlo
   clear hx5
   obtain ⟨z7, z8, z9, z10, z11, z12⟩ := more hb5
   have hki := M9.out _ (rl_mem hlt)
   have i0 : (k : Int) < 10 * nodeCount n.mesh.g := by omega
   have i1 : (k : Int) < (n.bufs.length : Int) := by omega
   have i2 : (k : Int) < (n.owners.length : Int) := by omega
   have i3 : (0 : Int) ≤ (k : Int) := by omega
   by_cases g1 : 3 < (rl n.bufs k).length
   ·have g1' : (3 : Int) < ((rl n.bufs k).length : Int) := by omega
    go_wp2
    go_ret
    exact ⟨ret_bool (netOk_no3 k hlt (bufOk_1 g1)).symm, bel⟩
   have g1' : ¬ (3 : Int) < ((rl n.bufs k).length : Int) := by omega
   cases h3 : areFl n.mesh.g (rl n.bufs k)
   ·have H3 := Lib.hid h3
    go_wp2_with (go_at_call 77; refine (spec_l15Flits n.mesh.g (rl n.bufs k) Ai ci _ (by exact Kd.C_below hCi bel) hki).mono ?_; rintro e w1 ⟨rfl, hb1⟩; obtain ⟨hc1, hf1, hz1⟩ := bcell hb1; (try simp only [szs] at hz1); have hb2 := (by first | exact bw_then hb2 hb1 | exact bw_then (bw_drewN _ hb2) hb1 | exact bw_then (bw_alloc _ hb2) hb1 | exact bw_then (bw_drew hb2) hb1 | exact bw_then HB hb1 | exact bw_then (bw_drewN _ HB) hb1 | exact bw_then (bw_alloc _ HB) hb1 | exact bw_then (bw_drew HB) hb1 | exact hb1); obtain ⟨hc2, hf2, hz2⟩ := bcell hb2; (try simp only [szs] at hz2); try (first | obtain ⟨hy1, hy2, hy3, hy4⟩ := lts4 hz2 | obtain ⟨hy1, hy2, hy3⟩ := lts3 hz2 | obtain ⟨hy1, hy2⟩ := lts2 hz2 | have hy1 := lts1 hz2); have hb9 := hb1)
    go_ret
    exact ⟨ret_bool (netOk_no3 k hlt (bufOk_3 H3.out)).symm, bel⟩
   have H3 := Lib.hid h3
   cases h5 : inside (ri n.owners k) (-1) 4
   ·have H5 := Lib.hid h5
    go_wp2_with (first | (go_at_call 77; refine (spec_l15Flits n.mesh.g (rl n.bufs k) Ai ci _ (by exact Kd.C_below hCi bel) hki).mono ?_; rintro e w1 ⟨rfl, hb1⟩; obtain ⟨hc1, hf1, hz1⟩ := bcell hb1; (try simp only [szs] at hz1); have hb2 := (by first | exact bw_then hb2 hb1 | exact bw_then (bw_drewN _ hb2) hb1 | exact bw_then (bw_alloc _ hb2) hb1 | exact bw_then (bw_drew hb2) hb1 | exact bw_then HB hb1 | exact bw_then (bw_drewN _ HB) hb1 | exact bw_then (bw_alloc _ HB) hb1 | exact bw_then (bw_drew HB) hb1 | exact hb1); obtain ⟨hc2, hf2, hz2⟩ := bcell hb2; (try simp only [szs] at hz2); try (first | obtain ⟨hy1, hy2, hy3, hy4⟩ := lts4 hz2 | obtain ⟨hy1, hy2, hy3⟩ := lts3 hz2 | obtain ⟨hy1, hy2⟩ := lts2 hz2 | have hy1 := lts1 hz2); have hb9 := hb1) | (go_at_call 59; refine (spec_l01In _ _ _ _).mono ?_; rintro e w' ⟨rfl, rfl⟩))
    go_ret
    exact ⟨ret_bool (netOk_no5 k hlo H5.out).symm, bel⟩
   have H5 := Lib.hid h5
   go_wp2_with (first | (go_at_call 77; refine (spec_l15Flits n.mesh.g (rl n.bufs k) Ai ci _ (by exact Kd.C_below hCi bel) hki).mono ?_; rintro e w1 ⟨rfl, hb1⟩; obtain ⟨hc1, hf1, hz1⟩ := bcell hb1; (try simp only [szs] at hz1); have hb2 := (by first | exact bw_then hb2 hb1 | exact bw_then (bw_drewN _ hb2) hb1 | exact bw_then (bw_alloc _ hb2) hb1 | exact bw_then (bw_drew hb2) hb1 | exact bw_then HB hb1 | exact bw_then (bw_drewN _ HB) hb1 | exact bw_then (bw_alloc _ HB) hb1 | exact bw_then (bw_drew HB) hb1 | exact hb1); obtain ⟨hc2, hf2, hz2⟩ := bcell hb2; (try simp only [szs] at hz2); try (first | obtain ⟨hy1, hy2, hy3, hy4⟩ := lts4 hz2 | obtain ⟨hy1, hy2, hy3⟩ := lts3 hz2 | obtain ⟨hy1, hy2⟩ := lts2 hz2 | have hy1 := lts1 hz2); have hb9 := hb1) | (go_at_call 59; refine (spec_l01In _ _ _ _).mono ?_; rintro e w' ⟨rfl, rfl⟩))
   have hb0 := hb2
   clear hb1 hb9
   go_loopw [6] (fun i wr => ∃ x : Nat, i = .int .i64 x ∧ x ≤ (rl n.bufs k).length ∧ Hid (∀ j : Nat, j < x → clsIs k (rl n.bufs k) j) ∧ Below w1.heap.size w1 wr) (fun i _ => (rl n.bufs k).length - (intOf i).toNat)
   case atStart => exact ⟨0, rfl, Nat.zero_le _, Lib.hid fun j h => absurd h (Nat.not_lt_zero _), bw_refl _⟩
   case round =>
    obtain ⟨x, rfl, hx, HX, HBi⟩ := hrel
    obtain ⟨hci, hfi, hzi⟩ := bcell HBi
    by_cases hlx : x < (rl n.bufs k).length
    ·obtain ⟨b7, off7, rfl, hb7, r0, r1, r2, r3, r4⟩ := rdFl_at hCi x hlx
     obtain ⟨z13, z14, z15, z16, z17, z18⟩ := more hb7
     have z19 : b7 < w1.heap.size := by omega
     have z20 : b7 < wr.heap.size := by omega
     have j1 : (x : Int) < ((rl n.bufs k).length : Int) := by omega
     by_cases hq : clsIs k (rl n.bufs k) x
     ·have HQ := Lib.hid hq
      unfold clsIs at hq
      have f2 : ((rf (rl n.bufs k) x).cls != (k : Int) % 2) = false := bne_eq_false_iff_eq.2 (by rw [hq, mod2])
      clear hq
      go_wp2
      go_roundw
      case rel => exact ⟨x + 1, by go_num, by omega, Lib.hid (upto HX.out HQ.out), bel⟩
      case measure => simp [intOf]; omega
     ·have HQ := Lib.hid hq
      unfold clsIs at hq
      have f2 : ((rf (rl n.bufs k) x).cls != (k : Int) % 2) = true := bne_iff_ne.2 (by rw [mod2]; exact hq)
      clear hq
      go_wp2
      go_ret
      exact ⟨ret_bool (netOk_no3 k hlt (bufOk_6 x hlx HQ.out)).symm, bel⟩
    ·have j1 : ¬ (x : Int) < ((rl n.bufs k).length : Int) := by omega
     go_wp2
     go_roundw
     case rel => exact ⟨k + 1, by go_num, by omega, Lib.hid (upto HA.out ⟨bufOk_5 g1 H3.out (fun j hj => HX.out j (by omega)), H5.out⟩), bel⟩
     case measure => simp [intOf]; omega
  ·have i0 : ¬ (k : Int) < 10 * nodeCount n.mesh.g := by omega
   have HBU : Hid (∀ j : Nat, j < n.bufs.length → bufOk n.mesh.g j (rl n.bufs j) = true) := Lib.hid fun j hj => (HA.out j (by omega)).1
   have HOW : Hid (∀ j : Nat, j < n.owners.length → inside (ri n.owners j) (-1) 4 = true) := Lib.hid fun j hj => (HA.out j (by omega)).2
   go_wp2
   go_loopw [7] (fun i wr => ∃ k : Nat, i = .int .i64 k ∧ k ≤ n.turns.length ∧ Hid (∀ j : Nat, j < k → inside (ri n.turns j) 0 9 = true) ∧ Below (w.alloc (.cells #[.int .i64 n.mesh.g.w, .int .i64 n.mesh.g.h, .slice a1 n.mesh.br.length c1, .slice a2 n.pa.length c2, .slice a3 n.pb.length c3, .slice a4 n.bufs.length c4, .slice a5 n.owners.length c5, .slice a6 n.turns.length c6, .slice a7 n.srcs.length c7, .slice a8 n.arrs.length c8, .int .i64 n.time] 43)).heap.size (w.alloc (.cells #[.int .i64 n.mesh.g.w, .int .i64 n.mesh.g.h, .slice a1 n.mesh.br.length c1, .slice a2 n.pa.length c2, .slice a3 n.pb.length c3, .slice a4 n.bufs.length c4, .slice a5 n.owners.length c5, .slice a6 n.turns.length c6, .slice a7 n.srcs.length c7, .slice a8 n.arrs.length c8, .int .i64 n.time] 43)) wr) (fun i _ => n.turns.length - (intOf i).toNat)
   case atStart => exact ⟨0, rfl, Nat.zero_le _, Lib.hid fun j h => absurd h (Nat.not_lt_zero _), bel⟩
   case round =>
    clear HA HB hcr hfr hzr yy1 hlt i0 hk
    obtain ⟨k, rfl, hk, HA, HB⟩ := hrel
    obtain ⟨hcr, hfr, hzr⟩ := bcell HB
    simp only [szs] at hzr
    have yy1 := lts1 hzr
    by_cases hlt : k < n.turns.length
    ·obtain ⟨b, off, rfl, hb, hx⟩ := rdI_at Rtu k hlt
     have p6 := hx k hlt
     clear hx
     obtain ⟨z1, z2, z3, z4, z5, z6⟩ := more hb
     have i0 : (k : Int) < 5 * nodeCount n.mesh.g := by omega
     have i1 : (k : Int) < (n.turns.length : Int) := by omega
     cases h5 : inside (ri n.turns k) 0 9
     ·have H5 := Lib.hid h5
      go_wp2_with (go_at_call 59; refine (spec_l01In _ _ _ _).mono ?_; rintro e w' ⟨rfl, rfl⟩)
      go_ret
      exact ⟨ret_bool (netOk_no6 k hlt H5.out).symm, bel⟩
     ·have H5 := Lib.hid h5
      go_wp2_with (go_at_call 59; refine (spec_l01In _ _ _ _).mono ?_; rintro e w' ⟨rfl, rfl⟩)
      go_roundw
      case rel => exact ⟨k + 1, by go_num, by omega, Lib.hid (upto HA.out H5.out), bel⟩
      case measure => simp [intOf]; omega
    ·have i0 : ¬ (k : Int) < 5 * nodeCount n.mesh.g := by omega
     have HTU : Hid (∀ j : Nat, j < n.turns.length → inside (ri n.turns j) 0 9 = true) := Lib.hid fun j hj => HA.out j (by omega)
     go_wp2
     go_loopw [8] (fun i wr => ∃ k : Nat, i = .int .i64 k ∧ k ≤ n.srcs.length ∧ Hid (∀ j : Nat, j < k → srcOk n.mesh.g (rl n.srcs j) = true) ∧ Below (w.alloc (.cells #[.int .i64 n.mesh.g.w, .int .i64 n.mesh.g.h, .slice a1 n.mesh.br.length c1, .slice a2 n.pa.length c2, .slice a3 n.pb.length c3, .slice a4 n.bufs.length c4, .slice a5 n.owners.length c5, .slice a6 n.turns.length c6, .slice a7 n.srcs.length c7, .slice a8 n.arrs.length c8, .int .i64 n.time] 43)).heap.size (w.alloc (.cells #[.int .i64 n.mesh.g.w, .int .i64 n.mesh.g.h, .slice a1 n.mesh.br.length c1, .slice a2 n.pa.length c2, .slice a3 n.pb.length c3, .slice a4 n.bufs.length c4, .slice a5 n.owners.length c5, .slice a6 n.turns.length c6, .slice a7 n.srcs.length c7, .slice a8 n.arrs.length c8, .int .i64 n.time] 43)) wr) (fun i _ => n.srcs.length - (intOf i).toNat)
     case atStart => exact ⟨0, rfl, Nat.zero_le _, Lib.hid fun j h => absurd h (Nat.not_lt_zero _), bel⟩
     case round =>
      clear HA HB hcr hfr hzr yy1 hlt i0 hk
      obtain ⟨k, rfl, hk, HA, HB⟩ := hrel
      obtain ⟨hcr, hfr, hzr⟩ := bcell HB
      simp only [szs] at hzr
      have yy1 := lts1 hzr
      by_cases hlt : k < n.srcs.length
      ·obtain ⟨b, off, rfl, hb, Ai, ci, p0, hle, hCi⟩ := rdB_at Rso k hlt
       obtain ⟨z1, z2, z3, z4, z5, z6⟩ := more hb
       have hki := M10.out _ (rl_mem hlt)
       have i0 : (k : Int) < nodeCount n.mesh.g := by omega
       have i1 : (k : Int) < (n.srcs.length : Int) := by omega
       have i3 : (0 : Int) ≤ (k : Int) := by omega
       have x0 : (w.alloc (.cells #[.int .i64 n.mesh.g.w, .int .i64 n.mesh.g.h, .slice a1 n.mesh.br.length c1, .slice a2 n.pa.length c2, .slice a3 n.pb.length c3, .slice a4 n.bufs.length c4, .slice a5 n.owners.length c5, .slice a6 n.turns.length c6, .slice (some ⟨b, off, none⟩) n.srcs.length c7, .slice a8 n.arrs.length c8, .int .i64 n.time] 43)).cell? ⟨w.heap.size, 0, none⟩ = some (.int .i64 n.mesh.g.w) := (Box.new w _ #[.int .i64 n.mesh.g.w, .int .i64 n.mesh.g.h, .slice a1 n.mesh.br.length c1, .slice a2 n.pa.length c2, .slice a3 n.pb.length c3, .slice a4 n.bufs.length c4, .slice a5 n.owners.length c5, .slice a6 n.turns.length c6, .slice (some ⟨b, off, none⟩) n.srcs.length c7, .slice a8 n.arrs.length c8, .int .i64 n.time] 43 rfl).get 0
       have x1 : (w.alloc (.cells #[.int .i64 n.mesh.g.w, .int .i64 n.mesh.g.h, .slice a1 n.mesh.br.length c1, .slice a2 n.pa.length c2, .slice a3 n.pb.length c3, .slice a4 n.bufs.length c4, .slice a5 n.owners.length c5, .slice a6 n.turns.length c6, .slice (some ⟨b, off, none⟩) n.srcs.length c7, .slice a8 n.arrs.length c8, .int .i64 n.time] 43)).cell? ⟨w.heap.size, 1, none⟩ = some (.int .i64 n.mesh.g.h) := (Box.new w _ #[.int .i64 n.mesh.g.w, .int .i64 n.mesh.g.h, .slice a1 n.mesh.br.length c1, .slice a2 n.pa.length c2, .slice a3 n.pb.length c3, .slice a4 n.bufs.length c4, .slice a5 n.owners.length c5, .slice a6 n.turns.length c6, .slice (some ⟨b, off, none⟩) n.srcs.length c7, .slice a8 n.arrs.length c8, .int .i64 n.time] 43 rfl).get 1
       have x7 : (w.alloc (.cells #[.int .i64 n.mesh.g.w, .int .i64 n.mesh.g.h, .slice a1 n.mesh.br.length c1, .slice a2 n.pa.length c2, .slice a3 n.pb.length c3, .slice a4 n.bufs.length c4, .slice a5 n.owners.length c5, .slice a6 n.turns.length c6, .slice (some ⟨b, off, none⟩) n.srcs.length c7, .slice a8 n.arrs.length c8, .int .i64 n.time] 43)).cell? ⟨w.heap.size, 8, none⟩ = some (.slice (some ⟨b, off, none⟩) n.srcs.length c7) := (Box.new w _ #[.int .i64 n.mesh.g.w, .int .i64 n.mesh.g.h, .slice a1 n.mesh.br.length c1, .slice a2 n.pa.length c2, .slice a3 n.pb.length c3, .slice a4 n.bufs.length c4, .slice a5 n.owners.length c5, .slice a6 n.turns.length c6, .slice (some ⟨b, off, none⟩) n.srcs.length c7, .slice a8 n.arrs.length c8, .int .i64 n.time] 43 rfl).get 8
       by_cases g1 : 60 < (rl n.srcs k).length
       ·have g1' : (60 : Int) < ((rl n.srcs k).length : Int) := by omega
        go_wp2_with fail
        refine wp_region_far ((w.alloc (.cells #[.int .i64 n.mesh.g.w, .int .i64 n.mesh.g.h, .slice a1 n.mesh.br.length c1, .slice a2 n.pa.length c2, .slice a3 n.pb.length c3, .slice a4 n.bufs.length c4, .slice a5 n.owners.length c5, .slice a6 n.turns.length c6, .slice (some ⟨b, off, none⟩) n.srcs.length c7, .slice a8 n.arrs.length c8, .int .i64 n.time] 43))) (by kernel_rfl) (by kernel_rfl) bel ?_
        have hqc := far_cell ((w.alloc (.cells #[.int .i64 n.mesh.g.w, .int .i64 n.mesh.g.h, .slice a1 n.mesh.br.length c1, .slice a2 n.pa.length c2, .slice a3 n.pb.length c3, .slice a4 n.bufs.length c4, .slice a5 n.owners.length c5, .slice a6 n.turns.length c6, .slice (some ⟨b, off, none⟩) n.srcs.length c7, .slice a8 n.arrs.length c8, .int .i64 n.time] 43)))
        have hqf := far_frozen ((w.alloc (.cells #[.int .i64 n.mesh.g.w, .int .i64 n.mesh.g.h, .slice a1 n.mesh.br.length c1, .slice a2 n.pa.length c2, .slice a3 n.pb.length c3, .slice a4 n.bufs.length c4, .slice a5 n.owners.length c5, .slice a6 n.turns.length c6, .slice (some ⟨b, off, none⟩) n.srcs.length c7, .slice a8 n.arrs.length c8, .int .i64 n.time] 43)))
        repeat (first | go_big_quiet_step (fail) | quiet_step (fail))
        refine wpQuiet_nil ?_
        intro wq hbq
        clear hqc hqf
        obtain ⟨hcq, hfq, hzq⟩ := bcell hbq
        try simp only [szs] at hzq
        go_wp2
        go_ret
        exact ⟨ret_bool (netOk_no4 k hlt (srcOk_1 g1)).symm, bel⟩
       have g1' : ¬ (60 : Int) < ((rl n.srcs k).length : Int) := by omega
       cases h3 : areFl n.mesh.g (rl n.srcs k)
       ·have H3 := Lib.hid h3
        go_wp2_with fail
        refine wp_region_far ((w.alloc (.cells #[.int .i64 n.mesh.g.w, .int .i64 n.mesh.g.h, .slice a1 n.mesh.br.length c1, .slice a2 n.pa.length c2, .slice a3 n.pb.length c3, .slice a4 n.bufs.length c4, .slice a5 n.owners.length c5, .slice a6 n.turns.length c6, .slice (some ⟨b, off, none⟩) n.srcs.length c7, .slice a8 n.arrs.length c8, .int .i64 n.time] 43))) (by kernel_rfl) (by kernel_rfl) bel ?_
        have hqc := far_cell ((w.alloc (.cells #[.int .i64 n.mesh.g.w, .int .i64 n.mesh.g.h, .slice a1 n.mesh.br.length c1, .slice a2 n.pa.length c2, .slice a3 n.pb.length c3, .slice a4 n.bufs.length c4, .slice a5 n.owners.length c5, .slice a6 n.turns.length c6, .slice (some ⟨b, off, none⟩) n.srcs.length c7, .slice a8 n.arrs.length c8, .int .i64 n.time] 43)))
        have hqf := far_frozen ((w.alloc (.cells #[.int .i64 n.mesh.g.w, .int .i64 n.mesh.g.h, .slice a1 n.mesh.br.length c1, .slice a2 n.pa.length c2, .slice a3 n.pb.length c3, .slice a4 n.bufs.length c4, .slice a5 n.owners.length c5, .slice a6 n.turns.length c6, .slice (some ⟨b, off, none⟩) n.srcs.length c7, .slice a8 n.arrs.length c8, .int .i64 n.time] 43)))
        repeat (first | go_big_quiet_step (first | (go_at_call 77; exact far_call (Calls.says (spec_l15Flits n.mesh.g (rl n.srcs k) Ai ci _ (by exact Kd.C_below (by exact Kd.C_below hCi bel) (Far.h _)) hki) (congrArg Value.bool H3.out)))) | quiet_step (first | (go_at_call 77; exact far_call (Calls.says (spec_l15Flits n.mesh.g (rl n.srcs k) Ai ci _ (by exact Kd.C_below (by exact Kd.C_below hCi bel) (Far.h _)) hki) (congrArg Value.bool H3.out)))))
        refine wpQuiet_nil ?_
        intro wq hbq
        clear hqc hqf
        obtain ⟨hcq, hfq, hzq⟩ := bcell hbq
        try simp only [szs] at hzq
        go_wp2
        go_ret
        exact ⟨ret_bool (netOk_no4 k hlt (srcOk_2 H3.out)).symm, bel⟩
       ·have H3 := Lib.hid h3
        go_wp2_with fail
        refine wp_region_far ((w.alloc (.cells #[.int .i64 n.mesh.g.w, .int .i64 n.mesh.g.h, .slice a1 n.mesh.br.length c1, .slice a2 n.pa.length c2, .slice a3 n.pb.length c3, .slice a4 n.bufs.length c4, .slice a5 n.owners.length c5, .slice a6 n.turns.length c6, .slice (some ⟨b, off, none⟩) n.srcs.length c7, .slice a8 n.arrs.length c8, .int .i64 n.time] 43))) (by kernel_rfl) (by kernel_rfl) bel ?_
        have hqc := far_cell ((w.alloc (.cells #[.int .i64 n.mesh.g.w, .int .i64 n.mesh.g.h, .slice a1 n.mesh.br.length c1, .slice a2 n.pa.length c2, .slice a3 n.pb.length c3, .slice a4 n.bufs.length c4, .slice a5 n.owners.length c5, .slice a6 n.turns.length c6, .slice (some ⟨b, off, none⟩) n.srcs.length c7, .slice a8 n.arrs.length c8, .int .i64 n.time] 43)))
        have hqf := far_frozen ((w.alloc (.cells #[.int .i64 n.mesh.g.w, .int .i64 n.mesh.g.h, .slice a1 n.mesh.br.length c1, .slice a2 n.pa.length c2, .slice a3 n.pb.length c3, .slice a4 n.bufs.length c4, .slice a5 n.owners.length c5, .slice a6 n.turns.length c6, .slice (some ⟨b, off, none⟩) n.srcs.length c7, .slice a8 n.arrs.length c8, .int .i64 n.time] 43)))
        repeat (first | go_big_quiet_step (first | (go_at_call 77; exact far_call (Calls.says (spec_l15Flits n.mesh.g (rl n.srcs k) Ai ci _ (by exact Kd.C_below (by exact Kd.C_below hCi bel) (Far.h _)) hki) (congrArg Value.bool H3.out)))) | quiet_step (first | (go_at_call 77; exact far_call (Calls.says (spec_l15Flits n.mesh.g (rl n.srcs k) Ai ci _ (by exact Kd.C_below (by exact Kd.C_below hCi bel) (Far.h _)) hki) (congrArg Value.bool H3.out)))))
        refine wpQuiet_nil ?_
        intro wq hbq
        clear hqc hqf
        obtain ⟨hcq, hfq, hzq⟩ := bcell hbq
        try simp only [szs] at hzq
        go_wp2
        go_roundw
        case rel => exact ⟨k + 1, by go_num, by omega, Lib.hid (upto HA.out (srcOk_3 g1 H3.out)), bel⟩
        case measure => simp [intOf]; omega
      ·have i0 : ¬ (k : Int) < nodeCount n.mesh.g := by omega
       have HE := Lib.hid (netOk_eq HC.out HSH.out HBU.out (fun j hj => HA.out j (by omega)))
       go_wp2
       go_ret
       exact ⟨ret_bool (by rw [HE.out, allI_true HOW.out, allI_true HTU.out, HT.out]; rfl), bel⟩
end Go.Proofs.YteeebfeljjghhaaGreat
/- Requests: the reference's side; for all networks. -/
set_option linter.unusedVariables false
set_option linter.unusedSimpArgs false
namespace Go.Proofs.YteeebfeljjghhaaGreat
open Go.RowKit Go.Proofs.YteeebfeljjghhaaGreatW.PrintWords
open NoC

end Go.Proofs.YteeebfeljjghhaaGreat
/- The first of some inputs from a turn on; what slices.DeleteFunc keeps: the program's helpers of GrantsAt. -/
set_option linter.unusedVariables false
set_option linter.unusedSimpArgs false
namespace Go.Proofs.YteeebfeljjghhaaGreat
open Go.RowKit Go.Proofs.YteeebfeljjghhaaGreatW.PrintWords
open NoC

def Blk (W : World) (b : Nat) (t : TypeId) (cs : Array Value) : Prop := W.heap[b]? = some (.cells cs t (0, 0))
theorem Blk.lt {W : World} {b : Nat} {t : TypeId} {cs : Array Value} (h : Blk W b t cs) : b < W.heap.size := (Array.getElem?_eq_some_iff.1 h).1
theorem Blk.cell {W : World} {b : Nat} {t : TypeId} {cs : Array Value} (h : Blk W b t cs) (o : Nat) : W.cell? ⟨b, o, none⟩ = cs[o]? := by
  unfold World.cell?
  rw [show W.heap[b]? = _ from h]
  rfl
theorem Blk.frozen {W : World} {b : Nat} {t : TypeId} {cs : Array Value} (h : Blk W b t cs) (o : Nat) : W.frozen? ⟨b, o, none⟩ = false := by
  unfold World.frozen?
  rw [show W.heap[b]? = _ from h]
  simp
theorem Blk.new (W : World) (b : Nat) (t : TypeId) (cs : Array Value) (hb : b = W.heap.size) : Blk (W.alloc (.cells cs t)) b t cs := by
  subst hb
  exact (show (W.heap.push _)[W.heap.size]? = _ from Array.getElem?_push_size)
theorem Blk.below {W W1 : World} {b : Nat} {t : TypeId} {cs : Array Value} (h : Blk W b t cs) (hb : Below W.heap.size W W1) : Blk W1 b t cs := (hb.block b h.lt).trans h
theorem Blk.grown {W W1 : World} {b : Nat} {t : TypeId} {cs : Array Value} {row : Option Nat} (h : Blk W b t cs) (hg : W.grownBy W1 row) (hne : some b ≠ row) : Blk W1 b t cs := (hg.block b h.lt hne).trans h
theorem Blk.set {W : World} {b : Nat} {t : TypeId} {cs : Array Value} (h : Blk W b t cs) (i : Nat) (v : Value) : Blk (W.setCell ⟨b, i, none⟩ v) b t (cs.setIfInBounds i v) := by
  show (W.heap.modify b _)[b]? = _
  have hlt := h.lt
  have h2 : W.heap[b]? = some (.cells cs t (0, 0)) := h
  rw [Array.getElem?_eq_getElem hlt] at h2
  injection h2 with h2
  rw [Array.getElem?_eq_getElem (by rw [Array.size_modify]; exact hlt), Array.getElem_modify_self, h2]
  rfl
def uCells (us : List Bool) : Array Value := (us.map Value.bool).toArray
theorem uCells_get {us : List Bool} {o : Nat} (h : o < us.length) : (uCells us)[o]? = some (.bool (us.getD o false)) := by
  simp [uCells, h, List.getD_eq_getElem?_getD]
def UB (t : TypeId) (w : World) (gm : Nat) (us : List Bool) : Prop := us.length = 5 ∧ Blk w gm t (uCells us)
theorem UB.cell {t : TypeId} {w : World} {gm : Nat} {us : List Bool} (h : UB t w gm us) {x : Int} (h0 : 0 ≤ x) (h9 : x ≤ 9) : w.cell? ⟨gm, (x / 2).toNat, none⟩ = some (.bool (usedAt us x)) := by
  rw [h.2.cell, uCells_get (by have := h.1; omega)]
  rfl
theorem UB.below {t : TypeId} {w w1 : World} {gm : Nat} {us : List Bool} (h : UB t w gm us) (hb : Below w.heap.size w w1) : UB t w1 gm us := ⟨h.1, h.2.below hb⟩
theorem UB.grown {t : TypeId} {w w1 : World} {gm : Nat} {us : List Bool} {row : Option Nat} (h : UB t w gm us) (hg : w.grownBy w1 row) (hne : some gm ≠ row) : UB t w1 gm us := ⟨h.1, h.2.grown hg hne⟩

end Go.Proofs.YteeebfeljjghhaaGreat
/- Grants and moves of a valid network: the program's side. -/
set_option linter.unusedVariables false
set_option linter.unusedSimpArgs false
namespace Go.Proofs.YteeebfeljjghhaaGreat
open Go.RowKit Go.Proofs.YteeebfeljjghhaaGreatW.PrintWords
open NoC

def gCells (x : Grant) : List Value := [.int .i64 x.node, .int .i64 x.port, .int .i64 x.input]
def kG : Kd Grant := Kd.flat 3 gCells (fun _ => rfl) (fun x u hu => by
  simp only [gCells, List.mem_cons, List.not_mem_nil, or_false] at hu
  rcases hu with rfl | rfl | rfl <;> rfl)
def GotG (w w' : World) (xs : List Grant) (e : Ending) : Prop := ∃ v, e = .returned v ∧ kG.R 108 w' w.heap.size (fun _ => True) v xs
theorem GotG.read {w w' : World} {xs : List Grant} {e : Ending} (h : GotG w w' xs e) : ∃ A c, e = .returned (.slice A xs.length c) ∧ xs.length ≤ c ∧ kG.C w' A xs.length xs := by
  obtain ⟨v, rfl, hR⟩ := h
  obtain ⟨A, c, rfl, h1, h2⟩ := Kd.R_reads hR
  exact ⟨A, c, rfl, h1, h2⟩
theorem GotG.nil (w w' : World) : GotG w w' [] (.returned (.slice none 0 0)) := ⟨_, rfl, Kd.R_nil _ _ _ _ _⟩
section
variable {ops : Array Oper} {rest : List Oper} {o : Oper} {a : Act} {Q : Exit → Act → World → Prop}
end
end Go.Proofs.YteeebfeljjghhaaGreat
/- The state of a step's walk: the network in its box, its rows, and the step's own rows; what each store and append leaves. -/
set_option linter.unusedVariables false
set_option linter.unusedSimpArgs false
namespace Go.Proofs.YteeebfeljjghhaaGreat
open Go.RowKit Go.Proofs.YteeebfeljjghhaaGreatW.PrintWords
open NoC

structure SV where
  q : NA
  v4 : List Value
  v7 : List Value
  v8 : List Value
  vg : Value
  vt : Value
  ve : Value
  vm : Value
  gs : List Grant
  ts : List Int
  es : List Int
  ms : List Flit
def allV (s : SV) : List Value := s.v4 ++ (s.v7 ++ s.v8)
def allR (x : Net) : List (List Flit) := x.bufs ++ (x.srcs ++ x.arrs)
structure ST (w0 : World) (lo bx : Nat) (n0 : Net) (s : SV) (x : Net) (w : World) : Prop where
  nx : NX w lo x s.q s.v4 s.v7 s.v8
  bt : BT w bx n0 s.q
  g : kG.R 108 w w0.heap.size (fun _ => True) s.vg s.gs
  t : Kd.R (Kd.int .i64) 3 w w0.heap.size (fun _ => True) s.vt s.ts
  e : Kd.R (Kd.int .i64) 3 w w0.heap.size (fun _ => True) s.ve s.es
  m : kF.R 103 w w0.heap.size (fun _ => True) s.vm s.ms
  ma : ∀ i : Nat, i < (allR x).length → Apart (vr (allV s) i) s.vm
  blw : Below lo w0 w
  low : lo ≤ w0.heap.size
  box : lo ≤ bx ∧ bx < w0.heap.size
  top : ∀ g, (s.q.a4 = some ⟨g, 0, none⟩ ∨ s.q.a5 = some ⟨g, 0, none⟩ ∨ s.q.a6 = some ⟨g, 0, none⟩ ∨ s.q.a7 = some ⟨g, 0, none⟩ ∨ s.q.a8 = some ⟨g, 0, none⟩) → lo ≤ g ∧ g < w0.heap.size
section
variable {w0 w w1 : World} {lo bx : Nat} {n0 : Net} {s : SV} {x : Net}
theorem ST.size (h : ST w0 lo bx n0 s x w) : w0.heap.size ≤ w.heap.size := h.blw.size
theorem ST.below (h : ST w0 lo bx n0 s x w) (hb : Below w.heap.size w w1) : ST w0 lo bx n0 s x w1 :=
  ⟨h.nx.below hb, h.bt.below hb, Kd.R_below h.g hb, Kd.R_below h.t hb, Kd.R_below h.e hb, Kd.R_below h.m hb, h.ma, below_then h.blw (Nat.le_trans h.low h.size) hb, h.low, h.box, h.top⟩
theorem Below.cut {B C : Nat} {w w1 : World} (h : Below C w w1) (hB : B ≤ C) : Below B w w1 := ⟨h.os, h.tape, h.output, h.size, fun i hi => h.block i (by omega)⟩
theorem Below.grownRow {B : Nat} {w w1 w2 : World} {v : Value} (h : Below B w w1) (hg : w1.grownBy w2 v.ownBlock) (hB : B ≤ w1.heap.size) (hv : ∀ k, v.ownBlock = some k → B ≤ k) : Below B w w2 := h.grown hg hB hv
theorem below_setc {B : Nat} {w w1 : World} (h : Below B w w1) {g : Nat} (hg : B ≤ g) (o : Nat) (u : Value) : Below B w (w1.setCell ⟨g, o, none⟩ u) := h.setCell hg _
theorem RI_grownF {w w1 : World} {e1 b1 b2 : Nat} {α : Type} {d : Kd α} {v u : Value} {xs : List α} {ys : List Flit} (h : d.R e1 w b1 (fun _ => True) v xs) (hu : kF.R 103 w b2 (fun _ => True) u ys) (hne : e1 ≠ 103) (hE : d.E = []) (hg : w.grownBy w1 u.ownBlock) : d.R e1 w1 b1 (fun _ => True) v xs := by
  obtain ⟨i2, hi2⟩ := Kd.R_own hu
  have hb := Kd.R_bound h
  refine Kd.R_mono (Kd.R_move hb (fun k hk => ?_)) (fun _ _ => trivial)
  obtain ⟨_, h1, h2, q, hq, cells, hc⟩ := hk
  rw [hE] at hq
  have eq : q = e1 := by simpa using hq
  subst eq
  refine hg.block k h2 (fun e => ?_)
  obtain ⟨cells2, hc2⟩ := own_typed hi2 k e.symm
  rw [hc] at hc2
  have := (Obj.cells.inj (Option.some.inj hc2)).2.1
  exact hne this
theorem ST.grownF (h : ST w0 lo bx n0 s x w) {k : Nat} (hk : k < (allR x).length) (hg : w.grownBy w1 (vr (allV s) k).ownBlock) :
    BT w1 bx n0 s.q ∧ kG.R 108 w1 w0.heap.size (fun _ => True) s.vg s.gs ∧ Kd.R (Kd.int .i64) 3 w1 w0.heap.size (fun _ => True) s.vt s.ts ∧ Kd.R (Kd.int .i64) 3 w1 w0.heap.size (fun _ => True) s.ve s.es ∧ kF.R 103 w1 w0.heap.size (fun _ => True) s.vm s.ms ∧ Below lo w0 w1 := by
  have hr := h.nx.rows.row k hk
  exact ⟨h.bt.grown hg hr, RI_grownF h.g hr (by decide) rfl hg, RI_grownF h.t hr (by decide) rfl hg, RI_grownF h.e hr (by decide) rfl hg, R_grownF h.m hg (apart_comm (h.ma k hk)), Below.grownRow h.blw hg (Nat.le_trans h.low h.size) (fun j hj => Kd.R_base hr j hj)⟩
theorem G_off {α : Type} {d : Kd α} {e base : Nat} {w : World} {v : Value} {xs : List α} {g : Nat} (h : d.R e w base (fun _ => True) v xs) (hg : g < base) (j : Nat) (u : Value) : d.R e (w.setCell ⟨g, j, none⟩ u) base (fun _ => True) v xs := R_off h hg j u
theorem apart_new {w1 : World} {e base : Nat} {u v vm : Value} {xs : List Flit} (ha : Apart v vm) (hat : Anew w u v) (hm : kF.R 103 w base (fun _ => True) vm xs) : Apart u vm := by
  rcases hat with h | h | ⟨b, h, hb⟩
  · exact .inl h
  · unfold Apart at ha ⊢
    rwa [h]
  · right
    rw [h]
    intro e
    have := Kd.R_lt hm b e.symm
    omega
theorem ma_set {s : SV} {L k : Nat} {vm u : Value} {vs : List Value} (hl : vs.length = L) (hk : k < L) (h : ∀ i : Nat, i < L → Apart (vr vs i) vm) (hu : Apart u vm) : ∀ i : Nat, i < L → Apart (vr (vs.set k u) i) vm := by
  intro i hi
  rw [vr_set (by omega)]
  split
  · exact hu
  · exact h i hi
theorem ST.setSrc {g k : Nat} {u : Value} {y : List Flit} (h : ST w0 lo bx n0 s x w) (ea : s.q.a7 = some ⟨g, 0, none⟩) (hk : k < x.srcs.length) (hg : w.grownBy w1 (vr s.v7 k).ownBlock) (hu : kF.R 103 w1 lo (fun _ => True) u y) (hat : Anew w u (vr s.v7 k)) :
    ST w0 lo bx n0 { s with v7 := s.v7.set k u } { x with srcs := x.srcs.set k y } (w1.setCell ⟨g, k, none⟩ u) := by
  have e1 : vr (allV s) (x.bufs.length + k) = vr s.v7 k := by unfold allV; rw [← h.nx.l4, vr_right, vr_left (by rw [h.nx.l7]; exact hk)]
  have hk2 : x.bufs.length + k < (allR x).length := by simp [allR]; omega
  obtain ⟨b, p1, p2, p3, p4, p5⟩ := h.grownF hk2 (by rw [e1]; exact hg)
  obtain ⟨g1, g2⟩ := h.top g (.inr (.inr (.inr (.inl ea))))
  have hbl : BlkT w1 g 100 := by
    obtain ⟨_, _, _, _, _, _, o7, _⟩ := h.nx.kept (k := x.bufs.length + k) hk2 (by show w.grownBy w1 (vr (allV s) (x.bufs.length + k)).ownBlock; rw [e1]; exact hg)
    exact own_typed o7 g (by rw [ea]; rfl)
  refine ⟨h.nx.setSrc ea k hk hg hu hat, b.far hbl (by decide) _ _, G_off p1 g2 _ _, G_off p2 g2 _ _, G_off p3 g2 _ _, G_off p4 g2 _ _, ?_, below_setc p5 g1 _ _, h.low, h.box, h.top⟩
  have e2 : allV { s with v7 := s.v7.set k u } = (allV s).set (x.bufs.length + k) u := by
    unfold allV
    rw [← h.nx.l4]
    exact (set_mid s.v4 s.v7 s.v8 k u (by rw [h.nx.l7]; exact hk)).symm
  have e3 : (allR { x with srcs := x.srcs.set k y }).length = (allR x).length := by simp [allR]
  rw [e2, e3]
  exact ma_set (s := s) (by unfold allV allR; simp [h.nx.l4, h.nx.l7, h.nx.l8]) hk2 h.ma (apart_new (w1 := w1) (e := 0) (by rw [← e1]; exact h.ma _ hk2) hat h.m)
end
end Go.Proofs.YteeebfeljjghhaaGreat
