/- Lemmas for laws of this seat, for all inputs: NetOkI ReqI ReqJ CrI OB CrJ. -/
import Derived.Test.YtmkbmddgkdoaiaaGreatK5
import Derived.Test.YtmkbmddgkdoaiaaGreatK1
import Derived.IntWalk
import Derived.Test.YtmkbmddgkdoaiaaGreatK4
set_option linter.unusedVariables false
set_option linter.unusedSimpArgs false
namespace Go.Proofs.YtmkbmddgkdoaiaaGreat
open Go.RowKit Go.Proofs.YtmkbmddgkdoaiaaGreatW.PrintWords
open NoC
theorem bufOk_1 {g : Grid} {i : Nat} {l : List Flit} (h : 3 < l.length) : bufOk g i l = false := by
  simp [bufOk]; omega
theorem bufOk_2 {g : Grid} {i : Nat} {l : List Flit} (h : ¬ (clsOnly l ((i % 2 : Nat) : Int)).length = l.length) : bufOk g i l = false := by
  have h2 := clsOnly_len l ((i % 2 : Nat) : Int)
  rw [beq_eq_false_iff_ne.2 h] at h2
  simp only [bufOk, ← h2, Bool.and_false, Bool.false_and]
theorem bufOk_3 {g : Grid} {i : Nat} {l : List Flit} (h : areFl g l = false) : bufOk g i l = false := by simp [bufOk, h]
theorem bufOk_4 {g : Grid} {i : Nat} {l : List Flit} (h1 : ¬ 3 < l.length) (h2 : (clsOnly l ((i % 2 : Nat) : Int)).length = l.length) (h3 : areFl g l = true) : bufOk g i l = true := by
  have h4 := clsOnly_len l ((i % 2 : Nat) : Int)
  rw [beq_iff_eq.2 h2] at h4
  simp only [bufOk, ← h4, h3, Bool.and_true, decide_eq_true_eq]
  omega
theorem srcOk_1 {g : Grid} {l : List Flit} (h : 60 < l.length) : srcOk g l = false := by
  simp [srcOk]; omega
theorem srcOk_2 {g : Grid} {l : List Flit} (h : areFl g l = false) : srcOk g l = false := by simp [srcOk, h]
theorem srcOk_3 {g : Grid} {l : List Flit} (h1 : ¬ 60 < l.length) (h : areFl g l = true) : srcOk g l = true := by
  simp only [srcOk, h, Bool.and_true, decide_eq_true_eq]
  omega
theorem mod2 (k : Nat) : ((k : Int) % 2) = ((k % 2 : Nat) : Int) := by omega
theorem netOk_eq {n : Net} (hc : classesOk n.mesh n.pa n.pb = true) (hs : shapeOk n = true) (hb : ∀ j : Nat, j < n.bufs.length → bufOk n.mesh.g j (rl n.bufs j) = true) (hr : ∀ j : Nat, j < n.srcs.length → srcOk n.mesh.g (rl n.srcs j) = true) :
    netOk n = (allI n.owners.length (fun i => inside (ri n.owners i) (-1) 4) && allI n.turns.length (fun i => inside (ri n.turns i) 0 9) && inside n.time 0 1000000) := by
  simp only [netOk, hc, hs, allI_true hb, allI_true hr, Bool.true_and]
theorem shape_mk {n : Net} (s1 : (n.bufs.length : Int) = 10 * nodeCount n.mesh.g) (s2 : (n.owners.length : Int) = 10 * nodeCount n.mesh.g) (s3 : (n.turns.length : Int) = 5 * nodeCount n.mesh.g) (s4 : (n.srcs.length : Int) = nodeCount n.mesh.g) (s5 : (n.arrs.length : Int) = nodeCount n.mesh.g) : shapeOk n = true := by
  simp only [shapeOk, s1, s2, s3, s4, s5, decide_true, Bool.and_true]
theorem netOk_no1 {n : Net} (h : classesOk n.mesh n.pa n.pb = false) : netOk n = false := by simp [netOk, h]
theorem netOk_no2 {n : Net} (h : shapeOk n = false) : netOk n = false := by simp [netOk, h]
theorem netOk_no3 {n : Net} (k : Nat) (hk : k < n.bufs.length) (h : bufOk n.mesh.g k (rl n.bufs k) = false) : netOk n = false := by simp [netOk, allI_false (p := fun (i : Nat) => bufOk n.mesh.g i (rl n.bufs i)) k hk h]
theorem netOk_no4 {n : Net} (k : Nat) (hk : k < n.srcs.length) (h : srcOk n.mesh.g (rl n.srcs k) = false) : netOk n = false := by simp [netOk, allI_false (p := fun (i : Nat) => srcOk n.mesh.g (rl n.srcs i)) k hk h]
theorem shape_no1 {n : Net} (h : ¬ (n.bufs.length : Int) = 10 * nodeCount n.mesh.g) : shapeOk n = false := by simp [shapeOk, h]
theorem shape_no2 {n : Net} (h : ¬ (n.owners.length : Int) = 10 * nodeCount n.mesh.g) : shapeOk n = false := by simp [shapeOk, h]
theorem shape_no3 {n : Net} (h : ¬ (n.turns.length : Int) = 5 * nodeCount n.mesh.g) : shapeOk n = false := by simp [shapeOk, h]
theorem shape_no4 {n : Net} (h : ¬ (n.srcs.length : Int) = nodeCount n.mesh.g) : shapeOk n = false := by simp [shapeOk, h]
theorem shape_no5 {n : Net} (h : ¬ (n.arrs.length : Int) = nodeCount n.mesh.g) : shapeOk n = false := by simp [shapeOk, h]

set_option maxHeartbeats 8000000 in
set_option maxRecDepth 100000 in
theorem impl_NetOk (n : Net) (q : NA) (w : World) (hr : NetR 121 w n q) : Calls Tryz.prog 46 #[.agg (netCells n q)] w fun e w' => e = .returned (.bool (netOk n)) ∧ Below w.heap.size w w' := by
 obtain ⟨a1, a2, a3, a4, a5, a6, a7, a8, c1, c2, c3, c4, c5, c6, c7, c8⟩ := q; obtain ⟨Rbr, Rpa, Rpb, Rbu, Row, Rtu, Rso, Rar, L1, L2, L3, L4, L5, L6, L7, L8, L9, L10, L11⟩ := hr; have M9 := Lib.hid L9; have M10 := Lib.hid L10; have M11 := Lib.hid L11; clear L9 L10 L11; dsimp only [netCells] at *
 obtain ⟨n0, n1⟩ := count_le n.mesh.g
 cases hc : classesOk n.mesh n.pa n.pb
 ·have HC := Lib.hid hc
  go_enter Tryz.func46, Tryz.ntmps46
  go_wp2_with (first | (go_at_call 84; refine (impl_NodeCount n.mesh.g _).mono ?_; rintro e w1 ⟨rfl, hb1⟩; obtain ⟨hc1, hf1, hz1⟩ := bcell hb1; (try simp only [szs] at hz1); have hb2 := far2; obtain ⟨hc2, hf2, hz2⟩ := bcell hb2; (try simp only [szs] at hz2); try (first | obtain ⟨hy1, hy2, hy3, hy4⟩ := lts4 hz2 | obtain ⟨hy1, hy2, hy3⟩ := lts3 hz2 | obtain ⟨hy1, hy2⟩ := lts2 hz2 | have hy1 := lts1 hz2); have hb9 := hb1) | (go_at_call 85; refine (impl_ClassesOk n.mesh n.pa n.pb a1 a2 a3 _ _ _ _ (by exact Kd.C_below Rbr bel) L1 (by exact Kd.C_below Rpa bel) L2 (by exact Kd.C_below Rpb bel) L3).mono ?_; rintro e w1 ⟨rfl, hb1⟩; obtain ⟨hc1, hf1, hz1⟩ := bcell hb1; (try simp only [szs] at hz1); have hb2 := far2; obtain ⟨hc2, hf2, hz2⟩ := bcell hb2; (try simp only [szs] at hz2); try (first | obtain ⟨hy1, hy2, hy3, hy4⟩ := lts4 hz2 | obtain ⟨hy1, hy2, hy3⟩ := lts3 hz2 | obtain ⟨hy1, hy2⟩ := lts2 hz2 | have hy1 := lts1 hz2); have hb9 := hb1))
  go_ret
  exact ⟨ret_bool (netOk_no1 HC.out).symm, bel⟩
 by_cases s0 : (n.bufs.length : Int) = 10 * nodeCount n.mesh.g
 case neg =>
  have e0 : ((n.bufs.length : Int) != 10 * nodeCount n.mesh.g) = true := bne_iff_ne.2 s0
  have S0 := Lib.hid s0
  clear s0
  go_enter Tryz.func46, Tryz.ntmps46
  go_wp2_with (first | (go_at_call 84; refine (impl_NodeCount n.mesh.g _).mono ?_; rintro e w1 ⟨rfl, hb1⟩; obtain ⟨hc1, hf1, hz1⟩ := bcell hb1; (try simp only [szs] at hz1); have hb2 := far2; obtain ⟨hc2, hf2, hz2⟩ := bcell hb2; (try simp only [szs] at hz2); try (first | obtain ⟨hy1, hy2, hy3, hy4⟩ := lts4 hz2 | obtain ⟨hy1, hy2, hy3⟩ := lts3 hz2 | obtain ⟨hy1, hy2⟩ := lts2 hz2 | have hy1 := lts1 hz2); have hb9 := hb1) | (go_at_call 85; refine (impl_ClassesOk n.mesh n.pa n.pb a1 a2 a3 _ _ _ _ (by exact Kd.C_below Rbr bel) L1 (by exact Kd.C_below Rpa bel) L2 (by exact Kd.C_below Rpb bel) L3).mono ?_; rintro e w1 ⟨rfl, hb1⟩; obtain ⟨hc1, hf1, hz1⟩ := bcell hb1; (try simp only [szs] at hz1); have hb2 := far2; obtain ⟨hc2, hf2, hz2⟩ := bcell hb2; (try simp only [szs] at hz2); try (first | obtain ⟨hy1, hy2, hy3, hy4⟩ := lts4 hz2 | obtain ⟨hy1, hy2, hy3⟩ := lts3 hz2 | obtain ⟨hy1, hy2⟩ := lts2 hz2 | have hy1 := lts1 hz2); have hb9 := hb1))
  go_ret
  exact ⟨ret_bool (netOk_no2 (shape_no1 S0.out)).symm, bel⟩
 have e0 : ((n.bufs.length : Int) != 10 * nodeCount n.mesh.g) = false := bne_eq_false_iff_eq.2 s0
 have S0 := Lib.hid s0
 have u0 : (n.bufs.length : Int) ≤ 10 * nodeCount n.mesh.g := by omega
 have v0 : 10 * nodeCount n.mesh.g ≤ (n.bufs.length : Int) := by omega
 clear s0
 by_cases s1 : (n.owners.length : Int) = 10 * nodeCount n.mesh.g
 case neg =>
  have e1 : ((n.owners.length : Int) != 10 * nodeCount n.mesh.g) = true := bne_iff_ne.2 s1
  have S1 := Lib.hid s1
  clear s1
  go_enter Tryz.func46, Tryz.ntmps46
  go_wp2_with (first | (go_at_call 84; refine (impl_NodeCount n.mesh.g _).mono ?_; rintro e w1 ⟨rfl, hb1⟩; obtain ⟨hc1, hf1, hz1⟩ := bcell hb1; (try simp only [szs] at hz1); have hb2 := far2; obtain ⟨hc2, hf2, hz2⟩ := bcell hb2; (try simp only [szs] at hz2); try (first | obtain ⟨hy1, hy2, hy3, hy4⟩ := lts4 hz2 | obtain ⟨hy1, hy2, hy3⟩ := lts3 hz2 | obtain ⟨hy1, hy2⟩ := lts2 hz2 | have hy1 := lts1 hz2); have hb9 := hb1) | (go_at_call 85; refine (impl_ClassesOk n.mesh n.pa n.pb a1 a2 a3 _ _ _ _ (by exact Kd.C_below Rbr bel) L1 (by exact Kd.C_below Rpa bel) L2 (by exact Kd.C_below Rpb bel) L3).mono ?_; rintro e w1 ⟨rfl, hb1⟩; obtain ⟨hc1, hf1, hz1⟩ := bcell hb1; (try simp only [szs] at hz1); have hb2 := far2; obtain ⟨hc2, hf2, hz2⟩ := bcell hb2; (try simp only [szs] at hz2); try (first | obtain ⟨hy1, hy2, hy3, hy4⟩ := lts4 hz2 | obtain ⟨hy1, hy2, hy3⟩ := lts3 hz2 | obtain ⟨hy1, hy2⟩ := lts2 hz2 | have hy1 := lts1 hz2); have hb9 := hb1))
  go_ret
  exact ⟨ret_bool (netOk_no2 (shape_no2 S1.out)).symm, bel⟩
 have e1 : ((n.owners.length : Int) != 10 * nodeCount n.mesh.g) = false := bne_eq_false_iff_eq.2 s1
 have S1 := Lib.hid s1
 have u1 : (n.owners.length : Int) ≤ 10 * nodeCount n.mesh.g := by omega
 have v1 : 10 * nodeCount n.mesh.g ≤ (n.owners.length : Int) := by omega
 clear s1
 by_cases s2 : (n.turns.length : Int) = 5 * nodeCount n.mesh.g
 case neg =>
  have e2 : ((n.turns.length : Int) != 5 * nodeCount n.mesh.g) = true := bne_iff_ne.2 s2
  have S2 := Lib.hid s2
  clear s2
  go_enter Tryz.func46, Tryz.ntmps46
  go_wp2_with (first | (go_at_call 84; refine (impl_NodeCount n.mesh.g _).mono ?_; rintro e w1 ⟨rfl, hb1⟩; obtain ⟨hc1, hf1, hz1⟩ := bcell hb1; (try simp only [szs] at hz1); have hb2 := far2; obtain ⟨hc2, hf2, hz2⟩ := bcell hb2; (try simp only [szs] at hz2); try (first | obtain ⟨hy1, hy2, hy3, hy4⟩ := lts4 hz2 | obtain ⟨hy1, hy2, hy3⟩ := lts3 hz2 | obtain ⟨hy1, hy2⟩ := lts2 hz2 | have hy1 := lts1 hz2); have hb9 := hb1) | (go_at_call 85; refine (impl_ClassesOk n.mesh n.pa n.pb a1 a2 a3 _ _ _ _ (by exact Kd.C_below Rbr bel) L1 (by exact Kd.C_below Rpa bel) L2 (by exact Kd.C_below Rpb bel) L3).mono ?_; rintro e w1 ⟨rfl, hb1⟩; obtain ⟨hc1, hf1, hz1⟩ := bcell hb1; (try simp only [szs] at hz1); have hb2 := far2; obtain ⟨hc2, hf2, hz2⟩ := bcell hb2; (try simp only [szs] at hz2); try (first | obtain ⟨hy1, hy2, hy3, hy4⟩ := lts4 hz2 | obtain ⟨hy1, hy2, hy3⟩ := lts3 hz2 | obtain ⟨hy1, hy2⟩ := lts2 hz2 | have hy1 := lts1 hz2); have hb9 := hb1))
  go_ret
  exact ⟨ret_bool (netOk_no2 (shape_no3 S2.out)).symm, bel⟩
 have e2 : ((n.turns.length : Int) != 5 * nodeCount n.mesh.g) = false := bne_eq_false_iff_eq.2 s2
 have S2 := Lib.hid s2
 have u2 : (n.turns.length : Int) ≤ 5 * nodeCount n.mesh.g := by omega
 have v2 : 5 * nodeCount n.mesh.g ≤ (n.turns.length : Int) := by omega
 clear s2
 by_cases s3 : (n.srcs.length : Int) = nodeCount n.mesh.g
 case neg =>
  have e3 : ((n.srcs.length : Int) != nodeCount n.mesh.g) = true := bne_iff_ne.2 s3
  have S3 := Lib.hid s3
  clear s3
  go_enter Tryz.func46, Tryz.ntmps46
  go_wp2_with (first | (go_at_call 84; refine (impl_NodeCount n.mesh.g _).mono ?_; rintro e w1 ⟨rfl, hb1⟩; obtain ⟨hc1, hf1, hz1⟩ := bcell hb1; (try simp only [szs] at hz1); have hb2 := far2; obtain ⟨hc2, hf2, hz2⟩ := bcell hb2; (try simp only [szs] at hz2); try (first | obtain ⟨hy1, hy2, hy3, hy4⟩ := lts4 hz2 | obtain ⟨hy1, hy2, hy3⟩ := lts3 hz2 | obtain ⟨hy1, hy2⟩ := lts2 hz2 | have hy1 := lts1 hz2); have hb9 := hb1) | (go_at_call 85; refine (impl_ClassesOk n.mesh n.pa n.pb a1 a2 a3 _ _ _ _ (by exact Kd.C_below Rbr bel) L1 (by exact Kd.C_below Rpa bel) L2 (by exact Kd.C_below Rpb bel) L3).mono ?_; rintro e w1 ⟨rfl, hb1⟩; obtain ⟨hc1, hf1, hz1⟩ := bcell hb1; (try simp only [szs] at hz1); have hb2 := far2; obtain ⟨hc2, hf2, hz2⟩ := bcell hb2; (try simp only [szs] at hz2); try (first | obtain ⟨hy1, hy2, hy3, hy4⟩ := lts4 hz2 | obtain ⟨hy1, hy2, hy3⟩ := lts3 hz2 | obtain ⟨hy1, hy2⟩ := lts2 hz2 | have hy1 := lts1 hz2); have hb9 := hb1))
  go_ret
  exact ⟨ret_bool (netOk_no2 (shape_no4 S3.out)).symm, bel⟩
 have e3 : ((n.srcs.length : Int) != nodeCount n.mesh.g) = false := bne_eq_false_iff_eq.2 s3
 have S3 := Lib.hid s3
 have u3 : (n.srcs.length : Int) ≤ nodeCount n.mesh.g := by omega
 have v3 : nodeCount n.mesh.g ≤ (n.srcs.length : Int) := by omega
 clear s3
 by_cases s4 : (n.arrs.length : Int) = nodeCount n.mesh.g
 case neg =>
  have e4 : ((n.arrs.length : Int) != nodeCount n.mesh.g) = true := bne_iff_ne.2 s4
  have S4 := Lib.hid s4
  clear s4
  go_enter Tryz.func46, Tryz.ntmps46
  go_wp2_with (first | (go_at_call 84; refine (impl_NodeCount n.mesh.g _).mono ?_; rintro e w1 ⟨rfl, hb1⟩; obtain ⟨hc1, hf1, hz1⟩ := bcell hb1; (try simp only [szs] at hz1); have hb2 := far2; obtain ⟨hc2, hf2, hz2⟩ := bcell hb2; (try simp only [szs] at hz2); try (first | obtain ⟨hy1, hy2, hy3, hy4⟩ := lts4 hz2 | obtain ⟨hy1, hy2, hy3⟩ := lts3 hz2 | obtain ⟨hy1, hy2⟩ := lts2 hz2 | have hy1 := lts1 hz2); have hb9 := hb1) | (go_at_call 85; refine (impl_ClassesOk n.mesh n.pa n.pb a1 a2 a3 _ _ _ _ (by exact Kd.C_below Rbr bel) L1 (by exact Kd.C_below Rpa bel) L2 (by exact Kd.C_below Rpb bel) L3).mono ?_; rintro e w1 ⟨rfl, hb1⟩; obtain ⟨hc1, hf1, hz1⟩ := bcell hb1; (try simp only [szs] at hz1); have hb2 := far2; obtain ⟨hc2, hf2, hz2⟩ := bcell hb2; (try simp only [szs] at hz2); try (first | obtain ⟨hy1, hy2, hy3, hy4⟩ := lts4 hz2 | obtain ⟨hy1, hy2, hy3⟩ := lts3 hz2 | obtain ⟨hy1, hy2⟩ := lts2 hz2 | have hy1 := lts1 hz2); have hb9 := hb1))
  go_ret
  exact ⟨ret_bool (netOk_no2 (shape_no5 S4.out)).symm, bel⟩
 have e4 : ((n.arrs.length : Int) != nodeCount n.mesh.g) = false := bne_eq_false_iff_eq.2 s4
 have S4 := Lib.hid s4
 have u4 : (n.arrs.length : Int) ≤ nodeCount n.mesh.g := by omega
 have v4 : nodeCount n.mesh.g ≤ (n.arrs.length : Int) := by omega
 clear s4
 have HSH := Lib.hid (shape_mk S0.out S1.out S2.out S3.out S4.out)
 have HC := Lib.hid hc
 go_enter Tryz.func46, Tryz.ntmps46
 go_wp2_with (first | (go_at_call 84; refine (impl_NodeCount n.mesh.g _).mono ?_; rintro e w1 ⟨rfl, hb1⟩; obtain ⟨hc1, hf1, hz1⟩ := bcell hb1; (try simp only [szs] at hz1); have hb2 := far2; obtain ⟨hc2, hf2, hz2⟩ := bcell hb2; (try simp only [szs] at hz2); try (first | obtain ⟨hy1, hy2, hy3, hy4⟩ := lts4 hz2 | obtain ⟨hy1, hy2, hy3⟩ := lts3 hz2 | obtain ⟨hy1, hy2⟩ := lts2 hz2 | have hy1 := lts1 hz2); have hb9 := hb1) | (go_at_call 85; refine (impl_ClassesOk n.mesh n.pa n.pb a1 a2 a3 _ _ _ _ (by exact Kd.C_below Rbr bel) L1 (by exact Kd.C_below Rpa bel) L2 (by exact Kd.C_below Rpb bel) L3).mono ?_; rintro e w1 ⟨rfl, hb1⟩; obtain ⟨hc1, hf1, hz1⟩ := bcell hb1; (try simp only [szs] at hz1); have hb2 := far2; obtain ⟨hc2, hf2, hz2⟩ := bcell hb2; (try simp only [szs] at hz2); try (first | obtain ⟨hy1, hy2, hy3, hy4⟩ := lts4 hz2 | obtain ⟨hy1, hy2, hy3⟩ := lts3 hz2 | obtain ⟨hy1, hy2⟩ := lts2 hz2 | have hy1 := lts1 hz2); have hb9 := hb1))
 go_loopw [59] (fun i wr => ∃ k : Nat, i = .int .i64 k ∧ k ≤ n.bufs.length ∧ Hid (∀ j : Nat, j < k → bufOk n.mesh.g j (rl n.bufs j) = true) ∧ Below (w.alloc (.cells #[.int .i64 n.mesh.g.w, .int .i64 n.mesh.g.h, .slice a1 n.mesh.br.length c1, .slice a2 n.pa.length c2, .slice a3 n.pb.length c3, .slice a4 n.bufs.length c4, .slice a5 n.owners.length c5, .slice a6 n.turns.length c6, .slice a7 n.srcs.length c7, .slice a8 n.arrs.length c8, .int .i64 n.time] 44)).heap.size (w.alloc (.cells #[.int .i64 n.mesh.g.w, .int .i64 n.mesh.g.h, .slice a1 n.mesh.br.length c1, .slice a2 n.pa.length c2, .slice a3 n.pb.length c3, .slice a4 n.bufs.length c4, .slice a5 n.owners.length c5, .slice a6 n.turns.length c6, .slice a7 n.srcs.length c7, .slice a8 n.arrs.length c8, .int .i64 n.time] 44)) wr) (fun i _ => n.bufs.length - (intOf i).toNat)
 case atStart => exact ⟨0, rfl, Nat.zero_le _, Lib.hid fun j h => absurd h (Nat.not_lt_zero _), bel⟩
 case round =>
  obtain ⟨k, rfl, hk, HA, HB⟩ := hrel
  obtain ⟨hcr, hfr, hzr⟩ := bcell HB
  simp only [szs] at hzr
  have yy1 := lts1 hzr
  by_cases hlt : k < n.bufs.length
  ·obtain ⟨b, off, rfl, hb, Ai, ci, p0, hle, hCi⟩ := rdB_at Rbu k hlt
   obtain ⟨z1, z2, z3, z4, z5, z6⟩ := more hb
   have hki := M9.out _ (rl_mem hlt)
   have i0 : (k : Int) < (n.bufs.length : Int) := by omega
   by_cases g1 : 3 < (rl n.bufs k).length
   ·have g1' : (3 : Int) < ((rl n.bufs k).length : Int) := by omega
    go_wp2
    go_ret
    exact ⟨ret_bool (netOk_no3 k hlt (bufOk_1 g1)).symm, bel⟩
   have g1' : ¬ (3 : Int) < ((rl n.bufs k).length : Int) := by omega
   have hco := clsOnly_take_len (rl n.bufs k) ((k : Int) % 2) (rl n.bufs k).length
   rw [List.take_length] at hco
   by_cases g2 : (clsOnly (rl n.bufs k) ((k % 2 : Nat) : Int)).length = (rl n.bufs k).length
   case neg =>
    have G2 := Lib.hid g2
    rw [← mod2] at g2
    have f2 : (((clsOnly (rl n.bufs k) ((k : Int) % 2)).length : Int) != ((rl n.bufs k).length : Int)) = true := bne_iff_ne.2 (by omega)
    clear g2
    go_wp2_with (go_at_call 86; refine (impl_ClassOnly (rl n.bufs k) ((k : Int) % 2) Ai ci _ (by exact Kd.C_below hCi bel) hki).mono ?_; rintro e w1 ⟨hg1, hb1⟩; obtain ⟨A1, d1, rfl, hk1, hC1⟩ := hg1.read; obtain ⟨hc1, hf1, hz1⟩ := bcell hb1; (try simp only [szs] at hz1); have hb2 := far2; obtain ⟨hc2, hf2, hz2⟩ := bcell hb2; (try simp only [szs] at hz2); try (first | obtain ⟨hy1, hy2, hy3, hy4⟩ := lts4 hz2 | obtain ⟨hy1, hy2, hy3⟩ := lts3 hz2 | obtain ⟨hy1, hy2⟩ := lts2 hz2 | have hy1 := lts1 hz2); have hb9 := hb1)
    go_ret
    exact ⟨ret_bool (netOk_no3 k hlt (bufOk_2 G2.out)).symm, bel⟩
   have G2 := Lib.hid g2
   rw [← mod2] at g2
   have f2 : (((clsOnly (rl n.bufs k) ((k : Int) % 2)).length : Int) != ((rl n.bufs k).length : Int)) = false := bne_eq_false_iff_eq.2 (by omega)
   clear g2
   cases h3 : areFl n.mesh.g (rl n.bufs k)
   ·have H3 := Lib.hid h3
    go_wp2_with (first | (go_at_call 86; refine (impl_ClassOnly (rl n.bufs k) ((k : Int) % 2) Ai ci _ (by exact Kd.C_below hCi bel) hki).mono ?_; rintro e w1 ⟨hg1, hb1⟩; obtain ⟨A1, d1, rfl, hk1, hC1⟩ := hg1.read; obtain ⟨hc1, hf1, hz1⟩ := bcell hb1; (try simp only [szs] at hz1); have hb2 := far2; obtain ⟨hc2, hf2, hz2⟩ := bcell hb2; (try simp only [szs] at hz2); try (first | obtain ⟨hy1, hy2, hy3, hy4⟩ := lts4 hz2 | obtain ⟨hy1, hy2, hy3⟩ := lts3 hz2 | obtain ⟨hy1, hy2⟩ := lts2 hz2 | have hy1 := lts1 hz2); have hb9 := hb1) | (go_at_call 87; refine (impl_areFlits n.mesh.g (rl n.bufs k) Ai ci _ (by exact Kd.C_below hCi bel) hki).mono ?_; rintro e w1 ⟨rfl, hb1⟩; obtain ⟨hc1, hf1, hz1⟩ := bcell hb1; (try simp only [szs] at hz1); have hb2 := far2; obtain ⟨hc2, hf2, hz2⟩ := bcell hb2; (try simp only [szs] at hz2); try (first | obtain ⟨hy1, hy2, hy3, hy4⟩ := lts4 hz2 | obtain ⟨hy1, hy2, hy3⟩ := lts3 hz2 | obtain ⟨hy1, hy2⟩ := lts2 hz2 | have hy1 := lts1 hz2); have hb9 := hb1))
    go_ret
    exact ⟨ret_bool (netOk_no3 k hlt (bufOk_3 H3.out)).symm, bel⟩
   ·have H3 := Lib.hid h3
    go_wp2_with (first | (go_at_call 86; refine (impl_ClassOnly (rl n.bufs k) ((k : Int) % 2) Ai ci _ (by exact Kd.C_below hCi bel) hki).mono ?_; rintro e w1 ⟨hg1, hb1⟩; obtain ⟨A1, d1, rfl, hk1, hC1⟩ := hg1.read; obtain ⟨hc1, hf1, hz1⟩ := bcell hb1; (try simp only [szs] at hz1); have hb2 := far2; obtain ⟨hc2, hf2, hz2⟩ := bcell hb2; (try simp only [szs] at hz2); try (first | obtain ⟨hy1, hy2, hy3, hy4⟩ := lts4 hz2 | obtain ⟨hy1, hy2, hy3⟩ := lts3 hz2 | obtain ⟨hy1, hy2⟩ := lts2 hz2 | have hy1 := lts1 hz2); have hb9 := hb1) | (go_at_call 87; refine (impl_areFlits n.mesh.g (rl n.bufs k) Ai ci _ (by exact Kd.C_below hCi bel) hki).mono ?_; rintro e w1 ⟨rfl, hb1⟩; obtain ⟨hc1, hf1, hz1⟩ := bcell hb1; (try simp only [szs] at hz1); have hb2 := far2; obtain ⟨hc2, hf2, hz2⟩ := bcell hb2; (try simp only [szs] at hz2); try (first | obtain ⟨hy1, hy2, hy3, hy4⟩ := lts4 hz2 | obtain ⟨hy1, hy2, hy3⟩ := lts3 hz2 | obtain ⟨hy1, hy2⟩ := lts2 hz2 | have hy1 := lts1 hz2); have hb9 := hb1))
    go_roundw
    case rel => exact ⟨k + 1, by go_num, by omega, Lib.hid (upto HA.out (bufOk_4 g1 G2.out H3.out)), bel⟩
    case measure => simp [intOf]; omega
  ·have i0 : ¬ (k : Int) < (n.bufs.length : Int) := by omega
   have HBU : Hid (∀ j : Nat, j < n.bufs.length → bufOk n.mesh.g j (rl n.bufs j) = true) := Lib.hid fun j hj => HA.out j (by omega)
   go_wp2
   go_loopw [89] (fun i wr => ∃ k : Nat, i = .int .i64 k ∧ k ≤ n.srcs.length ∧ Hid (∀ j : Nat, j < k → srcOk n.mesh.g (rl n.srcs j) = true) ∧ Below (w.alloc (.cells #[.int .i64 n.mesh.g.w, .int .i64 n.mesh.g.h, .slice a1 n.mesh.br.length c1, .slice a2 n.pa.length c2, .slice a3 n.pb.length c3, .slice a4 n.bufs.length c4, .slice a5 n.owners.length c5, .slice a6 n.turns.length c6, .slice a7 n.srcs.length c7, .slice a8 n.arrs.length c8, .int .i64 n.time] 44)).heap.size (w.alloc (.cells #[.int .i64 n.mesh.g.w, .int .i64 n.mesh.g.h, .slice a1 n.mesh.br.length c1, .slice a2 n.pa.length c2, .slice a3 n.pb.length c3, .slice a4 n.bufs.length c4, .slice a5 n.owners.length c5, .slice a6 n.turns.length c6, .slice a7 n.srcs.length c7, .slice a8 n.arrs.length c8, .int .i64 n.time] 44)) wr) (fun i _ => n.srcs.length - (intOf i).toNat)
   case atStart => exact ⟨0, rfl, Nat.zero_le _, Lib.hid fun j h => absurd h (Nat.not_lt_zero _), bel⟩
   case round =>
    clear HA HB hcr hfr hzr yy1 hlt i0 hk
    obtain ⟨k, rfl, hk, HA, HB⟩ := hrel
    obtain ⟨hcr, hfr, hzr⟩ := bcell HB
    simp only [szs] at hzr
    have yy1 := lts1 hzr
    by_cases hlt : k < n.srcs.length
    ·obtain ⟨b, off, rfl, hb, Ai, ci, p0, hle, hCi⟩ := rdB_at Rso k hlt
     obtain ⟨z1, z2, z3, z4, z5, z6⟩ := more hb
     have hki := M10.out _ (rl_mem hlt)
     have i0 : (k : Int) < (n.srcs.length : Int) := by omega
     by_cases g1 : 60 < (rl n.srcs k).length
     ·have g1' : (60 : Int) < ((rl n.srcs k).length : Int) := by omega
      go_wp2
      go_ret
      exact ⟨ret_bool (netOk_no4 k hlt (srcOk_1 g1)).symm, bel⟩
     have g1' : ¬ (60 : Int) < ((rl n.srcs k).length : Int) := by omega
     cases h3 : areFl n.mesh.g (rl n.srcs k)
     ·have H3 := Lib.hid h3
      go_wp2_with (go_at_call 87; refine (impl_areFlits n.mesh.g (rl n.srcs k) Ai ci _ (by exact Kd.C_below hCi bel) hki).mono ?_; rintro e w1 ⟨rfl, hb1⟩; obtain ⟨hc1, hf1, hz1⟩ := bcell hb1; (try simp only [szs] at hz1); have hb2 := far2; obtain ⟨hc2, hf2, hz2⟩ := bcell hb2; (try simp only [szs] at hz2); try (first | obtain ⟨hy1, hy2, hy3, hy4⟩ := lts4 hz2 | obtain ⟨hy1, hy2, hy3⟩ := lts3 hz2 | obtain ⟨hy1, hy2⟩ := lts2 hz2 | have hy1 := lts1 hz2); have hb9 := hb1)
      go_ret
      exact ⟨ret_bool (netOk_no4 k hlt (srcOk_2 H3.out)).symm, bel⟩
     ·have H3 := Lib.hid h3
      go_wp2_with (go_at_call 87; refine (impl_areFlits n.mesh.g (rl n.srcs k) Ai ci _ (by exact Kd.C_below hCi bel) hki).mono ?_; rintro e w1 ⟨rfl, hb1⟩; obtain ⟨hc1, hf1, hz1⟩ := bcell hb1; (try simp only [szs] at hz1); have hb2 := far2; obtain ⟨hc2, hf2, hz2⟩ := bcell hb2; (try simp only [szs] at hz2); try (first | obtain ⟨hy1, hy2, hy3, hy4⟩ := lts4 hz2 | obtain ⟨hy1, hy2, hy3⟩ := lts3 hz2 | obtain ⟨hy1, hy2⟩ := lts2 hz2 | have hy1 := lts1 hz2); have hb9 := hb1)
      go_roundw
      case rel => exact ⟨k + 1, by go_num, by omega, Lib.hid (upto HA.out (srcOk_3 g1 H3.out)), bel⟩
      case measure => simp [intOf]; omega
    ·have i0 : ¬ (k : Int) < (n.srcs.length : Int) := by omega
     have HE := Lib.hid (netOk_eq HC.out HSH.out HBU.out (fun j hj => HA.out j (by omega)))
     cases t1 : allI n.owners.length (fun i => inside (ri n.owners i) (-1) 4)
     ·have T1 := Lib.hid t1
      go_wp2_with (go_at_call_of 88 n.owners; refine (impl_areInside n.owners (-1) 4 a5 c5 _ (by exact Kd.C_below Row bel) L5).mono ?_; rintro e w' ⟨rfl, rfl⟩)
      go_ret
      exact ⟨ret_bool (by rw [HE.out, T1.out]; rfl), bel⟩
     cases t2 : allI n.turns.length (fun i => inside (ri n.turns i) 0 9)
     ·have T1 := Lib.hid t1
      have T2 := Lib.hid t2
      go_wp2_with (first | (go_at_call_of 88 n.owners; refine (impl_areInside n.owners (-1) 4 a5 c5 _ (by exact Kd.C_below Row bel) L5).mono ?_; rintro e w' ⟨rfl, rfl⟩) | (go_at_call_of 88 n.turns; refine (impl_areInside n.turns 0 9 a6 c6 _ (by exact Kd.C_below Rtu bel) L6).mono ?_; rintro e w' ⟨rfl, rfl⟩))
      go_ret
      exact ⟨ret_bool (by rw [HE.out, T1.out, T2.out]; rfl), bel⟩
     ·have T1 := Lib.hid t1
      have T2 := Lib.hid t2
      go_wp2_with (first | (go_at_call_of 88 n.owners; refine (impl_areInside n.owners (-1) 4 a5 c5 _ (by exact Kd.C_below Row bel) L5).mono ?_; rintro e w' ⟨rfl, rfl⟩) | (go_at_call_of 88 n.turns; refine (impl_areInside n.turns 0 9 a6 c6 _ (by exact Kd.C_below Rtu bel) L6).mono ?_; rintro e w' ⟨rfl, rfl⟩) | (go_at_call 60; refine (impl_inside _ _ _ _).mono ?_; rintro e w' ⟨rfl, rfl⟩))
      go_ret
      exact ⟨ret_bool (by rw [HE.out, T1.out, T2.out]; rfl), bel⟩
theorem rdB_int {e : Nat} {w : World} {A : Option Addr} {l : List (List Flit)} (h : (kB e).C w A l.length l) (i : Int) (h0 : 0 ≤ i) (h1 : i < (l.length : Int)) :
    ∃ b off, A = some ⟨b, off, none⟩ ∧ b < w.heap.size ∧ ∃ Ai ci, w.cell? ⟨b, off + i.toNat, none⟩ = some (.slice Ai (rl l i).length ci) ∧ (rl l i).length ≤ ci ∧ kF.C w Ai (rl l i).length (rl l i) := by
  obtain ⟨b, off, e1, hb, Ai, ci, h2, h3, h4⟩ := rdB_at h i.toNat (by omega)
  rw [Int.toNat_of_nonneg h0] at h2 h3 h4
  exact ⟨b, off, e1, hb, Ai, ci, h2, h3, h4⟩
theorem rdI_int {w : World} {A : Option Addr} {l : List Int} (h : Kd.C (Kd.int .i64) w A l.length l) (i : Int) (h0 : 0 ≤ i) (h1 : i < (l.length : Int)) :
    ∃ b off, A = some ⟨b, off, none⟩ ∧ b < w.heap.size ∧ w.cell? ⟨b, off + i.toNat, none⟩ = some (.int .i64 (ri l i)) := by
  obtain ⟨b, off, e1, hb, h2⟩ := rdI_at h i.toNat (by omega)
  have h3 := h2 i.toNat (by omega)
  rw [Int.toNat_of_nonneg h0] at h3
  exact ⟨b, off, e1, hb, h3⟩
theorem rdI_all {w : World} {A : Option Addr} {l : List Int} (h : Kd.C (Kd.int .i64) w A l.length l) (h0 : 0 < l.length) :
    ∃ b off, A = some ⟨b, off, none⟩ ∧ b < w.heap.size ∧ ∀ i : Int, 0 ≤ i → i < (l.length : Int) → w.cell? ⟨b, off + i.toNat, none⟩ = some (.int .i64 (ri l i)) := by
  obtain ⟨b, off, e1, hb, h2⟩ := rdI_at h 0 h0
  refine ⟨b, off, e1, hb, fun i i0 i1 => ?_⟩
  have h3 := h2 i.toNat (by omega)
  rwa [Int.toNat_of_nonneg i0] at h3
theorem rdFl_0 {w : World} {A : Option Addr} {l : List Flit} (h : kF.C w A l.length l) (h0 : 0 < l.length) :
    ∃ b off, A = some ⟨b, off, none⟩ ∧ b < w.heap.size ∧ w.cell? ⟨b, off, none⟩ = some (.int .i64 (rf l 0).pk) ∧ w.cell? ⟨b, off + 1, none⟩ = some (.int .i64 (rf l 0).dst) ∧ w.cell? ⟨b, off + 2, none⟩ = some (.int .i64 (rf l 0).cls) ∧ w.cell? ⟨b, off + 3, none⟩ = some (.bool (rf l 0).head) ∧ w.cell? ⟨b, off + 4, none⟩ = some (.bool (rf l 0).tail) := by
  obtain ⟨b, off, e, hb, p0, p1, p2, p3, p4⟩ := rdFl_at h 0 h0
  simp only [Nat.zero_mul, Nat.add_zero] at p0 p1 p2 p3 p4
  exact ⟨b, off, e, hb, p0, p1, p2, p3, p4⟩
theorem impl_BufferAt (a p c : Int) (w : World) (h0 : 0 ≤ a) (h1 : a ≤ 15) (h2 : 0 ≤ p) (h3 : p ≤ 4) (h4 : 0 ≤ c) (h5 : c ≤ 1) :
    Calls Tryz.prog 108 #[.int .i64 a, .int .i64 p, .int .i64 c] w fun e w' => e = .returned (.int .i64 (10 * a + 2 * p + c)) ∧ w = w' := by
  have i1 : inside a 0 15 = true := inside_iff.2 ⟨h0, h1⟩
  have i2 : inside p 0 4 = true := inside_iff.2 ⟨h2, h3⟩
  have i3 : inside c 0 1 = true := inside_iff.2 ⟨h4, h5⟩
  go_enter Tryz.func108, Tryz.ntmps108
  go_wp2_with (first | (go_at_call 60; refine (impl_inside _ _ _ _).mono ?_; rintro e w' ⟨rfl, rfl⟩) | (go_at_call 56; refine (spec_l01In _ _ _ _).mono ?_; rintro e w' ⟨rfl, rfl⟩))
  go_ret
  exact ⟨ret_int (by omega), rfl⟩
set_option maxHeartbeats 4000000 in
set_option maxRecDepth 100000 in
theorem impl_wanted (n : Net) (q : NA) (bx : Nat) (a i : Int) (w : World) (hr : NetR 121 w n q) (hx : Box w bx (netCells n q)) (ha : At n a i) :
  Calls Tryz.prog 174 #[.pointer (some ⟨bx, 0, none⟩), .int .i64 a, .int .i64 i] w fun e w' => e = .returned (.int .i64 (wantedN n a i)) ∧ Below w.heap.size w w' := by
 obtain ⟨a1, a2, a3, a4, a5, a6, a7, a8, c1, c2, c3, c4, c5, c6, c7, c8⟩ := q; obtain ⟨Rbr, Rpa, Rpb, Rbu, Row, Rtu, Rso, Rar, L1, L2, L3, L4, L5, L6, L7, L8, L9, L10, L11⟩ := hr; have M9 := Lib.hid L9; have M10 := Lib.hid L10; have M11 := Lib.hid L11; clear L9 L10 L11; dsimp only [netCells] at *
 have xl := hx.lt; have x0 : w.cell? ⟨bx, 0, none⟩ = some (.int .i64 n.mesh.g.w) := hx.get 0; have x1 : w.cell? ⟨bx, 1, none⟩ = some (.int .i64 n.mesh.g.h) := hx.get 1; have x2 : w.cell? ⟨bx, 2, none⟩ = some (.slice a1 n.mesh.br.length c1) := hx.get 2; have x3 : w.cell? ⟨bx, 3, none⟩ = some (.slice a2 n.pa.length c2) := hx.get 3; have x4 : w.cell? ⟨bx, 4, none⟩ = some (.slice a3 n.pb.length c3) := hx.get 4; have x5 : w.cell? ⟨bx, 5, none⟩ = some (.slice a4 n.bufs.length c4) := hx.get 5; have x6 : w.cell? ⟨bx, 6, none⟩ = some (.slice a5 n.owners.length c5) := hx.get 6; have x7 : w.cell? ⟨bx, 7, none⟩ = some (.slice a6 n.turns.length c6) := hx.get 7; have x8 : w.cell? ⟨bx, 8, none⟩ = some (.slice a7 n.srcs.length c7) := hx.get 8; have x9 : w.cell? ⟨bx, 9, none⟩ = some (.slice a8 n.arrs.length c8) := hx.get 9; have x10 : w.cell? ⟨bx, 10, none⟩ = some (.int .i64 n.time) := hx.get 10; clear hx
 have HA := Lib.hid ha
 obtain ⟨a0, a15, j0, j1, j2, j3, j4, j5⟩ := ha.idx
 have i0 := ha.i0
 have i9 := ha.i9
 clear ha
 by_cases hl : (bufOf n a i).length = 0
 ·have HW := Lib.hid (wanted_1 hl)
  unfold bufOf at hl
  obtain ⟨b, off, rfl, hb, Ai, ci, p0, hle, hCi⟩ := rdB_int Rbu (10 * a + i) j0 j1
  obtain ⟨l, el⟩ : ∃ l, rl n.bufs (10 * a + i) = l := ⟨_, rfl⟩
  rw [el] at hl p0 hle hCi
  have hl' : ((l.length : Int) == 0) = true := by simp [hl]
  have HL := Lib.hid hl
  clear hl el
  go_enter Tryz.func174, Tryz.ntmps174
  go_wp2
  go_ret
  exact ⟨ret_int HW.out.symm, bel⟩
 have hl0 : 0 < (bufOf n a i).length := by omega
 obtain ⟨hn1, hn2⟩ := HA.out.buf0 hl0
 have HN1 := Lib.hid hn1
 have HN2 := Lib.hid hn2
 clear hn1 hn2 hl
 cases hh : (rf (bufOf n a i) 0).head
 ·have HW := Lib.hid (wanted_3 hl0 hh)
  unfold bufOf at hl0 hh
  obtain ⟨b, off, rfl, hb, Ai, ci, p0, hle, hCi⟩ := rdB_int Rbu (10 * a + i) j0 j1
  obtain ⟨b1, o1, rfl, hb1, q0, q1, q2, q3, q4⟩ := rdFl_0 hCi hl0
  obtain ⟨l, el⟩ : ∃ l, rl n.bufs (10 * a + i) = l := ⟨_, rfl⟩
  rw [el] at hl0 hh p0 hle q0 q1 q2 q3 q4
  have hl' : ((l.length : Int) == 0) = false := by simp; intro h; simp [h] at hl0
  have hl1 : (0 : Int) < (l.length : Int) := by omega
  rw [hh] at q3
  clear hCi el hh
  go_enter Tryz.func174, Tryz.ntmps174
  go_wp2
  go_loopw [8] (fun j wr => ∃ k : Nat, j = .int .i64 k ∧ k ≤ 5 ∧ Hid (∀ j : Nat, j < k → ¬ ownAt n a j (i % 2) = i / 2) ∧ Below w.heap.size w wr) (fun j _ => 5 - (intOf j).toNat)
  case atStart => exact ⟨0, rfl, Nat.zero_le _, Lib.hid fun j h => absurd h (Nat.not_lt_zero _), bel⟩
  case round =>
   obtain ⟨k, rfl, hk, HK, HB⟩ := hrel
   obtain ⟨hcr, hfr, hzr⟩ := bcell HB
   by_cases hlt : k < 5
   ·have k0 : (k : Int) ≤ 4 := by omega
    have m0 : 0 ≤ 10 * a + 2 * (k : Int) + i % 2 := by omega
    have m1 : 10 * a + 2 * (k : Int) + i % 2 < (n.owners.length : Int) := by omega
    obtain ⟨b5, o5, rfl, hb5, r0⟩ := rdI_int Row (10 * a + 2 * (k : Int) + i % 2) m0 m1
    obtain ⟨o, ho⟩ : ∃ o, ri n.owners (10 * a + 2 * (k : Int) + i % 2) = o := ⟨_, rfl⟩
    rw [ho] at r0
    have HO := Lib.hid (show ownAt n a k (i % 2) = o from ho)
    clear ho
    by_cases e1 : o = i / 2
    ·have f1 : (o == i / 2) = true := beq_iff_eq.2 e1
     have E1 := Lib.hid (ownPort_yes (n := n) (a := a) (i := i) k hlt (HO.out.trans e1) HK.out)
     clear e1
     go_wp2_with fail
     refine wp_region_far (w) (by kernel_rfl) (by kernel_rfl) bel ?_
     have hqc := far_cell (w)
     have hqf := far_frozen (w)
     repeat (first | go_big_quiet_step ((go_at_call 108; exact far_same (impl_BufferAt a k (i % 2) _ (by omega) (by omega) (by omega) (by omega) (by omega) (by omega)))) | quiet_step ((go_at_call 108; exact far_same (impl_BufferAt a k (i % 2) _ (by omega) (by omega) (by omega) (by omega) (by omega) (by omega)))))
     refine wpQuiet_nil ?_
     intro wq hbq
     clear hqc hqf
     obtain ⟨hcq, hfq, hzq⟩ := bcell hbq
     try simp only [szs] at hzq
     go_wp2
     go_ret
     exact ⟨ret_int (by rw [HW.out, E1.out]), bel⟩
    ·have f1 : (o == i / 2) = false := beq_eq_false_iff_ne.2 e1
     have E1 : Hid (¬ ownAt n a k (i % 2) = i / 2) := Lib.hid (fun h => e1 (HO.out.symm.trans h))
     clear e1
     go_wp2_with fail
     refine wp_region_far (w) (by kernel_rfl) (by kernel_rfl) bel ?_
     have hqc := far_cell (w)
     have hqf := far_frozen (w)
     repeat (first | go_big_quiet_step ((go_at_call 108; exact far_same (impl_BufferAt a k (i % 2) _ (by omega) (by omega) (by omega) (by omega) (by omega) (by omega)))) | quiet_step ((go_at_call 108; exact far_same (impl_BufferAt a k (i % 2) _ (by omega) (by omega) (by omega) (by omega) (by omega) (by omega)))))
     refine wpQuiet_nil ?_
     intro wq hbq
     clear hqc hqf
     obtain ⟨hcq, hfq, hzq⟩ := bcell hbq
     try simp only [szs] at hzq
     go_wp2
     go_roundw
     case rel => exact ⟨k + 1, by go_num, by omega, Lib.hid (upto HK.out E1.out), bel⟩
     case measure => simp [intOf]; omega
   ·have k0 : ¬ (k : Int) ≤ 4 := by omega
    go_wp2
    go_ret
    exact ⟨ret_int (by rw [HW.out, ownPort_no (fun j hj => HK.out j (by omega))]), bel⟩
 ·have HW := Lib.hid (wanted_2 hl0 hh)
  have HP := Lib.hid (portAt_entry (ok_tab HA.out.ok (i % 2)) HA.out.nd HN1.out)
  unfold bufOf at hl0 hh
  obtain ⟨b, off, rfl, hb, Ai, ci, p0, hle, hCi⟩ := rdB_int Rbu (10 * a + i) j0 j1
  obtain ⟨b1, o1, rfl, hb1, q0, q1, q2, q3, q4⟩ := rdFl_0 hCi hl0
  obtain ⟨l, el⟩ : ∃ l, rl n.bufs (10 * a + i) = l := ⟨_, rfl⟩
  unfold bufOf at HN2 HP HW
  rw [el] at hl0 hh p0 hle q0 q1 q2 q3 q4 HN2 HP HW
  have hl' : ((l.length : Int) == 0) = false := by simp; intro h; simp [h] at hl0
  have hl1 : (0 : Int) < (l.length : Int) := by omega
  rw [hh] at q3
  clear hCi el hh
  obtain ⟨c, ec⟩ : ∃ c, (rf l 0).cls = c := ⟨_, rfl⟩
  rw [ec] at q2 HN2
  clear ec
  by_cases hc : c = 1
  ·have hc1 : (c == 1) = true := beq_iff_eq.2 hc
   have HT : Hid (tabOf n.pa n.pb (i % 2) = n.pb) := Lib.hid (by rw [← HN2.out, hc]; rfl)
   rw [HT.out] at HP HW
   clear hc
   go_enter Tryz.func174, Tryz.ntmps174
   go_wp2_with fail
   go_region_held3 (fun w' => Below (w).heap.size (w) w' ∧ ∀ bq oq, bq < (w).heap.size → w'.cell? ⟨bq, oq, none⟩ = (w).cell? ⟨bq, oq, none⟩) (first | exact far_of bel) ( first | (go_at_call 122; refine (impl_tableFor_b n.pa n.pb a2 a3 c2 c3 c hc1 _).mono ?_; rintro e w1 ⟨rfl, hb1⟩; obtain ⟨hc1, hf1, hz1⟩ := bcell hb1; (try simp only [szs] at hz1); have hb2 := far2; obtain ⟨hc2, hf2, hz2⟩ := bcell hb2; (try simp only [szs] at hz2); try (first | obtain ⟨hy1, hy2, hy3, hy4⟩ := lts4 hz2 | obtain ⟨hy1, hy2, hy3⟩ := lts3 hz2 | obtain ⟨hy1, hy2⟩ := lts2 hz2 | have hy1 := lts1 hz2); have hb9 := hb1) | (go_at_call 154; refine (impl_PortAt n.mesh n.pb a (rf l 0).dst a1 a3 _ _ _ (by exact Kd.C_below Rbr bel) L1 (by exact Kd.C_below Rpb bel) L3).mono ?_; rintro e w1 ⟨rfl, hb1⟩; obtain ⟨hc1, hf1, hz1⟩ := bcell hb1; (try simp only [szs] at hz1); have hb2 := far2; obtain ⟨hc2, hf2, hz2⟩ := bcell hb2; (try simp only [szs] at hz2); try (first | obtain ⟨hy1, hy2, hy3, hy4⟩ := lts4 hz2 | obtain ⟨hy1, hy2, hy3⟩ := lts3 hz2 | obtain ⟨hy1, hy2⟩ := lts2 hz2 | have hy1 := lts1 hz2); have hb9 := hb1))
   go_wp2
   go_ret
   exact ⟨ret_int (by rw [HW.out, HP.out]), bel⟩
  ·have hc1 : (c == 1) = false := beq_eq_false_iff_ne.2 hc
   have HT : Hid (tabOf n.pa n.pb (i % 2) = n.pa) := Lib.hid (by rw [← HN2.out]; exact if_neg hc)
   rw [HT.out] at HP HW
   clear hc
   go_enter Tryz.func174, Tryz.ntmps174
   go_wp2_with fail
   go_region_held3 (fun w' => Below (w).heap.size (w) w' ∧ ∀ bq oq, bq < (w).heap.size → w'.cell? ⟨bq, oq, none⟩ = (w).cell? ⟨bq, oq, none⟩) (first | exact far_of bel) ( first | (go_at_call 122; refine (impl_tableFor_a n.pa n.pb a2 a3 c2 c3 c hc1 _).mono ?_; rintro e w1 ⟨rfl, hb1⟩; obtain ⟨hc1, hf1, hz1⟩ := bcell hb1; (try simp only [szs] at hz1); have hb2 := far2; obtain ⟨hc2, hf2, hz2⟩ := bcell hb2; (try simp only [szs] at hz2); try (first | obtain ⟨hy1, hy2, hy3, hy4⟩ := lts4 hz2 | obtain ⟨hy1, hy2, hy3⟩ := lts3 hz2 | obtain ⟨hy1, hy2⟩ := lts2 hz2 | have hy1 := lts1 hz2); have hb9 := hb1) | (go_at_call 154; refine (impl_PortAt n.mesh n.pa a (rf l 0).dst a1 a2 _ _ _ (by exact Kd.C_below Rbr bel) L1 (by exact Kd.C_below Rpa bel) L2).mono ?_; rintro e w1 ⟨rfl, hb1⟩; obtain ⟨hc1, hf1, hz1⟩ := bcell hb1; (try simp only [szs] at hz1); have hb2 := far2; obtain ⟨hc2, hf2, hz2⟩ := bcell hb2; (try simp only [szs] at hz2); try (first | obtain ⟨hy1, hy2, hy3, hy4⟩ := lts4 hz2 | obtain ⟨hy1, hy2, hy3⟩ := lts3 hz2 | obtain ⟨hy1, hy2⟩ := lts2 hz2 | have hy1 := lts1 hz2); have hb9 := hb1))
   go_wp2
   go_ret
   exact ⟨ret_int (by rw [HW.out, HP.out]), bel⟩
set_option maxHeartbeats 4000000 in
theorem impl_behind (n : Net) (q : NA) (bx : Nat) (a p c : Int) (w : World) (hr : NetR 121 w n q) (hx : Box w bx (netCells n q)) (ok : netOk n = true) (nd : isNode n.mesh.g a = true) (p0 : 0 ≤ p) (p4 : p ≤ 4) (g0 : 0 ≤ c) (g1 : c ≤ 1) :
    Calls Tryz.prog 107 #[.pointer (some ⟨bx, 0, none⟩), .int .i64 a, .int .i64 p, .int .i64 c] w fun e w' => e = .returned (.int .i64 (behindN n a p c)) ∧ Below w.heap.size w w' := by
  obtain ⟨_, _, _, a15⟩ := node_bounds nd
  have a0 := (isNode_iff.1 nd).1
  have OK := Lib.hid ok
  have ND := Lib.hid nd
  clear nd ok
  obtain ⟨a1, a2, a3, a4, a5, a6, a7, a8, c1, c2, c3, c4, c5, c6, c7, c8⟩ := q; obtain ⟨Rbr, Rpa, Rpb, Rbu, Row, Rtu, Rso, Rar, L1, L2, L3, L4, L5, L6, L7, L8, L9, L10, L11⟩ := hr; have M9 := Lib.hid L9; have M10 := Lib.hid L10; have M11 := Lib.hid L11; clear L9 L10 L11; dsimp only [netCells] at *
  have xl := hx.lt; have x0 : w.cell? ⟨bx, 0, none⟩ = some (.int .i64 n.mesh.g.w) := hx.get 0; have x1 : w.cell? ⟨bx, 1, none⟩ = some (.int .i64 n.mesh.g.h) := hx.get 1; have x2 : w.cell? ⟨bx, 2, none⟩ = some (.slice a1 n.mesh.br.length c1) := hx.get 2; have x3 : w.cell? ⟨bx, 3, none⟩ = some (.slice a2 n.pa.length c2) := hx.get 3; have x4 : w.cell? ⟨bx, 4, none⟩ = some (.slice a3 n.pb.length c3) := hx.get 4; have x5 : w.cell? ⟨bx, 5, none⟩ = some (.slice a4 n.bufs.length c4) := hx.get 5; have x6 : w.cell? ⟨bx, 6, none⟩ = some (.slice a5 n.owners.length c5) := hx.get 6; have x7 : w.cell? ⟨bx, 7, none⟩ = some (.slice a6 n.turns.length c6) := hx.get 7; have x8 : w.cell? ⟨bx, 8, none⟩ = some (.slice a7 n.srcs.length c7) := hx.get 8; have x9 : w.cell? ⟨bx, 9, none⟩ = some (.slice a8 n.arrs.length c8) := hx.get 9; have x10 : w.cell? ⟨bx, 10, none⟩ = some (.int .i64 n.time) := hx.get 10; clear hx
  by_cases h4 : p = 4
  · subst h4
    go_enter Tryz.func107, Tryz.ntmps107
    go_wp2
    go_ret
    exact ⟨rfl, bel⟩
  have p3 : p ≤ 3 := by omega
  have e4 : (p == 4) = false := beq_eq_false_iff_ne.2 h4
  clear h4 p4
  cases hl : live n.mesh (4 * a + p)
  · have HN : Hid (behindN n a p c = -1) := Lib.hid (by rw [behindN, if_neg (by omega), if_neg (by simp [hl])])
    go_enter Tryz.func107, Tryz.ntmps107
    go_wp2_with (go_at_call 141; refine (impl_live n.mesh (4 * a + p) a1 _ _ (by exact Kd.C_below Rbr bel) L1).mono ?_; rintro e w1 ⟨rfl, hb1⟩; obtain ⟨hc1, hf1, hz1⟩ := bcell hb1; (try simp only [szs] at hz1); have hb2 := far2; obtain ⟨hc2, hf2, hz2⟩ := bcell hb2; (try simp only [szs] at hz2); try (first | obtain ⟨hy1, hy2, hy3, hy4⟩ := lts4 hz2 | obtain ⟨hy1, hy2, hy3⟩ := lts3 hz2 | obtain ⟨hy1, hy2⟩ := lts2 hz2 | have hy1 := lts1 hz2); have hb9 := hb1)
    go_ret
    exact ⟨ret_int HN.out.symm, bel⟩
  · have HN : Hid (behindN n a p c = 10 * nextNode n.mesh.g a p + 2 * opposite p + c) := Lib.hid (by rw [behindN, if_neg (by omega), if_pos hl]; rfl)
    obtain ⟨_, v0, v1, v2, v3, _, _⟩ := behind_idx (c := c) OK.out p0 p3 hl g0 g1
    go_enter Tryz.func107, Tryz.ntmps107
    go_wp2_with (first | (go_at_call 141; refine (impl_live n.mesh (4 * a + p) a1 _ _ (by exact Kd.C_below Rbr bel) L1).mono ?_; rintro e w1 ⟨rfl, hb1⟩; obtain ⟨hc1, hf1, hz1⟩ := bcell hb1; (try simp only [szs] at hz1); have hb2 := far2; obtain ⟨hc2, hf2, hz2⟩ := bcell hb2; (try simp only [szs] at hz2); try (first | obtain ⟨hy1, hy2, hy3, hy4⟩ := lts4 hz2 | obtain ⟨hy1, hy2, hy3⟩ := lts3 hz2 | obtain ⟨hy1, hy2⟩ := lts2 hz2 | have hy1 := lts1 hz2); have hb9 := hb1) | (go_at_call 142; refine (impl_endOf n.mesh a p a1 _ _ ND.out p0 p3).mono ?_; rintro e w1 ⟨rfl, hb1⟩; obtain ⟨hc1, hf1, hz1⟩ := bcell hb1; (try simp only [szs] at hz1); have hb2 := far2; obtain ⟨hc2, hf2, hz2⟩ := bcell hb2; (try simp only [szs] at hz2); try (first | obtain ⟨hy1, hy2, hy3, hy4⟩ := lts4 hz2 | obtain ⟨hy1, hy2, hy3⟩ := lts3 hz2 | obtain ⟨hy1, hy2⟩ := lts2 hz2 | have hy1 := lts1 hz2); have hb9 := hb1) | (go_at_call 51; refine (impl_Opposite p _).mono ?_; rintro e w1 ⟨rfl, hb1⟩; obtain ⟨hc1, hf1, hz1⟩ := bcell hb1; (try simp only [szs] at hz1); have hb2 := far2; obtain ⟨hc2, hf2, hz2⟩ := bcell hb2; (try simp only [szs] at hz2); try (first | obtain ⟨hy1, hy2, hy3, hy4⟩ := lts4 hz2 | obtain ⟨hy1, hy2, hy3⟩ := lts3 hz2 | obtain ⟨hy1, hy2⟩ := lts2 hz2 | have hy1 := lts1 hz2); have hb9 := hb1) | (go_at_call 108; refine (impl_BufferAt _ _ c _ v0 v1 v2 (by omega) g0 g1).mono ?_; rintro e w' ⟨rfl, rfl⟩))
    go_ret
    exact ⟨ret_int HN.out.symm, bel⟩
set_option maxHeartbeats 4000000 in
theorem impl_hasRoom (n : Net) (q : NA) (bx : Nat) (a p c : Int) (w : World) (hr : NetR 121 w n q) (hx : Box w bx (netCells n q)) (ok : netOk n = true) (nd : isNode n.mesh.g a = true) (p0 : 0 ≤ p) (p4 : p ≤ 4) (g0 : 0 ≤ c) (g1 : c ≤ 1) :
    Calls Tryz.prog 175 #[.pointer (some ⟨bx, 0, none⟩), .int .i64 a, .int .i64 p, .int .i64 c] w fun e w' => e = .returned (.bool (roomN n a p c)) ∧ Below w.heap.size w w' := by
  have R := Lib.hid hr
  have X := Lib.hid hx
  have OK := Lib.hid ok
  have ND := Lib.hid nd
  clear ok nd
  obtain ⟨a1, a2, a3, a4, a5, a6, a7, a8, c1, c2, c3, c4, c5, c6, c7, c8⟩ := q; obtain ⟨Rbr, Rpa, Rpb, Rbu, Row, Rtu, Rso, Rar, L1, L2, L3, L4, L5, L6, L7, L8, L9, L10, L11⟩ := hr; have M9 := Lib.hid L9; have M10 := Lib.hid L10; have M11 := Lib.hid L11; clear L9 L10 L11; dsimp only [netCells] at *
  have xl := hx.lt; have x0 : w.cell? ⟨bx, 0, none⟩ = some (.int .i64 n.mesh.g.w) := hx.get 0; have x1 : w.cell? ⟨bx, 1, none⟩ = some (.int .i64 n.mesh.g.h) := hx.get 1; have x2 : w.cell? ⟨bx, 2, none⟩ = some (.slice a1 n.mesh.br.length c1) := hx.get 2; have x3 : w.cell? ⟨bx, 3, none⟩ = some (.slice a2 n.pa.length c2) := hx.get 3; have x4 : w.cell? ⟨bx, 4, none⟩ = some (.slice a3 n.pb.length c3) := hx.get 4; have x5 : w.cell? ⟨bx, 5, none⟩ = some (.slice a4 n.bufs.length c4) := hx.get 5; have x6 : w.cell? ⟨bx, 6, none⟩ = some (.slice a5 n.owners.length c5) := hx.get 6; have x7 : w.cell? ⟨bx, 7, none⟩ = some (.slice a6 n.turns.length c6) := hx.get 7; have x8 : w.cell? ⟨bx, 8, none⟩ = some (.slice a7 n.srcs.length c7) := hx.get 8; have x9 : w.cell? ⟨bx, 9, none⟩ = some (.slice a8 n.arrs.length c8) := hx.get 9; have x10 : w.cell? ⟨bx, 10, none⟩ = some (.int .i64 n.time) := hx.get 10; clear hx
  by_cases h4 : p = 4
  · subst h4
    go_enter Tryz.func175, Tryz.ntmps175
    go_wp2
    go_ret
    exact ⟨rfl, bel⟩
  have p3 : p ≤ 3 := by omega
  have e4 : (p == 4) = false := beq_eq_false_iff_ne.2 h4
  clear h4
  cases hl : live n.mesh (4 * a + p)
  · have HN := Lib.hid (room_no (c := c) p3 hl)
    have HB : Hid (behindN n a p c = -1) := Lib.hid (by rw [behindN, if_neg (by omega), if_neg (by simp [hl])])
    go_enter Tryz.func175, Tryz.ntmps175
    go_wp2_with (go_at_call 107; refine (impl_behind n _ bx a p c _ R.out X.out OK.out ND.out p0 p4 g0 g1).mono ?_; rintro e w1 ⟨he, hb1⟩; rw [HB.out] at he; subst he; obtain ⟨hc1, hf1, hz1⟩ := bcell hb1; (try simp only [szs] at hz1); have hb2 := far2; obtain ⟨hc2, hf2, hz2⟩ := bcell hb2; (try simp only [szs] at hz2); try (first | obtain ⟨hy1, hy2, hy3, hy4⟩ := lts4 hz2 | obtain ⟨hy1, hy2, hy3⟩ := lts3 hz2 | obtain ⟨hy1, hy2⟩ := lts2 hz2 | have hy1 := lts1 hz2); have hb9 := hb1)
    go_ret
    exact ⟨ret_bool HN.out.symm, bel⟩
  · have HN := Lib.hid (room_yes (c := c) p3 hl)
    have HB : Hid (behindN n a p c = behindI n a p c) := Lib.hid (by rw [behindN, if_neg (by omega), if_pos hl])
    obtain ⟨_, _, _, _, _, v4, v5⟩ := behind_idx (c := c) OK.out p0 p3 hl g0 g1
    obtain ⟨t, ht⟩ : ∃ t, behindI n a p c = t := ⟨_, rfl⟩
    rw [ht] at HN HB v4 v5
    clear ht
    obtain ⟨b, off, rfl, hb, Ai, ci, r0, hle, hCi⟩ := rdB_int Rbu t v4 v5
    by_cases h3 : (rl n.bufs t).length < 3
    · have f3 : ((rl n.bufs t).length : Int) < 3 := by omega
      have H3 := Lib.hid h3
      go_enter Tryz.func175, Tryz.ntmps175
      go_wp2_with (go_at_call 107; refine (impl_behind n _ bx a p c _ R.out X.out OK.out ND.out p0 p4 g0 g1).mono ?_; rintro e w1 ⟨he, hb1⟩; rw [HB.out] at he; subst he; obtain ⟨hc1, hf1, hz1⟩ := bcell hb1; (try simp only [szs] at hz1); have hb2 := far2; obtain ⟨hc2, hf2, hz2⟩ := bcell hb2; (try simp only [szs] at hz2); try (first | obtain ⟨hy1, hy2, hy3, hy4⟩ := lts4 hz2 | obtain ⟨hy1, hy2, hy3⟩ := lts3 hz2 | obtain ⟨hy1, hy2⟩ := lts2 hz2 | have hy1 := lts1 hz2); have hb9 := hb1)
      go_ret
      exact ⟨ret_bool (by rw [HN.out, decide_eq_true H3.out]), bel⟩
    · have f3 : ¬ ((rl n.bufs t).length : Int) < 3 := by omega
      have H3 := Lib.hid h3
      go_enter Tryz.func175, Tryz.ntmps175
      go_wp2_with (go_at_call 107; refine (impl_behind n _ bx a p c _ R.out X.out OK.out ND.out p0 p4 g0 g1).mono ?_; rintro e w1 ⟨he, hb1⟩; rw [HB.out] at he; subst he; obtain ⟨hc1, hf1, hz1⟩ := bcell hb1; (try simp only [szs] at hz1); have hb2 := far2; obtain ⟨hc2, hf2, hz2⟩ := bcell hb2; (try simp only [szs] at hz2); try (first | obtain ⟨hy1, hy2, hy3, hy4⟩ := lts4 hz2 | obtain ⟨hy1, hy2, hy3⟩ := lts3 hz2 | obtain ⟨hy1, hy2⟩ := lts2 hz2 | have hy1 := lts1 hz2); have hb9 := hb1)
      go_ret
      exact ⟨ret_bool (by rw [HN.out, decide_eq_false H3.out]; exact decide_eq_false (by omega)), bel⟩
set_option maxHeartbeats 4000000 in
set_option maxRecDepth 100000 in
theorem impl_isRequest (n : Net) (q : NA) (bx : Nat) (a i p : Int) (w : World) (hr : NetR 121 w n q) (hx : Box w bx (netCells n q)) (ha : At n a i) :
    Calls Tryz.prog 162 #[.pointer (some ⟨bx, 0, none⟩), .int .i64 a, .int .i64 i, .int .i64 p] w fun e w' => e = .returned (.bool (reqI n a i p)) ∧ Below w.heap.size w w' := by
  have R := Lib.hid hr
  have X := Lib.hid hx
  have HA := Lib.hid ha
  obtain ⟨a0, a15, j0, j1, j2, j3, j4, j5⟩ := ha.idx
  have i0 := ha.i0
  have i9 := ha.i9
  obtain ⟨y0, y1⟩ := ha.wanted
  clear ha
  obtain ⟨a1, a2, a3, a4, a5, a6, a7, a8, c1, c2, c3, c4, c5, c6, c7, c8⟩ := q; obtain ⟨Rbr, Rpa, Rpb, Rbu, Row, Rtu, Rso, Rar, L1, L2, L3, L4, L5, L6, L7, L8, L9, L10, L11⟩ := hr; have M9 := Lib.hid L9; have M10 := Lib.hid L10; have M11 := Lib.hid L11; clear L9 L10 L11; dsimp only [netCells] at *
  have xl := hx.lt; have x0 : w.cell? ⟨bx, 0, none⟩ = some (.int .i64 n.mesh.g.w) := hx.get 0; have x1 : w.cell? ⟨bx, 1, none⟩ = some (.int .i64 n.mesh.g.h) := hx.get 1; have x2 : w.cell? ⟨bx, 2, none⟩ = some (.slice a1 n.mesh.br.length c1) := hx.get 2; have x3 : w.cell? ⟨bx, 3, none⟩ = some (.slice a2 n.pa.length c2) := hx.get 3; have x4 : w.cell? ⟨bx, 4, none⟩ = some (.slice a3 n.pb.length c3) := hx.get 4; have x5 : w.cell? ⟨bx, 5, none⟩ = some (.slice a4 n.bufs.length c4) := hx.get 5; have x6 : w.cell? ⟨bx, 6, none⟩ = some (.slice a5 n.owners.length c5) := hx.get 6; have x7 : w.cell? ⟨bx, 7, none⟩ = some (.slice a6 n.turns.length c6) := hx.get 7; have x8 : w.cell? ⟨bx, 8, none⟩ = some (.slice a7 n.srcs.length c7) := hx.get 8; have x9 : w.cell? ⟨bx, 9, none⟩ = some (.slice a8 n.arrs.length c8) := hx.get 9; have x10 : w.cell? ⟨bx, 10, none⟩ = some (.int .i64 n.time) := hx.get 10; clear hx
  by_cases h0 : p < 0
  · have HN := Lib.hid (reqI_neg (n := n) (a := a) (i := i) h0)
    go_enter Tryz.func162, Tryz.ntmps162
    go_wp2
    go_ret
    exact ⟨ret_bool HN.out.symm, bel⟩
  by_cases h1 : wantedN n a i = p
  case neg =>
    have HN := Lib.hid (reqI_no (request_no1 h1))
    have f1 : (wantedN n a i != p) = true := bne_iff_ne.2 h1
    clear h1
    go_enter Tryz.func162, Tryz.ntmps162
    go_wp2_with (go_at_call 174; refine (impl_wanted n _ bx a i _ R.out X.out HA.out).mono ?_; rintro e w1 ⟨rfl, hb1⟩; obtain ⟨hc1, hf1, hz1⟩ := bcell hb1; (try simp only [szs] at hz1); have hb2 := far2; obtain ⟨hc2, hf2, hz2⟩ := bcell hb2; (try simp only [szs] at hz2); try (first | obtain ⟨hy1, hy2, hy3, hy4⟩ := lts4 hz2 | obtain ⟨hy1, hy2, hy3⟩ := lts3 hz2 | obtain ⟨hy1, hy2⟩ := lts2 hz2 | have hy1 := lts1 hz2); have hb9 := hb1)
    go_ret
    exact ⟨ret_bool HN.out.symm, bel⟩
  have p0 : 0 ≤ p := by omega
  have p4 : p ≤ 4 := by omega
  have H1 := Lib.hid h1
  have hl0 := wanted_len (n := n) (a := a) (i := i) (by omega)
  have f1 : (p != p) = false := bne_eq_false_iff_eq.2 rfl
  have HI := Lib.hid (reqI_in (n := n) (a := a) (i := i) p0 p4)
  clear h1 y0 y1
  cases h2 : roomN n a p (i % 2)
  · have H2 := Lib.hid h2
    go_enter Tryz.func162, Tryz.ntmps162
    go_wp2_with (first | (go_at_call 174; refine (impl_wanted n _ bx a i _ R.out X.out HA.out).mono ?_; rintro e w1 ⟨he, hb1⟩; rw [H1.out] at he; subst he; obtain ⟨hc1, hf1, hz1⟩ := bcell hb1; (try simp only [szs] at hz1); have hb2 := far2; obtain ⟨hc2, hf2, hz2⟩ := bcell hb2; (try simp only [szs] at hz2); try (first | obtain ⟨hy1, hy2, hy3, hy4⟩ := lts4 hz2 | obtain ⟨hy1, hy2, hy3⟩ := lts3 hz2 | obtain ⟨hy1, hy2⟩ := lts2 hz2 | have hy1 := lts1 hz2); have hb9 := hb1) | (go_at_call 175; refine (impl_hasRoom n _ bx a p (i % 2) _ (R.out.below bel) (X.out.below bel) HA.out.ok HA.out.nd p0 p4 (by omega) (by omega)).mono ?_; rintro e w1 ⟨rfl, hb1⟩; obtain ⟨hc1, hf1, hz1⟩ := bcell hb1; (try simp only [szs] at hz1); have hb2 := far2; obtain ⟨hc2, hf2, hz2⟩ := bcell hb2; (try simp only [szs] at hz2); try (first | obtain ⟨hy1, hy2, hy3, hy4⟩ := lts4 hz2 | obtain ⟨hy1, hy2, hy3⟩ := lts3 hz2 | obtain ⟨hy1, hy2⟩ := lts2 hz2 | have hy1 := lts1 hz2); have hb9 := hb1))
    go_ret
    exact ⟨ret_bool (by rw [HI.out, request_no2 H2.out]), bel⟩
  have H2 := Lib.hid h2
  have m0 : 0 ≤ 10 * a + 2 * p + i % 2 := by omega
  have m1 : 10 * a + 2 * p + i % 2 < (n.owners.length : Int) := by omega
  obtain ⟨b5, o5, rfl, hb5, r0⟩ := rdI_int Row (10 * a + 2 * p + i % 2) m0 m1
  obtain ⟨o, ho⟩ : ∃ o, ri n.owners (10 * a + 2 * p + i % 2) = o := ⟨_, rfl⟩
  rw [ho] at r0
  have HO := Lib.hid (show ownAt n a p (i % 2) = o from ho)
  clear ho
  obtain ⟨W, hW⟩ : ∃ W, W = w := ⟨w, rfl⟩
  cases hh : (rf (bufOf n a i) 0).head
  all_goals
    have HQ := Lib.hid hh
    unfold bufOf at hl0 hh
    obtain ⟨b, off, rfl, hb, Ai, ci, u0, hle, hCi⟩ := rdB_int Rbu (10 * a + i) j0 j1
    obtain ⟨b1, o1, rfl, hb1, q0, q1, q2, q3, q4⟩ := rdFl_0 hCi hl0
    obtain ⟨l, el⟩ : ∃ l, rl n.bufs (10 * a + i) = l := ⟨_, rfl⟩
    rw [el] at hl0 hh u0 hle q0 q1 q2 q3 q4
    have hl1 : (0 : Int) < (l.length : Int) := by omega
    rw [hh] at q3
    clear hCi el hh hW
    go_enter Tryz.func162, Tryz.ntmps162
    go_wp2_with (first | (go_at_call 174; refine (impl_wanted n _ bx a i _ R.out X.out HA.out).mono ?_; rintro e w1 ⟨he, hb1⟩; rw [H1.out] at he; subst he; obtain ⟨hc1, hf1, hz1⟩ := bcell hb1; (try simp only [szs] at hz1); have hb2 := far2; obtain ⟨hc2, hf2, hz2⟩ := bcell hb2; (try simp only [szs] at hz2); try (first | obtain ⟨hy1, hy2, hy3, hy4⟩ := lts4 hz2 | obtain ⟨hy1, hy2, hy3⟩ := lts3 hz2 | obtain ⟨hy1, hy2⟩ := lts2 hz2 | have hy1 := lts1 hz2); have hb9 := hb1) | (go_at_call 175; refine (impl_hasRoom n _ bx a p (i % 2) _ (R.out.below bel) (X.out.below bel) HA.out.ok HA.out.nd p0 p4 (by omega) (by omega)).mono ?_; rintro e w1 ⟨rfl, hb1⟩; obtain ⟨hc1, hf1, hz1⟩ := bcell hb1; (try simp only [szs] at hz1); have hb2 := far2; obtain ⟨hc2, hf2, hz2⟩ := bcell hb2; (try simp only [szs] at hz2); try (first | obtain ⟨hy1, hy2, hy3, hy4⟩ := lts4 hz2 | obtain ⟨hy1, hy2, hy3⟩ := lts3 hz2 | obtain ⟨hy1, hy2⟩ := lts2 hz2 | have hy1 := lts1 hz2); have hb9 := hb1))
    refine wp_region_far (w) (by kernel_rfl) (by kernel_rfl) bel ?_
    have hqc := far_cell (w)
    have hqf := far_frozen (w)
    repeat (first | go_big_quiet_step ((go_at_call 108; exact far_same (impl_BufferAt a p (i % 2) _ (by omega) (by omega) (by omega) (by omega) (by omega) (by omega)))) | quiet_step ((go_at_call 108; exact far_same (impl_BufferAt a p (i % 2) _ (by omega) (by omega) (by omega) (by omega) (by omega) (by omega)))))
    refine wpQuiet_nil ?_
    intro wq hbq
    clear hqc hqf
    obtain ⟨hcq, hfq, hzq⟩ := bcell hbq
    try simp only [szs] at hzq
    go_wp2
    go_ret
    exact ⟨ret_bool (by first | rw [HI.out, request_1 H1.out H2.out HQ.out, HO.out] | rw [HI.out, request_2 H1.out H2.out HQ.out, HO.out]), bel⟩
set_option maxHeartbeats 2000000 in
theorem impl_requests (n : Net) (q : NA) (bx : Nat) (a p : Int) (w : World) (hr : NetR 121 w n q) (hx : Box w bx (netCells n q)) (ok : netOk n = true) (nd : isNode n.mesh.g a = true) :
    Calls Tryz.prog 130 #[.pointer (some ⟨bx, 0, none⟩), .int .i64 a, .int .i64 p] w fun e w' => GotI w w' (requestsN n a p) e ∧ Below w.heap.size w w' := by
  have R := Lib.hid hr
  have X := Lib.hid hx
  have OK := Lib.hid ok
  have ND := Lib.hid nd
  clear hr hx ok nd
  go_enter Tryz.func130, Tryz.ntmps130
  go_wp2
  go_loopw [7, 10] (fun v j wr => ∃ k : Nat, j = .int .i64 k ∧ k ≤ 10 ∧ Kd.R (Kd.int .i64) 3 wr w.heap.size (fun _ => True) v (requestsTo n a p k) ∧ Below w.heap.size w wr) (fun _ j _ => 10 - (intOf j).toNat)
  case atStart => exact ⟨0, rfl, Nat.zero_le _, R_empty (W0 := w) _ _ (bw_size bel), bel⟩
  case round =>
    obtain ⟨k, rfl, hk, HO, HB⟩ := hrel
    obtain ⟨Ao, co, rfl⟩ := Kd.R_slice HO
    have hlen := requestsTo_len n a p k
    obtain ⟨hcr, hfr, hzr⟩ := bcell HB
    by_cases hlt : k < 10
    · have i0 : (k : Int) < 10 := by omega
      cases h1 : reqI n a k p
      · have HS := Lib.hid (requestsTo_no h1)
        go_wp2_with (go_at_call 162; refine (impl_isRequest n q bx a k p _ (R.out.below bel) (X.out.below bel) ⟨OK.out, ND.out, by omega, by omega⟩).mono ?_; rintro e w1 ⟨rfl, hb1⟩; obtain ⟨hc1, hf1, hz1⟩ := bcell hb1; (try simp only [szs] at hz1); have hb2 := far2; obtain ⟨hc2, hf2, hz2⟩ := bcell hb2; (try simp only [szs] at hz2); try (first | obtain ⟨hy1, hy2, hy3, hy4⟩ := lts4 hz2 | obtain ⟨hy1, hy2, hy3⟩ := lts3 hz2 | obtain ⟨hy1, hy2⟩ := lts2 hz2 | have hy1 := lts1 hz2); have hb9 := hb1)
        go_roundw
        case rel => exact ⟨k + 1, by go_num, by omega, by rw [HS.out]; exact (by exact Kd.R_below HO bel), bel⟩
        case measure => simp [intOf]; omega
      · have HS := Lib.hid (requestsTo_yes h1)
        go_wp2_with (first | (go_at_call 162; refine (impl_isRequest n q bx a k p _ (R.out.below bel) (X.out.below bel) ⟨OK.out, ND.out, by omega, by omega⟩).mono ?_; rintro e w1 ⟨rfl, hb1⟩; obtain ⟨hc1, hf1, hz1⟩ := bcell hb1; (try simp only [szs] at hz1); have hb2 := far2; obtain ⟨hc2, hf2, hz2⟩ := bcell hb2; (try simp only [szs] at hz2); try (first | obtain ⟨hy1, hy2, hy3, hy4⟩ := lts4 hz2 | obtain ⟨hy1, hy2, hy3⟩ := lts3 hz2 | obtain ⟨hy1, hy2⟩ := lts2 hz2 | have hy1 := lts1 hz2); have hb9 := hb1) | (at_builtin; refine app_int (W0 := w) rfl (.tmp 18) (.tmp 20) 24 3 rfl Tryz.underlying24 info_int _ (requestsTo n a p k) _ rfl (by first | rfl | exact congrArg (fun z => Value.slice (some ⟨z, 0, none⟩) 1 1) (World.size_alloc _ _).symm) (by exact Kd.R_below HO bel) bel (by omega) ?_; intro v1 w1 HO1 HB1; obtain ⟨hc1, hf1, hz1⟩ := bcell HB1; (try simp only [szs] at hz1); have hb2 := HB1; have hb9 := HB1))
        go_roundw
        case rel => exact ⟨k + 1, by go_num, by omega, by rw [HS.out]; exact (by exact Kd.R_below HO1 bel), bel⟩
        case measure => simp [intOf]; omega
    · have i0 : ¬ (k : Int) < 10 := by omega
      obtain rfl : k = 10 := by omega
      go_wp2
      go_ret
      exact ⟨⟨_, rfl, (by exact Kd.R_below HO bel)⟩, bel⟩
theorem C_two (W : World) (y z : Int) : Kd.C (Kd.int .i64) (W.alloc (.cells #[.int .i64 y, .int .i64 z] 3)) (some ⟨W.heap.size, 0, none⟩) 2 [y, z] := by
  have hb : Box (W.alloc (.cells #[.int .i64 y, .int .i64 z] 3)) W.heap.size #[.int .i64 y, .int .i64 z] := Box.new W _ _ _ rfl
  refine ⟨rfl, by simp, fun _ => ⟨_, rfl, fun j p hj => ⟨[.int .i64 p], rfl, rfl, fun i u hu => ?_⟩⟩⟩
  have hi : i = 0 := by
    have := (List.getElem?_eq_some_iff.1 hu).1
    simp at this
    exact this
  subst hi
  simp only [List.getElem?_cons_zero, Option.some.injEq] at hu
  subst hu
  have hj2 : j = 0 ∨ j = 1 := by
    have := (List.getElem?_eq_some_iff.1 hj).1
    simp at this
    omega
  rcases hj2 with rfl | rfl
  · simp only [List.getElem?_cons_zero, Option.some.injEq] at hj
    subst hj
    exact hb.get 0
  · simp only [List.getElem?_cons_succ, List.getElem?_cons_zero, Option.some.injEq] at hj
    subst hj
    exact hb.get 1
theorem app_int2 {ops : Array Oper} {rest : List Oper} {o : Oper} {a : Act} {Q : Exit → Act → World → Prop} {W0 W : World} (hgd : o.guard = none) (s x : Operand)
    (ho : o.op = .call { callee := .builtin .append, args := #[s, x], argTypes := #[24, 24] })
    (v : Value) (xs : List Int) (y z : Int) (hs : a.eval s = v) (hx : a.eval x = .slice (some ⟨W.heap.size, 0, none⟩) 2 2)
    (HO : Kd.R (Kd.int .i64) 3 W W0.heap.size (fun _ => True) v xs) (HB : Below W0.heap.size W0 W) (hl : xs.length ≤ 1000000)
    (h : ∀ v1 w1, Kd.R (Kd.int .i64) 3 w1 W0.heap.size (fun _ => True) v1 (xs ++ [y, z]) → Below W0.heap.size W0 w1 → wpList Tryz.prog ops Q rest (a.put o.dst v1) w1) :
    wpList Tryz.prog ops Q (o :: rest) a (W.alloc (.cells #[.int .i64 y, .int .i64 z] 3)) :=
  Kd.R_append_rows (Kd.int .i64) (w0 := W0) W0.heap.size hgd s x 24 3 (.int .i64 0) 8 ho Tryz.underlying24 info_int rfl (by decide) (by omega) v xs [y, z] (some ⟨W.heap.size, 0, none⟩) 2 2 (fun _ => True) (fun _ => False) hs hx (Kd.R_below HO (bw_alloc _ (bw_refl W))) (C_two W y z) (fun _ _ h => h) (fun _ hk => hk.elim) (fun _ _ => trivial) (bw_alloc _ HB) (Nat.le_trans HB.size (by simp only [szs]; omega)) (by omega) (fun v1 w1 h1 h2 _ _ => h v1 w1 h1 h2)
set_option maxHeartbeats 4000000 in
theorem impl_credit (n : Net) (q : NA) (bx : Nat) (a p c : Int) (w : World) (hr : NetR 121 w n q) (hx : Box w bx (netCells n q)) (ok : netOk n = true) (nd : isNode n.mesh.g a = true) (p0 : 0 ≤ p) (p3 : p ≤ 3) (g0 : 0 ≤ c) (g1 : c ≤ 1) :
    Calls Tryz.prog 89 #[.pointer (some ⟨bx, 0, none⟩), .int .i64 a, .int .i64 p, .int .i64 c] w fun e w' => e = .returned (.int .i64 (creditN n a p c)) ∧ Below w.heap.size w w' := by
  have R := Lib.hid hr
  have X := Lib.hid hx
  have OK := Lib.hid ok
  have ND := Lib.hid nd
  have NBQ := Lib.hid hr.h9
  clear ok nd
  obtain ⟨a1, a2, a3, a4, a5, a6, a7, a8, c1, c2, c3, c4, c5, c6, c7, c8⟩ := q; obtain ⟨Rbr, Rpa, Rpb, Rbu, Row, Rtu, Rso, Rar, L1, L2, L3, L4, L5, L6, L7, L8, L9, L10, L11⟩ := hr; have M9 := Lib.hid L9; have M10 := Lib.hid L10; have M11 := Lib.hid L11; clear L9 L10 L11; dsimp only [netCells] at *
  have xl := hx.lt; have x0 : w.cell? ⟨bx, 0, none⟩ = some (.int .i64 n.mesh.g.w) := hx.get 0; have x1 : w.cell? ⟨bx, 1, none⟩ = some (.int .i64 n.mesh.g.h) := hx.get 1; have x2 : w.cell? ⟨bx, 2, none⟩ = some (.slice a1 n.mesh.br.length c1) := hx.get 2; have x3 : w.cell? ⟨bx, 3, none⟩ = some (.slice a2 n.pa.length c2) := hx.get 3; have x4 : w.cell? ⟨bx, 4, none⟩ = some (.slice a3 n.pb.length c3) := hx.get 4; have x5 : w.cell? ⟨bx, 5, none⟩ = some (.slice a4 n.bufs.length c4) := hx.get 5; have x6 : w.cell? ⟨bx, 6, none⟩ = some (.slice a5 n.owners.length c5) := hx.get 6; have x7 : w.cell? ⟨bx, 7, none⟩ = some (.slice a6 n.turns.length c6) := hx.get 7; have x8 : w.cell? ⟨bx, 8, none⟩ = some (.slice a7 n.srcs.length c7) := hx.get 8; have x9 : w.cell? ⟨bx, 9, none⟩ = some (.slice a8 n.arrs.length c8) := hx.get 9; have x10 : w.cell? ⟨bx, 10, none⟩ = some (.int .i64 n.time) := hx.get 10; clear hx
  cases hl : live n.mesh (4 * a + p)
  · have HB : Hid (behindN n a p c = -1) := Lib.hid (by rw [behindN, if_neg (by omega), if_neg (by simp [hl])])
    have HE : Hid (creditN n a p c = -1) := Lib.hid (by unfold creditN; rw [HB.out]; rfl)
    go_enter Tryz.func89, Tryz.ntmps89
    go_wp2_with (go_at_call 107; refine (impl_behind n _ bx a p c _ R.out X.out OK.out ND.out p0 (by omega) g0 g1).mono ?_; rintro e w1 ⟨he, hb1⟩; rw [HB.out] at he; subst he; obtain ⟨hc1, hf1, hz1⟩ := bcell hb1; (try simp only [szs] at hz1); have hb2 := far2; obtain ⟨hc2, hf2, hz2⟩ := bcell hb2; (try simp only [szs] at hz2); try (first | obtain ⟨hy1, hy2, hy3, hy4⟩ := lts4 hz2 | obtain ⟨hy1, hy2, hy3⟩ := lts3 hz2 | obtain ⟨hy1, hy2⟩ := lts2 hz2 | have hy1 := lts1 hz2); have hb9 := hb1)
    go_ret
    exact ⟨ret_int HE.out.symm, bel⟩
  · have HB : Hid (behindN n a p c = behindI n a p c) := Lib.hid (by rw [behindN, if_neg (by omega), if_pos hl])
    obtain ⟨_, _, _, _, _, v4, v5⟩ := behind_idx (c := c) OK.out p0 p3 hl g0 g1
    obtain ⟨t, ht⟩ : ∃ t, behindI n a p c = t := ⟨_, rfl⟩
    rw [ht] at HB v4 v5
    clear ht
    have HE : Hid (creditN n a p c = 3 - ((rl n.bufs t).length : Int)) := Lib.hid (by unfold creditN; rw [HB.out, if_neg (by omega)])
    have hlen : (rl n.bufs t).length ≤ 2097152 := by
      have := NBQ.out (rl n.bufs ((t.toNat : Nat) : Int)) (rl_mem (by omega))
      rwa [Int.toNat_of_nonneg v4] at this
    obtain ⟨b, off, rfl, hb, Ai, ci, r0, hle, hCi⟩ := rdB_int Rbu t v4 v5
    go_enter Tryz.func89, Tryz.ntmps89
    go_wp2_with (go_at_call 107; refine (impl_behind n _ bx a p c _ R.out X.out OK.out ND.out p0 (by omega) g0 g1).mono ?_; rintro e w1 ⟨he, hb1⟩; rw [HB.out] at he; subst he; obtain ⟨hc1, hf1, hz1⟩ := bcell hb1; (try simp only [szs] at hz1); have hb2 := far2; obtain ⟨hc2, hf2, hz2⟩ := bcell hb2; (try simp only [szs] at hz2); try (first | obtain ⟨hy1, hy2, hy3, hy4⟩ := lts4 hz2 | obtain ⟨hy1, hy2, hy3⟩ := lts3 hz2 | obtain ⟨hy1, hy2⟩ := lts2 hz2 | have hy1 := lts1 hz2); have hb9 := hb1)
    go_ret
    exact ⟨ret_int HE.out.symm, bel⟩
theorem credits_two {n : Net} {k : Nat} {y z : Int} (h1 : creditN n ((k / 4 : Nat) : Int) ((k % 4 : Nat) : Int) 0 = y) (h2 : creditN n ((k / 4 : Nat) : Int) ((k % 4 : Nat) : Int) 1 = z) : creditsTo n (2 * (k + 1)) = creditsTo n (2 * k) ++ [y, z] := by
  have e : 2 * (k + 1) = (2 * k + 1) + 1 := by omega
  rw [e, creditsTo_succ, creditsTo_succ, List.append_assoc]
  have e1 : creditAt n (2 * k) = y := by
    unfold creditAt
    rw [show 2 * k / 8 = k / 4 by omega, show 2 * k / 2 % 4 = k % 4 by omega, show 2 * k % 2 = 0 by omega]
    exact h1
  have e2 : creditAt n (2 * k + 1) = z := by
    unfold creditAt
    rw [show (2 * k + 1) / 8 = k / 4 by omega, show (2 * k + 1) / 2 % 4 = k % 4 by omega, show (2 * k + 1) % 2 = 1 by omega]
    exact h2
  rw [e1, e2]
  rfl
set_option maxHeartbeats 4000000 in
theorem impl_credits (n : Net) (q : NA) (bx : Nat) (w : World) (hr : NetR 121 w n q) (hx : Box w bx (netCells n q)) (ok : netOk n = true) :
    Calls Tryz.prog 47 #[.pointer (some ⟨bx, 0, none⟩)] w fun e w' => GotI w w' (creditsN n) e ∧ Below w.heap.size w w' := by
  have R := Lib.hid hr
  have X := Lib.hid hx
  have OK := Lib.hid ok
  obtain ⟨_, _, _, _, hs4, _⟩ := netOk_parts ok
  have hc16 := count_le n.mesh.g
  obtain ⟨K, hK⟩ : ∃ K : Nat, nodeCount n.mesh.g = (K : Int) := ⟨(nodeCount n.mesh.g).toNat, by omega⟩
  have HE : Hid (creditsN n = creditsTo n (2 * (4 * K))) := Lib.hid (by unfold creditsN; rw [hK, Int.toNat_natCast, show 2 * (4 * K) = 8 * K by omega])
  have HND : Hid (∀ k : Nat, k < 4 * K → isNode n.mesh.g ((k / 4 : Nat) : Int) = true) := Lib.hid (fun k hk => isNode_iff.2 ⟨by omega, by omega⟩)
  have HS4 : Hid (n.srcs.length = K) := Lib.hid (by omega)
  have K16 : K ≤ 16 := by omega
  clear hr ok hs4 hc16 hK
  obtain ⟨a1, a2, a3, a4, a5, a6, a7, a8, c1, c2, c3, c4, c5, c6, c7, c8⟩ := q
  dsimp only [netCells] at hx
  have x8 : w.cell? ⟨bx, 8, none⟩ = some (.slice a7 n.srcs.length c7) := hx.get 8
  have xl := hx.lt
  rw [HS4.out] at x8
  clear hx
  rw [HE.out]
  go_enter Tryz.func47, Tryz.ntmps47
  go_wp2
  go_loopw [3, 12] (fun v j wr => ∃ k : Nat, j = .int .i64 k ∧ k ≤ 4 * K ∧ Kd.R (Kd.int .i64) 3 wr w.heap.size (fun _ => True) v (creditsTo n (2 * k)) ∧ Below w.heap.size w wr) (fun _ j _ => 4 * K - (intOf j).toNat)
  case atStart => exact ⟨0, rfl, Nat.zero_le _, R_empty (W0 := w) _ _ (bw_size bel), bel⟩
  case round =>
    obtain ⟨k, rfl, hk, HO, HB⟩ := hrel
    obtain ⟨Ao, co, rfl⟩ := Kd.R_slice HO
    have hlen := creditsTo_len n (2 * k)
    have hlen2 : (creditsTo n (2 * k)).length ≤ 1000 := by omega
    clear hlen
    obtain ⟨hcr, hfr, hzr⟩ := bcell HB
    by_cases hlt : k < 4 * K
    · have i0 : (k : Int) < 4 * (K : Int) := by omega
      obtain ⟨y, hy⟩ : ∃ y, creditN n ((k / 4 : Nat) : Int) ((k % 4 : Nat) : Int) 0 = y := ⟨_, rfl⟩
      obtain ⟨z, hz⟩ : ∃ z, creditN n ((k / 4 : Nat) : Int) ((k % 4 : Nat) : Int) 1 = z := ⟨_, rfl⟩
      have HS := Lib.hid (credits_two hy hz)
      have HY : Hid (∀ W, Below w.heap.size w W → Calls Tryz.prog 89 #[.pointer (some ⟨bx, 0, none⟩), .int .i64 ((k : Int) / 4), .int .i64 ((k : Int) % 4), .int .i64 0] W fun e w' => e = .returned (.int .i64 y) ∧ Below W.heap.size W w') := Lib.hid (fun W hW => by
        have h := impl_credit n _ bx ((k / 4 : Nat) : Int) ((k % 4 : Nat) : Int) 0 W (R.out.below hW) (X.out.below hW) OK.out (HND.out k hlt) (by omega) (by omega) (by omega) (by omega)
        rw [hy] at h
        exact h)
      have HZ : Hid (∀ W, Below w.heap.size w W → Calls Tryz.prog 89 #[.pointer (some ⟨bx, 0, none⟩), .int .i64 ((k : Int) / 4), .int .i64 ((k : Int) % 4), .int .i64 1] W fun e w' => e = .returned (.int .i64 z) ∧ Below W.heap.size W w') := Lib.hid (fun W hW => by
        have h := impl_credit n _ bx ((k / 4 : Nat) : Int) ((k % 4 : Nat) : Int) 1 W (R.out.below hW) (X.out.below hW) OK.out (HND.out k hlt) (by omega) (by omega) (by omega) (by omega)
        rw [hz] at h
        exact h)
      clear hy hz
      go_wp2_with fail
      refine (HY.out _ HB).mono ?_
      rintro e w2 ⟨rfl, hb2⟩
      have HB2 := bw_then HB hb2
      have HO2 := Kd.R_below HO hb2
      clear hcr hfr hzr
      obtain ⟨hcr, hfr, hzr⟩ := bcell HB2
      go_wp2_with fail
      refine (HZ.out _ HB2).mono ?_
      rintro e w3 ⟨rfl, hb3⟩
      have HB3 := bw_then HB2 hb3
      have HO3 := Kd.R_below HO2 hb3
      clear hcr hfr hzr
      obtain ⟨hcr, hfr, hzr⟩ := bcell HB3
      go_wp2_with (at_builtin; refine app_int2 (W0 := w) rfl (.tmp 15) (.tmp 28) rfl _ (creditsTo n (2 * k)) y z rfl rfl HO3 HB3 (by omega) ?_; intro v1 w1 HO1 hb1)
      go_roundw
      case rel => exact ⟨k + 1, by go_num, by omega, by rw [HS.out]; exact HO1, hb1⟩
      case measure => simp [intOf]; omega
    · have i0 : ¬ (k : Int) < 4 * (K : Int) := by omega
      obtain rfl : k = 4 * K := by omega
      go_wp2
      go_ret
      exact ⟨⟨_, rfl, (by exact Kd.R_below HO bel)⟩, bel⟩
structure Chg (lo hi : Nat) (w w1 : World) : Prop where
  os : w1.os = w.os
  tape : w1.tape = w.tape
  output : w1.output = w.output
  size : w.heap.size ≤ w1.heap.size
  block : ∀ i, i < w.heap.size → (i < lo ∨ hi ≤ i) → w1.heap[i]? = w.heap[i]?
theorem Chg.of_below {lo hi : Nat} {w w1 : World} (h : Below w.heap.size w w1) : Chg lo hi w w1 := ⟨h.os, h.tape, h.output, h.size, fun i hi _ => h.block i hi⟩
theorem Chg.refl (lo hi : Nat) (w : World) : Chg lo hi w w := ⟨rfl, rfl, rfl, Nat.le_refl _, fun _ _ _ => rfl⟩
theorem Chg.trans {lo hi : Nat} {w w1 w2 : World} (h : Chg lo hi w w1) (k : Chg lo hi w1 w2) : Chg lo hi w w2 :=
  ⟨k.os.trans h.os, k.tape.trans h.tape, k.output.trans h.output, Nat.le_trans h.size k.size, fun i hi ho => (k.block i (Nat.lt_of_lt_of_le hi h.size) ho).trans (h.block i hi ho)⟩
theorem Chg.wide {lo hi lo' hi' : Nat} {w w1 : World} (h : Chg lo hi w w1) (hl : lo' ≤ lo) (hh : hi ≤ hi') : Chg lo' hi' w w1 :=
  ⟨h.os, h.tape, h.output, h.size, fun i hi ho => h.block i hi (by omega)⟩
theorem Chg.of_grown {lo hi : Nat} {w w1 : World} {v : Value} (h : w.grownBy w1 v.ownBlock) (hv : Within v lo hi) : Chg lo hi w w1 :=
  ⟨h.os, h.tape, h.output, h.size, fun i hi ho => h.block i hi (fun e => by have := hv i e.symm; omega)⟩
theorem Chg.below {lo hi : Nat} {w0 w w1 : World} (hb : Below w0.heap.size w0 w) (h : Chg lo hi w w1) (hl : w0.heap.size ≤ lo) : Below w0.heap.size w0 w1 :=
  ⟨h.os.trans hb.os, h.tape.trans hb.tape, h.output.trans hb.output, Nat.le_trans hb.size h.size, fun i hi => (h.block i (Nat.lt_of_lt_of_le hi hb.size) (.inl (by omega))).trans (hb.block i hi)⟩
theorem Box.chg {lo hi : Nat} {w w1 : World} {b : Nat} {cs : Array Value} (h : Box w b cs) (hg : Chg lo hi w w1) (hne : b < lo ∨ hi ≤ b) : Box w1 b cs := by
  refine ⟨Nat.lt_of_lt_of_le h.lt hg.size, fun o => ?_⟩
  have := hg.block b h.lt hne
  rw [← h.get o]
  unfold World.cell?
  rw [this]
def RU {α : Type} (d : Kd α) (e : Nat) (w : World) (lo hi : Nat) (v : Value) (xs : List α) : Prop := d.R e w lo (fun k => k < hi) v xs
theorem RU.of {α : Type} {d : Kd α} {e : Nat} {w : World} {base lo hi : Nat} {v : Value} {xs : List α} (h : d.R e w base (fun _ => True) v xs) (hl : lo ≤ base) (hh : w.heap.size ≤ hi) : RU d e w lo hi v xs :=
  Kd.R_lower (Kd.R_mono (Kd.R_bound h) (fun k hk => by have := hk.2.2.1; omega)) hl
theorem RU.row {α : Type} {d : Kd α} {e : Nat} {w : World} {lo hi : Nat} {v : Value} {xs : List α} (h : RU d e w lo hi v xs) : d.R e w lo (fun _ => True) v xs := Kd.R_mono h (fun _ _ => trivial)
theorem RU.step {α : Type} {d : Kd α} {e : Nat} {w w1 : World} {lo hi : Nat} {v : Value} {xs : List α} (h : RU d e w lo hi v xs) (hm : ∀ k, lo ≤ k → k < hi → k < w.heap.size → w1.heap[k]? = w.heap[k]?) : RU d e w1 lo hi v xs :=
  Kd.R_mono (Kd.R_move (Kd.R_bound h) (fun k hk => hm k hk.2.1 hk.1 hk.2.2.1)) (fun _ hk => hk.1)
theorem RU.below {α : Type} {d : Kd α} {e : Nat} {w w1 : World} {lo hi : Nat} {v : Value} {xs : List α} (h : RU d e w lo hi v xs) (hb : Below w.heap.size w w1) : RU d e w1 lo hi v xs := Kd.R_below h hb
theorem RU.chg {α : Type} {d : Kd α} {e : Nat} {w w1 : World} {lo hi a b : Nat} {v : Value} {xs : List α} (h : RU d e w lo hi v xs) (hg : Chg a b w w1) (hne : hi ≤ a ∨ b ≤ lo) : RU d e w1 lo hi v xs :=
  h.step (fun k h1 h2 h3 => hg.block k h3 (by omega))
theorem RU.within {α : Type} {d : Kd α} {e : Nat} {w : World} {lo hi : Nat} {v : Value} {xs : List α} (h : RU d e w lo hi v xs) : Within v lo hi := fun k hk => ⟨Kd.R_base h k hk, h.1 k hk⟩
theorem RU.reads {α : Type} {d : Kd α} {e : Nat} {w : World} {lo hi : Nat} {A : Option Addr} {m c : Nat} {xs : List α} (h : RU d e w lo hi (.slice A m c) xs) : m = xs.length ∧ m ≤ c ∧ d.C w A m xs := Kd.R_rowX h.row
theorem RU.wide {α : Type} {d : Kd α} {e : Nat} {w : World} {lo hi lo' hi' : Nat} {v : Value} {xs : List α} (h : RU d e w lo hi v xs) (hl : lo' ≤ lo) (hh : hi ≤ hi') : RU d e w lo' hi' v xs :=
  Kd.R_lower (Kd.R_mono h (fun k hk => by omega)) hl
def vr (vs : List Value) (i : Nat) : Value := vs.getD i (.slice none 0 0)
theorem vr_set {vs : List Value} {k : Nat} {v : Value} (hk : k < vs.length) (j : Nat) : vr (vs.set k v) j = if j = k then v else vr vs j := by
  by_cases e : j = k
  · subst e; simp [vr, List.getD_eq_getElem?_getD, hk]
  · have e' : ¬ k = j := fun h => e h.symm
    simp [vr, List.getD_eq_getElem?_getD, e, e']
theorem vr_get {vs : List Value} {k : Nat} (hk : k < vs.length) : vs[k]? = some (vr vs k) := by
  simp [vr, List.getD_eq_getElem?_getD, hk]
structure OB (w : World) (lo hi : Nat) (v : Value) (l : List (List Flit)) (vs : List Value) : Prop where
  own : w.ownsRow lo 108 1 v l.length vs
  top : ∀ k, v.ownBlock = some k → k < hi
  row : ∀ i : Nat, i < l.length → RU kF 121 w lo hi (vr vs i) (rl l i)
  apart : ∀ i j : Nat, i < j → j < l.length → Apart (vr vs i) (vr vs j)
theorem OB.len {w : World} {lo hi : Nat} {v : Value} {l : List (List Flit)} {vs : List Value} (h : OB w lo hi v l vs) : vs.length = l.length := by
  have := h.own.1
  omega
theorem OB.apart' {w : World} {lo hi : Nat} {v : Value} {l : List (List Flit)} {vs : List Value} (h : OB w lo hi v l vs) {i j : Nat} (hne : i ≠ j) (hi' : i < l.length) (hj : j < l.length) : Apart (vr vs i) (vr vs j) := by
  rcases Nat.lt_or_gt_of_ne hne with h1 | h1
  · exact h.apart i j h1 hj
  · exact apart_comm (h.apart j i h1 hi')
theorem OB.step {w w1 : World} {lo hi : Nat} {v : Value} {l : List (List Flit)} {vs : List Value} (h : OB w lo hi v l vs) (hm : ∀ k, lo ≤ k → k < hi → k < w.heap.size → w1.heap[k]? = w.heap[k]?) : OB w1 lo hi v l vs :=
  ⟨own_move h.own (fun k hk => hm k (own_base h.own k hk) (h.top k hk) (own_lt h.own k hk)), h.top, fun i hi' => (h.row i hi').step hm, h.apart⟩
theorem OB.below {w w1 : World} {lo hi : Nat} {v : Value} {l : List (List Flit)} {vs : List Value} (h : OB w lo hi v l vs) (hb : Below w.heap.size w w1) : OB w1 lo hi v l vs := h.step (fun k _ _ h3 => hb.block k h3)
theorem OB.chg {w w1 : World} {lo hi a b : Nat} {v : Value} {l : List (List Flit)} {vs : List Value} (h : OB w lo hi v l vs) (hg : Chg a b w w1) (hne : hi ≤ a ∨ b ≤ lo) : OB w1 lo hi v l vs := h.step (fun k h1 h2 h3 => hg.block k h3 (by omega))
theorem OB.wide {w : World} {lo hi lo' hi' : Nat} {v : Value} {l : List (List Flit)} {vs : List Value} (h : OB w lo hi v l vs) (hl : lo' ≤ lo) (hh : hi ≤ hi') : OB w lo' hi' v l vs :=
  ⟨own_weaken h.own hl, fun k hk => by have := h.top k hk; omega, fun i hi => (h.row i hi).wide hl hh, h.apart⟩
theorem OB.form {w : World} {lo hi : Nat} {v : Value} {l : List (List Flit)} {vs : List Value} (h : OB w lo hi v l vs) (h0 : 0 < l.length) : ∃ g cap, v = .slice (some ⟨g, 0, none⟩) l.length cap ∧ lo ≤ g ∧ g < hi ∧ g < w.heap.size ∧ l.length ≤ cap ∧ ∃ cells, w.heap[g]? = some (.cells cells 108 (0, 0)) := by
  obtain ⟨g, cap, e, hb, hl⟩ := h.own.form h0
  obtain ⟨cells, hc⟩ := own_typed h.own g (by rw [e]; rfl)
  have hown := h.own
  rw [e] at hown
  exact ⟨g, cap, e, hb, h.top g (by rw [e]; rfl), hl, own_cap hown, cells, hc⟩
theorem OB.cell {w : World} {lo hi g n cap : Nat} {l : List (List Flit)} {vs : List Value} (h : OB w lo hi (.slice (some ⟨g, 0, none⟩) n cap) l vs) (k : Nat) (hk : k < l.length) : w.cell? ⟨g, k, none⟩ = some (vr vs k) ∧ w.frozen? ⟨g, k, none⟩ = false := by
  have hl := h.len
  have hn : n = l.length := by
    rcases h.own.2 with ⟨e, _⟩ | ⟨g', cap', cur, e, _⟩
    · cases e
    · injection e with _ e2 _
  have ho := h.own
  constructor
  · have hc := ho.cells (g := g) rfl k (vr vs k) (vr_get (by omega))
    rwa [add_plain] at hc
  · obtain ⟨cells, hc⟩ := own_typed ho g rfl
    unfold World.frozen?
    rw [hc]
    simp
theorem OB.rows {w : World} {lo hi : Nat} {v : Value} {l : List (List Flit)} {vs : List Value} (h : OB w lo hi v l vs) : (kB 121).R 108 w lo (fun k => k < hi) v l := by
  have hl := h.len
  refine ⟨h.top, vs, h.own, by show vs.length = l.length * 1; omega, fun j p hj => ?_⟩
  have hlt := (List.getElem?_eq_some_iff.1 hj).1
  have hp : rl l j = p := by simp [rl, List.getD_eq_getElem?_getD, hj]
  have hr := h.row j hlt
  rw [hp] at hr
  refine ⟨vr vs j, ?_, ?_⟩
  · have hjv : j < vs.length := by omega
    have e : vr vs j = vs[j] := by simp [vr, List.getD_eq_getElem?_getD, hjv]
    show (vs.drop (j * 1)).take 1 = _
    rw [e, Nat.mul_one, List.drop_eq_getElem_cons hjv]
    rfl
  · cases hv : v.ownBlock with
    | none => exact Kd.R_mono hr (fun k hk => ⟨hk, by simp⟩)
    | some g =>
      obtain ⟨cells, hc⟩ := own_typed h.own g hv
      refine Kd.R_mono (Kd.R_types hr hc (by decide)) (fun k hk => ⟨hk.1, fun e => hk.2 (Option.some.inj e)⟩)
theorem OB.reads {w : World} {lo hi : Nat} {A : Option Addr} {m c : Nat} {l : List (List Flit)} {vs : List Value} (h : OB w lo hi (.slice A m c) l vs) : m = l.length ∧ m ≤ c ∧ (kB 121).C w A m l := Kd.R_rowX (Kd.R_mono h.rows (fun _ _ => trivial))
theorem OB.slice {w : World} {lo hi : Nat} {v : Value} {l : List (List Flit)} {vs : List Value} (h : OB w lo hi v l vs) : ∃ A c, v = .slice A l.length c := own_slice h.own
theorem OB.made (W : World) (lo m : Nat) (hl : lo ≤ W.heap.size) (hm : m ≤ 1000000000) : OB (W.alloc (.cells (madeCells #[.slice none 0 0] m) 108)) lo (W.heap.size + 1) (.slice (some ⟨W.heap.size, 0, none⟩) m m) (List.replicate m []) (List.replicate m (.slice none 0 0)) := by
  have h := own_made_of' (enc := fun _ : Unit => Value.slice none 0 0) (d := ()) W lo 108 m hl (by omega)
  have hr : ∀ i : Nat, vr (List.replicate m (Value.slice none 0 0)) i = .slice none 0 0 := by
    intro i
    simp only [vr, List.getD_eq_getElem?_getD, List.getElem?_replicate]
    split <;> rfl
  have hq : ∀ i : Nat, rl (List.replicate m []) i = [] := by
    intro i
    simp only [rl, List.getD_eq_getElem?_getD, List.getElem?_replicate]
    split <;> rfl
  refine ⟨?_, fun k hk => ?_, fun i _ => ?_, fun i j _ _ => ?_⟩
  · simpa [encs] using h
  · simp only [Value.ownBlock] at hk
    have := Option.some.inj hk
    omega
  · rw [hr, hq]; exact Kd.R_nil _ _ _ _ _
  · rw [hr]; exact .inl rfl
theorem OB.put {w : World} {lo hi B g n cap : Nat} {l : List (List Flit)} {vs : List Value} (h : OB w lo hi (.slice (some ⟨g, 0, none⟩) n cap) l vs) (k : Nat) (hk : k < l.length) (u : Value) (y : List Flit) (hu : kF.R 121 w B (fun _ => True) u y) (hB : hi ≤ B) (hlo : lo ≤ hi) (hhi : hi ≤ w.heap.size) :
    OB (w.setCell ⟨g, k, none⟩ u) lo w.heap.size (.slice (some ⟨g, 0, none⟩) n cap) (l.set k y) (vs.set k u) := by
  have hl := h.len
  have hn : n = l.length := by
    rcases h.own.2 with ⟨e, _⟩ | ⟨g', cap', cur, e, _⟩
    · cases e
    · injection e with _ e2 _
  subst hn
  have hg := h.top g rfl
  have hgw := own_lt h.own g rfl
  obtain ⟨cells, hc⟩ := own_typed h.own g rfl
  have far : ∀ {lo' hi' : Nat} {v' : Value} {ys : List Flit}, RU kF 121 w lo' hi' v' ys → RU kF 121 (w.setCell ⟨g, k, none⟩ u) lo' hi' v' ys := fun hr =>
    Kd.R_set hr hc (by decide) k u
  have hst := h.own.stored k u
  refine ⟨?_, fun q hq => ?_, fun i hi' => ?_, fun i j hij hj => ?_⟩
  · rw [List.length_set]
    exact hst.1
  · have : g = q := Option.some.inj hq
    omega
  · rw [List.length_set] at hi'
    rw [vr_set (by omega)]
    rw [set_getB (by omega) i (by omega)]
    by_cases e : i = k
    · subst e
      rw [if_pos rfl, if_pos rfl]
      exact far (RU.of hu (by omega) (Nat.le_refl _))
    · rw [if_neg e, if_neg (fun h => e h.symm)]
      exact far ((h.row i hi').wide (Nat.le_refl _) (by omega))
  · rw [List.length_set] at hj
    rw [vr_set (by omega), vr_set (by omega)]
    by_cases e1 : i = k
    · rw [if_pos e1, if_neg (by omega)]
      exact apart_gt (within_R hu) (h.row j hj).within hB
    · rw [if_neg e1]
      by_cases e2 : j = k
      · rw [if_pos e2]
        exact apart_lt (h.row i (by omega)).within (within_R hu) hB
      · rw [if_neg e2]
        exact h.apart i j hij hj
theorem grown_set (W : World) (b k : Nat) (v : Value) : W.grownBy (W.setCell ⟨b, k, none⟩ v) (some b) :=
  ⟨rfl, rfl, rfl, by simp, fun i hi hne => Below.heap_setCell W ⟨b, k, none⟩ v i (fun e => hne (by rw [e]))⟩
set_option maxHeartbeats 4000000 in
theorem impl_change (l : List Int) (ch cl d : Int) (bo gs cap lo : Nat) (w : World) (hB : w.cell? ⟨bo, 0, none⟩ = some (.slice (some ⟨gs, 0, none⟩) l.length cap)) (hbl : bo < w.heap.size) (hne : ¬ bo = gs)
    (HO : Kd.R (Kd.int .i64) 3 w lo (fun _ => True) (.slice (some ⟨gs, 0, none⟩) l.length cap) l) (c0 : 0 ≤ ch) (c1 : ch ≤ 1000) (k0 : 0 ≤ cl) (k1 : cl ≤ 1) (hk : 2 * ch + cl < (l.length : Int)) (hv : -1000 ≤ ri l (2 * ch + cl) ∧ ri l (2 * ch + cl) ≤ 1000) (d0 : -1 ≤ d) (d1 : d ≤ 1) :
    Calls Tryz.prog 48 #[.int .i64 ch, .int .i64 cl, .int .i64 d, .pointer (some ⟨bo, 0, none⟩)] w fun e w' => e = .returned (.tuple #[]) ∧ Kd.R (Kd.int .i64) 3 w' lo (fun _ => True) (.slice (some ⟨gs, 0, none⟩) l.length cap) (chgC l (2 * ch + cl) d) ∧ w.grownBy w' (some gs) := by
  obtain ⟨k, hkk⟩ : ∃ k : Nat, 2 * ch + cl = (k : Int) := ⟨(2 * ch + cl).toNat, by omega⟩
  have H := Lib.hid HO
  obtain ⟨hc, hf⟩ := rowI_cell HO k (by omega)
  have hsz : gs < w.heap.size := World.block_lt_of_cell? w _ hc
  have hkl : k < l.length := by omega
  have kk0 : (0 : Int) ≤ (k : Int) := by omega
  have kk1 : (k : Int) < (l.length : Int) := by omega
  have HE : Hid (chgC l (2 * ch + cl) d = if ri l (k : Int) = -1 then l else l.set k (ri l (k : Int) + d)) := Lib.hid (by unfold chgC; rw [hkk, Int.toNat_natCast])
  rw [hkk] at hv
  obtain ⟨x, hx⟩ : ∃ x, ri l (k : Int) = x := ⟨_, rfl⟩
  rw [hx] at hc hv HE
  clear HO hx hk
  by_cases h1 : x = -1
  · have HE1 : Hid (chgC l (2 * ch + cl) d = l) := Lib.hid (by rw [HE.out, if_pos h1])
    subst h1
    clear hv HE
    go_enter Tryz.func48, Tryz.ntmps48
    go_wp2
    exact bodyPost_end (v := .tuple #[]) (by simp [results, Tryz.results48, go_sem]) rfl ⟨rfl, by rw [HE1.out]; exact H.out, ⟨rfl, rfl, rfl, Nat.le_refl _, fun _ _ _ => rfl⟩⟩
  · have HE1 : Hid (chgC l (2 * ch + cl) d = l.set k (x + d)) := Lib.hid (by rw [HE.out, if_neg h1])
    have e1 : (x != -1) = true := by simp [h1]
    clear HE
    go_enter Tryz.func48, Tryz.ntmps48
    go_wp2
    exact bodyPost_end (v := .tuple #[]) (by simp [results, Tryz.results48, go_sem]) rfl ⟨rfl, by rw [HE1.out]; exact rowI_set H.out k (x + d), grown_set w gs k _⟩
end Go.Proofs.YtmkbmddgkdoaiaaGreat
