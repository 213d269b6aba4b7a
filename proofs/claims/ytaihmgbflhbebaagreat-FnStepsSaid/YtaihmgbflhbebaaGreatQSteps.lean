/- The law FnExactSteps answers true for all arguments, and leaves each as it was. No conditions. -/
import Derived.Test.YtaihmgbflhbebaaGreatQ18
import Derived.Test.YtaihmgbflhbebaaGreatQ12
import Derived.Test.YtaihmgbflhbebaaGreatRows
import Derived.WalkKit
import Derived.ProofKit
import Derived.OpenShut
import Derived.ShutString
import Derived.ChangeOld
import Derived.Below
import Derived.SizedLaws
set_option linter.unusedVariables false
set_option linter.unusedSimpArgs false
namespace Go.Proofs.YtaihmgbflhbebaaGreat
open Go.RowKit Go.Proofs.YtaihmgbflhbebaaGreatW.PrintWords
open NoC
set_option maxRecDepth 100000 in
set_option maxHeartbeats 16000000 in
theorem law_Steps (A : Option Addr) (N c : Nat) (w : World) (HXB : Byt w A N) : Calls Tryz.prog 6 #[.slice A N c] w fun e w' => e = .returned (.bool true) ∧ Below w.heap.size w w' := by
 go_enter Tryz.func6, Tryz.ntmps6
 by_cases hbig : (1048576 : Int) < (N : Int)
 ·go_wp2_with (go_at_call 10; refine (laws_big _ _ _ _).mono ?_; rintro e w' ⟨rfl, rfl⟩)
  go_ret
  exact ⟨rfl, bel⟩
 go_wp2_with (go_at_call 10; refine (laws_big _ _ _ _).mono ?_; rintro e w' ⟨rfl, rfl⟩)
 refine (spec_DrawNet A N c _ HXB).mono ?_
 rintro e w1 ⟨⟨n, q, rfl, HD, hr⟩, hb1⟩
 have RR0 := Lib.hid hr
 have HWW := Lib.hid hb1
 have HXB1 := Lib.hid (HXB.below hb1)
 have HDN := Lib.hid HD
 obtain ⟨a1, a2, a3, a4, a5, a6, a7, a8, c1, c2, c3, c4, c5, c6, c7, c8⟩ := q
 clear hr hb1 HD HXB
 dsimp only [netCells]
 obtain ⟨ok, we, t0, t1, hA, g, hm, hg2⟩ := HDN.out.facts
 have HMM := Lib.hid hm
 clear hm
 have HX : Hid (stepNetN n = stepN n) := Lib.hid (by unfold stepNetN; rw [if_pos ok, if_neg (by omega)])
 have HV : Hid (canStepN n = true) := Lib.hid (by unfold canStepN; rw [ok]; simp; omega)
 have okx := step_ok ok (by omega)
 have nbx : NB (stepN n) := by have h := stepNet_nb RR0.out.nb hA; rwa [HX.out] at h
 have KM : Hid (movesN n = movesV n) := Lib.hid (by unfold movesN movesV; rw [if_pos ok])
 have HGG : Hid (allGrantsN n = allGrants n) := Lib.hid (by unfold allGrantsN; rw [if_pos ok])
 have HEE : Hid (Entering_ n = enteringN n) := Lib.hid (by unfold Entering_; rw [if_pos ok])
 have HLL : Hid (movesV n = ((allGrants n).length : Int) + ((enteringN n).length : Int)) := Lib.hid rfl
 have mr := allGrants_len n
 have er : (enteringN n).length ≤ 16 := Nat.le_trans (enterTo_len n n.srcs.length) (srcs_len ok).1
 have HTX : Hid ((stepN n).time = n.time + 1) := Lib.hid rfl
 have HOX := Lib.hid okx
 have NBX := Lib.hid nbx
 have HST : Hid (movesV n = 0 → stepN n = { n with time := n.time + 1 }) := Lib.hid (fun h => step_none h)
 obtain ⟨gs, hgs⟩ : ∃ z, allGrants n = z := ⟨_, rfl⟩
 obtain ⟨es, hes⟩ : ∃ z, enteringN n = z := ⟨_, rfl⟩
 rw [hgs] at HGG HLL mr
 rw [hes] at HEE HLL er
 obtain ⟨mv, hmv⟩ : ∃ z, movesV n = z := ⟨_, rfl⟩
 rw [hmv] at KM HLL HST
 obtain ⟨X, hX⟩ : ∃ z, stepN n = z := ⟨_, rfl⟩
 rw [hX] at HX HTX HOX NBX HST
 have mv0 : 0 ≤ mv := by have := HLL.out; omega
 have mv1 : mv ≤ 96 := by have := HLL.out; omega
 clear hX hgs hes hmv hA okx nbx we ok hg2
 by_cases hz : mv = 0
 ·have hs := HST.out hz
  subst hs
  have hbx : Below w1.heap.size w1 (w1.alloc (.cells #[.int .i64 n.mesh.g.w, .int .i64 n.mesh.g.h, .slice a1 n.mesh.br.length c1, .slice a2 n.pa.length c2, .slice a3 n.pb.length c3, .slice a4 n.bufs.length c4, .slice a5 n.owners.length c5, .slice a6 n.turns.length c6, .slice a7 n.srcs.length c7, .slice a8 n.arrs.length c8, .int .i64 n.time] 35)) := bw_alloc _ (bw_refl w1)
  have BX0 := Lib.hid (show Box (w1.alloc (.cells #[.int .i64 n.mesh.g.w, .int .i64 n.mesh.g.h, .slice a1 n.mesh.br.length c1, .slice a2 n.pa.length c2, .slice a3 n.pb.length c3, .slice a4 n.bufs.length c4, .slice a5 n.owners.length c5, .slice a6 n.turns.length c6, .slice a7 n.srcs.length c7, .slice a8 n.arrs.length c8, .int .i64 n.time] 35)) w1.heap.size #[.int .i64 n.mesh.g.w, .int .i64 n.mesh.g.h, .slice a1 n.mesh.br.length c1, .slice a2 n.pa.length c2, .slice a3 n.pb.length c3, .slice a4 n.bufs.length c4, .slice a5 n.owners.length c5, .slice a6 n.turns.length c6, .slice a7 n.srcs.length c7, .slice a8 n.arrs.length c8, .int .i64 n.time] from Box.new w1 _ _ _ rfl)
  obtain ⟨y0, g0⟩ := BX0.out
  replace RR0 := Lib.hid (RR0.out.below hbx)
  replace HWW := Lib.hid (bw_then HWW.out hbx)
  clear hbx
  have zzw2 : w1.heap.size + 1 ≤ (w1.alloc (.cells #[.int .i64 n.mesh.g.w, .int .i64 n.mesh.g.h, .slice a1 n.mesh.br.length c1, .slice a2 n.pa.length c2, .slice a3 n.pb.length c3, .slice a4 n.bufs.length c4, .slice a5 n.owners.length c5, .slice a6 n.turns.length c6, .slice a7 n.srcs.length c7, .slice a8 n.arrs.length c8, .int .i64 n.time] 35)).heap.size := Nat.le_of_eq (World.size_alloc _ _).symm
  go_wp2_with fail
  generalize w1.alloc (.cells #[.int .i64 n.mesh.g.w, .int .i64 n.mesh.g.h, .slice a1 n.mesh.br.length c1, .slice a2 n.pa.length c2, .slice a3 n.pb.length c3, .slice a4 n.bufs.length c4, .slice a5 n.owners.length c5, .slice a6 n.turns.length c6, .slice a7 n.srcs.length c7, .slice a8 n.arrs.length c8, .int .i64 n.time] 35) = w2 at *
  refine (impl_StepNet n _ _ RR0.out).mono ?_
  rintro e w3 ⟨hg, hbc⟩
  rw [HX.out, HV.out] at hg
  obtain ⟨q9, v4, v7, v8, rfl, HNX⟩ := hg
  obtain ⟨p1, p2, p3, p4, p5, p6, p7, p8, d1, d2, d3, d4, d5, d6, d7, d8⟩ := q9
  dsimp only [netCells]
  have zzw3 := bw_size hbc
  replace RR0 := Lib.hid (RR0.out.below hbc)
  replace BX0 := Lib.hid (Box.below BX0.out hbc)
  clear y0 g0
  obtain ⟨y0, g0⟩ := BX0.out
  replace HWW := Lib.hid (bw_then HWW.out hbc)
  clear hbc
  have RR1 := Lib.hid (HNX.reads NBX.out)
  clear HNX
  have hbx : Below w3.heap.size w3 (w3.alloc (.cells #[.int .i64 n.mesh.g.w, .int .i64 n.mesh.g.h, .slice p1 n.mesh.br.length d1, .slice p2 n.pa.length d2, .slice p3 n.pb.length d3, .slice p4 n.bufs.length d4, .slice p5 n.owners.length d5, .slice p6 n.turns.length d6, .slice p7 n.srcs.length d7, .slice p8 n.arrs.length d8, .int .i64 (n.time + 1)] 35)) := bw_alloc _ (bw_refl w3)
  have BX1 := Lib.hid (show Box (w3.alloc (.cells #[.int .i64 n.mesh.g.w, .int .i64 n.mesh.g.h, .slice p1 n.mesh.br.length d1, .slice p2 n.pa.length d2, .slice p3 n.pb.length d3, .slice p4 n.bufs.length d4, .slice p5 n.owners.length d5, .slice p6 n.turns.length d6, .slice p7 n.srcs.length d7, .slice p8 n.arrs.length d8, .int .i64 (n.time + 1)] 35)) w3.heap.size #[.int .i64 n.mesh.g.w, .int .i64 n.mesh.g.h, .slice p1 n.mesh.br.length d1, .slice p2 n.pa.length d2, .slice p3 n.pb.length d3, .slice p4 n.bufs.length d4, .slice p5 n.owners.length d5, .slice p6 n.turns.length d6, .slice p7 n.srcs.length d7, .slice p8 n.arrs.length d8, .int .i64 (n.time + 1)] from Box.new w3 _ _ _ rfl)
  obtain ⟨y1, g1⟩ := BX1.out
  replace RR0 := Lib.hid (RR0.out.below hbx)
  replace BX0 := Lib.hid (Box.below BX0.out hbx)
  clear y0 g0
  obtain ⟨y0, g0⟩ := BX0.out
  replace RR1 := Lib.hid (RR1.out.below hbx)
  replace HWW := Lib.hid (bw_then HWW.out hbx)
  clear hbx
  have zzw4 : w3.heap.size + 1 ≤ (w3.alloc (.cells #[.int .i64 n.mesh.g.w, .int .i64 n.mesh.g.h, .slice p1 n.mesh.br.length d1, .slice p2 n.pa.length d2, .slice p3 n.pb.length d3, .slice p4 n.bufs.length d4, .slice p5 n.owners.length d5, .slice p6 n.turns.length d6, .slice p7 n.srcs.length d7, .slice p8 n.arrs.length d8, .int .i64 (n.time + 1)] 35)).heap.size := Nat.le_of_eq (World.size_alloc _ _).symm
  go_wp2_with fail
  generalize w3.alloc (.cells #[.int .i64 n.mesh.g.w, .int .i64 n.mesh.g.h, .slice p1 n.mesh.br.length d1, .slice p2 n.pa.length d2, .slice p3 n.pb.length d3, .slice p4 n.bufs.length d4, .slice p5 n.owners.length d5, .slice p6 n.turns.length d6, .slice p7 n.srcs.length d7, .slice p8 n.arrs.length d8, .int .i64 (n.time + 1)] 35) = w4 at *
  refine (impl_MovesIn n _ _ RR0.out).mono ?_
  rintro e w5 ⟨rfl, hbc⟩
  rw [KM.out]
  have zzw5 := bw_size hbc
  replace RR0 := Lib.hid (RR0.out.below hbc)
  replace BX0 := Lib.hid (Box.below BX0.out hbc)
  clear y0 g0
  obtain ⟨y0, g0⟩ := BX0.out
  replace RR1 := Lib.hid (RR1.out.below hbc)
  replace BX1 := Lib.hid (Box.below BX1.out hbc)
  clear y1 g1
  obtain ⟨y1, g1⟩ := BX1.out
  replace HWW := Lib.hid (bw_then HWW.out hbc)
  clear hbc
  have xt : (n.time + 1) = n.time + 1 := rfl
  go_wp2_with fail
  clear y0 g0
  clear y1 g1
  have box11 : Box w5 w1.heap.size #[.int .i64 n.mesh.g.w, .int .i64 n.mesh.g.h, .slice a1 n.mesh.br.length c1, .slice a2 n.pa.length c2, .slice a3 n.pb.length c3, .slice a4 n.bufs.length c4, .slice a5 n.owners.length c5, .slice a6 n.turns.length c6, .slice a7 n.srcs.length c7, .slice a8 n.arrs.length c8, .int .i64 n.time] := BX0.out
  obtain ⟨x0_0, x0_1, x0_2, x0_3, x0_4, x0_5, x0_6, x0_7, x0_8, x0_9, x0_10⟩ := all11 box11
  clear box11
  have xl0 := BX0.out.lt
  have box11 : Box w5 w3.heap.size #[.int .i64 n.mesh.g.w, .int .i64 n.mesh.g.h, .slice p1 n.mesh.br.length d1, .slice p2 n.pa.length d2, .slice p3 n.pb.length d3, .slice p4 n.bufs.length d4, .slice p5 n.owners.length d5, .slice p6 n.turns.length d6, .slice p7 n.srcs.length d7, .slice p8 n.arrs.length d8, .int .i64 (n.time + 1)] := BX1.out
  obtain ⟨x1_0, x1_1, x1_2, x1_3, x1_4, x1_5, x1_6, x1_7, x1_8, x1_9, x1_10⟩ := all11 box11
  clear box11
  have xl1 := BX1.out.lt
  have e1 : ((n.time + 1 : Int) != n.time + 1) = false := by first | (rw [xt]; simp) | simp
  have e2 : (mv != ((gs.length : Nat) : Int) + ((es.length : Nat) : Int)) = false := by rw [HLL.out]; simp
  have hlw := HLL.out
  have wr1 : IntKind.i64.wrap (n.time + 1) = n.time + 1 := IntWalk.i64_in _ (by omega)
  have wr2 : IntKind.i64.wrap (((gs.length : Nat) : Int) + ((es.length : Nat) : Int)) = ((gs.length : Nat) : Int) + ((es.length : Nat) : Int) := IntWalk.i64_in _ (by omega)
  clear xt
  go_region_held3 (fun w' => Below (w5).heap.size (w5) w' ∧ ∀ bq oq, bq < (w5).heap.size → w'.cell? ⟨bq, oq, none⟩ = (w5).cell? ⟨bq, oq, none⟩) (first | exact far_of bel) ( first | (go_at_call 21; refine (impl_NetOk { n with time := n.time + 1 } _ _ (RR1.out.below bel)).mono ?_; rintro e wv ⟨he, hb1⟩; rw [HOX.out] at he; subst he; obtain ⟨hc1, hf1, hz1⟩ := bcell hb1; (try simp only [szs] at hz1); have hb2 := far2; obtain ⟨hc2, hf2, hz2⟩ := bcell hb2; (try simp only [szs] at hz2); try (first | obtain ⟨hy1, hy2, hy3, hy4⟩ := lts4 hz2 | obtain ⟨hy1, hy2, hy3⟩ := lts3 hz2 | obtain ⟨hy1, hy2⟩ := lts2 hz2 | have hy1 := lts1 hz2); have hb9 := hb1) | (go_at_call 13; refine (impl_AllGrants n _ _ (RR0.out.below bel)).mono ?_; rintro e wv ⟨hg1, hb1⟩; rw [HGG.out] at hg1; obtain ⟨A1, d1, rfl, hk1, hC1⟩ := hg1.read; obtain ⟨hc1, hf1, hz1⟩ := bcell hb1; (try simp only [szs] at hz1); have hb2 := far2; obtain ⟨hc2, hf2, hz2⟩ := bcell hb2; (try simp only [szs] at hz2); try (first | obtain ⟨hy1, hy2, hy3, hy4⟩ := lts4 hz2 | obtain ⟨hy1, hy2, hy3⟩ := lts3 hz2 | obtain ⟨hy1, hy2⟩ := lts2 hz2 | have hy1 := lts1 hz2); have hb9 := hb1) | (go_at_call 22; refine (impl_Entering n _ _ (RR0.out.below bel)).mono ?_; rintro e wv ⟨hg1, hb1⟩; rw [HEE.out] at hg1; obtain ⟨A1, d1, rfl, hk1, hC1⟩ := hg1.read; obtain ⟨hc1, hf1, hz1⟩ := bcell hb1; (try simp only [szs] at hz1); have hb2 := far2; obtain ⟨hc2, hf2, hz2⟩ := bcell hb2; (try simp only [szs] at hz2); try (first | obtain ⟨hy1, hy2, hy3, hy4⟩ := lts4 hz2 | obtain ⟨hy1, hy2, hy3⟩ := lts3 hz2 | obtain ⟨hy1, hy2⟩ := lts2 hz2 | have hy1 := lts1 hz2); have hb9 := hb1))
  have hbc : Below w5.heap.size w5 wv := bw_then (bw_drew (bw_refl _)) hb2
  repeat (first | clear hc1 | clear hf1 | clear hz1 | clear hb1 | clear hb9 | clear hc2 | clear hf2 | clear hz2 | clear hb2 | clear hg1 | clear hC1 | clear hk1)
  clear x0_0 x0_1 x0_2 x0_3 x0_4 x0_5 x0_6 x0_7 x0_8 x0_9 x0_10 xl0
  clear x1_0 x1_1 x1_2 x1_3 x1_4 x1_5 x1_6 x1_7 x1_8 x1_9 x1_10 xl1
  obtain ⟨y0, g0⟩ := BX0.out
  obtain ⟨y1, g1⟩ := BX1.out
  have zzwv := bw_size hbc
  replace RR0 := Lib.hid (RR0.out.below hbc)
  replace BX0 := Lib.hid (Box.below BX0.out hbc)
  clear y0 g0
  obtain ⟨y0, g0⟩ := BX0.out
  replace RR1 := Lib.hid (RR1.out.below hbc)
  replace BX1 := Lib.hid (Box.below BX1.out hbc)
  clear y1 g1
  obtain ⟨y1, g1⟩ := BX1.out
  replace HWW := Lib.hid (bw_then HWW.out hbc)
  clear hbc
  have hpos : ¬ 0 < ((gs.length : Nat) : Int) + ((es.length : Nat) : Int) := by omega
  go_wp2_with fail
  refine (impl_SameNet n _ _ _ (RR0.out.below (bw_alloc _ (bw_refl _))) ((NetR.time RR1.out).below (bw_alloc _ (bw_refl _)))).mono ?_
  rintro e w9 ⟨rfl, hb9⟩
  go_wp2
  go_ret
  exact ⟨rfl, bw_then (bw_then HWW.out (bw_alloc _ (bw_refl _))) hb9⟩
 ·have hbx : Below w1.heap.size w1 (w1.alloc (.cells #[.int .i64 n.mesh.g.w, .int .i64 n.mesh.g.h, .slice a1 n.mesh.br.length c1, .slice a2 n.pa.length c2, .slice a3 n.pb.length c3, .slice a4 n.bufs.length c4, .slice a5 n.owners.length c5, .slice a6 n.turns.length c6, .slice a7 n.srcs.length c7, .slice a8 n.arrs.length c8, .int .i64 n.time] 35)) := bw_alloc _ (bw_refl w1)
  have BX0 := Lib.hid (show Box (w1.alloc (.cells #[.int .i64 n.mesh.g.w, .int .i64 n.mesh.g.h, .slice a1 n.mesh.br.length c1, .slice a2 n.pa.length c2, .slice a3 n.pb.length c3, .slice a4 n.bufs.length c4, .slice a5 n.owners.length c5, .slice a6 n.turns.length c6, .slice a7 n.srcs.length c7, .slice a8 n.arrs.length c8, .int .i64 n.time] 35)) w1.heap.size #[.int .i64 n.mesh.g.w, .int .i64 n.mesh.g.h, .slice a1 n.mesh.br.length c1, .slice a2 n.pa.length c2, .slice a3 n.pb.length c3, .slice a4 n.bufs.length c4, .slice a5 n.owners.length c5, .slice a6 n.turns.length c6, .slice a7 n.srcs.length c7, .slice a8 n.arrs.length c8, .int .i64 n.time] from Box.new w1 _ _ _ rfl)
  obtain ⟨y0, g0⟩ := BX0.out
  replace RR0 := Lib.hid (RR0.out.below hbx)
  replace HWW := Lib.hid (bw_then HWW.out hbx)
  clear hbx
  have zzw2 : w1.heap.size + 1 ≤ (w1.alloc (.cells #[.int .i64 n.mesh.g.w, .int .i64 n.mesh.g.h, .slice a1 n.mesh.br.length c1, .slice a2 n.pa.length c2, .slice a3 n.pb.length c3, .slice a4 n.bufs.length c4, .slice a5 n.owners.length c5, .slice a6 n.turns.length c6, .slice a7 n.srcs.length c7, .slice a8 n.arrs.length c8, .int .i64 n.time] 35)).heap.size := Nat.le_of_eq (World.size_alloc _ _).symm
  go_wp2_with fail
  generalize w1.alloc (.cells #[.int .i64 n.mesh.g.w, .int .i64 n.mesh.g.h, .slice a1 n.mesh.br.length c1, .slice a2 n.pa.length c2, .slice a3 n.pb.length c3, .slice a4 n.bufs.length c4, .slice a5 n.owners.length c5, .slice a6 n.turns.length c6, .slice a7 n.srcs.length c7, .slice a8 n.arrs.length c8, .int .i64 n.time] 35) = w2 at *
  refine (impl_StepNet n _ _ RR0.out).mono ?_
  rintro e w3 ⟨hg, hbc⟩
  rw [HX.out, HV.out] at hg
  obtain ⟨q9, v4, v7, v8, rfl, HNX⟩ := hg
  obtain ⟨p1, p2, p3, p4, p5, p6, p7, p8, d1, d2, d3, d4, d5, d6, d7, d8⟩ := q9
  dsimp only [netCells]
  have zzw3 := bw_size hbc
  replace RR0 := Lib.hid (RR0.out.below hbc)
  replace BX0 := Lib.hid (Box.below BX0.out hbc)
  clear y0 g0
  obtain ⟨y0, g0⟩ := BX0.out
  replace HWW := Lib.hid (bw_then HWW.out hbc)
  clear hbc
  have RR1 := Lib.hid (HNX.reads NBX.out)
  clear HNX
  have hbx : Below w3.heap.size w3 (w3.alloc (.cells #[.int .i64 X.mesh.g.w, .int .i64 X.mesh.g.h, .slice p1 X.mesh.br.length d1, .slice p2 X.pa.length d2, .slice p3 X.pb.length d3, .slice p4 X.bufs.length d4, .slice p5 X.owners.length d5, .slice p6 X.turns.length d6, .slice p7 X.srcs.length d7, .slice p8 X.arrs.length d8, .int .i64 X.time] 35)) := bw_alloc _ (bw_refl w3)
  have BX1 := Lib.hid (show Box (w3.alloc (.cells #[.int .i64 X.mesh.g.w, .int .i64 X.mesh.g.h, .slice p1 X.mesh.br.length d1, .slice p2 X.pa.length d2, .slice p3 X.pb.length d3, .slice p4 X.bufs.length d4, .slice p5 X.owners.length d5, .slice p6 X.turns.length d6, .slice p7 X.srcs.length d7, .slice p8 X.arrs.length d8, .int .i64 X.time] 35)) w3.heap.size #[.int .i64 X.mesh.g.w, .int .i64 X.mesh.g.h, .slice p1 X.mesh.br.length d1, .slice p2 X.pa.length d2, .slice p3 X.pb.length d3, .slice p4 X.bufs.length d4, .slice p5 X.owners.length d5, .slice p6 X.turns.length d6, .slice p7 X.srcs.length d7, .slice p8 X.arrs.length d8, .int .i64 X.time] from Box.new w3 _ _ _ rfl)
  obtain ⟨y1, g1⟩ := BX1.out
  replace RR0 := Lib.hid (RR0.out.below hbx)
  replace BX0 := Lib.hid (Box.below BX0.out hbx)
  clear y0 g0
  obtain ⟨y0, g0⟩ := BX0.out
  replace RR1 := Lib.hid (RR1.out.below hbx)
  replace HWW := Lib.hid (bw_then HWW.out hbx)
  clear hbx
  have zzw4 : w3.heap.size + 1 ≤ (w3.alloc (.cells #[.int .i64 X.mesh.g.w, .int .i64 X.mesh.g.h, .slice p1 X.mesh.br.length d1, .slice p2 X.pa.length d2, .slice p3 X.pb.length d3, .slice p4 X.bufs.length d4, .slice p5 X.owners.length d5, .slice p6 X.turns.length d6, .slice p7 X.srcs.length d7, .slice p8 X.arrs.length d8, .int .i64 X.time] 35)).heap.size := Nat.le_of_eq (World.size_alloc _ _).symm
  go_wp2_with fail
  generalize w3.alloc (.cells #[.int .i64 X.mesh.g.w, .int .i64 X.mesh.g.h, .slice p1 X.mesh.br.length d1, .slice p2 X.pa.length d2, .slice p3 X.pb.length d3, .slice p4 X.bufs.length d4, .slice p5 X.owners.length d5, .slice p6 X.turns.length d6, .slice p7 X.srcs.length d7, .slice p8 X.arrs.length d8, .int .i64 X.time] 35) = w4 at *
  refine (impl_MovesIn n _ _ RR0.out).mono ?_
  rintro e w5 ⟨rfl, hbc⟩
  rw [KM.out]
  have zzw5 := bw_size hbc
  replace RR0 := Lib.hid (RR0.out.below hbc)
  replace BX0 := Lib.hid (Box.below BX0.out hbc)
  clear y0 g0
  obtain ⟨y0, g0⟩ := BX0.out
  replace RR1 := Lib.hid (RR1.out.below hbc)
  replace BX1 := Lib.hid (Box.below BX1.out hbc)
  clear y1 g1
  obtain ⟨y1, g1⟩ := BX1.out
  replace HWW := Lib.hid (bw_then HWW.out hbc)
  clear hbc
  have xt : X.time = n.time + 1 := HTX.out
  go_wp2_with fail
  clear y0 g0
  clear y1 g1
  have box11 : Box w5 w1.heap.size #[.int .i64 n.mesh.g.w, .int .i64 n.mesh.g.h, .slice a1 n.mesh.br.length c1, .slice a2 n.pa.length c2, .slice a3 n.pb.length c3, .slice a4 n.bufs.length c4, .slice a5 n.owners.length c5, .slice a6 n.turns.length c6, .slice a7 n.srcs.length c7, .slice a8 n.arrs.length c8, .int .i64 n.time] := BX0.out
  obtain ⟨x0_0, x0_1, x0_2, x0_3, x0_4, x0_5, x0_6, x0_7, x0_8, x0_9, x0_10⟩ := all11 box11
  clear box11
  have xl0 := BX0.out.lt
  have box11 : Box w5 w3.heap.size #[.int .i64 X.mesh.g.w, .int .i64 X.mesh.g.h, .slice p1 X.mesh.br.length d1, .slice p2 X.pa.length d2, .slice p3 X.pb.length d3, .slice p4 X.bufs.length d4, .slice p5 X.owners.length d5, .slice p6 X.turns.length d6, .slice p7 X.srcs.length d7, .slice p8 X.arrs.length d8, .int .i64 X.time] := BX1.out
  obtain ⟨x1_0, x1_1, x1_2, x1_3, x1_4, x1_5, x1_6, x1_7, x1_8, x1_9, x1_10⟩ := all11 box11
  clear box11
  have xl1 := BX1.out.lt
  have e1 : ((X.time : Int) != n.time + 1) = false := by first | (rw [xt]; simp) | simp
  have e2 : (mv != ((gs.length : Nat) : Int) + ((es.length : Nat) : Int)) = false := by rw [HLL.out]; simp
  have hlw := HLL.out
  have wr1 : IntKind.i64.wrap (n.time + 1) = n.time + 1 := IntWalk.i64_in _ (by omega)
  have wr2 : IntKind.i64.wrap (((gs.length : Nat) : Int) + ((es.length : Nat) : Int)) = ((gs.length : Nat) : Int) + ((es.length : Nat) : Int) := IntWalk.i64_in _ (by omega)
  clear xt
  go_region_held3 (fun w' => Below (w5).heap.size (w5) w' ∧ ∀ bq oq, bq < (w5).heap.size → w'.cell? ⟨bq, oq, none⟩ = (w5).cell? ⟨bq, oq, none⟩) (first | exact far_of bel) ( first | (go_at_call 21; refine (impl_NetOk X _ _ (RR1.out.below bel)).mono ?_; rintro e wv ⟨he, hb1⟩; rw [HOX.out] at he; subst he; obtain ⟨hc1, hf1, hz1⟩ := bcell hb1; (try simp only [szs] at hz1); have hb2 := far2; obtain ⟨hc2, hf2, hz2⟩ := bcell hb2; (try simp only [szs] at hz2); try (first | obtain ⟨hy1, hy2, hy3, hy4⟩ := lts4 hz2 | obtain ⟨hy1, hy2, hy3⟩ := lts3 hz2 | obtain ⟨hy1, hy2⟩ := lts2 hz2 | have hy1 := lts1 hz2); have hb9 := hb1) | (go_at_call 13; refine (impl_AllGrants n _ _ (RR0.out.below bel)).mono ?_; rintro e wv ⟨hg1, hb1⟩; rw [HGG.out] at hg1; obtain ⟨A1, d1, rfl, hk1, hC1⟩ := hg1.read; obtain ⟨hc1, hf1, hz1⟩ := bcell hb1; (try simp only [szs] at hz1); have hb2 := far2; obtain ⟨hc2, hf2, hz2⟩ := bcell hb2; (try simp only [szs] at hz2); try (first | obtain ⟨hy1, hy2, hy3, hy4⟩ := lts4 hz2 | obtain ⟨hy1, hy2, hy3⟩ := lts3 hz2 | obtain ⟨hy1, hy2⟩ := lts2 hz2 | have hy1 := lts1 hz2); have hb9 := hb1) | (go_at_call 22; refine (impl_Entering n _ _ (RR0.out.below bel)).mono ?_; rintro e wv ⟨hg1, hb1⟩; rw [HEE.out] at hg1; obtain ⟨A1, d1, rfl, hk1, hC1⟩ := hg1.read; obtain ⟨hc1, hf1, hz1⟩ := bcell hb1; (try simp only [szs] at hz1); have hb2 := far2; obtain ⟨hc2, hf2, hz2⟩ := bcell hb2; (try simp only [szs] at hz2); try (first | obtain ⟨hy1, hy2, hy3, hy4⟩ := lts4 hz2 | obtain ⟨hy1, hy2, hy3⟩ := lts3 hz2 | obtain ⟨hy1, hy2⟩ := lts2 hz2 | have hy1 := lts1 hz2); have hb9 := hb1))
  have hbc : Below w5.heap.size w5 wv := bw_then (bw_drew (bw_refl _)) hb2
  repeat (first | clear hc1 | clear hf1 | clear hz1 | clear hb1 | clear hb9 | clear hc2 | clear hf2 | clear hz2 | clear hb2 | clear hg1 | clear hC1 | clear hk1)
  clear x0_0 x0_1 x0_2 x0_3 x0_4 x0_5 x0_6 x0_7 x0_8 x0_9 x0_10 xl0
  clear x1_0 x1_1 x1_2 x1_3 x1_4 x1_5 x1_6 x1_7 x1_8 x1_9 x1_10 xl1
  obtain ⟨y0, g0⟩ := BX0.out
  obtain ⟨y1, g1⟩ := BX1.out
  have zzwv := bw_size hbc
  replace RR0 := Lib.hid (RR0.out.below hbc)
  replace BX0 := Lib.hid (Box.below BX0.out hbc)
  clear y0 g0
  obtain ⟨y0, g0⟩ := BX0.out
  replace RR1 := Lib.hid (RR1.out.below hbc)
  replace BX1 := Lib.hid (Box.below BX1.out hbc)
  clear y1 g1
  obtain ⟨y1, g1⟩ := BX1.out
  replace HWW := Lib.hid (bw_then HWW.out hbc)
  clear hbc
  have hpos : 0 < ((gs.length : Nat) : Int) + ((es.length : Nat) : Int) := by omega
  go_wp2_with fail
  go_ret
  exact ⟨rfl, bw_then HWW.out (bw_alloc _ (bw_refl _))⟩
end Go.Proofs.YtaihmgbflhbebaaGreat
namespace Go.Proofs.YtaihmgbflhbebaaGreat
open Go.ChangeShapes Go.WideShapes Go.ChangeAt Go.RowKit Go.Proofs.YtaihmgbflhbebaaGreatW.PrintWords
open NoC
set_option linter.unusedVariables false
theorem own : ownKnob Tryz.prog.godebug = none := by kernel_rfl
theorem laidOut : laidOutB Tryz.prog = true := by kernel_rfl
theorem arr_of {cs : Array Value} {l : List Value} (h : cs.toList = l) : cs = l.toArray := by rw [← h]
set_option maxHeartbeats 1000000 in
set_option maxRecDepth 100000 in
theorem lifted_Steps (os : Os) (started : os.Started) (H : Type) (enc : TypeId × Value → H) :
    ReturnsInHanded {} Tryz.checked os 6 .any (Rows.fnStepsSpec.pre6 enc Tryz.prog Tryz.f6 Rows.fnStepsRow.domain false) (Rows.fnStepsSpec.post enc Tryz.prog Tryz.f6 false true false false) := by
  refine returnsInHanded_of_change_sized (C := Tryz.checked) own started (by kernel_rfl) Tryz.func6
    (ChangeSpec.witness6 (enc := enc) (C := Tryz.checked) false ⟨#[], #[.slice none 0 0], []⟩ 8 (by kernel_rfl) (by kernel_rfl) (by kernel_rfl) (by kernel_rfl)) ?_
  intro W base args ds gs before hval0 hW hcnd hsz0 _
  have hsz : (DataW.weightsEach Tryz.prog (Tryz.f6.params.toList ++ Rows.fnStepsSpec.plain.varTypes Tryz.prog) (ds ++ gs)).all (· ≤ reachBytes) = true := hsz0
  have hval : ∀ (j : Nat) t v, Tryz.f6.params[j]? = some t → args[j]? = some v → Value.okWide Tryz.prog W .any base t v := hval0
  have hW' := hW
  obtain ⟨p, q, hA0, hV, rfl, hfz, hnd⟩ := hW
  have hA : DataW.TrodAll enc Tryz.prog W 0 (fun _ => true) true Tryz.f6.params.toList args.toList ds p := hA0
  rw [Tryz.params6] at hA hval hsz
  obtain ⟨v0, vs0, d0, ds0, p0, q0, hargs, rfl, rfl, h0, r0⟩ := trodAll_cons hA
  obtain ⟨rfl, rfl, rfl⟩ := trodAll_nil r0
  obtain rfl : args = #[v0] := by cases args; simp_all
  obtain ⟨rfl, rfl⟩ := trodVars_none hV
  obtain ⟨c0, n0, o0, rfl⟩ := okWide_slice Tryz.underlying22 (hval 0 _ v0 rfl rfl)
  have k0 := h0
  have lt0 : ∀ x ∈ p0, x.block < W.heap.size := by obtain ⟨m, hm⟩ := k0; exact DataW.trod_lt m _ _ _ hm
  obtain ⟨f0, g0⟩ := h0
  obtain ⟨A0, a0, N0, e0, hl0⟩ := op_bytes g0 (light_arg hsz (j := 0) rfl rfl)
  simp [Value.cells] at e0
  obtain ⟨rfl, rfl, rfl⟩ := e0
  clear hA0 hval0 hsz0 hsz
  refine (law_Steps c0 n0 o0 W hl0).mono fun e W' ⟨he, bel⟩ => ?_
  subst he
  exact ⟨_, rfl, _, _, _, [], _, [], hW', trodAll_mk1 (shut_bool Tryz.underlying4 _), (trodAll_cons_mk (Below.trod laidOut (by kernel_rfl) (of_decide_eq_true (by kernel_rfl)) k0 bel lt0) trodAll_mk0), rfl, bel.frame _, fun h => by cases h⟩
theorem over_Steps : Rows.fnStepsRow.holds Tryz.pinned (OpenSpec.ofChange Rows.fnStepsSpec) :=
  OpenClaim.holds_of_wide 6 Tryz.f6 rfl rfl rfl rfl rfl rfl rfl ⟨rfl, rfl, rfl, rfl, rfl⟩ rfl rfl rfl rfl rfl (by kernel_rfl) Tryz.func6 (by kernel_rfl)
    (of_decide_eq_true (by kernel_rfl)) (by unfold Func.isWrapper; first | (rw [if_pos (by decide +kernel)]; kernel_rfl) | (rw [if_neg (by decide +kernel)]; exact ⟨rfl, rfl⟩))
    (fun os started H enc _ => lifted_Steps os started H enc)
theorem fnSteps_holds : Rows.FnStepsSaid := over_Steps
#print axioms fnSteps_holds
end Go.Proofs.YtaihmgbflhbebaaGreat
