/- The law FnExactStuck answers true for all arguments, and leaves each as it was. No conditions. -/
import Derived.Test.YtaihmgbflhbebaaGreatU17
import Derived.Test.YtaihmgbflhbebaaGreatU18
import Derived.Test.YtaihmgbflhbebaaGreatU11
import Derived.Test.YtaihmgbflhbebaaGreatRows
import Derived.Test.YtaihmgbflhbebaaGreatU19
import Derived.WalkKit
import Derived.ProofKit
import Derived.OpenShut
import Derived.ShutString
import Derived.ChangeOld
import Derived.Below
import Derived.SizedLaws
set_option linter.unusedVariables false
set_option linter.unusedSimpArgs false
namespace Go.Proofs.YtaihmgbflhbebaaGreat
open Go.RowKit Go.Proofs.YtaihmgbflhbebaaGreatW.PrintWords
open NoC
theorem DrR.facts {n : Net} (h : DrR n) : netOk n = true ∧ WE n ∧ 0 ≤ n.time ∧ n.time ≤ 11 ∧ (∀ x ∈ n.arrs, x.length ≤ 1048576) := by
  obtain ⟨x, k, hx, hk, rfl⟩ := h
  have F := RG.facts 4 hx (by omega)
  have ht : (runN x k).time = k := by rw [runN_time, F.tm]; omega
  refine ⟨runN_ok F.ok k (by rw [F.tm]; omega), WE_run F.ok F.we k (by rw [F.tm]; omega), by rw [ht]; omega, by rw [ht]; omega, fun y hy => ?_⟩
  obtain ⟨i, hi, rfl⟩ := rl_of_mem hy
  have h1 := run_arrs x i k
  have h2 : (rl x.arrs i).length = 0 := by
    rw [F.ar]
    have : rl (newN ringM (cwL 16) (cwL 16)).arrs i = [] := rl_replicate _ _
    rw [this]; rfl
  omega
set_option maxRecDepth 100000 in
set_option maxHeartbeats 16000000 in
theorem law_Stuck (A : Option Addr) (N c : Nat) (w : World) (HXB : Byt w A N) : Calls Tryz.prog 9 #[.slice A N c] w fun e w' => e = .returned (.bool true) ∧ Below w.heap.size w w' := by
 go_enter Tryz.func9, Tryz.ntmps9
 by_cases hbig : (1048576 : Int) < (N : Int)
 ·go_wp2_with (go_at_call 10; refine (laws_big _ _ _ _).mono ?_; rintro e w' ⟨rfl, rfl⟩)
  go_ret
  exact ⟨rfl, bel⟩
 go_wp2_with (go_at_call 10; refine (laws_big _ _ _ _).mono ?_; rintro e w' ⟨rfl, rfl⟩)
 refine (spec_DrawRing A N c _ HXB).mono ?_
 rintro e w1 ⟨⟨n, q, rfl, HD, hr⟩, hb1⟩
 have RR0 := Lib.hid hr
 have HWW := Lib.hid hb1
 have HXB1 := Lib.hid (HXB.below hb1)
 have HDN := Lib.hid HD
 obtain ⟨a1, a2, a3, a4, a5, a6, a7, a8, c1, c2, c3, c4, c5, c6, c7, c8⟩ := q
 clear hr hb1 HD HXB
 dsimp only [netCells]
 obtain ⟨ok, we, t0, t1, hA⟩ := HDN.out.facts
 have hcan : canRunN n 30 = true := by unfold canRunN; rw [ok, inside_iff.2 ⟨by omega, by omega⟩, decide_eq_true (by omega)]; rfl
 have HC1 := Lib.hid hcan
 have HR1 : Hid (runNetN n 30 = runN n 30) := Lib.hid (by unfold runNetN; rw [if_pos hcan]; rfl)
 have okx := runN_ok ok 30 (by omega)
 have wex := WE_run ok we 30 (by omega)
 have NBX : Hid (NB (runN n 30)) := Lib.hid (run_nb RR0.out.nb hA 30 (by omega) okx)
 have HSA : Hid (stuckAfterN n 30 = stuckN (runN n 30)) := Lib.hid (by unfold stuckAfterN; rw [hcan, Bool.true_and]; rfl)
 have HIS : Hid (isStuckN (runN n 30) = stuckN (runN n 30)) := Lib.hid (by unfold isStuckN; rw [okx, Bool.true_and])
 have HWL : Hid (waitsN (runN n 30) = waitsTo (runN n 30) (runN n 30).bufs.length) := Lib.hid (by unfold waitsN; rw [if_pos okx])
 have HLONG : Hid (stuckN (runN n 30) = true → 1 < (wcL (waitsTo (runN n 30) (runN n 30).bufs.length)).length) := Lib.hid (fun h => (stuck_wl okx wex h).long)
 have HLT : Hid (∀ j : Nat, j + 1 < (waitsTo (runN n 30) (runN n 30).bufs.length).length → (rw_ (waitsTo (runN n 30) (runN n 30).bufs.length) (j : Int)).a < (rw_ (waitsTo (runN n 30) (runN n 30).bufs.length) ((j + 1 : Nat) : Int)).a) := Lib.hid (fun j hj => waits_lt (Nat.lt_succ_self j) hj)
 have hwl : (waitsTo (runN n 30) (runN n 30).bufs.length).length ≤ 160 := Nat.le_trans (waitsTo_len _ _) (bufs_len okx)
 have HRNG : Hid (∀ j : Nat, j < (waitsTo (runN n 30) (runN n 30).bufs.length).length → 0 ≤ (rw_ (waitsTo (runN n 30) (runN n 30).bufs.length) (j : Int)).a) := Lib.hid (fun j hj => by
  rw [rw_get _ j hj]
  obtain ⟨b, _, _, e⟩ := waits_mem (List.getElem_mem hj)
  rw [e]
  show (0 : Int) ≤ (b : Int)
  omega)
 have HNA := Lib.hid hA
 obtain ⟨X, hX⟩ : ∃ z, runN n 30 = z := ⟨_, rfl⟩
 rw [hX] at HR1 NBX HSA HIS HWL HLONG HLT hwl HRNG
 obtain ⟨l, hl⟩ : ∃ z, waitsTo X X.bufs.length = z := ⟨_, rfl⟩
 rw [hl] at HWL HLONG HLT hwl HRNG
 obtain ⟨st, hst⟩ : ∃ z, stuckN X = z := ⟨_, rfl⟩
 rw [hst] at HSA HIS HLONG
 clear hX hl hst hA hcan okx wex we ok
 have hbx : Below w1.heap.size w1 (w1.alloc (.cells #[.int .i64 n.mesh.g.w, .int .i64 n.mesh.g.h, .slice a1 n.mesh.br.length c1, .slice a2 n.pa.length c2, .slice a3 n.pb.length c3, .slice a4 n.bufs.length c4, .slice a5 n.owners.length c5, .slice a6 n.turns.length c6, .slice a7 n.srcs.length c7, .slice a8 n.arrs.length c8, .int .i64 n.time] 35)) := bw_alloc _ (bw_refl w1)
 have BX0 := Lib.hid (show Box (w1.alloc (.cells #[.int .i64 n.mesh.g.w, .int .i64 n.mesh.g.h, .slice a1 n.mesh.br.length c1, .slice a2 n.pa.length c2, .slice a3 n.pb.length c3, .slice a4 n.bufs.length c4, .slice a5 n.owners.length c5, .slice a6 n.turns.length c6, .slice a7 n.srcs.length c7, .slice a8 n.arrs.length c8, .int .i64 n.time] 35)) w1.heap.size #[.int .i64 n.mesh.g.w, .int .i64 n.mesh.g.h, .slice a1 n.mesh.br.length c1, .slice a2 n.pa.length c2, .slice a3 n.pb.length c3, .slice a4 n.bufs.length c4, .slice a5 n.owners.length c5, .slice a6 n.turns.length c6, .slice a7 n.srcs.length c7, .slice a8 n.arrs.length c8, .int .i64 n.time] from Box.new w1 _ _ _ rfl)
 obtain ⟨y0, g0⟩ := BX0.out
 replace RR0 := Lib.hid (RR0.out.below hbx)
 replace HWW := Lib.hid (bw_then HWW.out hbx)
 clear hbx
 have zzw2 : w1.heap.size + 1 ≤ (w1.alloc (.cells #[.int .i64 n.mesh.g.w, .int .i64 n.mesh.g.h, .slice a1 n.mesh.br.length c1, .slice a2 n.pa.length c2, .slice a3 n.pb.length c3, .slice a4 n.bufs.length c4, .slice a5 n.owners.length c5, .slice a6 n.turns.length c6, .slice a7 n.srcs.length c7, .slice a8 n.arrs.length c8, .int .i64 n.time] 35)).heap.size := Nat.le_of_eq (World.size_alloc _ _).symm
 go_wp2_with fail
 generalize w1.alloc (.cells #[.int .i64 n.mesh.g.w, .int .i64 n.mesh.g.h, .slice a1 n.mesh.br.length c1, .slice a2 n.pa.length c2, .slice a3 n.pb.length c3, .slice a4 n.bufs.length c4, .slice a5 n.owners.length c5, .slice a6 n.turns.length c6, .slice a7 n.srcs.length c7, .slice a8 n.arrs.length c8, .int .i64 n.time] 35) = w2 at *
 refine (impl_RunNet n 30 _ _ RR0.out HNA.out).mono ?_
 rintro e w3 ⟨hg, hbc⟩
 rw [HR1.out, HC1.out] at hg
 obtain ⟨q9, v4, v7, v8, rfl, HNX⟩ := hg
 obtain ⟨p1, p2, p3, p4, p5, p6, p7, p8, d1, d2, d3, d4, d5, d6, d7, d8⟩ := q9
 dsimp only [netCells]
 have zzw3 := bw_size hbc
 replace RR0 := Lib.hid (RR0.out.below hbc)
 replace BX0 := Lib.hid (Box.below BX0.out hbc)
 clear y0 g0
 obtain ⟨y0, g0⟩ := BX0.out
 replace HWW := Lib.hid (bw_then HWW.out hbc)
 clear hbc
 have RR1 := Lib.hid (HNX.reads NBX.out)
 clear HNX
 have hbx : Below w3.heap.size w3 (w3.alloc (.cells #[.int .i64 X.mesh.g.w, .int .i64 X.mesh.g.h, .slice p1 X.mesh.br.length d1, .slice p2 X.pa.length d2, .slice p3 X.pb.length d3, .slice p4 X.bufs.length d4, .slice p5 X.owners.length d5, .slice p6 X.turns.length d6, .slice p7 X.srcs.length d7, .slice p8 X.arrs.length d8, .int .i64 X.time] 35)) := bw_alloc _ (bw_refl w3)
 have BX1 := Lib.hid (show Box (w3.alloc (.cells #[.int .i64 X.mesh.g.w, .int .i64 X.mesh.g.h, .slice p1 X.mesh.br.length d1, .slice p2 X.pa.length d2, .slice p3 X.pb.length d3, .slice p4 X.bufs.length d4, .slice p5 X.owners.length d5, .slice p6 X.turns.length d6, .slice p7 X.srcs.length d7, .slice p8 X.arrs.length d8, .int .i64 X.time] 35)) w3.heap.size #[.int .i64 X.mesh.g.w, .int .i64 X.mesh.g.h, .slice p1 X.mesh.br.length d1, .slice p2 X.pa.length d2, .slice p3 X.pb.length d3, .slice p4 X.bufs.length d4, .slice p5 X.owners.length d5, .slice p6 X.turns.length d6, .slice p7 X.srcs.length d7, .slice p8 X.arrs.length d8, .int .i64 X.time] from Box.new w3 _ _ _ rfl)
 obtain ⟨y1, g1⟩ := BX1.out
 replace RR0 := Lib.hid (RR0.out.below hbx)
 replace BX0 := Lib.hid (Box.below BX0.out hbx)
 clear y0 g0
 obtain ⟨y0, g0⟩ := BX0.out
 replace RR1 := Lib.hid (RR1.out.below hbx)
 replace HWW := Lib.hid (bw_then HWW.out hbx)
 clear hbx
 have zzw4 : w3.heap.size + 1 ≤ (w3.alloc (.cells #[.int .i64 X.mesh.g.w, .int .i64 X.mesh.g.h, .slice p1 X.mesh.br.length d1, .slice p2 X.pa.length d2, .slice p3 X.pb.length d3, .slice p4 X.bufs.length d4, .slice p5 X.owners.length d5, .slice p6 X.turns.length d6, .slice p7 X.srcs.length d7, .slice p8 X.arrs.length d8, .int .i64 X.time] 35)).heap.size := Nat.le_of_eq (World.size_alloc _ _).symm
 go_wp2_with fail
 generalize w3.alloc (.cells #[.int .i64 X.mesh.g.w, .int .i64 X.mesh.g.h, .slice p1 X.mesh.br.length d1, .slice p2 X.pa.length d2, .slice p3 X.pb.length d3, .slice p4 X.bufs.length d4, .slice p5 X.owners.length d5, .slice p6 X.turns.length d6, .slice p7 X.srcs.length d7, .slice p8 X.arrs.length d8, .int .i64 X.time] 35) = w4 at *
 refine (impl_WaitsOf X _ _ RR1.out).mono ?_
 rintro e w5 ⟨hg, hbc⟩
 rw [HWL.out] at hg
 obtain ⟨vl, rfl, hOl⟩ := hg
 obtain ⟨Al, cl, rfl, hkl, hCl⟩ := Kd.R_reads hOl
 have HCL := Lib.hid hCl
 clear hOl hCl
 have zzw5 := bw_size hbc
 replace RR0 := Lib.hid (RR0.out.below hbc)
 replace BX0 := Lib.hid (Box.below BX0.out hbc)
 clear y0 g0
 obtain ⟨y0, g0⟩ := BX0.out
 replace RR1 := Lib.hid (RR1.out.below hbc)
 replace BX1 := Lib.hid (Box.below BX1.out hbc)
 clear y1 g1
 obtain ⟨y1, g1⟩ := BX1.out
 replace HWW := Lib.hid (bw_then HWW.out hbc)
 clear hbc
 go_wp2_with fail
 refine (impl_WaitCycle l Al cl _ HCL.out (by omega)).mono ?_
 rintro e w6 ⟨hg, hbc⟩
 obtain ⟨Ac, cc, rfl, hkc, hCc⟩ := hg.read
 clear hg hCc
 have zzw6 := bw_size hbc
 replace RR0 := Lib.hid (RR0.out.below hbc)
 replace BX0 := Lib.hid (Box.below BX0.out hbc)
 clear y0 g0
 obtain ⟨y0, g0⟩ := BX0.out
 replace RR1 := Lib.hid (RR1.out.below hbc)
 replace BX1 := Lib.hid (Box.below BX1.out hbc)
 clear y1 g1
 obtain ⟨y1, g1⟩ := BX1.out
 replace HCL := Lib.hid (Kd.C_below HCL.out hbc)
 replace HWW := Lib.hid (bw_then HWW.out hbc)
 clear hbc
 obtain ⟨cyl, hcyl⟩ : ∃ z, (wcL l).length = z := ⟨_, rfl⟩
 rw [hcyl] at HLONG
 rw [hcyl]
 clear hcyl
 go_wp2_with fail
 go_loopw [8] (fun i wr => ∃ k : Nat, i = .int .i64 ((k : Int) + 1) ∧ k ≤ l.length ∧ Hid (Below w6.heap.size w6 wr)) (fun i _ => l.length - (intOf i).toNat)
 case atStart => exact ⟨0, rfl, Nat.zero_le _, Lib.hid (bw_refl _)⟩
 case round =>
  obtain ⟨k, rfl, hk, HBr⟩ := hrel
  clear y0 g0 y1 g1
  by_cases hlt : k + 1 < l.length
  ·obtain ⟨b1, o1, hAl, hb1, p0, p1⟩ := rdW_at (Kd.C_below HCL.out HBr.out) k (by omega)
   obtain ⟨b2, o2, hAl2, hb2, q0, q1⟩ := rdW_at (Kd.C_below HCL.out HBr.out) (k + 1) hlt
   subst hAl
   have e9 := Option.some.inj hAl2
   injection e9 with e91 e92
   subst e91
   subst e92
   have hlt2 := HLT.out k hlt
   have hr1 := HRNG.out k (by omega)
   have hcast : ((k + 1 : Nat) : Int) = (k : Int) + 1 := by push_cast; rfl
   rw [hcast] at q0 q1 hlt2
   obtain ⟨u, hu⟩ : ∃ z, (rw_ l (k : Int)).a = z := ⟨_, rfl⟩
   obtain ⟨v, hv⟩ : ∃ z, (rw_ l ((k : Int) + 1)).a = z := ⟨_, rfl⟩
   rw [hu] at p0 hlt2 hr1
   rw [hv] at q0 hlt2
   have d1 : ¬ v ≤ u := by omega
   have i0 : (k : Int) + 1 < (l.length : Int) := by omega
   have i1 : (0 : Int) ≤ (k : Int) + 1 := by omega
   have i2 : (k : Int) < (l.length : Int) := by omega
   have wr9 : IntKind.i64.wrap ((k : Int) + 1 - 1) = (k : Int) := by rw [show (k : Int) + 1 - 1 = k by omega]; exact IntWalk.i64_in _ (by omega)
   clear hu hv hcast
   go_wp2
   try (go_quiet (fail); go_wp2)
   go_roundw
   case rel => exact ⟨k + 1, by go_num, by omega, Lib.hid (bw_drewN _ HBr.out)⟩
   case measure => simp [intOf]; omega
  ·have i0 : ¬ (k : Int) + 1 < (l.length : Int) := by omega
   have RX := Lib.hid (RR1.out.below HBr.out)
   have RN := Lib.hid (RR0.out.below HBr.out)
   have BXx := Lib.hid (Box.below BX1.out HBr.out)
   have BXn := Lib.hid (Box.below BX0.out HBr.out)
   go_wp2_with fail
   have box11 : Box wr w3.heap.size #[.int .i64 X.mesh.g.w, .int .i64 X.mesh.g.h, .slice p1 X.mesh.br.length d1, .slice p2 X.pa.length d2, .slice p3 X.pb.length d3, .slice p4 X.bufs.length d4, .slice p5 X.owners.length d5, .slice p6 X.turns.length d6, .slice p7 X.srcs.length d7, .slice p8 X.arrs.length d8, .int .i64 X.time] := BXx.out
   obtain ⟨x1_0, x1_1, x1_2, x1_3, x1_4, x1_5, x1_6, x1_7, x1_8, x1_9, x1_10⟩ := all11 box11
   clear box11
   have box11 : Box wr w1.heap.size #[.int .i64 n.mesh.g.w, .int .i64 n.mesh.g.h, .slice a1 n.mesh.br.length c1, .slice a2 n.pa.length c2, .slice a3 n.pb.length c3, .slice a4 n.bufs.length c4, .slice a5 n.owners.length c5, .slice a6 n.turns.length c6, .slice a7 n.srcs.length c7, .slice a8 n.arrs.length c8, .int .i64 n.time] := BXn.out
   obtain ⟨x0_0, x0_1, x0_2, x0_3, x0_4, x0_5, x0_6, x0_7, x0_8, x0_9, x0_10⟩ := all11 box11
   clear box11
   have xl1 := BXx.out.lt
   have xl0 := BXn.out.lt
   have SA : Hid (∀ W, Below wr.heap.size wr W → Calls Tryz.prog 33 #[.agg #[.int .i64 n.mesh.g.w, .int .i64 n.mesh.g.h, .slice a1 n.mesh.br.length c1, .slice a2 n.pa.length c2, .slice a3 n.pb.length c3, .slice a4 n.bufs.length c4, .slice a5 n.owners.length c5, .slice a6 n.turns.length c6, .slice a7 n.srcs.length c7, .slice a8 n.arrs.length c8, .int .i64 n.time], .int .i64 30] W fun e w' => e = .returned (.bool st) ∧ Below W.heap.size W w') := Lib.hid (fun W h => by have := impl_StuckAfter n 30 _ W (RN.out.below h) HNA.out; rw [HSA.out] at this; exact this)
   have SI : Hid (∀ W, Below wr.heap.size wr W → Calls Tryz.prog 34 #[.agg #[.int .i64 X.mesh.g.w, .int .i64 X.mesh.g.h, .slice p1 X.mesh.br.length d1, .slice p2 X.pa.length d2, .slice p3 X.pb.length d3, .slice p4 X.bufs.length d4, .slice p5 X.owners.length d5, .slice p6 X.turns.length d6, .slice p7 X.srcs.length d7, .slice p8 X.arrs.length d8, .int .i64 X.time]] W fun e w' => e = .returned (.bool st) ∧ Below W.heap.size W w') := Lib.hid (fun W h => by have := impl_IsStuck X _ W (RX.out.below h); rw [HIS.out] at this; exact this)
   clear RX RN
   cases st
   ·skip
    refine wp_region_far (wr) (by kernel_rfl) (by kernel_rfl) bel ?_
    have hqc := far_cell (wr)
    have hqf := far_frozen (wr)
    repeat (first | go_big_quiet_step ((first | (go_at_call 33; exact far_call (SA.out _ (Far.h _))) | (go_at_call 34; exact far_call (SI.out _ (Far.h _))))) | quiet_step ((first | (go_at_call 33; exact far_call (SA.out _ (Far.h _))) | (go_at_call 34; exact far_call (SI.out _ (Far.h _))))))
    refine wpQuiet_nil ?_
    intro wq hbq
    clear hqc hqf
    obtain ⟨hcq, hfq, hzq⟩ := bcell hbq
    try simp only [szs] at hzq
    go_wp2
    go_ret
    exact ⟨by first | rfl | simp, bw_then (bw_then HWW.out HBr.out) hbq⟩
   ·have hlg := HLONG.out rfl
    have hlgi : (1 : Int) < (cyl : Int) := by omega
    refine wp_region_far (wr) (by kernel_rfl) (by kernel_rfl) bel ?_
    have hqc := far_cell (wr)
    have hqf := far_frozen (wr)
    repeat (first | go_big_quiet_step ((first | (go_at_call 33; exact far_call (SA.out _ (Far.h _))) | (go_at_call 34; exact far_call (SI.out _ (Far.h _))))) | quiet_step ((first | (go_at_call 33; exact far_call (SA.out _ (Far.h _))) | (go_at_call 34; exact far_call (SI.out _ (Far.h _))))))
    refine wpQuiet_nil ?_
    intro wq hbq
    clear hqc hqf
    obtain ⟨hcq, hfq, hzq⟩ := bcell hbq
    try simp only [szs] at hzq
    go_wp2
    go_ret
    exact ⟨by first | rfl | simp [hlg, hlgi], bw_then (bw_then HWW.out HBr.out) hbq⟩
end Go.Proofs.YtaihmgbflhbebaaGreat
namespace Go.Proofs.YtaihmgbflhbebaaGreat
open Go.ChangeShapes Go.WideShapes Go.ChangeAt Go.RowKit Go.Proofs.YtaihmgbflhbebaaGreatW.PrintWords
open NoC
set_option linter.unusedVariables false
theorem own : ownKnob Tryz.prog.godebug = none := by kernel_rfl
theorem laidOut : laidOutB Tryz.prog = true := by kernel_rfl
theorem arr_of {cs : Array Value} {l : List Value} (h : cs.toList = l) : cs = l.toArray := by rw [← h]
set_option maxHeartbeats 1000000 in
set_option maxRecDepth 100000 in
theorem lifted_Stuck (os : Os) (started : os.Started) (H : Type) (enc : TypeId × Value → H) :
    ReturnsInHanded {} Tryz.checked os 9 .any (Rows.fnStuckSpec.pre6 enc Tryz.prog Tryz.f9 Rows.fnStuckRow.domain false) (Rows.fnStuckSpec.post enc Tryz.prog Tryz.f9 false true false false) := by
  refine returnsInHanded_of_change_sized (C := Tryz.checked) own started (by kernel_rfl) Tryz.func9
    (ChangeSpec.witness6 (enc := enc) (C := Tryz.checked) false ⟨#[], #[.slice none 0 0], []⟩ 8 (by kernel_rfl) (by kernel_rfl) (by kernel_rfl) (by kernel_rfl)) ?_
  intro W base args ds gs before hval0 hW hcnd hsz0 _
  have hsz : (DataW.weightsEach Tryz.prog (Tryz.f9.params.toList ++ Rows.fnStuckSpec.plain.varTypes Tryz.prog) (ds ++ gs)).all (· ≤ reachBytes) = true := hsz0
  have hval : ∀ (j : Nat) t v, Tryz.f9.params[j]? = some t → args[j]? = some v → Value.okWide Tryz.prog W .any base t v := hval0
  have hW' := hW
  obtain ⟨p, q, hA0, hV, rfl, hfz, hnd⟩ := hW
  have hA : DataW.TrodAll enc Tryz.prog W 0 (fun _ => true) true Tryz.f9.params.toList args.toList ds p := hA0
  rw [Tryz.params9] at hA hval hsz
  obtain ⟨v0, vs0, d0, ds0, p0, q0, hargs, rfl, rfl, h0, r0⟩ := trodAll_cons hA
  obtain ⟨rfl, rfl, rfl⟩ := trodAll_nil r0
  obtain rfl : args = #[v0] := by cases args; simp_all
  obtain ⟨rfl, rfl⟩ := trodVars_none hV
  obtain ⟨c0, n0, o0, rfl⟩ := okWide_slice Tryz.underlying22 (hval 0 _ v0 rfl rfl)
  have k0 := h0
  have lt0 : ∀ x ∈ p0, x.block < W.heap.size := by obtain ⟨m, hm⟩ := k0; exact DataW.trod_lt m _ _ _ hm
  obtain ⟨f0, g0⟩ := h0
  obtain ⟨A0, a0, N0, e0, hl0⟩ := op_bytes g0 (light_arg hsz (j := 0) rfl rfl)
  simp [Value.cells] at e0
  obtain ⟨rfl, rfl, rfl⟩ := e0
  clear hA0 hval0 hsz0 hsz
  refine (law_Stuck c0 n0 o0 W hl0).mono fun e W' ⟨he, bel⟩ => ?_
  subst he
  exact ⟨_, rfl, _, _, _, [], _, [], hW', trodAll_mk1 (shut_bool Tryz.underlying4 _), (trodAll_cons_mk (Below.trod laidOut (by kernel_rfl) (of_decide_eq_true (by kernel_rfl)) k0 bel lt0) trodAll_mk0), rfl, bel.frame _, fun h => by cases h⟩
theorem over_Stuck : Rows.fnStuckRow.holds Tryz.pinned (OpenSpec.ofChange Rows.fnStuckSpec) :=
  OpenClaim.holds_of_wide 9 Tryz.f9 rfl rfl rfl rfl rfl rfl rfl ⟨rfl, rfl, rfl, rfl, rfl⟩ rfl rfl rfl rfl rfl (by kernel_rfl) Tryz.func9 (by kernel_rfl)
    (of_decide_eq_true (by kernel_rfl)) (by unfold Func.isWrapper; first | (rw [if_pos (by decide +kernel)]; kernel_rfl) | (rw [if_neg (by decide +kernel)]; exact ⟨rfl, rfl⟩))
    (fun os started H enc _ => lifted_Stuck os started H enc)
theorem fnStuck_holds : Rows.FnStuckSaid := over_Stuck
#print axioms fnStuck_holds
end Go.Proofs.YtaihmgbflhbebaaGreat
