/- The law FnExactRotation answers true for all arguments, and leaves each as it was. No conditions. -/
import Derived.Test.YtaihmgbflhbebaaGreatQ18
import Derived.Test.YtaihmgbflhbebaaGreatQ17
import Derived.Test.YtaihmgbflhbebaaGreatRows
import Derived.WalkKit
import Derived.ProofKit
import Derived.OpenShut
import Derived.ShutString
import Derived.ChangeOld
import Derived.Below
import Derived.SizedLaws
set_option linter.unusedVariables false
set_option linter.unusedSimpArgs false
namespace Go.Proofs.YtaihmgbflhbebaaGreat
open Go.RowKit Go.Proofs.YtaihmgbflhbebaaGreatW.PrintWords
open NoC
set_option maxRecDepth 100000 in
set_option maxHeartbeats 16000000 in
theorem law_Rotation (A : Option Addr) (N c : Nat) (w : World) (HXB : Byt w A N) : Calls Tryz.prog 3 #[.slice A N c] w fun e w' => e = .returned (.bool true) ∧ Below w.heap.size w w' := by
 go_enter Tryz.func3, Tryz.ntmps3
 by_cases hbig : (1048576 : Int) < (N : Int)
 ·go_wp2_with (go_at_call 10; refine (laws_big _ _ _ _).mono ?_; rintro e w' ⟨rfl, rfl⟩)
  go_ret
  exact ⟨rfl, bel⟩
 go_wp2_with (go_at_call 10; refine (laws_big _ _ _ _).mono ?_; rintro e w' ⟨rfl, rfl⟩)
 refine (spec_DrawNet A N c _ HXB).mono ?_
 rintro e w1 ⟨⟨n, q, rfl, HD, hr⟩, hb1⟩
 have RR0 := Lib.hid hr
 have HWW := Lib.hid hb1
 have HXB1 := Lib.hid (HXB.below hb1)
 have HDN := Lib.hid HD
 obtain ⟨a1, a2, a3, a4, a5, a6, a7, a8, c1, c2, c3, c4, c5, c6, c7, c8⟩ := q
 clear hr hb1 HD HXB
 dsimp only [netCells]
 obtain ⟨ok, we, t0, t1, hA, g, hm, hg2⟩ := HDN.out.facts
 have HMM := Lib.hid hm
 clear hm
 have HX : Hid (stepNetN n = stepN n) := Lib.hid (by unfold stepNetN; rw [if_pos ok, if_neg (by omega)])
 have HV : Hid (canStepN n = true) := Lib.hid (by unfold canStepN; rw [ok]; simp; omega)
 have okx := step_ok ok (by omega)
 have nbx : NB (stepN n) := by have h := stepNet_nb RR0.out.nb hA; rwa [HX.out] at h
 have HGG : Hid (allGrantsN n = allGrants n) := Lib.hid (by unfold allGrantsN; rw [if_pos ok])
 have mr := allGrants_len n
 have L := step_lens n
 have HLB : Hid ((stepN n).bufs.length = n.bufs.length) := Lib.hid L.b
 have HLT : Hid ((stepN n).turns.length = n.turns.length) := Lib.hid L.t
 have HGR : Hid (∀ k : Nat, k < (allGrants n).length → 0 ≤ 5 * (rg (allGrants n) (k : Int)).node + (rg (allGrants n) (k : Int)).port ∧ 5 * (rg (allGrants n) (k : Int)).node + (rg (allGrants n) (k : Int)).port < ((stepN n).turns.length : Int) ∧ ri (stepN n).turns (5 * (rg (allGrants n) (k : Int)).node + (rg (allGrants n) (k : Int)).port) = ((rg (allGrants n) (k : Int)).input + 1) % 10 ∧ 0 ≤ (rg (allGrants n) (k : Int)).input ∧ (rg (allGrants n) (k : Int)).input ≤ 9 ∧ 0 ≤ (rg (allGrants n) (k : Int)).node ∧ (rg (allGrants n) (k : Int)).node ≤ 15 ∧ 0 ≤ (rg (allGrants n) (k : Int)).port ∧ (rg (allGrants n) (k : Int)).port ≤ 4) := Lib.hid (fun k hk => by
  have hm := rg_mem hk
  have one := grants_one hm
  have hx := (one.at ok).idx
  have := one.p0; have := one.p4
  have ht := step_turns ok _ hm
  unfold gTurn at ht
  exact ⟨by omega, by rw [HLT.out]; omega, ht, one.i0, one.i9, hx.1, hx.2.1, one.p0, one.p4⟩)
 have HONE : Hid (∀ k : Nat, ((rl (stepN n).bufs (k : Int)).length : Int) - ((rl n.bufs (k : Int)).length : Int) ≤ 1 ∧ -1 ≤ ((rl (stepN n).bufs (k : Int)).length : Int) - ((rl n.bufs (k : Int)).length : Int)) := Lib.hid (fun k => by
  have := step_one ok (k : Int) (by omega)
  omega)
 have NBX := Lib.hid nbx
 obtain ⟨gs, hgs⟩ : ∃ z, allGrants n = z := ⟨_, rfl⟩
 rw [hgs] at HGG HGR mr
 obtain ⟨X, hX⟩ : ∃ z, stepN n = z := ⟨_, rfl⟩
 rw [hX] at HX NBX HLB HLT HGR HONE
 clear L hX hgs hA okx nbx we ok hg2
 have hbx : Below w1.heap.size w1 (w1.alloc (.cells #[.int .i64 n.mesh.g.w, .int .i64 n.mesh.g.h, .slice a1 n.mesh.br.length c1, .slice a2 n.pa.length c2, .slice a3 n.pb.length c3, .slice a4 n.bufs.length c4, .slice a5 n.owners.length c5, .slice a6 n.turns.length c6, .slice a7 n.srcs.length c7, .slice a8 n.arrs.length c8, .int .i64 n.time] 35)) := bw_alloc _ (bw_refl w1)
 have BX0 := Lib.hid (show Box (w1.alloc (.cells #[.int .i64 n.mesh.g.w, .int .i64 n.mesh.g.h, .slice a1 n.mesh.br.length c1, .slice a2 n.pa.length c2, .slice a3 n.pb.length c3, .slice a4 n.bufs.length c4, .slice a5 n.owners.length c5, .slice a6 n.turns.length c6, .slice a7 n.srcs.length c7, .slice a8 n.arrs.length c8, .int .i64 n.time] 35)) w1.heap.size #[.int .i64 n.mesh.g.w, .int .i64 n.mesh.g.h, .slice a1 n.mesh.br.length c1, .slice a2 n.pa.length c2, .slice a3 n.pb.length c3, .slice a4 n.bufs.length c4, .slice a5 n.owners.length c5, .slice a6 n.turns.length c6, .slice a7 n.srcs.length c7, .slice a8 n.arrs.length c8, .int .i64 n.time] from Box.new w1 _ _ _ rfl)
 obtain ⟨y0, g0⟩ := BX0.out
 replace RR0 := Lib.hid (RR0.out.below hbx)
 replace HWW := Lib.hid (bw_then HWW.out hbx)
 clear hbx
 have zzw2 : w1.heap.size + 1 ≤ (w1.alloc (.cells #[.int .i64 n.mesh.g.w, .int .i64 n.mesh.g.h, .slice a1 n.mesh.br.length c1, .slice a2 n.pa.length c2, .slice a3 n.pb.length c3, .slice a4 n.bufs.length c4, .slice a5 n.owners.length c5, .slice a6 n.turns.length c6, .slice a7 n.srcs.length c7, .slice a8 n.arrs.length c8, .int .i64 n.time] 35)).heap.size := Nat.le_of_eq (World.size_alloc _ _).symm
 go_wp2_with fail
 generalize w1.alloc (.cells #[.int .i64 n.mesh.g.w, .int .i64 n.mesh.g.h, .slice a1 n.mesh.br.length c1, .slice a2 n.pa.length c2, .slice a3 n.pb.length c3, .slice a4 n.bufs.length c4, .slice a5 n.owners.length c5, .slice a6 n.turns.length c6, .slice a7 n.srcs.length c7, .slice a8 n.arrs.length c8, .int .i64 n.time] 35) = w2 at *
 refine (impl_StepNet n _ _ RR0.out).mono ?_
 rintro e w3 ⟨hg, hbc⟩
 rw [HX.out, HV.out] at hg
 obtain ⟨q9, v4, v7, v8, rfl, HNX⟩ := hg
 obtain ⟨p1, p2, p3, p4, p5, p6, p7, p8, d1, d2, d3, d4, d5, d6, d7, d8⟩ := q9
 dsimp only [netCells]
 have zzw3 := bw_size hbc
 replace RR0 := Lib.hid (RR0.out.below hbc)
 replace BX0 := Lib.hid (Box.below BX0.out hbc)
 clear y0 g0
 obtain ⟨y0, g0⟩ := BX0.out
 replace HWW := Lib.hid (bw_then HWW.out hbc)
 clear hbc
 have RR1 := Lib.hid (HNX.reads NBX.out)
 clear HNX
 have hbx : Below w3.heap.size w3 (w3.alloc (.cells #[.int .i64 X.mesh.g.w, .int .i64 X.mesh.g.h, .slice p1 X.mesh.br.length d1, .slice p2 X.pa.length d2, .slice p3 X.pb.length d3, .slice p4 X.bufs.length d4, .slice p5 X.owners.length d5, .slice p6 X.turns.length d6, .slice p7 X.srcs.length d7, .slice p8 X.arrs.length d8, .int .i64 X.time] 35)) := bw_alloc _ (bw_refl w3)
 have BX1 := Lib.hid (show Box (w3.alloc (.cells #[.int .i64 X.mesh.g.w, .int .i64 X.mesh.g.h, .slice p1 X.mesh.br.length d1, .slice p2 X.pa.length d2, .slice p3 X.pb.length d3, .slice p4 X.bufs.length d4, .slice p5 X.owners.length d5, .slice p6 X.turns.length d6, .slice p7 X.srcs.length d7, .slice p8 X.arrs.length d8, .int .i64 X.time] 35)) w3.heap.size #[.int .i64 X.mesh.g.w, .int .i64 X.mesh.g.h, .slice p1 X.mesh.br.length d1, .slice p2 X.pa.length d2, .slice p3 X.pb.length d3, .slice p4 X.bufs.length d4, .slice p5 X.owners.length d5, .slice p6 X.turns.length d6, .slice p7 X.srcs.length d7, .slice p8 X.arrs.length d8, .int .i64 X.time] from Box.new w3 _ _ _ rfl)
 obtain ⟨y1, g1⟩ := BX1.out
 replace RR0 := Lib.hid (RR0.out.below hbx)
 replace BX0 := Lib.hid (Box.below BX0.out hbx)
 clear y0 g0
 obtain ⟨y0, g0⟩ := BX0.out
 replace RR1 := Lib.hid (RR1.out.below hbx)
 replace HWW := Lib.hid (bw_then HWW.out hbx)
 clear hbx
 have zzw4 : w3.heap.size + 1 ≤ (w3.alloc (.cells #[.int .i64 X.mesh.g.w, .int .i64 X.mesh.g.h, .slice p1 X.mesh.br.length d1, .slice p2 X.pa.length d2, .slice p3 X.pb.length d3, .slice p4 X.bufs.length d4, .slice p5 X.owners.length d5, .slice p6 X.turns.length d6, .slice p7 X.srcs.length d7, .slice p8 X.arrs.length d8, .int .i64 X.time] 35)).heap.size := Nat.le_of_eq (World.size_alloc _ _).symm
 go_wp2_with fail
 generalize w3.alloc (.cells #[.int .i64 X.mesh.g.w, .int .i64 X.mesh.g.h, .slice p1 X.mesh.br.length d1, .slice p2 X.pa.length d2, .slice p3 X.pb.length d3, .slice p4 X.bufs.length d4, .slice p5 X.owners.length d5, .slice p6 X.turns.length d6, .slice p7 X.srcs.length d7, .slice p8 X.arrs.length d8, .int .i64 X.time] 35) = w4 at *
 refine (impl_AllGrants n _ _ RR0.out).mono ?_
 rintro e w5 ⟨hg, hbc⟩
 rw [HGG.out] at hg
 obtain ⟨Ag, cg, rfl, hkg, hCg⟩ := hg.read
 have HCG := Lib.hid hCg
 clear hg hCg
 have zzw5 := bw_size hbc
 replace RR0 := Lib.hid (RR0.out.below hbc)
 replace BX0 := Lib.hid (Box.below BX0.out hbc)
 clear y0 g0
 obtain ⟨y0, g0⟩ := BX0.out
 replace RR1 := Lib.hid (RR1.out.below hbc)
 replace BX1 := Lib.hid (Box.below BX1.out hbc)
 clear y1 g1
 obtain ⟨y1, g1⟩ := BX1.out
 replace HWW := Lib.hid (bw_then HWW.out hbc)
 clear hbc
 have e1 : ((X.bufs.length : Int) != (n.bufs.length : Int)) = false := by rw [HLB.out]; simp
 have e2 : ((X.turns.length : Int) != (n.turns.length : Int)) = false := by rw [HLT.out]; simp
 have hnb := RR0.out.h4
 have htb := RR1.out.h6
 have hxb := RR1.out.h4
 go_wp2_with fail
 go_loopw [7] (fun i wr => ∃ k : Nat, i = .int .i64 k ∧ k ≤ gs.length ∧ Hid (Below w5.heap.size w5 wr)) (fun i _ => gs.length - (intOf i).toNat)
 case atStart => exact ⟨0, rfl, Nat.zero_le _, Lib.hid (bw_refl _)⟩
 case round =>
  obtain ⟨k, rfl, hk, HBr⟩ := hrel
  have i9 : (0 : Int) ≤ (k : Int) := by omega
  clear y0 g0 y1 g1
  obtain ⟨y0, g0⟩ := Box.below BX0.out HBr.out
  obtain ⟨y1, g1⟩ := Box.below BX1.out HBr.out
  by_cases hlt : k < gs.length
  ·obtain ⟨b1, o1, rfl, hb1, x0, x1, x2⟩ := rdG_at (Kd.C_below HCG.out HBr.out) k hlt
   obtain ⟨u0, u1, u2, u3, u4, u5, u6, u7, u8⟩ := HGR.out k hlt
   have i0 : (k : Int) < (gs.length : Int) := by omega
   obtain ⟨G, hG⟩ : ∃ z, rg gs (k : Int) = z := ⟨_, rfl⟩
   rw [hG] at x0 x1 x2 u0 u1 u2 u3 u4 u5 u6 u7 u8
   clear hG
   obtain ⟨gn, gp, gi⟩ := G
   dsimp only at x0 x1 x2 u0 u1 u2 u3 u4 u5 u6 u7 u8
   obtain ⟨K, hK⟩ : ∃ K : Nat, 5 * gn + gp = (K : Int) := ⟨(5 * gn + gp).toNat, by omega⟩
   rw [hK] at u0 u1 u2
   have wr5 : IntKind.i64.wrap (5 * gn) = 5 * gn := IntWalk.i64_in _ (by omega)
   have wr6 : IntKind.i64.wrap (5 * gn + gp) = 5 * gn + gp := IntWalk.i64_in _ (by omega)
   have wr7 : IntKind.i64.wrap (gi + 1) = gi + 1 := IntWalk.i64_in _ (by omega)
   obtain ⟨b2, o2, hp6, hb2, ht⟩ := rdI_at (Kd.C_below RR1.out.turns HBr.out) K (by omega)
   have ht0 := ht K (by omega)
   rw [u2] at ht0
   clear ht
   subst hp6
   have e3 : ((gi + 1) % 10 != (gi + 1) % 10) = false := by simp
   have tm : (gi + 1).tmod 10 = (gi + 1) % 10 := Int.tmod_eq_emod_of_nonneg (by omega)
   have i1 : (K : Int) < (X.turns.length : Int) := by omega
   have i1n : K < X.turns.length := by omega
   have i2 : ¬ (K : Int) < 0 := by omega
   clear u2
   go_wp2
   try (go_quiet (fail); go_wp2)
   have c7 : wr.cell? ⟨w3.heap.size, 7, none⟩ = some (.slice (some ⟨b2, o2, none⟩) X.turns.length d6) := g1 7
   have cl7 : w3.heap.size < wr.heap.size := y1
   clear y0 g0 y1 g1
   refine wp_region_far (wr) (by kernel_rfl) (by kernel_rfl) bel ?_
   have hqc := far_cell (wr)
   have hqf := far_frozen (wr)
   repeat (first | go_big_quiet_step (fail) | quiet_step (fail))
   refine wpQuiet_nil ?_
   intro wq hbq
   clear hqc hqf
   obtain ⟨hcq, hfq, hzq⟩ := bcell hbq
   try simp only [szs] at hzq
   go_wp2
   go_roundw
   case rel => exact ⟨k + 1, by go_num, by omega, Lib.hid (bw_then HBr.out hbq)⟩
   case measure => simp [intOf]; omega
  ·obtain rfl : k = gs.length := by omega
   have i0 : ¬ (gs.length : Int) < (gs.length : Int) := by omega
   have HBs := HBr
   go_wp2_with fail
   go_loopw [9] (fun i wz => ∃ k : Nat, i = .int .i64 k ∧ k ≤ n.bufs.length ∧ Hid (Below w5.heap.size w5 wz)) (fun i _ => n.bufs.length - (intOf i).toNat)
   case atStart => exact ⟨0, rfl, Nat.zero_le _, HBs⟩
   case round =>
    obtain ⟨k, rfl, hk2, HBz⟩ := hrel
    have i9 : (0 : Int) ≤ (k : Int) := by omega
    clear y0 g0 y1 g1
    obtain ⟨y0, g0⟩ := Box.below BX0.out HBz.out
    obtain ⟨y1, g1⟩ := Box.below BX1.out HBz.out
    by_cases hlt : k < n.bufs.length
    ·have hlx : k < X.bufs.length := by rw [HLB.out]; exact hlt
     obtain ⟨b1, o1, ha4, hb1, Ai, ci, p0, hle, hCi⟩ := rdB_at (Kd.C_below RR0.out.bufs HBz.out) k hlt
     obtain ⟨b2, o2, hp4, hb2, Aj, cj, q0, hle2, hCj⟩ := rdB_at (Kd.C_below RR1.out.bufs HBz.out) k hlx
     dsimp only at ha4 hp4
     subst ha4
     subst hp4
     have i1 : (k : Int) < (n.bufs.length : Int) := by omega
     have i2 : (k : Int) < (X.bufs.length : Int) := by omega
     have hone := HONE.out k
     have s1 := RR0.out.h9 _ (rl_mem hlt)
     have s2 := RR1.out.h9 _ (rl_mem hlx)
     have wr5 : IntKind.i64.wrap (((rl X.bufs (k : Int)).length : Int) - ((rl n.bufs (k : Int)).length : Int)) = ((rl X.bufs (k : Int)).length : Int) - ((rl n.bufs (k : Int)).length : Int) := IntWalk.i64_in _ (by omega)
     have d1 : ¬ ((rl X.bufs (k : Int)).length : Int) - ((rl n.bufs (k : Int)).length : Int) < -1 := by omega
     have d2 : ¬ 1 < ((rl X.bufs (k : Int)).length : Int) - ((rl n.bufs (k : Int)).length : Int) := by omega
     clear hone s1 s2 hCi hCj
     go_wp2
     try (go_quiet (fail); go_wp2)
     go_roundw
     case rel => exact ⟨k + 1, by go_num, by omega, Lib.hid (bw_drewN _ HBz.out)⟩
     case measure => simp [intOf]; omega
    ·obtain rfl : k = n.bufs.length := by omega
     have i0 : ¬ (n.bufs.length : Int) < (n.bufs.length : Int) := by omega
     go_wp2
     go_ret
     exact ⟨rfl, bw_then HWW.out HBz.out⟩
end Go.Proofs.YtaihmgbflhbebaaGreat
namespace Go.Proofs.YtaihmgbflhbebaaGreat
open Go.ChangeShapes Go.WideShapes Go.ChangeAt Go.RowKit Go.Proofs.YtaihmgbflhbebaaGreatW.PrintWords
open NoC
set_option linter.unusedVariables false
theorem own : ownKnob Tryz.prog.godebug = none := by kernel_rfl
theorem laidOut : laidOutB Tryz.prog = true := by kernel_rfl
theorem arr_of {cs : Array Value} {l : List Value} (h : cs.toList = l) : cs = l.toArray := by rw [← h]
set_option maxHeartbeats 1000000 in
set_option maxRecDepth 100000 in
theorem lifted_Rotation (os : Os) (started : os.Started) (H : Type) (enc : TypeId × Value → H) :
    ReturnsInHanded {} Tryz.checked os 3 .any (Rows.fnRotationSpec.pre6 enc Tryz.prog Tryz.f3 Rows.fnRotationRow.domain false) (Rows.fnRotationSpec.post enc Tryz.prog Tryz.f3 false true false false) := by
  refine returnsInHanded_of_change_sized (C := Tryz.checked) own started (by kernel_rfl) Tryz.func3
    (ChangeSpec.witness6 (enc := enc) (C := Tryz.checked) false ⟨#[], #[.slice none 0 0], []⟩ 8 (by kernel_rfl) (by kernel_rfl) (by kernel_rfl) (by kernel_rfl)) ?_
  intro W base args ds gs before hval0 hW hcnd hsz0 _
  have hsz : (DataW.weightsEach Tryz.prog (Tryz.f3.params.toList ++ Rows.fnRotationSpec.plain.varTypes Tryz.prog) (ds ++ gs)).all (· ≤ reachBytes) = true := hsz0
  have hval : ∀ (j : Nat) t v, Tryz.f3.params[j]? = some t → args[j]? = some v → Value.okWide Tryz.prog W .any base t v := hval0
  have hW' := hW
  obtain ⟨p, q, hA0, hV, rfl, hfz, hnd⟩ := hW
  have hA : DataW.TrodAll enc Tryz.prog W 0 (fun _ => true) true Tryz.f3.params.toList args.toList ds p := hA0
  rw [Tryz.params3] at hA hval hsz
  obtain ⟨v0, vs0, d0, ds0, p0, q0, hargs, rfl, rfl, h0, r0⟩ := trodAll_cons hA
  obtain ⟨rfl, rfl, rfl⟩ := trodAll_nil r0
  obtain rfl : args = #[v0] := by cases args; simp_all
  obtain ⟨rfl, rfl⟩ := trodVars_none hV
  obtain ⟨c0, n0, o0, rfl⟩ := okWide_slice Tryz.underlying22 (hval 0 _ v0 rfl rfl)
  have k0 := h0
  have lt0 : ∀ x ∈ p0, x.block < W.heap.size := by obtain ⟨m, hm⟩ := k0; exact DataW.trod_lt m _ _ _ hm
  obtain ⟨f0, g0⟩ := h0
  obtain ⟨A0, a0, N0, e0, hl0⟩ := op_bytes g0 (light_arg hsz (j := 0) rfl rfl)
  simp [Value.cells] at e0
  obtain ⟨rfl, rfl, rfl⟩ := e0
  clear hA0 hval0 hsz0 hsz
  refine (law_Rotation c0 n0 o0 W hl0).mono fun e W' ⟨he, bel⟩ => ?_
  subst he
  exact ⟨_, rfl, _, _, _, [], _, [], hW', trodAll_mk1 (shut_bool Tryz.underlying4 _), (trodAll_cons_mk (Below.trod laidOut (by kernel_rfl) (of_decide_eq_true (by kernel_rfl)) k0 bel lt0) trodAll_mk0), rfl, bel.frame _, fun h => by cases h⟩
theorem over_Rotation : Rows.fnRotationRow.holds Tryz.pinned (OpenSpec.ofChange Rows.fnRotationSpec) :=
  OpenClaim.holds_of_wide 3 Tryz.f3 rfl rfl rfl rfl rfl rfl rfl ⟨rfl, rfl, rfl, rfl, rfl⟩ rfl rfl rfl rfl rfl (by kernel_rfl) Tryz.func3 (by kernel_rfl)
    (of_decide_eq_true (by kernel_rfl)) (by unfold Func.isWrapper; first | (rw [if_pos (by decide +kernel)]; kernel_rfl) | (rw [if_neg (by decide +kernel)]; exact ⟨rfl, rfl⟩))
    (fun os started H enc _ => lifted_Rotation os started H enc)
theorem fnRotation_holds : Rows.FnRotationSaid := over_Rotation
#print axioms fnRotation_holds
end Go.Proofs.YtaihmgbflhbebaaGreat
