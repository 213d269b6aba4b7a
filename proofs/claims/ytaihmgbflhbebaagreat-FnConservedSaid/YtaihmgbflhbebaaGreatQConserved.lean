/- The law FnExactConserved answers true for all arguments, and leaves each as it was. No conditions. -/
import Derived.Test.YtaihmgbflhbebaaGreatQ18
import Derived.Test.YtaihmgbflhbebaaGreatQ11
import Derived.Test.YtaihmgbflhbebaaGreatQ17
import Derived.Test.YtaihmgbflhbebaaGreatRows
import Derived.WalkKit
import Derived.ProofKit
import Derived.OpenShut
import Derived.ShutString
import Derived.ChangeOld
import Derived.Below
import Derived.SizedLaws
set_option linter.unusedVariables false
set_option linter.unusedSimpArgs false
namespace Go.Proofs.YtaihmgbflhbebaaGreat
open Go.RowKit Go.Proofs.YtaihmgbflhbebaaGreatW.PrintWords
open NoC
set_option maxRecDepth 100000 in
set_option maxHeartbeats 16000000 in
theorem law_Conserved (A : Option Addr) (N c : Nat) (w : World) (HXB : Byt w A N) : Calls Tryz.prog 4 #[.slice A N c] w fun e w' => e = .returned (.bool true) ∧ Below w.heap.size w w' := by
  go_enter Tryz.func4, Tryz.ntmps4
  by_cases hbig : (1048576 : Int) < (N : Int)
  · go_wp2_with (go_at_call 10; refine (laws_big _ _ _ _).mono ?_; rintro e w' ⟨rfl, rfl⟩)
    go_ret
    exact ⟨rfl, bel⟩
  go_wp2_with (go_at_call 10; refine (laws_big _ _ _ _).mono ?_; rintro e w' ⟨rfl, rfl⟩)
  refine (spec_DrawNet A N c _ HXB).mono ?_
  rintro e w1 ⟨⟨n, q, rfl, HD, hr⟩, hb1⟩
  have R := Lib.hid hr
  have HB1 := Lib.hid hb1
  have HXB1 := Lib.hid (HXB.below hb1)
  have HDN := Lib.hid HD
  obtain ⟨a1, a2, a3, a4, a5, a6, a7, a8, c1, c2, c3, c4, c5, c6, c7, c8⟩ := q
  clear hr hb1 HD HXB
  dsimp only [netCells]
  obtain ⟨ok, we, t0, t1, hA, hm⟩ := HDN.out.facts
  have HX : Hid (stepNetN n = stepN n) := Lib.hid (by unfold stepNetN; rw [if_pos ok, if_neg (by omega)])
  have HV : Hid (canStepN n = true) := Lib.hid (by unfold canStepN; rw [ok]; simp; omega)
  have okx := step_ok ok (by omega)
  have nbx : NB (stepN n) := by have h := stepNet_nb R.out.nb hA; rwa [HX.out] at h
  have hsum := step_sum ok
  have q1 : ∀ l : List (List Flit), cntN n l = (sumL l : Int) := fun l => by unfold cntN; rw [if_pos ok, totTo_all]
  have q2 : ∀ l : List (List Flit), cntN (stepN n) l = (sumL l : Int) := fun l => by unfold cntN; rw [if_pos okx, totTo_all]
  have u1 := tot_bound R.out.h4 R.out.h9 _ (Nat.le_refl _)
  have u2 := tot_bound R.out.h7 R.out.h10 _ (Nat.le_refl _)
  have u3 := tot_bound R.out.h8 R.out.h11 _ (Nat.le_refl _)
  rw [totTo_all] at u1 u2 u3
  obtain ⟨X, hX⟩ : ∃ z, stepN n = z := ⟨_, rfl⟩
  rw [hX] at HX okx nbx hsum q2
  obtain ⟨b0, hb0⟩ : ∃ z, sumL n.bufs = z := ⟨_, rfl⟩
  obtain ⟨s0, hs0⟩ : ∃ z, sumL n.srcs = z := ⟨_, rfl⟩
  obtain ⟨r0, hr0⟩ : ∃ z, sumL n.arrs = z := ⟨_, rfl⟩
  obtain ⟨b2, hb2⟩ : ∃ z, sumL X.bufs = z := ⟨_, rfl⟩
  obtain ⟨s2, hs2⟩ : ∃ z, sumL X.srcs = z := ⟨_, rfl⟩
  obtain ⟨r2, hr2⟩ : ∃ z, sumL X.arrs = z := ⟨_, rfl⟩
  have Q1 := Lib.hid (q1 n.bufs); have Q2 := Lib.hid (q1 n.srcs); have Q3 := Lib.hid (q1 n.arrs)
  have P1 := Lib.hid (q2 X.bufs); have P2 := Lib.hid (q2 X.srcs); have P3 := Lib.hid (q2 X.arrs)
  rw [hb0] at Q1 u1 hsum
  rw [hs0] at Q2 u2 hsum
  rw [hr0] at Q3 u3 hsum
  rw [hb2] at P1 hsum
  rw [hs2] at P2 hsum
  rw [hr2] at P3 hsum
  have v1 : ((b2 : Nat) : Int) ≤ 13194139533312 := by omega
  have v2 : ((s2 : Nat) : Int) ≤ 13194139533312 := by omega
  have v3 : ((r2 : Nat) : Int) ≤ 13194139533312 := by omega
  have HE : Hid ((b0 : Int) + s0 + r0 = b2 + s2 + r2) := Lib.hid (by omega)
  have HLE : Hid ((r0 : Int) ≤ r2) := Lib.hid (by omega)
  have NBX := Lib.hid nbx
  clear hX hb0 hs0 hr0 hb2 hs2 hr2 q1 q2 hsum nbx hA hm we ok okx t0 t1
  have hbx : Below w1.heap.size w1 (w1.alloc (.cells #[.int .i64 n.mesh.g.w, .int .i64 n.mesh.g.h, .slice a1 n.mesh.br.length c1, .slice a2 n.pa.length c2, .slice a3 n.pb.length c3, .slice a4 n.bufs.length c4, .slice a5 n.owners.length c5, .slice a6 n.turns.length c6, .slice a7 n.srcs.length c7, .slice a8 n.arrs.length c8, .int .i64 n.time] 35)) := bw_alloc _ (bw_refl w1)
  have HBX1 := Lib.hid (show Box (w1.alloc (.cells #[.int .i64 n.mesh.g.w, .int .i64 n.mesh.g.h, .slice a1 n.mesh.br.length c1, .slice a2 n.pa.length c2, .slice a3 n.pb.length c3, .slice a4 n.bufs.length c4, .slice a5 n.owners.length c5, .slice a6 n.turns.length c6, .slice a7 n.srcs.length c7, .slice a8 n.arrs.length c8, .int .i64 n.time] 35)) w1.heap.size #[.int .i64 n.mesh.g.w, .int .i64 n.mesh.g.h, .slice a1 n.mesh.br.length c1, .slice a2 n.pa.length c2, .slice a3 n.pb.length c3, .slice a4 n.bufs.length c4, .slice a5 n.owners.length c5, .slice a6 n.turns.length c6, .slice a7 n.srcs.length c7, .slice a8 n.arrs.length c8, .int .i64 n.time] from Box.new w1 _ _ _ rfl)
  obtain ⟨y1, g1⟩ := HBX1.out
  have z1 : w1.heap.size + 1 ≤ (w1.alloc (.cells #[.int .i64 n.mesh.g.w, .int .i64 n.mesh.g.h, .slice a1 n.mesh.br.length c1, .slice a2 n.pa.length c2, .slice a3 n.pb.length c3, .slice a4 n.bufs.length c4, .slice a5 n.owners.length c5, .slice a6 n.turns.length c6, .slice a7 n.srcs.length c7, .slice a8 n.arrs.length c8, .int .i64 n.time] 35)).heap.size := Nat.le_of_eq (World.size_alloc _ _).symm
  have HW1 := Lib.hid (bw_then HB1.out hbx)
  clear hbx
  go_wp2_with fail
  have RW2 := Lib.hid (R.out.below (bw_alloc (.cells #[.int .i64 n.mesh.g.w, .int .i64 n.mesh.g.h, .slice a1 n.mesh.br.length c1, .slice a2 n.pa.length c2, .slice a3 n.pb.length c3, .slice a4 n.bufs.length c4, .slice a5 n.owners.length c5, .slice a6 n.turns.length c6, .slice a7 n.srcs.length c7, .slice a8 n.arrs.length c8, .int .i64 n.time] 35) (bw_refl w1)))
  generalize w1.alloc (.cells #[.int .i64 n.mesh.g.w, .int .i64 n.mesh.g.h, .slice a1 n.mesh.br.length c1, .slice a2 n.pa.length c2, .slice a3 n.pb.length c3, .slice a4 n.bufs.length c4, .slice a5 n.owners.length c5, .slice a6 n.turns.length c6, .slice a7 n.srcs.length c7, .slice a8 n.arrs.length c8, .int .i64 n.time] 35) = w2 at *
  refine (impl_StepNet n _ _ RW2.out).mono ?_
  rintro e w3 ⟨hg, hb3⟩
  rw [HX.out, HV.out] at hg
  obtain ⟨q9, v4, v7, v8, rfl, HNX⟩ := hg
  have RX := Lib.hid (HNX.reads NBX.out)
  have RN := Lib.hid (RW2.out.below hb3)
  obtain ⟨p1, p2, p3, p4, p5, p6, p7, p8, d1, d2, d3, d4, d5, d6, d7, d8⟩ := q9
  dsimp only [netCells]
  have HW3 := Lib.hid (bw_then HW1.out hb3)
  have HBX1 := Lib.hid (Box.below HBX1.out hb3)
  clear y1 g1
  obtain ⟨y1, g1⟩ := HBX1.out
  have z3 := bw_size hb3
  clear hb3 HNX RW2
  have hbx : Below w3.heap.size w3 (w3.alloc (.cells #[.int .i64 X.mesh.g.w, .int .i64 X.mesh.g.h, .slice p1 X.mesh.br.length d1, .slice p2 X.pa.length d2, .slice p3 X.pb.length d3, .slice p4 X.bufs.length d4, .slice p5 X.owners.length d5, .slice p6 X.turns.length d6, .slice p7 X.srcs.length d7, .slice p8 X.arrs.length d8, .int .i64 X.time] 35)) := bw_alloc _ (bw_refl w3)
  have HBX2 := Lib.hid (show Box (w3.alloc (.cells #[.int .i64 X.mesh.g.w, .int .i64 X.mesh.g.h, .slice p1 X.mesh.br.length d1, .slice p2 X.pa.length d2, .slice p3 X.pb.length d3, .slice p4 X.bufs.length d4, .slice p5 X.owners.length d5, .slice p6 X.turns.length d6, .slice p7 X.srcs.length d7, .slice p8 X.arrs.length d8, .int .i64 X.time] 35)) w3.heap.size #[.int .i64 X.mesh.g.w, .int .i64 X.mesh.g.h, .slice p1 X.mesh.br.length d1, .slice p2 X.pa.length d2, .slice p3 X.pb.length d3, .slice p4 X.bufs.length d4, .slice p5 X.owners.length d5, .slice p6 X.turns.length d6, .slice p7 X.srcs.length d7, .slice p8 X.arrs.length d8, .int .i64 X.time] from Box.new w3 _ _ _ rfl)
  obtain ⟨y2, g2⟩ := HBX2.out
  have HBX1 := Lib.hid (Box.below HBX1.out hbx)
  clear y1 g1
  obtain ⟨y1, g1⟩ := HBX1.out
  have z2 : w3.heap.size + 1 ≤ (w3.alloc (.cells #[.int .i64 X.mesh.g.w, .int .i64 X.mesh.g.h, .slice p1 X.mesh.br.length d1, .slice p2 X.pa.length d2, .slice p3 X.pb.length d3, .slice p4 X.bufs.length d4, .slice p5 X.owners.length d5, .slice p6 X.turns.length d6, .slice p7 X.srcs.length d7, .slice p8 X.arrs.length d8, .int .i64 X.time] 35)).heap.size := Nat.le_of_eq (World.size_alloc _ _).symm
  have HW2 := Lib.hid (bw_then HW3.out hbx)
  clear hbx
  have RX4 := Lib.hid (RX.out.below (bw_alloc (.cells #[.int .i64 X.mesh.g.w, .int .i64 X.mesh.g.h, .slice p1 X.mesh.br.length d1, .slice p2 X.pa.length d2, .slice p3 X.pb.length d3, .slice p4 X.bufs.length d4, .slice p5 X.owners.length d5, .slice p6 X.turns.length d6, .slice p7 X.srcs.length d7, .slice p8 X.arrs.length d8, .int .i64 X.time] 35) (bw_refl w3)))
  have RN4 := Lib.hid (RN.out.below (bw_alloc (.cells #[.int .i64 X.mesh.g.w, .int .i64 X.mesh.g.h, .slice p1 X.mesh.br.length d1, .slice p2 X.pa.length d2, .slice p3 X.pb.length d3, .slice p4 X.bufs.length d4, .slice p5 X.owners.length d5, .slice p6 X.turns.length d6, .slice p7 X.srcs.length d7, .slice p8 X.arrs.length d8, .int .i64 X.time] 35) (bw_refl w3)))
  go_wp2_with fail
  generalize w3.alloc (.cells #[.int .i64 X.mesh.g.w, .int .i64 X.mesh.g.h, .slice p1 X.mesh.br.length d1, .slice p2 X.pa.length d2, .slice p3 X.pb.length d3, .slice p4 X.bufs.length d4, .slice p5 X.owners.length d5, .slice p6 X.turns.length d6, .slice p7 X.srcs.length d7, .slice p8 X.arrs.length d8, .int .i64 X.time] 35) = w4 at *
  have Nb : Hid (∀ W, Below w4.heap.size w4 W → Calls Tryz.prog 14 #[.agg #[.int .i64 n.mesh.g.w, .int .i64 n.mesh.g.h, .slice a1 n.mesh.br.length c1, .slice a2 n.pa.length c2, .slice a3 n.pb.length c3, .slice a4 n.bufs.length c4, .slice a5 n.owners.length c5, .slice a6 n.turns.length c6, .slice a7 n.srcs.length c7, .slice a8 n.arrs.length c8, .int .i64 n.time]] W fun e w' => e = .returned (.int .i64 ((b0 : Nat) : Int)) ∧ Below W.heap.size W w') := Lib.hid (fun W h => by have := impl_FlitsInside n _ W (RN4.out.below h); rw [Q1.out] at this; exact this)
  have Xb : Hid (∀ W, Below w4.heap.size w4 W → Calls Tryz.prog 14 #[.agg #[.int .i64 X.mesh.g.w, .int .i64 X.mesh.g.h, .slice p1 X.mesh.br.length d1, .slice p2 X.pa.length d2, .slice p3 X.pb.length d3, .slice p4 X.bufs.length d4, .slice p5 X.owners.length d5, .slice p6 X.turns.length d6, .slice p7 X.srcs.length d7, .slice p8 X.arrs.length d8, .int .i64 X.time]] W fun e w' => e = .returned (.int .i64 ((b2 : Nat) : Int)) ∧ Below W.heap.size W w') := Lib.hid (fun W h => by have := impl_FlitsInside X _ W (RX4.out.below h); rw [P1.out] at this; exact this)
  have Ns : Hid (∀ W, Below w4.heap.size w4 W → Calls Tryz.prog 15 #[.agg #[.int .i64 n.mesh.g.w, .int .i64 n.mesh.g.h, .slice a1 n.mesh.br.length c1, .slice a2 n.pa.length c2, .slice a3 n.pb.length c3, .slice a4 n.bufs.length c4, .slice a5 n.owners.length c5, .slice a6 n.turns.length c6, .slice a7 n.srcs.length c7, .slice a8 n.arrs.length c8, .int .i64 n.time]] W fun e w' => e = .returned (.int .i64 ((s0 : Nat) : Int)) ∧ Below W.heap.size W w') := Lib.hid (fun W h => by have := impl_FlitsWaiting n _ W (RN4.out.below h); rw [Q2.out] at this; exact this)
  have Xs : Hid (∀ W, Below w4.heap.size w4 W → Calls Tryz.prog 15 #[.agg #[.int .i64 X.mesh.g.w, .int .i64 X.mesh.g.h, .slice p1 X.mesh.br.length d1, .slice p2 X.pa.length d2, .slice p3 X.pb.length d3, .slice p4 X.bufs.length d4, .slice p5 X.owners.length d5, .slice p6 X.turns.length d6, .slice p7 X.srcs.length d7, .slice p8 X.arrs.length d8, .int .i64 X.time]] W fun e w' => e = .returned (.int .i64 ((s2 : Nat) : Int)) ∧ Below W.heap.size W w') := Lib.hid (fun W h => by have := impl_FlitsWaiting X _ W (RX4.out.below h); rw [P2.out] at this; exact this)
  have Nr : Hid (∀ W, Below w4.heap.size w4 W → Calls Tryz.prog 16 #[.agg #[.int .i64 n.mesh.g.w, .int .i64 n.mesh.g.h, .slice a1 n.mesh.br.length c1, .slice a2 n.pa.length c2, .slice a3 n.pb.length c3, .slice a4 n.bufs.length c4, .slice a5 n.owners.length c5, .slice a6 n.turns.length c6, .slice a7 n.srcs.length c7, .slice a8 n.arrs.length c8, .int .i64 n.time]] W fun e w' => e = .returned (.int .i64 ((r0 : Nat) : Int)) ∧ Below W.heap.size W w') := Lib.hid (fun W h => by have := impl_ArrivedFlits n _ W (RN4.out.below h); rw [Q3.out] at this; exact this)
  have Xr : Hid (∀ W, Below w4.heap.size w4 W → Calls Tryz.prog 16 #[.agg #[.int .i64 X.mesh.g.w, .int .i64 X.mesh.g.h, .slice p1 X.mesh.br.length d1, .slice p2 X.pa.length d2, .slice p3 X.pb.length d3, .slice p4 X.bufs.length d4, .slice p5 X.owners.length d5, .slice p6 X.turns.length d6, .slice p7 X.srcs.length d7, .slice p8 X.arrs.length d8, .int .i64 X.time]] W fun e w' => e = .returned (.int .i64 ((r2 : Nat) : Int)) ∧ Below W.heap.size W w') := Lib.hid (fun W h => by have := impl_ArrivedFlits X _ W (RX4.out.below h); rw [P3.out] at this; exact this)
  clear y1 g1 y2 g2
  have box11 : Box w4 w1.heap.size #[.int .i64 n.mesh.g.w, .int .i64 n.mesh.g.h, .slice a1 n.mesh.br.length c1, .slice a2 n.pa.length c2, .slice a3 n.pb.length c3, .slice a4 n.bufs.length c4, .slice a5 n.owners.length c5, .slice a6 n.turns.length c6, .slice a7 n.srcs.length c7, .slice a8 n.arrs.length c8, .int .i64 n.time] := HBX1.out
  obtain ⟨xa0, xa1, xa2, xa3, xa4, xa5, xa6, xa7, xa8, xa9, xa10⟩ := all11 box11
  clear box11
  have box11 : Box w4 w3.heap.size #[.int .i64 X.mesh.g.w, .int .i64 X.mesh.g.h, .slice p1 X.mesh.br.length d1, .slice p2 X.pa.length d2, .slice p3 X.pb.length d3, .slice p4 X.bufs.length d4, .slice p5 X.owners.length d5, .slice p6 X.turns.length d6, .slice p7 X.srcs.length d7, .slice p8 X.arrs.length d8, .int .i64 X.time] := HBX2.out
  obtain ⟨xb0, xb1, xb2, xb3, xb4, xb5, xb6, xb7, xb8, xb9, xb10⟩ := all11 box11
  clear box11
  have xal := HBX1.out.lt
  have xbl := HBX2.out.lt
  clear RX RN RX4 RN4 Q1 Q2 Q3 P1 P2 P3
  have hE := HE.out
  have hLE := HLE.out
  refine wp_region_far (w4) (by kernel_rfl) (by kernel_rfl) bel ?_
  have hqc := far_cell (w4)
  have hqf := far_frozen (w4)
  repeat (first | go_big_quiet_step ((first | (go_at_call_of 14 a1; exact far_call (Nb.out _ (Far.h _))) | (go_at_call_of 14 p1; exact far_call (Xb.out _ (Far.h _))) | (go_at_call_of 15 a1; exact far_call (Ns.out _ (Far.h _))) | (go_at_call_of 15 p1; exact far_call (Xs.out _ (Far.h _))) | (go_at_call_of 16 a1; exact far_call (Nr.out _ (Far.h _))) | (go_at_call_of 16 p1; exact far_call (Xr.out _ (Far.h _))))) | quiet_step ((first | (go_at_call_of 14 a1; exact far_call (Nb.out _ (Far.h _))) | (go_at_call_of 14 p1; exact far_call (Xb.out _ (Far.h _))) | (go_at_call_of 15 a1; exact far_call (Ns.out _ (Far.h _))) | (go_at_call_of 15 p1; exact far_call (Xs.out _ (Far.h _))) | (go_at_call_of 16 a1; exact far_call (Nr.out _ (Far.h _))) | (go_at_call_of 16 p1; exact far_call (Xr.out _ (Far.h _))))))
  refine wpQuiet_nil ?_
  intro wq hbq
  clear hqc hqf
  obtain ⟨hcq, hfq, hzq⟩ := bcell hbq
  try simp only [szs] at hzq
  go_wp2
  go_ret
  exact ⟨by first | rfl | exact ret_bool (by simp [hE, hLE]) | simp [hE, hLE], bw_then HW2.out hbq⟩
end Go.Proofs.YtaihmgbflhbebaaGreat
namespace Go.Proofs.YtaihmgbflhbebaaGreat
open Go.ChangeShapes Go.WideShapes Go.ChangeAt Go.RowKit Go.Proofs.YtaihmgbflhbebaaGreatW.PrintWords
open NoC
set_option linter.unusedVariables false
theorem own : ownKnob Tryz.prog.godebug = none := by kernel_rfl
theorem laidOut : laidOutB Tryz.prog = true := by kernel_rfl
theorem arr_of {cs : Array Value} {l : List Value} (h : cs.toList = l) : cs = l.toArray := by rw [← h]
set_option maxHeartbeats 1000000 in
set_option maxRecDepth 100000 in
theorem lifted_Conserved (os : Os) (started : os.Started) (H : Type) (enc : TypeId × Value → H) :
    ReturnsInHanded {} Tryz.checked os 4 .any (Rows.fnConservedSpec.pre6 enc Tryz.prog Tryz.f4 Rows.fnConservedRow.domain false) (Rows.fnConservedSpec.post enc Tryz.prog Tryz.f4 false true false false) := by
  refine returnsInHanded_of_change_sized (C := Tryz.checked) own started (by kernel_rfl) Tryz.func4
    (ChangeSpec.witness6 (enc := enc) (C := Tryz.checked) false ⟨#[], #[.slice none 0 0], []⟩ 8 (by kernel_rfl) (by kernel_rfl) (by kernel_rfl) (by kernel_rfl)) ?_
  intro W base args ds gs before hval0 hW hcnd hsz0 _
  have hsz : (DataW.weightsEach Tryz.prog (Tryz.f4.params.toList ++ Rows.fnConservedSpec.plain.varTypes Tryz.prog) (ds ++ gs)).all (· ≤ reachBytes) = true := hsz0
  have hval : ∀ (j : Nat) t v, Tryz.f4.params[j]? = some t → args[j]? = some v → Value.okWide Tryz.prog W .any base t v := hval0
  have hW' := hW
  obtain ⟨p, q, hA0, hV, rfl, hfz, hnd⟩ := hW
  have hA : DataW.TrodAll enc Tryz.prog W 0 (fun _ => true) true Tryz.f4.params.toList args.toList ds p := hA0
  rw [Tryz.params4] at hA hval hsz
  obtain ⟨v0, vs0, d0, ds0, p0, q0, hargs, rfl, rfl, h0, r0⟩ := trodAll_cons hA
  obtain ⟨rfl, rfl, rfl⟩ := trodAll_nil r0
  obtain rfl : args = #[v0] := by cases args; simp_all
  obtain ⟨rfl, rfl⟩ := trodVars_none hV
  obtain ⟨c0, n0, o0, rfl⟩ := okWide_slice Tryz.underlying22 (hval 0 _ v0 rfl rfl)
  have k0 := h0
  have lt0 : ∀ x ∈ p0, x.block < W.heap.size := by obtain ⟨m, hm⟩ := k0; exact DataW.trod_lt m _ _ _ hm
  obtain ⟨f0, g0⟩ := h0
  obtain ⟨A0, a0, N0, e0, hl0⟩ := op_bytes g0 (light_arg hsz (j := 0) rfl rfl)
  simp [Value.cells] at e0
  obtain ⟨rfl, rfl, rfl⟩ := e0
  clear hA0 hval0 hsz0 hsz
  refine (law_Conserved c0 n0 o0 W hl0).mono fun e W' ⟨he, bel⟩ => ?_
  subst he
  exact ⟨_, rfl, _, _, _, [], _, [], hW', trodAll_mk1 (shut_bool Tryz.underlying4 _), (trodAll_cons_mk (Below.trod laidOut (by kernel_rfl) (of_decide_eq_true (by kernel_rfl)) k0 bel lt0) trodAll_mk0), rfl, bel.frame _, fun h => by cases h⟩
theorem over_Conserved : Rows.fnConservedRow.holds Tryz.pinned (OpenSpec.ofChange Rows.fnConservedSpec) :=
  OpenClaim.holds_of_wide 4 Tryz.f4 rfl rfl rfl rfl rfl rfl rfl ⟨rfl, rfl, rfl, rfl, rfl⟩ rfl rfl rfl rfl rfl (by kernel_rfl) Tryz.func4 (by kernel_rfl)
    (of_decide_eq_true (by kernel_rfl)) (by unfold Func.isWrapper; first | (rw [if_pos (by decide +kernel)]; kernel_rfl) | (rw [if_neg (by decide +kernel)]; exact ⟨rfl, rfl⟩))
    (fun os started H enc _ => lifted_Conserved os started H enc)
theorem fnConserved_holds : Rows.FnConservedSaid := over_Conserved
#print axioms fnConserved_holds
end Go.Proofs.YtaihmgbflhbebaaGreat
