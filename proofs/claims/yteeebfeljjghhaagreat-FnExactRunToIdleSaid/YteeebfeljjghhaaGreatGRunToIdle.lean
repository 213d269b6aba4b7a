/- The law FnExactRunToIdle answers true for all arguments, and leaves each as it was. No conditions. -/
import Derived.Test.YteeebfeljjghhaaGreatGRunToIdlea
import Derived.Test.YteeebfeljjghhaaGreatG14
import Derived.Test.YteeebfeljjghhaaGreatG15
import Derived.Test.YteeebfeljjghhaaGreatRows
import Derived.WalkKit
import Derived.ProofKit
import Derived.OpenShut
import Derived.ShutString
import Derived.ChangeOld
import Derived.Below
import Derived.SizedLaws
/- Steps and runs of a network: the reference's side, third part. -/
set_option linter.unusedVariables false
set_option linter.unusedSimpArgs false
namespace Go.Proofs.YteeebfeljjghhaaGreat
open Go.RowKit Go.Proofs.YteeebfeljjghhaaGreatW.PrintWords
open NoC

theorem toIdle_nonneg {n : Net} (h : 0 ≤ toIdleN n) : netOk n = true ∧ n.time + 400 ≤ 1000000 ∧ toIdleN n ≤ 400 := by
  refine ⟨?_, ?_, (toIdle_range n).2⟩
  · cases hk : netOk n
    · simp [toIdleN, hk] at h
    · rfl
  · unfold toIdleN at h
    split at h
    · split at h
      · assumption
      · omega
    · omega
set_option maxHeartbeats 8000000 in
set_option maxRecDepth 100000 in
theorem spec_RunToIdle (n : Net) (q : NA) (w : World) (hr : NetR 103 w n q) (hA : ∀ x ∈ n.arrs, x.length ≤ 1048576) :
  Calls Tryz.prog 21 #[.agg (netCells n q)] w fun e w' => GotNV w w' (runIdleN n) (.bool (decide (0 ≤ toIdleN n))) e ∧ Below w.heap.size w w' := by
 have HA := Lib.hid hA
 clear hA
 have HR := Lib.hid hr
 have NBQ := Lib.hid hr.nb
 obtain ⟨a1, a2, a3, a4, a5, a6, a7, a8, c1, c2, c3, c4, c5, c6, c7, c8⟩ := q
 clear hr
 dsimp only [netCells]
 have HC : Hid (∀ W : World, Below w.heap.size w W → Calls Tryz.prog 19 #[.agg #[.int .i64 n.mesh.g.w, .int .i64 n.mesh.g.h, .slice a1 n.mesh.br.length c1, .slice a2 n.pa.length c2, .slice a3 n.pb.length c3, .slice a4 n.bufs.length c4, .slice a5 n.owners.length c5, .slice a6 n.turns.length c6, .slice a7 n.srcs.length c7, .slice a8 n.arrs.length c8, .int .i64 n.time]] W fun e w' => e = .returned (.int .i64 (toIdleN n)) ∧ Below W.heap.size W w') := Lib.hid (fun W hb => spec_StepsToIdle n ⟨a1, a2, a3, a4, a5, a6, a7, a8, c1, c2, c3, c4, c5, c6, c7, c8⟩ W (HR.out.below hb) HA.out)
 have HP : Hid (0 ≤ toIdleN n → netOk n = true ∧ n.time + 400 ≤ 1000000 ∧ toIdleN n ≤ 400) := Lib.hid toIdle_nonneg
 have H1 : Hid (0 ≤ toIdleN n → runIdleN n = runN n (toIdleN n).toNat) := Lib.hid (fun h => by unfold runIdleN; rw [if_pos h])
 have H2 : Hid (¬ 0 ≤ toIdleN n → runIdleN n = n) := Lib.hid (fun h => by unfold runIdleN; rw [if_neg h])
 obtain ⟨Y, hY⟩ : ∃ Y, runIdleN n = Y := ⟨_, rfl⟩
 obtain ⟨t, ht⟩ : ∃ t, toIdleN n = t := ⟨_, rfl⟩
 rw [ht] at HC HP H1 H2
 rw [hY] at H1 H2
 rw [hY, ht]
 clear hY ht
 by_cases h0 : 0 ≤ t
 case neg =>
  have HE := Lib.hid (H2.out h0)
  have HD : Hid (decide (0 ≤ t) = false) := Lib.hid (decide_eq_false h0)
  have h1 : t < 0 := by omega
  clear h0
  go_enter Tryz.func21, Tryz.ntmps21
  go_wp2_with fail
  refine (HC.out _ bel).mono ?_
  rintro e w2 ⟨rfl, hb2⟩
  have HX2 : Hid (Box w2 w.heap.size #[.int .i64 n.mesh.g.w, .int .i64 n.mesh.g.h, .slice a1 n.mesh.br.length c1, .slice a2 n.pa.length c2, .slice a3 n.pb.length c3, .slice a4 n.bufs.length c4, .slice a5 n.owners.length c5, .slice a6 n.turns.length c6, .slice a7 n.srcs.length c7, .slice a8 n.arrs.length c8, .int .i64 n.time]) := Lib.hid (((Box.new w w.heap.size #[.int .i64 n.mesh.g.w, .int .i64 n.mesh.g.h, .slice a1 n.mesh.br.length c1, .slice a2 n.pa.length c2, .slice a3 n.pb.length c3, .slice a4 n.bufs.length c4, .slice a5 n.owners.length c5, .slice a6 n.turns.length c6, .slice a7 n.srcs.length c7, .slice a8 n.arrs.length c8, .int .i64 n.time] 43 rfl).alloc _).below hb2)
  have HZ0 : Hid (BN ((w.alloc (.cells #[.int .i64 n.mesh.g.w, .int .i64 n.mesh.g.h, .slice a1 n.mesh.br.length c1, .slice a2 n.pa.length c2, .slice a3 n.pb.length c3, .slice a4 n.bufs.length c4, .slice a5 n.owners.length c5, .slice a6 n.turns.length c6, .slice a7 n.srcs.length c7, .slice a8 n.arrs.length c8, .int .i64 n.time] 43)).alloc (.cells #[.int .i64 0, .int .i64 0, .slice none 0 0, .slice none 0 0, .slice none 0 0, .slice none 0 0, .slice none 0 0, .slice none 0 0, .slice none 0 0, .slice none 0 0, .int .i64 0] 43)) (w.heap.size + 1)) := Lib.hid ((BT.bn (by have hn := BT.new (w.alloc (.cells #[.int .i64 n.mesh.g.w, .int .i64 n.mesh.g.h, .slice a1 n.mesh.br.length c1, .slice a2 n.pa.length c2, .slice a3 n.pb.length c3, .slice a4 n.bufs.length c4, .slice a5 n.owners.length c5, .slice a6 n.turns.length c6, .slice a7 n.srcs.length c7, .slice a8 n.arrs.length c8, .int .i64 n.time] 43)) ⟨⟨⟨0, 0⟩, []⟩, [], [], [], [], [], [], [], 0⟩ ⟨none, none, none, none, none, none, none, none, 0, 0, 0, 0, 0, 0, 0, 0⟩; rw [World.size_alloc] at hn; exact hn)))
  have HZ2 : Hid (BN w2 (w.heap.size + 1)) := Lib.hid (HZ0.out.below hb2)
  have HWB : Hid (Below w.heap.size w w2) := Lib.hid (bw_then (bw_alloc _ (bw_alloc _ (bw_refl w))) hb2)
  have zz2 := bw_size hb2
  simp only [szs] at zz2
  clear hb2 HZ0
  have x0 : w2.cell? ⟨w.heap.size, 0, none⟩ = some (.int .i64 n.mesh.g.w) := HX2.out.get 0
  have x1 : w2.cell? ⟨w.heap.size, 1, none⟩ = some (.int .i64 n.mesh.g.h) := HX2.out.get 1
  have x2 : w2.cell? ⟨w.heap.size, 2, none⟩ = some (.slice a1 n.mesh.br.length c1) := HX2.out.get 2
  have x3 : w2.cell? ⟨w.heap.size, 3, none⟩ = some (.slice a2 n.pa.length c2) := HX2.out.get 3
  have x4 : w2.cell? ⟨w.heap.size, 4, none⟩ = some (.slice a3 n.pb.length c3) := HX2.out.get 4
  have x5 : w2.cell? ⟨w.heap.size, 5, none⟩ = some (.slice a4 n.bufs.length c4) := HX2.out.get 5
  have x6 : w2.cell? ⟨w.heap.size, 6, none⟩ = some (.slice a5 n.owners.length c5) := HX2.out.get 6
  have x7 : w2.cell? ⟨w.heap.size, 7, none⟩ = some (.slice a6 n.turns.length c6) := HX2.out.get 7
  have x8 : w2.cell? ⟨w.heap.size, 8, none⟩ = some (.slice a7 n.srcs.length c7) := HX2.out.get 8
  have x9 : w2.cell? ⟨w.heap.size, 9, none⟩ = some (.slice a8 n.arrs.length c8) := HX2.out.get 9
  have x10 : w2.cell? ⟨w.heap.size, 10, none⟩ = some (.int .i64 n.time) := HX2.out.get 10
  have xl := HX2.out.lt
  go_wp2_with fail
  refine (spec_l15Copy n _ _ (HR.out.below HWB.out)).mono ?_
  rintro e w4 ⟨hg4, hb4⟩
  obtain ⟨q4, y4, y7, y8, rfl, HN0⟩ := hg4
  obtain ⟨p1, p2, p3, p4, p5, p6, p7, p8, r1, r2, r3, r4, r5, r6, r7, r8⟩ := q4
  dsimp only [netCells]
  have HN4 := Lib.hid HN0
  have HZ4 : Hid (BN w4 (w.heap.size + 1)) := Lib.hid (HZ2.out.below hb4)
  have HWB4 : Hid (Below w.heap.size w w4) := Lib.hid (bw_then HWB.out hb4)
  have zz4 := bw_size hb4
  have zz5 := bw_size HWB.out
  clear HN0 hb4
  repeat (first | clear x0 | clear x1 | clear x2 | clear x3 | clear x4 | clear x5 | clear x6 | clear x7 | clear x8 | clear x9 | clear x10)

  obtain ⟨ry0, rv0⟩ := HZ4.out.get 0 (by omega)
  have rz0 := HZ4.out.frozen 0
  obtain ⟨ry1, rv1⟩ := HZ4.out.get 1 (by omega)
  have rz1 := HZ4.out.frozen 1
  obtain ⟨ry2, rv2⟩ := HZ4.out.get 2 (by omega)
  have rz2 := HZ4.out.frozen 2
  obtain ⟨ry3, rv3⟩ := HZ4.out.get 3 (by omega)
  have rz3 := HZ4.out.frozen 3
  obtain ⟨ry4, rv4⟩ := HZ4.out.get 4 (by omega)
  have rz4 := HZ4.out.frozen 4
  obtain ⟨ry5, rv5⟩ := HZ4.out.get 5 (by omega)
  have rz5 := HZ4.out.frozen 5
  obtain ⟨ry6, rv6⟩ := HZ4.out.get 6 (by omega)
  have rz6 := HZ4.out.frozen 6
  obtain ⟨ry7, rv7⟩ := HZ4.out.get 7 (by omega)
  have rz7 := HZ4.out.frozen 7
  obtain ⟨ry8, rv8⟩ := HZ4.out.get 8 (by omega)
  have rz8 := HZ4.out.frozen 8
  obtain ⟨ry9, rv9⟩ := HZ4.out.get 9 (by omega)
  have rz9 := HZ4.out.frozen 9
  obtain ⟨ry10, rv10⟩ := HZ4.out.get 10 (by omega)
  have rz10 := HZ4.out.frozen 10
  go_wp2
  obtain ⟨W9, e9⟩ : ∃ z, z = putN w4 (w.heap.size + 1) n ⟨p1, p2, p3, p4, p5, p6, p7, p8, r1, r2, r3, r4, r5, r6, r7, r8⟩ := ⟨_, rfl⟩
  have HB9 : Hid (BT W9 (w.heap.size + 1) n ⟨p1, p2, p3, p4, p5, p6, p7, p8, r1, r2, r3, r4, r5, r6, r7, r8⟩) := Lib.hid (by rw [e9]; exact putN_BT HZ4.out)
  have HN9 := Lib.hid (show NX W9 _ n ⟨p1, p2, p3, p4, p5, p6, p7, p8, r1, r2, r3, r4, r5, r6, r7, r8⟩ y4 y7 y8 from by rw [e9]; exact HN4.out.put HZ4.out)
  have HL9 : Hid (Below w.heap.size w W9) := Lib.hid (by rw [e9]; exact below_put HWB4.out (by omega))
  unfold putN at e9
  try dsimp only at e9
  rw [← e9]
  clear e9
  exact bodyPost_ret (results_cell_row2 Tryz.results21 _ _ ((w.heap.size + 1)) 43 _ (0, 0) _ rfl HB9.out Tryz.underlying43 rfl (by kernel_rfl)) rfl (by dsimp only; rw [HE.out, HD.out]; exact ⟨⟨_, _, _, _, rfl, HN9.out.lower (by omega)⟩, HL9.out⟩)
 case pos =>
  have HE0 := Lib.hid (H1.out h0)
  have HD : Hid (decide (0 ≤ t) = true) := Lib.hid (decide_eq_true h0)
  obtain ⟨ok, st, t4⟩ := HP.out h0
  obtain ⟨T, hT⟩ : ∃ T : Nat, t = (T : Int) := ⟨t.toNat, by omega⟩
  subst hT
  have HE : Hid (Y = runN n T) := Lib.hid (by have := HE0.out; rwa [Int.toNat_natCast] at this)
  have OK := Lib.hid ok
  have h1 : ¬ (T : Int) < 0 := by omega
  clear h0
  go_enter Tryz.func21, Tryz.ntmps21
  go_wp2_with fail
  refine (HC.out _ bel).mono ?_
  rintro e w2 ⟨rfl, hb2⟩
  have HX2 : Hid (Box w2 w.heap.size #[.int .i64 n.mesh.g.w, .int .i64 n.mesh.g.h, .slice a1 n.mesh.br.length c1, .slice a2 n.pa.length c2, .slice a3 n.pb.length c3, .slice a4 n.bufs.length c4, .slice a5 n.owners.length c5, .slice a6 n.turns.length c6, .slice a7 n.srcs.length c7, .slice a8 n.arrs.length c8, .int .i64 n.time]) := Lib.hid (((Box.new w w.heap.size #[.int .i64 n.mesh.g.w, .int .i64 n.mesh.g.h, .slice a1 n.mesh.br.length c1, .slice a2 n.pa.length c2, .slice a3 n.pb.length c3, .slice a4 n.bufs.length c4, .slice a5 n.owners.length c5, .slice a6 n.turns.length c6, .slice a7 n.srcs.length c7, .slice a8 n.arrs.length c8, .int .i64 n.time] 43 rfl).alloc _).below hb2)
  have HZ0 : Hid (BN ((w.alloc (.cells #[.int .i64 n.mesh.g.w, .int .i64 n.mesh.g.h, .slice a1 n.mesh.br.length c1, .slice a2 n.pa.length c2, .slice a3 n.pb.length c3, .slice a4 n.bufs.length c4, .slice a5 n.owners.length c5, .slice a6 n.turns.length c6, .slice a7 n.srcs.length c7, .slice a8 n.arrs.length c8, .int .i64 n.time] 43)).alloc (.cells #[.int .i64 0, .int .i64 0, .slice none 0 0, .slice none 0 0, .slice none 0 0, .slice none 0 0, .slice none 0 0, .slice none 0 0, .slice none 0 0, .slice none 0 0, .int .i64 0] 43)) (w.heap.size + 1)) := Lib.hid ((BT.bn (by have hn := BT.new (w.alloc (.cells #[.int .i64 n.mesh.g.w, .int .i64 n.mesh.g.h, .slice a1 n.mesh.br.length c1, .slice a2 n.pa.length c2, .slice a3 n.pb.length c3, .slice a4 n.bufs.length c4, .slice a5 n.owners.length c5, .slice a6 n.turns.length c6, .slice a7 n.srcs.length c7, .slice a8 n.arrs.length c8, .int .i64 n.time] 43)) ⟨⟨⟨0, 0⟩, []⟩, [], [], [], [], [], [], [], 0⟩ ⟨none, none, none, none, none, none, none, none, 0, 0, 0, 0, 0, 0, 0, 0⟩; rw [World.size_alloc] at hn; exact hn)))
  have HZ2 : Hid (BN w2 (w.heap.size + 1)) := Lib.hid (HZ0.out.below hb2)
  have HWB : Hid (Below w.heap.size w w2) := Lib.hid (bw_then (bw_alloc _ (bw_alloc _ (bw_refl w))) hb2)
  have zz2 := bw_size hb2
  simp only [szs] at zz2
  clear hb2 HZ0
  have x0 : w2.cell? ⟨w.heap.size, 0, none⟩ = some (.int .i64 n.mesh.g.w) := HX2.out.get 0
  have x1 : w2.cell? ⟨w.heap.size, 1, none⟩ = some (.int .i64 n.mesh.g.h) := HX2.out.get 1
  have x2 : w2.cell? ⟨w.heap.size, 2, none⟩ = some (.slice a1 n.mesh.br.length c1) := HX2.out.get 2
  have x3 : w2.cell? ⟨w.heap.size, 3, none⟩ = some (.slice a2 n.pa.length c2) := HX2.out.get 3
  have x4 : w2.cell? ⟨w.heap.size, 4, none⟩ = some (.slice a3 n.pb.length c3) := HX2.out.get 4
  have x5 : w2.cell? ⟨w.heap.size, 5, none⟩ = some (.slice a4 n.bufs.length c4) := HX2.out.get 5
  have x6 : w2.cell? ⟨w.heap.size, 6, none⟩ = some (.slice a5 n.owners.length c5) := HX2.out.get 6
  have x7 : w2.cell? ⟨w.heap.size, 7, none⟩ = some (.slice a6 n.turns.length c6) := HX2.out.get 7
  have x8 : w2.cell? ⟨w.heap.size, 8, none⟩ = some (.slice a7 n.srcs.length c7) := HX2.out.get 8
  have x9 : w2.cell? ⟨w.heap.size, 9, none⟩ = some (.slice a8 n.arrs.length c8) := HX2.out.get 9
  have x10 : w2.cell? ⟨w.heap.size, 10, none⟩ = some (.int .i64 n.time) := HX2.out.get 10
  have xl := HX2.out.lt
  go_wp2_with fail
  refine (spec_l15Copy n _ _ (HR.out.below HWB.out)).mono ?_
  rintro e w4 ⟨hg4, hb4⟩
  obtain ⟨q4, y4, y7, y8, rfl, HN0⟩ := hg4
  obtain ⟨p1, p2, p3, p4, p5, p6, p7, p8, r1, r2, r3, r4, r5, r6, r7, r8⟩ := q4
  dsimp only [netCells]
  have HN4 := Lib.hid HN0
  have HZ4 : Hid (BN w4 (w.heap.size + 1)) := Lib.hid (HZ2.out.below hb4)
  have HWB4 : Hid (Below w.heap.size w w4) := Lib.hid (bw_then HWB.out hb4)
  have zz4 := bw_size hb4
  have zz5 := bw_size HWB.out
  clear HN0 hb4
  repeat (first | clear x0 | clear x1 | clear x2 | clear x3 | clear x4 | clear x5 | clear x6 | clear x7 | clear x8 | clear x9 | clear x10)
  go_wp2_with fail
  refine (spec_l20Run n T _ y4 y7 y8 w2.heap.size _ HN4.out NBQ.out HA.out OK.out (by omega) (by omega) zz4).mono ?_
  rintro e w6 ⟨hg6, hb6⟩
  obtain ⟨q6, i4, i7, i8, rfl, HN60⟩ := hg6
  obtain ⟨s1, s2, s3, s4, s5, s6, s7, s8, t1, t2, t3, t4, t5, t6, t7, t8⟩ := q6
  dsimp only [netCells]
  have HN6 := Lib.hid HN60
  have HZ6 : Hid (BN w6 (w.heap.size + 1)) := Lib.hid (HZ4.out.below hb6)
  have HWB6 : Hid (Below w.heap.size w w6) := Lib.hid (bw_then HWB4.out hb6)
  have zz6 := bw_size hb6
  clear HN60 hb6 HN4 HZ4 HWB4
  obtain ⟨X, hX⟩ : ∃ X, runN n T = X := ⟨_, rfl⟩
  rw [hX] at HN6 HE
  try rw [hX]
  clear hX

  obtain ⟨ry0, rv0⟩ := HZ6.out.get 0 (by omega)
  have rz0 := HZ6.out.frozen 0
  obtain ⟨ry1, rv1⟩ := HZ6.out.get 1 (by omega)
  have rz1 := HZ6.out.frozen 1
  obtain ⟨ry2, rv2⟩ := HZ6.out.get 2 (by omega)
  have rz2 := HZ6.out.frozen 2
  obtain ⟨ry3, rv3⟩ := HZ6.out.get 3 (by omega)
  have rz3 := HZ6.out.frozen 3
  obtain ⟨ry4, rv4⟩ := HZ6.out.get 4 (by omega)
  have rz4 := HZ6.out.frozen 4
  obtain ⟨ry5, rv5⟩ := HZ6.out.get 5 (by omega)
  have rz5 := HZ6.out.frozen 5
  obtain ⟨ry6, rv6⟩ := HZ6.out.get 6 (by omega)
  have rz6 := HZ6.out.frozen 6
  obtain ⟨ry7, rv7⟩ := HZ6.out.get 7 (by omega)
  have rz7 := HZ6.out.frozen 7
  obtain ⟨ry8, rv8⟩ := HZ6.out.get 8 (by omega)
  have rz8 := HZ6.out.frozen 8
  obtain ⟨ry9, rv9⟩ := HZ6.out.get 9 (by omega)
  have rz9 := HZ6.out.frozen 9
  obtain ⟨ry10, rv10⟩ := HZ6.out.get 10 (by omega)
  have rz10 := HZ6.out.frozen 10
  go_wp2
  obtain ⟨W9, e9⟩ : ∃ z, z = putN w6 (w.heap.size + 1) X ⟨s1, s2, s3, s4, s5, s6, s7, s8, t1, t2, t3, t4, t5, t6, t7, t8⟩ := ⟨_, rfl⟩
  have HB9 : Hid (BT W9 (w.heap.size + 1) X ⟨s1, s2, s3, s4, s5, s6, s7, s8, t1, t2, t3, t4, t5, t6, t7, t8⟩) := Lib.hid (by rw [e9]; exact putN_BT HZ6.out)
  have HN9 := Lib.hid (show NX W9 _ X ⟨s1, s2, s3, s4, s5, s6, s7, s8, t1, t2, t3, t4, t5, t6, t7, t8⟩ i4 i7 i8 from by rw [e9]; exact HN6.out.put HZ6.out)
  have HL9 : Hid (Below w.heap.size w W9) := Lib.hid (by rw [e9]; exact below_put HWB6.out (by omega))
  unfold putN at e9
  try dsimp only at e9
  rw [← e9]
  clear e9
  exact bodyPost_ret (results_cell_row2 Tryz.results21 _ _ ((w.heap.size + 1)) 43 _ (0, 0) _ rfl HB9.out Tryz.underlying43 rfl (by kernel_rfl)) rfl (by dsimp only; rw [HE.out, HD.out]; exact ⟨⟨_, _, _, _, rfl, HN9.out.lower (by omega)⟩, HL9.out⟩)
end Go.Proofs.YteeebfeljjghhaaGreat
/- The bounds of what steps and runs leave. -/
set_option linter.unusedVariables false
namespace Go.Proofs.YteeebfeljjghhaaGreat
open NoC
theorem runIdle_nb {n : Net} (nb : NB n) (hA : ∀ x ∈ n.arrs, x.length ≤ 1048576) : NB (runIdleN n) := by
  unfold runIdleN
  split
  · rename_i h
    obtain ⟨ok, st, t4⟩ := toIdle_nonneg h
    exact run_nb nb hA _ (by omega) (runN_ok ok _ (by omega))
  · exact nb
end Go.Proofs.YteeebfeljjghhaaGreat
/- The law FnExactRunToIdle, walked: it answers true for all arguments. -/
set_option linter.unusedVariables false
set_option linter.unusedSimpArgs false
namespace Go.Proofs.YteeebfeljjghhaaGreat
open Go.RowKit Go.Proofs.YteeebfeljjghhaaGreatW.PrintWords
open NoC

set_option maxHeartbeats 16000000 in
set_option maxRecDepth 100000 in
theorem law_RunToIdle (n : Net) (q : NA) (w : World) (hn : NetC w n q) :
  Calls Tryz.prog 6 #[.agg (netCells n q)] w fun e w' => e = .returned (.bool true) ∧ Below w.heap.size w w' := by
 have HC := Lib.hid hn
 clear hn
 obtain ⟨a1, a2, a3, a4, a5, a6, a7, a8, c1, c2, c3, c4, c5, c6, c7, c8⟩ := q
 obtain ⟨X, hX0⟩ : ∃ X, runIdleN n = X := ⟨_, rfl⟩
 obtain ⟨b, hb0⟩ : ∃ b, decide (0 ≤ toIdleN n) = b := ⟨_, rfl⟩
 have HX := Lib.hid hX0
 have HV := Lib.hid hb0
 clear hX0 hb0
 dsimp only [netCells]
 have B3 : Box (w.alloc (.cells #[.int .i64 n.mesh.g.w, .int .i64 n.mesh.g.h, .slice a1 n.mesh.br.length c1, .slice a2 n.pa.length c2, .slice a3 n.pb.length c3, .slice a4 n.bufs.length c4, .slice a5 n.owners.length c5, .slice a6 n.turns.length c6, .slice a7 n.srcs.length c7, .slice a8 n.arrs.length c8, .int .i64 n.time] 33)) w.heap.size #[.int .i64 n.mesh.g.w, .int .i64 n.mesh.g.h, .slice a1 n.mesh.br.length c1, .slice a2 n.pa.length c2, .slice a3 n.pb.length c3, .slice a4 n.bufs.length c4, .slice a5 n.owners.length c5, .slice a6 n.turns.length c6, .slice a7 n.srcs.length c7, .slice a8 n.arrs.length c8, .int .i64 n.time] := Box.new w _ _ _ rfl
 have H0 : Below w.heap.size w (w.alloc (.cells #[.int .i64 n.mesh.g.w, .int .i64 n.mesh.g.h, .slice a1 n.mesh.br.length c1, .slice a2 n.pa.length c2, .slice a3 n.pb.length c3, .slice a4 n.bufs.length c4, .slice a5 n.owners.length c5, .slice a6 n.turns.length c6, .slice a7 n.srcs.length c7, .slice a8 n.arrs.length c8, .int .i64 n.time] 33)) := bw_alloc _ (bw_refl w)
 obtain ⟨y3, g3⟩ := B3
 go_enter Tryz.func6, Tryz.ntmps6
 go_wp2_with fail
 refine (laws_szNet n _ 1048576 _ (HC.out.below H0) (by omega) (by omega)).mono ?_
 rintro e wa ⟨r, rfl, rlo, rhi, KB, hb1⟩
 have sA := bw_size hb1
 simp only [szs] at sA
 replace H0 := bw_then H0 hb1
 have B3 := Box.below ⟨y3, g3⟩ hb1
 clear y3 g3
 obtain ⟨y3, g3⟩ := B3
 clear hb1
 by_cases hneg : r < 0
 ·go_wp2
  go_ret
  exact ⟨rfl, H0⟩
 have R := Lib.hid (HC.out.bound (KB.out (by omega)).1)
 have HA : Hid (∀ l ∈ n.arrs, l.length ≤ 1048576) := Lib.hid (fun l hl => by have := (KB.out (by omega)).2 l hl; omega)
 have NBX : Hid (NB X) := Lib.hid (by rw [← HX.out]; exact (fun (hnb : NB n) (hA : ∀ l ∈ n.arrs, l.length ≤ 1048576) => runIdle_nb hnb hA) R.out.nb HA.out)
 clear HC KB
 go_wp2_with fail
 refine (laws_toNet n _ _ (R.out.below H0)).mono ?_
 rintro e wb ⟨⟨⟨e1, e2, e3, e4, e5, e6, e7, e8, ec1, ec2, ec3, ec4, ec5, ec6, ec7, ec8⟩, rfl, HT⟩, hb1⟩
 have HT1 := Lib.hid (HT.reads R.out)
 clear HT
 have swb := bw_size hb1
 dsimp only [netCells]
 replace H0 := bw_then H0 hb1
 have B3 := Box.below ⟨y3, g3⟩ hb1
 clear y3 g3
 obtain ⟨y3, g3⟩ := B3
 clear hb1
 go_wp2_with fail
 refine (spec_RunToIdle n  _ _ HT1.out HA.out).mono ?_
 rintro e wc ⟨hg, hb1⟩
 rw [HX.out, HV.out] at hg
 obtain ⟨q9, s4, s7, s8, rfl, HO⟩ := hg
 obtain ⟨p1, p2, p3, p4, p5, p6, p7, p8, d1, d2, d3, d4, d5, d6, d7, d8⟩ := q9
 dsimp only [netCells]
 have swc := bw_size hb1
 have HW := Lib.hid HO.ny
 have HWB : Below wc.heap.size wc wc := bw_refl wc
 clear HO HT1
 replace H0 := bw_then H0 hb1
 have B3 := Box.below ⟨y3, g3⟩ hb1
 clear y3 g3
 obtain ⟨y3, g3⟩ := B3
 clear hb1
 have hbX : Below wc.heap.size wc (wc.alloc (.cells #[.int .i64 X.mesh.g.w, .int .i64 X.mesh.g.h, .slice p1 X.mesh.br.length d1, .slice p2 X.pa.length d2, .slice p3 X.pb.length d3, .slice p4 X.bufs.length d4, .slice p5 X.owners.length d5, .slice p6 X.turns.length d6, .slice p7 X.srcs.length d7, .slice p8 X.arrs.length d8, .int .i64 X.time] 43)) := bw_alloc _ (bw_refl wc)
 have B4 : Box (wc.alloc (.cells #[.int .i64 X.mesh.g.w, .int .i64 X.mesh.g.h, .slice p1 X.mesh.br.length d1, .slice p2 X.pa.length d2, .slice p3 X.pb.length d3, .slice p4 X.bufs.length d4, .slice p5 X.owners.length d5, .slice p6 X.turns.length d6, .slice p7 X.srcs.length d7, .slice p8 X.arrs.length d8, .int .i64 X.time] 43)) wc.heap.size #[.int .i64 X.mesh.g.w, .int .i64 X.mesh.g.h, .slice p1 X.mesh.br.length d1, .slice p2 X.pa.length d2, .slice p3 X.pb.length d3, .slice p4 X.bufs.length d4, .slice p5 X.owners.length d5, .slice p6 X.turns.length d6, .slice p7 X.srcs.length d7, .slice p8 X.arrs.length d8, .int .i64 X.time] := Box.new wc _ _ _ rfl
 have sX : (wc.alloc (.cells #[.int .i64 X.mesh.g.w, .int .i64 X.mesh.g.h, .slice p1 X.mesh.br.length d1, .slice p2 X.pa.length d2, .slice p3 X.pb.length d3, .slice p4 X.bufs.length d4, .slice p5 X.owners.length d5, .slice p6 X.turns.length d6, .slice p7 X.srcs.length d7, .slice p8 X.arrs.length d8, .int .i64 X.time] 43)).heap.size = wc.heap.size + 1 := World.size_alloc _ _
 replace H0 := bw_then H0 hbX
 replace HWB := bw_then HWB hbX
 have B3 := Box.below ⟨y3, g3⟩ hbX
 clear y3 g3
 obtain ⟨y3, g3⟩ := B3
 go_wp2_with fail
 generalize wc.alloc (.cells #[.int .i64 X.mesh.g.w, .int .i64 X.mesh.g.h, .slice p1 X.mesh.br.length d1, .slice p2 X.pa.length d2, .slice p3 X.pb.length d3, .slice p4 X.bufs.length d4, .slice p5 X.owners.length d5, .slice p6 X.turns.length d6, .slice p7 X.srcs.length d7, .slice p8 X.arrs.length d8, .int .i64 X.time] 43) = wc2 at *
 clear hbX
 have sX4 : wc.heap.size + 1 ≤ wc2.heap.size := Nat.le_of_eq sX.symm
 clear sX
 obtain ⟨y4, g4⟩ := B4
 refine (laws_toNet2 n _ _ (R.out.below H0)).mono ?_
 rintro e wd ⟨⟨q9, aN, bN, v4, v7, v8, rfl, DL, HN⟩, hb1⟩
 obtain ⟨x1, x2, x3, x4, x5, x6, x7, x8, z1, z2, z3, z4, z5, z6, z7, z8⟩ := q9
 have swd := bw_size hb1
 dsimp only [netCells]
 replace H0 := bw_then H0 hb1
 replace HWB := bw_then HWB hb1
 have B3 := Box.below ⟨y3, g3⟩ hb1
 clear y3 g3
 obtain ⟨y3, g3⟩ := B3
 have B4 := Box.below ⟨y4, g4⟩ hb1
 clear y4 g4
 obtain ⟨y4, g4⟩ := B4
 clear hb1
 have hbX : Below wd.heap.size wd (wd.alloc (.cells #[.int .i64 n.mesh.g.w, .int .i64 n.mesh.g.h, .slice x1 n.mesh.br.length z1, .slice x2 n.pa.length z2, .slice x3 n.pb.length z3, .slice x4 n.bufs.length z4, .slice x5 n.owners.length z5, .slice x6 n.turns.length z6, .slice x7 n.srcs.length z7, .slice x8 n.arrs.length z8, .int .i64 n.time] 43)) := bw_alloc _ (bw_refl wd)
 have B5 : Box (wd.alloc (.cells #[.int .i64 n.mesh.g.w, .int .i64 n.mesh.g.h, .slice x1 n.mesh.br.length z1, .slice x2 n.pa.length z2, .slice x3 n.pb.length z3, .slice x4 n.bufs.length z4, .slice x5 n.owners.length z5, .slice x6 n.turns.length z6, .slice x7 n.srcs.length z7, .slice x8 n.arrs.length z8, .int .i64 n.time] 43)) wd.heap.size #[.int .i64 n.mesh.g.w, .int .i64 n.mesh.g.h, .slice x1 n.mesh.br.length z1, .slice x2 n.pa.length z2, .slice x3 n.pb.length z3, .slice x4 n.bufs.length z4, .slice x5 n.owners.length z5, .slice x6 n.turns.length z6, .slice x7 n.srcs.length z7, .slice x8 n.arrs.length z8, .int .i64 n.time] := Box.new wd _ _ _ rfl
 have sX : (wd.alloc (.cells #[.int .i64 n.mesh.g.w, .int .i64 n.mesh.g.h, .slice x1 n.mesh.br.length z1, .slice x2 n.pa.length z2, .slice x3 n.pb.length z3, .slice x4 n.bufs.length z4, .slice x5 n.owners.length z5, .slice x6 n.turns.length z6, .slice x7 n.srcs.length z7, .slice x8 n.arrs.length z8, .int .i64 n.time] 43)).heap.size = wd.heap.size + 1 := World.size_alloc _ _
 replace H0 := bw_then H0 hbX
 replace HWB := bw_then HWB hbX
 have B3 := Box.below ⟨y3, g3⟩ hbX
 clear y3 g3
 obtain ⟨y3, g3⟩ := B3
 have B4 := Box.below ⟨y4, g4⟩ hbX
 clear y4 g4
 obtain ⟨y4, g4⟩ := B4
 replace HN := HN.below hbX
 go_wp2_with fail
 generalize wd.alloc (.cells #[.int .i64 n.mesh.g.w, .int .i64 n.mesh.g.h, .slice x1 n.mesh.br.length z1, .slice x2 n.pa.length z2, .slice x3 n.pb.length z3, .slice x4 n.bufs.length z4, .slice x5 n.owners.length z5, .slice x6 n.turns.length z6, .slice x7 n.srcs.length z7, .slice x8 n.arrs.length z8, .int .i64 n.time] 43) = we at *
 clear hbX
 have sX5 : wd.heap.size + 1 ≤ we.heap.size := Nat.le_of_eq sX.symm
 clear sX
 obtain ⟨y5, g5⟩ := B5
 refine (impl_RunToIdle n  _ _ (HN.reads R.out) HA.out).mono ?_
 rintro e wf ⟨hg, hb1⟩
 rw [HX.out, HV.out] at hg
 obtain ⟨q9, u4, u7, u8, rfl, HO⟩ := hg
 obtain ⟨ga1, ga2, ga3, ga4, ga5, ga6, ga7, ga8, gc1, gc2, gc3, gc4, gc5, gc6, gc7, gc8⟩ := q9
 dsimp only [netCells]
 have swf := bw_size hb1
 have HG := Lib.hid HO.ny
 have HTP := Lib.hid HO.ny.top
 clear HO
 replace H0 := bw_then H0 hb1
 replace HWB := bw_then HWB hb1
 have B3 := Box.below ⟨y3, g3⟩ hb1
 clear y3 g3
 obtain ⟨y3, g3⟩ := B3
 have B4 := Box.below ⟨y4, g4⟩ hb1
 clear y4 g4
 obtain ⟨y4, g4⟩ := B4
 have B5 := Box.below ⟨y5, g5⟩ hb1
 clear y5 g5
 obtain ⟨y5, g5⟩ := B5
 replace HN := HN.below hb1
 clear hb1
 have hbX : Below wf.heap.size wf (wf.alloc (.cells #[.int .i64 X.mesh.g.w, .int .i64 X.mesh.g.h, .slice ga1 X.mesh.br.length gc1, .slice ga2 X.pa.length gc2, .slice ga3 X.pb.length gc3, .slice ga4 X.bufs.length gc4, .slice ga5 X.owners.length gc5, .slice ga6 X.turns.length gc6, .slice ga7 X.srcs.length gc7, .slice ga8 X.arrs.length gc8, .int .i64 X.time] 43)) := bw_alloc _ (bw_refl wf)
 have B6 : Box (wf.alloc (.cells #[.int .i64 X.mesh.g.w, .int .i64 X.mesh.g.h, .slice ga1 X.mesh.br.length gc1, .slice ga2 X.pa.length gc2, .slice ga3 X.pb.length gc3, .slice ga4 X.bufs.length gc4, .slice ga5 X.owners.length gc5, .slice ga6 X.turns.length gc6, .slice ga7 X.srcs.length gc7, .slice ga8 X.arrs.length gc8, .int .i64 X.time] 43)) wf.heap.size #[.int .i64 X.mesh.g.w, .int .i64 X.mesh.g.h, .slice ga1 X.mesh.br.length gc1, .slice ga2 X.pa.length gc2, .slice ga3 X.pb.length gc3, .slice ga4 X.bufs.length gc4, .slice ga5 X.owners.length gc5, .slice ga6 X.turns.length gc6, .slice ga7 X.srcs.length gc7, .slice ga8 X.arrs.length gc8, .int .i64 X.time] := Box.new wf _ _ _ rfl
 have sX : (wf.alloc (.cells #[.int .i64 X.mesh.g.w, .int .i64 X.mesh.g.h, .slice ga1 X.mesh.br.length gc1, .slice ga2 X.pa.length gc2, .slice ga3 X.pb.length gc3, .slice ga4 X.bufs.length gc4, .slice ga5 X.owners.length gc5, .slice ga6 X.turns.length gc6, .slice ga7 X.srcs.length gc7, .slice ga8 X.arrs.length gc8, .int .i64 X.time] 43)).heap.size = wf.heap.size + 1 := World.size_alloc _ _
 replace H0 := bw_then H0 hbX
 replace HWB := bw_then HWB hbX
 have B3 := Box.below ⟨y3, g3⟩ hbX
 clear y3 g3
 obtain ⟨y3, g3⟩ := B3
 have B4 := Box.below ⟨y4, g4⟩ hbX
 clear y4 g4
 obtain ⟨y4, g4⟩ := B4
 have B5 := Box.below ⟨y5, g5⟩ hbX
 clear y5 g5
 obtain ⟨y5, g5⟩ := B5
 replace HN := HN.below hbX
 replace HG := Lib.hid (HG.out.below hbX)
 go_wp2_with fail
 generalize wf.alloc (.cells #[.int .i64 X.mesh.g.w, .int .i64 X.mesh.g.h, .slice ga1 X.mesh.br.length gc1, .slice ga2 X.pa.length gc2, .slice ga3 X.pb.length gc3, .slice ga4 X.bufs.length gc4, .slice ga5 X.owners.length gc5, .slice ga6 X.turns.length gc6, .slice ga7 X.srcs.length gc7, .slice ga8 X.arrs.length gc8, .int .i64 X.time] 43) = wg at *
 clear hbX
 have sX6 : wf.heap.size + 1 ≤ wg.heap.size := Nat.le_of_eq sX.symm
 clear sX
 obtain ⟨y6, g6⟩ := B6
 have eself : (b != b) = false := by simp
 refine (laws_eqNet X _ _ _ (HG.out.reads NBX.out) ((HW.out.below HWB).reads NBX.out)).mono ?_
 rintro e wg2 ⟨rfl, hb1⟩
 have swg2 := bw_size hb1
 replace H0 := bw_then H0 hb1
 replace HWB := bw_then HWB hb1
 have B3 := Box.below ⟨y3, g3⟩ hb1
 clear y3 g3
 obtain ⟨y3, g3⟩ := B3
 have B4 := Box.below ⟨y4, g4⟩ hb1
 clear y4 g4
 obtain ⟨y4, g4⟩ := B4
 have B5 := Box.below ⟨y5, g5⟩ hb1
 clear y5 g5
 obtain ⟨y5, g5⟩ := B5
 have B6 := Box.below ⟨y6, g6⟩ hb1
 clear y6 g6
 obtain ⟨y6, g6⟩ := B6
 replace HN := HN.below hb1
 replace HG := Lib.hid (HG.out.below hb1)
 clear hb1
 go_wp2_with fail
 have RR := Lib.hid (R.out.below H0)
 have XX := Lib.hid (HN.reads R.out)
 go_region_held3 (fun w' => Below (wg2).heap.size (wg2) w' ∧ ∀ bq oq, bq < (wg2).heap.size → w'.cell? ⟨bq, oq, none⟩ = (wg2).cell? ⟨bq, oq, none⟩) (first | exact far_of bel) ( first | (go_at_call 12; refine (laws_toNet n _ _ (RR.out.below bel)).mono ?_; rintro e w1 ⟨⟨qT, rfl, HT⟩, hb1⟩; obtain ⟨f1, f2, f3, f4, f5, f6, f7, f8, h1, h2, h3, h4, h5, h6, h7, h8⟩ := qT; have HT3 := Lib.hid (HT.reads RR.out); clear HT; dsimp only [netCells]; obtain ⟨hc1, hf1, hz1⟩ := bcell hb1; (try simp only [szs] at hz1); have hb2 := (by first | exact bw_then hb2 hb1 | exact bw_then (bw_drewN _ hb2) hb1 | exact bw_then (bw_alloc _ hb2) hb1 | exact bw_then (bw_drew hb2) hb1 | exact bw_then HB hb1 | exact bw_then (bw_drewN _ HB) hb1 | exact bw_then (bw_alloc _ HB) hb1 | exact bw_then (bw_drew HB) hb1 | exact hb1); obtain ⟨hc2, hf2, hz2⟩ := bcell hb2; (try simp only [szs] at hz2); try (first | obtain ⟨hy1, hy2, hy3, hy4⟩ := lts4 hz2 | obtain ⟨hy1, hy2, hy3⟩ := lts3 hz2 | obtain ⟨hy1, hy2⟩ := lts2 hz2 | have hy1 := lts1 hz2); have hb9 := hb1) | (go_at_call 14; refine (laws_eqNet n _ _ _ (XX.out.below bel) (HT3.out.below bel)).mono ?_; rintro e w1 ⟨rfl, hb1⟩; obtain ⟨hc1, hf1, hz1⟩ := bcell hb1; (try simp only [szs] at hz1); have hb2 := (by first | exact bw_then hb2 hb1 | exact bw_then (bw_drewN _ hb2) hb1 | exact bw_then (bw_alloc _ hb2) hb1 | exact bw_then (bw_drew hb2) hb1 | exact bw_then HB hb1 | exact bw_then (bw_drewN _ HB) hb1 | exact bw_then (bw_alloc _ HB) hb1 | exact bw_then (bw_drew HB) hb1 | exact hb1); obtain ⟨hc2, hf2, hz2⟩ := bcell hb2; (try simp only [szs] at hz2); try (first | obtain ⟨hy1, hy2, hy3, hy4⟩ := lts4 hz2 | obtain ⟨hy1, hy2, hy3⟩ := lts3 hz2 | obtain ⟨hy1, hy2⟩ := lts2 hz2 | have hy1 := lts1 hz2); have hb9 := hb1))
 have hb3 : Below wg2.heap.size wg2 w1 := by first | exact bw_then (bw_drew (bw_refl _)) hb2 | exact hb2
 repeat (first | clear hc1 | clear hf1 | clear hz1 | clear hb1 | clear hb9 | clear hc2 | clear hf2 | clear hz2 | clear hb2 | clear hy1 | clear hy2 | clear hy3 | clear hy4)
 clear RR XX HT3
 obtain ⟨wh, rfl⟩ : ∃ x, x = w1 := ⟨_, rfl⟩
 have swh := bw_size hb3
 replace H0 := bw_then H0 hb3
 replace HWB := bw_then HWB hb3
 have B3 := Box.below ⟨y3, g3⟩ hb3
 clear y3 g3
 obtain ⟨y3, g3⟩ := B3
 have B4 := Box.below ⟨y4, g4⟩ hb3
 clear y4 g4
 obtain ⟨y4, g4⟩ := B4
 have B5 := Box.below ⟨y5, g5⟩ hb3
 clear y5 g5
 obtain ⟨y5, g5⟩ := B5
 have B6 := Box.below ⟨y6, g6⟩ hb3
 clear y6 g6
 obtain ⟨y6, g6⟩ := B6
 replace HN := HN.below hb3
 replace HG := Lib.hid (HG.out.below hb3)
 clear hb3
 go_wp2_with fail
 refine (laws_markNet n _ 1 wc2.heap.size wd.heap.size aN bN v4 v7 v8 _ _ _ HN R.out DL (by omega) (by omega) (by omega)).mono ?_
 rintro e wi ⟨⟨r2, rfl, hr2⟩, G⟩
 clear HN
 have swi := G.size
 replace H0 := Chg.below H0 G (by omega)
 replace HWB := Chg.below HWB G (by omega)
 have B3 := Box.chg ⟨y3, g3⟩ G (by omega)
 clear y3 g3
 obtain ⟨y3, g3⟩ := B3
 have B4 := Box.chg ⟨y4, g4⟩ G (by omega)
 clear y4 g4
 obtain ⟨y4, g4⟩ := B4
 have B5 := Box.chg ⟨y5, g5⟩ G (by omega)
 clear y5 g5
 obtain ⟨y5, g5⟩ := B5
 have B6 := Box.chg ⟨y6, g6⟩ G (by omega)
 clear y6 g6
 obtain ⟨y6, g6⟩ := B6
 replace HG := Lib.hid (HG.out.chg G (by omega))
 clear G
 have hr3 : ¬ r2 < 0 := by omega
 go_wp2_with fail
 refine (laws_eqNet X _ _ _ (HG.out.reads NBX.out) ((HW.out.below HWB).reads NBX.out)).mono ?_
 rintro e wj ⟨rfl, hb1⟩
 have swj := bw_size hb1
 replace H0 := bw_then H0 hb1
 replace HWB := bw_then HWB hb1
 have B3 := Box.below ⟨y3, g3⟩ hb1
 clear y3 g3
 obtain ⟨y3, g3⟩ := B3
 have B4 := Box.below ⟨y4, g4⟩ hb1
 clear y4 g4
 obtain ⟨y4, g4⟩ := B4
 have B5 := Box.below ⟨y5, g5⟩ hb1
 clear y5 g5
 obtain ⟨y5, g5⟩ := B5
 have B6 := Box.below ⟨y6, g6⟩ hb1
 clear y6 g6
 obtain ⟨y6, g6⟩ := B6
 replace HG := Lib.hid (HG.out.below hb1)
 clear hb1
 go_wp2_with fail
 refine (laws_markNetY X ⟨ga1, ga2, ga3, ga4, ga5, ga6, ga7, ga8, gc1, gc2, gc3, gc4, gc5, gc6, gc7, gc8⟩ u4 u7 u8 _ wf.heap.size 1 _ HG.out NBX.out HTP.out (by omega) (by omega) (by omega)).mono ?_
 rintro e wk ⟨rfl, hm1, G⟩
 have HM := Lib.hid hm1
 clear HG hm1
 have swk := G.size
 replace H0 := Chg.below H0 G (by omega)
 replace HWB := Chg.below HWB G (by omega)
 have B3 := Box.chg ⟨y3, g3⟩ G (by omega)
 clear y3 g3
 obtain ⟨y3, g3⟩ := B3
 have B4 := Box.chg ⟨y4, g4⟩ G (by omega)
 clear y4 g4
 obtain ⟨y4, g4⟩ := B4
 have B5 := Box.chg ⟨y5, g5⟩ G (by omega)
 clear y5 g5
 obtain ⟨y5, g5⟩ := B5
 have B6 := Box.chg ⟨y6, g6⟩ G (by omega)
 clear y6 g6
 obtain ⟨y6, g6⟩ := B6
 clear G
 have NBM := Lib.hid (marked_nb (k := 1) NBX.out)
 have k8 : 0 ≤ mk8 1 X := (mk_bounds NBX.out (by omega) (by omega)).2.2.2.2.2.2.2
 have k8n : ¬ mk8 1 X < 0 := by omega
 have k8s := bne_self (mk8 1 X)
 go_wp2_with fail
 refine (laws_heldNetY X ⟨ga1, ga2, ga3, ga4, ga5, ga6, ga7, ga8, gc1, gc2, gc3, gc4, gc5, gc6, gc7, gc8⟩ 1 _ (HM.out.reads NBM.out) NBX.out (by omega) (by omega)).mono ?_
 rintro e wl ⟨rfl, hb1⟩
 have swl := bw_size hb1
 replace H0 := bw_then H0 hb1
 replace HWB := bw_then HWB hb1
 have B3 := Box.below ⟨y3, g3⟩ hb1
 clear y3 g3
 obtain ⟨y3, g3⟩ := B3
 have B4 := Box.below ⟨y4, g4⟩ hb1
 clear y4 g4
 obtain ⟨y4, g4⟩ := B4
 have B5 := Box.below ⟨y5, g5⟩ hb1
 clear y5 g5
 obtain ⟨y5, g5⟩ := B5
 have B6 := Box.below ⟨y6, g6⟩ hb1
 clear y6 g6
 obtain ⟨y6, g6⟩ := B6
 replace HM := Lib.hid (HM.out.below hb1)
 clear hb1
 go_wp2_with fail
 refine (laws_toNet n _ _ (R.out.below H0)).mono ?_
 rintro e wm ⟨⟨⟨f1, f2, f3, f4, f5, f6, f7, f8, fc1, fc2, fc3, fc4, fc5, fc6, fc7, fc8⟩, rfl, HT⟩, hb1⟩
 have HT3 := Lib.hid (HT.reads R.out)
 clear HT
 have swm := bw_size hb1
 dsimp only [netCells]
 replace H0 := bw_then H0 hb1
 replace HWB := bw_then HWB hb1
 have B3 := Box.below ⟨y3, g3⟩ hb1
 clear y3 g3
 obtain ⟨y3, g3⟩ := B3
 have B4 := Box.below ⟨y4, g4⟩ hb1
 clear y4 g4
 obtain ⟨y4, g4⟩ := B4
 have B5 := Box.below ⟨y5, g5⟩ hb1
 clear y5 g5
 obtain ⟨y5, g5⟩ := B5
 have B6 := Box.below ⟨y6, g6⟩ hb1
 clear y6 g6
 obtain ⟨y6, g6⟩ := B6
 replace HM := Lib.hid (HM.out.below hb1)
 clear hb1
 go_wp2_with fail
 refine (impl_RunToIdle n  _ _ HT3.out HA.out).mono ?_
 rintro e wn ⟨hg, hb1⟩
 rw [HX.out, HV.out] at hg
 obtain ⟨q9, t4, t7, t8, rfl, HO⟩ := hg
 obtain ⟨i1, i2, i3, i4, i5, i6, i7, i8, j1, j2, j3, j4, j5, j6, j7, j8⟩ := q9
 dsimp only [netCells]
 have swn := bw_size hb1
 have HH := Lib.hid HO.ny
 clear HO HT3
 replace H0 := bw_then H0 hb1
 replace HWB := bw_then HWB hb1
 have B3 := Box.below ⟨y3, g3⟩ hb1
 clear y3 g3
 obtain ⟨y3, g3⟩ := B3
 have B4 := Box.below ⟨y4, g4⟩ hb1
 clear y4 g4
 obtain ⟨y4, g4⟩ := B4
 have B5 := Box.below ⟨y5, g5⟩ hb1
 clear y5 g5
 obtain ⟨y5, g5⟩ := B5
 have B6 := Box.below ⟨y6, g6⟩ hb1
 clear y6 g6
 obtain ⟨y6, g6⟩ := B6
 replace HM := Lib.hid (HM.out.below hb1)
 clear hb1
 have hbX : Below wn.heap.size wn (wn.alloc (.cells #[.int .i64 X.mesh.g.w, .int .i64 X.mesh.g.h, .slice i1 X.mesh.br.length j1, .slice i2 X.pa.length j2, .slice i3 X.pb.length j3, .slice i4 X.bufs.length j4, .slice i5 X.owners.length j5, .slice i6 X.turns.length j6, .slice i7 X.srcs.length j7, .slice i8 X.arrs.length j8, .int .i64 X.time] 43)) := bw_alloc _ (bw_refl wn)
 have B7 : Box (wn.alloc (.cells #[.int .i64 X.mesh.g.w, .int .i64 X.mesh.g.h, .slice i1 X.mesh.br.length j1, .slice i2 X.pa.length j2, .slice i3 X.pb.length j3, .slice i4 X.bufs.length j4, .slice i5 X.owners.length j5, .slice i6 X.turns.length j6, .slice i7 X.srcs.length j7, .slice i8 X.arrs.length j8, .int .i64 X.time] 43)) wn.heap.size #[.int .i64 X.mesh.g.w, .int .i64 X.mesh.g.h, .slice i1 X.mesh.br.length j1, .slice i2 X.pa.length j2, .slice i3 X.pb.length j3, .slice i4 X.bufs.length j4, .slice i5 X.owners.length j5, .slice i6 X.turns.length j6, .slice i7 X.srcs.length j7, .slice i8 X.arrs.length j8, .int .i64 X.time] := Box.new wn _ _ _ rfl
 have sX : (wn.alloc (.cells #[.int .i64 X.mesh.g.w, .int .i64 X.mesh.g.h, .slice i1 X.mesh.br.length j1, .slice i2 X.pa.length j2, .slice i3 X.pb.length j3, .slice i4 X.bufs.length j4, .slice i5 X.owners.length j5, .slice i6 X.turns.length j6, .slice i7 X.srcs.length j7, .slice i8 X.arrs.length j8, .int .i64 X.time] 43)).heap.size = wn.heap.size + 1 := World.size_alloc _ _
 replace H0 := bw_then H0 hbX
 replace HWB := bw_then HWB hbX
 have B3 := Box.below ⟨y3, g3⟩ hbX
 clear y3 g3
 obtain ⟨y3, g3⟩ := B3
 have B4 := Box.below ⟨y4, g4⟩ hbX
 clear y4 g4
 obtain ⟨y4, g4⟩ := B4
 have B5 := Box.below ⟨y5, g5⟩ hbX
 clear y5 g5
 obtain ⟨y5, g5⟩ := B5
 have B6 := Box.below ⟨y6, g6⟩ hbX
 clear y6 g6
 obtain ⟨y6, g6⟩ := B6
 replace HM := Lib.hid (HM.out.below hbX)
 have hbO := hbX
 go_wp2_with fail
 generalize wn.alloc (.cells #[.int .i64 X.mesh.g.w, .int .i64 X.mesh.g.h, .slice i1 X.mesh.br.length j1, .slice i2 X.pa.length j2, .slice i3 X.pb.length j3, .slice i4 X.bufs.length j4, .slice i5 X.owners.length j5, .slice i6 X.turns.length j6, .slice i7 X.srcs.length j7, .slice i8 X.arrs.length j8, .int .i64 X.time] 43) = wo at *
 clear hbX
 have sX7 : wn.heap.size + 1 ≤ wo.heap.size := Nat.le_of_eq sX.symm
 clear sX
 obtain ⟨y7, g7⟩ := B7
 refine (laws_eqNet X _ _ _ ((HH.out.below hbO).reads NBX.out) ((HW.out.below HWB).reads NBX.out)).mono ?_
 rintro e wp ⟨rfl, hb1⟩
 have swp := bw_size hb1
 replace H0 := bw_then H0 hb1
 replace HWB := bw_then HWB hb1
 have B3 := Box.below ⟨y3, g3⟩ hb1
 clear y3 g3
 obtain ⟨y3, g3⟩ := B3
 have B4 := Box.below ⟨y4, g4⟩ hb1
 clear y4 g4
 obtain ⟨y4, g4⟩ := B4
 have B5 := Box.below ⟨y5, g5⟩ hb1
 clear y5 g5
 obtain ⟨y5, g5⟩ := B5
 have B6 := Box.below ⟨y6, g6⟩ hb1
 clear y6 g6
 obtain ⟨y6, g6⟩ := B6
 have B7 := Box.below ⟨y7, g7⟩ hb1
 clear y7 g7
 obtain ⟨y7, g7⟩ := B7
 replace HM := Lib.hid (HM.out.below hb1)
 clear hb1
 go_wp2_with fail
 refine (laws_heldNetY X ⟨ga1, ga2, ga3, ga4, ga5, ga6, ga7, ga8, gc1, gc2, gc3, gc4, gc5, gc6, gc7, gc8⟩ 1 _ (HM.out.reads NBM.out) NBX.out (by omega) (by omega)).mono ?_
 rintro e wq ⟨rfl, hb1⟩
 have swq := bw_size hb1
 replace H0 := bw_then H0 hb1
 replace HWB := bw_then HWB hb1
 have B3 := Box.below ⟨y3, g3⟩ hb1
 clear y3 g3
 obtain ⟨y3, g3⟩ := B3
 have B4 := Box.below ⟨y4, g4⟩ hb1
 clear y4 g4
 obtain ⟨y4, g4⟩ := B4
 have B5 := Box.below ⟨y5, g5⟩ hb1
 clear y5 g5
 obtain ⟨y5, g5⟩ := B5
 have B6 := Box.below ⟨y6, g6⟩ hb1
 clear y6 g6
 obtain ⟨y6, g6⟩ := B6
 have B7 := Box.below ⟨y7, g7⟩ hb1
 clear y7 g7
 obtain ⟨y7, g7⟩ := B7
 replace HM := Lib.hid (HM.out.below hb1)
 clear hb1
 go_wp2
 go_ret
 exact ⟨rfl, H0⟩
end Go.Proofs.YteeebfeljjghhaaGreat
/- The law FnExactRunToIdle answers true for every input, and each argument reads afterwards as it read before. -/
namespace Go.Proofs.YteeebfeljjghhaaGreat
open Go.ChangeShapes Go.WideShapes Go.ChangeAt Go.RowKit Go.Proofs.YteeebfeljjghhaaGreatW.PrintWords
open NoC
set_option linter.unusedVariables false
theorem own : ownKnob Tryz.prog.godebug = none := by kernel_rfl
theorem laidOut : laidOutB Tryz.prog = true := by kernel_rfl
theorem arr_of {cs : Array Value} {l : List Value} (h : cs.toList = l) : cs = l.toArray := by rw [← h]
set_option maxHeartbeats 1000000 in
set_option maxRecDepth 100000 in
theorem lifted_RunToIdle (os : Os) (started : os.Started) (H : Type) (enc : TypeId × Value → H) :
    ReturnsInHanded {} Tryz.checked os 6 .any (Rows.fnExactRunToIdleSpec.pre6 enc Tryz.prog Tryz.f6 Rows.fnExactRunToIdleRow.domain false) (Rows.fnExactRunToIdleSpec.post enc Tryz.prog Tryz.f6 false true false false) := by
  refine returnsInHanded_of_change_sized (C := Tryz.checked) own started (by kernel_rfl) Tryz.func6
    (ChangeSpec.witness6 (enc := enc) (C := Tryz.checked) false ⟨#[], #[.agg #[.int .i64 0, .int .i64 0, .slice none 0 0, .slice none 0 0, .slice none 0 0, .slice none 0 0, .slice none 0 0, .slice none 0 0, .slice none 0 0, .slice none 0 0, .int .i64 0]], []⟩ 8 (by kernel_rfl) (by kernel_rfl) (by kernel_rfl) (by kernel_rfl)) ?_
  intro W base args ds gs before hval0 hW hcnd hsz0 _
  have hsz : (DataW.weightsEach Tryz.prog (Tryz.f6.params.toList ++ Rows.fnExactRunToIdleSpec.plain.varTypes Tryz.prog) (ds ++ gs)).all (· ≤ reachBytes) = true := hsz0
  have hval : ∀ (j : Nat) t v, Tryz.f6.params[j]? = some t → args[j]? = some v → Value.okWide Tryz.prog W .any base t v := hval0
  have hW' := hW
  obtain ⟨p, q, hA0, hV, rfl, hfz, hnd⟩ := hW
  have hA : DataW.TrodAll enc Tryz.prog W 0 (fun _ => true) true Tryz.f6.params.toList args.toList ds p := hA0
  rw [Tryz.params6] at hA hval hsz
  obtain ⟨v0, vs0, d0, ds0, p0, q0, hargs, rfl, rfl, h0, r0⟩ := trodAll_cons hA
  obtain ⟨rfl, rfl, rfl⟩ := trodAll_nil r0
  obtain rfl : args = #[v0] := by cases args; simp_all
  obtain ⟨rfl, rfl⟩ := trodVars_none hV
  obtain ⟨c0, rfl, _⟩ := okWide_struct Tryz.underlying33 (hval 0 _ v0 rfl rfl)
  have k0 := h0
  have lt0 : ∀ x ∈ p0, x.block < W.heap.size := by obtain ⟨m, hm⟩ := k0; exact DataW.trod_lt m _ _ _ hm
  obtain ⟨f0, g0⟩ := h0
  obtain ⟨n0, q0', e0, hn0⟩ := op_net g0 (light_arg hsz (j := 0) rfl rfl)
  obtain rfl := arr_of e0
  clear hA0 hval0 hsz0 hsz
  refine (law_RunToIdle n0 q0' W hn0).mono fun e W' ⟨he, bel⟩ => ?_
  subst he
  exact ⟨_, rfl, _, _, _, [], _, [], hW', trodAll_mk1 (shut_bool Tryz.underlying4 _), (trodAll_cons_mk (Below.trod laidOut (by kernel_rfl) (of_decide_eq_true (by kernel_rfl)) k0 bel lt0) trodAll_mk0), rfl, bel.frame _, fun h => by cases h⟩
theorem over_RunToIdle : Rows.fnExactRunToIdleRow.holds Tryz.pinned (OpenSpec.ofChange Rows.fnExactRunToIdleSpec) :=
  OpenClaim.holds_of_wide 6 Tryz.f6 rfl rfl rfl rfl rfl rfl rfl ⟨rfl, rfl, rfl, rfl, rfl⟩ rfl rfl rfl rfl rfl (by kernel_rfl) Tryz.func6 (by kernel_rfl)
    (of_decide_eq_true (by kernel_rfl)) (by unfold Func.isWrapper; first | (rw [if_pos (by decide +kernel)]; kernel_rfl) | (rw [if_neg (by decide +kernel)]; exact ⟨rfl, rfl⟩))
    (fun os started H enc _ => lifted_RunToIdle os started H enc)
theorem fnExactRunToIdle_holds : Rows.FnExactRunToIdleSaid := over_RunToIdle
#print axioms fnExactRunToIdle_holds
end Go.Proofs.YteeebfeljjghhaaGreat
