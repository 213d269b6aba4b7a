/- Lemmas for laws of this seat, for all inputs: RunS SndS SndT SndV Clock Ring Std Src M5 Draw Draw2 DrT DrU DrV DrN Len Cr Rot. -/
import Derived.Test.YtaihmgbflhbebaaGreatU12
import Derived.Test.YtaihmgbflhbebaaGreatU14
import Derived.Test.YtaihmgbflhbebaaGreatU15
import Derived.Test.YtaihmgbflhbebaaGreatU7
import Derived.Test.YtaihmgbflhbebaaGreatU11
import Derived.Test.YtaihmgbflhbebaaGreatU3
import Derived.RangeFuncBox
import Derived.WalkKit
import Derived.Test.YtaihmgbflhbebaaGreatU4
import Derived.Laws.Closers25b
import Derived.IntWalk
import Derived.RegionTactic
import Derived.BigRegion
import Derived.Laws.BitsAllLaws
import Derived.Test.YtaihmgbflhbebaaGreatU5
import Derived.Test.YtaihmgbflhbebaaGreatU10
set_option linter.unusedVariables false
set_option linter.unusedSimpArgs false
namespace Go.Proofs.YtaihmgbflhbebaaGreat
open Go.RowKit Go.Proofs.YtaihmgbflhbebaaGreatW.PrintWords
open NoC
def GotNL (lo : Nat) (w' : World) (n : Net) (e : Ending) : Prop := ∃ q v4 v7 v8, e = .returned (.agg (netCells n q)) ∧ NX w' lo n q v4 v7 v8
theorem putN_other {w : World} {b c : Nat} {n : Net} {q : NA} (h : BN w c) (hne : c ≠ b) : BN (putN w b n q) c := by
  unfold putN
  exact BN.off (BN.off (BN.off (BN.off (BN.off (BN.off (BN.off (BN.off (BN.off (BN.off (BN.off h hne 0 _) hne 1 _) hne 2 _) hne 3 _) hne 4 _) hne 5 _) hne 6 _) hne 7 _) hne 8 _) hne 9 _) hne 10 _
theorem run_idle_at {n : Net} {k S : Nat} (hk : k ≤ S) (h : idleN (runN n k) = true) : runN n S = { runN n k with time := (runN n k).time + (S : Int) - (k : Int) } := by
  have e : S = k + (S - k) := by omega
  rw [e, runN_add, idle_run h]
  congr 1
  omega
set_option maxHeartbeats 8000000 in
set_option maxRecDepth 100000 in
theorem spec_l20Run (n : Net) (S : Nat) (q : NA) (v4 v7 v8 : List Value) (lo : Nat) (w : World) (hN : NX w lo n q v4 v7 v8) (nb : NB n) (hA : ∀ x ∈ n.arrs, x.length ≤ 1048576) (ok : netOk n = true) (hS : S ≤ 400) (ht : n.time + S ≤ 1000000) (hlo : lo ≤ w.heap.size) :
  Calls Tryz.prog 69 #[.agg (netCells n q), .int .i64 S] w fun e w' => GotNL lo w' (runN n S) e ∧ Below w.heap.size w w' := by
 have HN := Lib.hid hN
 have HA := Lib.hid hA
 have NBQ := Lib.hid nb
 clear hN hA nb
 obtain ⟨a1, a2, a3, a4, a5, a6, a7, a8, c1, c2, c3, c4, c5, c6, c7, c8⟩ := q
 dsimp only [netCells]
 have ti := time_ok ok
 have HOK : Hid (∀ k : Nat, k ≤ S → netOk (runN n k) = true) := Lib.hid (fun k hk => runN_ok ok k (by omega))
 clear ok
 have HB0 : Hid (BT ((w.alloc (.cells #[.int .i64 n.mesh.g.w, .int .i64 n.mesh.g.h, .slice a1 n.mesh.br.length c1, .slice a2 n.pa.length c2, .slice a3 n.pb.length c3, .slice a4 n.bufs.length c4, .slice a5 n.owners.length c5, .slice a6 n.turns.length c6, .slice a7 n.srcs.length c7, .slice a8 n.arrs.length c8, .int .i64 n.time] 35)).alloc (.cells #[.int .i64 0, .int .i64 0, .slice none 0 0, .slice none 0 0, .slice none 0 0, .slice none 0 0, .slice none 0 0, .slice none 0 0, .slice none 0 0, .slice none 0 0, .int .i64 0] 35)) w.heap.size n ⟨a1, a2, a3, a4, a5, a6, a7, a8, c1, c2, c3, c4, c5, c6, c7, c8⟩) := Lib.hid ((BT.new w n ⟨a1, a2, a3, a4, a5, a6, a7, a8, c1, c2, c3, c4, c5, c6, c7, c8⟩).below (bw_alloc _ (bw_refl _)))
 have HZ0 : Hid (BN ((w.alloc (.cells #[.int .i64 n.mesh.g.w, .int .i64 n.mesh.g.h, .slice a1 n.mesh.br.length c1, .slice a2 n.pa.length c2, .slice a3 n.pb.length c3, .slice a4 n.bufs.length c4, .slice a5 n.owners.length c5, .slice a6 n.turns.length c6, .slice a7 n.srcs.length c7, .slice a8 n.arrs.length c8, .int .i64 n.time] 35)).alloc (.cells #[.int .i64 0, .int .i64 0, .slice none 0 0, .slice none 0 0, .slice none 0 0, .slice none 0 0, .slice none 0 0, .slice none 0 0, .slice none 0 0, .slice none 0 0, .int .i64 0] 35)) (w.heap.size + 1)) := Lib.hid ((BT.bn (by have hn := BT.new (w.alloc (.cells #[.int .i64 n.mesh.g.w, .int .i64 n.mesh.g.h, .slice a1 n.mesh.br.length c1, .slice a2 n.pa.length c2, .slice a3 n.pb.length c3, .slice a4 n.bufs.length c4, .slice a5 n.owners.length c5, .slice a6 n.turns.length c6, .slice a7 n.srcs.length c7, .slice a8 n.arrs.length c8, .int .i64 n.time] 35)) ⟨⟨⟨0, 0⟩, []⟩, [], [], [], [], [], [], [], 0⟩ ⟨none, none, none, none, none, none, none, none, 0, 0, 0, 0, 0, 0, 0, 0⟩; rw [World.size_alloc] at hn; exact hn)))
 have HW0 : Hid (Below w.heap.size w ((w.alloc (.cells #[.int .i64 n.mesh.g.w, .int .i64 n.mesh.g.h, .slice a1 n.mesh.br.length c1, .slice a2 n.pa.length c2, .slice a3 n.pb.length c3, .slice a4 n.bufs.length c4, .slice a5 n.owners.length c5, .slice a6 n.turns.length c6, .slice a7 n.srcs.length c7, .slice a8 n.arrs.length c8, .int .i64 n.time] 35)).alloc (.cells #[.int .i64 0, .int .i64 0, .slice none 0 0, .slice none 0 0, .slice none 0 0, .slice none 0 0, .slice none 0 0, .slice none 0 0, .slice none 0 0, .slice none 0 0, .int .i64 0] 35))) := Lib.hid (bw_alloc _ (bw_alloc _ (bw_refl w)))
 go_enter Tryz.func69, Tryz.ntmps69
 go_wp2_with fail
 go_loopw [5] (fun i wr => ∃ (k : Nat) (q' : NA) (u4 u7 u8 : List Value), i = .int .i64 k ∧ k ≤ S ∧ Hid (NX wr lo (runN n k) q' u4 u7 u8) ∧ Hid (BT wr w.heap.size (runN n k) q') ∧ Hid (BN wr (w.heap.size + 1)) ∧ Hid (Below w.heap.size w wr)) (fun i _ => S - (intOf i).toNat)
 case atStart => exact ⟨0, ⟨a1, a2, a3, a4, a5, a6, a7, a8, c1, c2, c3, c4, c5, c6, c7, c8⟩, v4, v7, v8, rfl, Nat.zero_le _, Lib.hid (HN.out.below HW0.out), Lib.hid HB0.out, Lib.hid HZ0.out, Lib.hid HW0.out⟩
 case round =>
  clear HB0 HZ0 HW0
  obtain ⟨k, q', u4, u7, u8, rfl, hk, HNk, HBk, HZk, HWk⟩ := hrel
  obtain ⟨wk, ewk⟩ : ∃ z, z = wr := ⟨_, rfl⟩
  subst ewk
  obtain ⟨p1, p2, p3, p4, p5, p6, p7, p8, r1, r2, r3, r4, r5, r6, r7, r8⟩ := q'
  obtain ⟨X, hX⟩ : ∃ X, runN n k = X := ⟨_, rfl⟩
  have OKX : Hid (netOk X = true) := Lib.hid (by rw [← hX]; exact HOK.out k hk)
  have NBX : Hid (NB X) := Lib.hid (by rw [← hX]; exact run_nb NBQ.out HA.out k (by omega) (HOK.out k hk))
  have HIX : Hid (idleN X = true → runN n S = { X with time := X.time + (S : Int) - (k : Int) }) := Lib.hid (fun h => by rw [← hX] at h ⊢; exact run_idle_at hk h)
  have HSX : Hid (runN n (k + 1) = stepN X) := Lib.hid (by rw [← hX]; rfl)
  have HSE : Hid (k = S → runN n S = X) := Lib.hid (fun e => by rw [← e]; exact hX)
  have tX0 := (time_ok OKX.out).1
  have tX1 := (time_ok OKX.out).2
  rw [hX] at HNk HBk
  clear hX
  have HRX := Lib.hid (HNk.out.reads NBX.out)
  have zl := HBk.out.lt
  have zw := bw_size HWk.out
  have box11 : Box wk w.heap.size #[.int .i64 X.mesh.g.w, .int .i64 X.mesh.g.h, .slice p1 X.mesh.br.length r1, .slice p2 X.pa.length r2, .slice p3 X.pb.length r3, .slice p4 X.bufs.length r4, .slice p5 X.owners.length r5, .slice p6 X.turns.length r6, .slice p7 X.srcs.length r7, .slice p8 X.arrs.length r8, .int .i64 X.time] := HBk.out.box
  obtain ⟨z0, z1, z2, z3, z4, z5, z6, z7, z8, z9, z10⟩ := all11 box11
  clear box11
  by_cases hlt : k < S
  ·cases hi : idleN X
   ·go_wp2_with fail
    refine (spec_l20Idle X ⟨p1, p2, p3, p4, p5, p6, p7, p8, r1, r2, r3, r4, r5, r6, r7, r8⟩ _ HRX.out).mono ?_
    rintro e w5 ⟨he, hb5⟩
    rw [hi] at he
    subst he
    have HN5 := Lib.hid (HNk.out.below hb5)
    have HB5 := Lib.hid (HBk.out.below hb5)
    have HZ5 := Lib.hid (HZk.out.below hb5)
    have HW5 : Hid (Below w.heap.size w w5) := Lib.hid (bw_then HWk.out hb5)
    repeat (first | clear z0 | clear z1 | clear z2 | clear z3 | clear z4 | clear z5 | clear z6 | clear z7 | clear z8 | clear z9 | clear z10)
    clear HNk HBk HZk HRX hb5 hi zl
    have box11 : Box w5 w.heap.size #[.int .i64 X.mesh.g.w, .int .i64 X.mesh.g.h, .slice p1 X.mesh.br.length r1, .slice p2 X.pa.length r2, .slice p3 X.pb.length r3, .slice p4 X.bufs.length r4, .slice p5 X.owners.length r5, .slice p6 X.turns.length r6, .slice p7 X.srcs.length r7, .slice p8 X.arrs.length r8, .int .i64 X.time] := HB5.out.box
    obtain ⟨z0, z1, z2, z3, z4, z5, z6, z7, z8, z9, z10⟩ := all11 box11
    clear box11
    have zl := HB5.out.lt
    go_wp2_with fail
    refine (spec_l19Step X ⟨p1, p2, p3, p4, p5, p6, p7, p8, r1, r2, r3, r4, r5, r6, r7, r8⟩ _ (HN5.out.reads NBX.out) OKX.out).mono ?_
    rintro e w4 ⟨hg4, hb4⟩
    obtain ⟨q4, y4, y7, y8, rfl, HN0⟩ := hg4
    obtain ⟨s1, s2, s3, s4, s5, s6, s7, s8, t1, t2, t3, t4, t5, t6, t7, t8⟩ := q4
    dsimp only [netCells]
    have zw5 := bw_size HW5.out
    have HN4 := Lib.hid (HN0.lower (show lo ≤ w5.heap.size by omega))
    have HB4 : Hid (BN w4 w.heap.size) := Lib.hid ((HB5.out.below hb4).bn)
    have HZ4 : Hid (BN w4 (w.heap.size + 1)) := Lib.hid (HZ5.out.below hb4)
    have HW4 : Hid (Below w.heap.size w w4) := Lib.hid (bw_then HW5.out hb4)
    clear HN0 hb4
    repeat (first | clear z0 | clear z1 | clear z2 | clear z3 | clear z4 | clear z5 | clear z6 | clear z7 | clear z8 | clear z9 | clear z10)
    obtain ⟨⟨ry0, rv0⟩, ⟨ry1, rv1⟩, ⟨ry2, rv2⟩, ⟨ry3, rv3⟩, ⟨ry4, rv4⟩, ⟨ry5, rv5⟩, ⟨ry6, rv6⟩, ⟨ry7, rv7⟩, ⟨ry8, rv8⟩, ⟨ry9, rv9⟩, ⟨ry10, rv10⟩, rz0, rz1, rz2, rz3, rz4, rz5, rz6, rz7, rz8, rz9, rz10⟩ := allBN HB4.out
    obtain ⟨Y, hY⟩ : ∃ Y, stepN X = Y := ⟨_, rfl⟩
    rw [hY] at HN4 HSX
    try rw [hY]
    clear hY
    have nz : ¬ w.heap.size + 1 = w.heap.size := by omega
    go_wp2
    obtain ⟨W9, e9⟩ : ∃ z, z = putN w4 w.heap.size Y ⟨s1, s2, s3, s4, s5, s6, s7, s8, t1, t2, t3, t4, t5, t6, t7, t8⟩ := ⟨_, rfl⟩
    have HB9 : Hid (BT W9 w.heap.size Y ⟨s1, s2, s3, s4, s5, s6, s7, s8, t1, t2, t3, t4, t5, t6, t7, t8⟩) := Lib.hid (by rw [e9]; exact putN_BT HB4.out)
    have HN9 := Lib.hid (show NX W9 lo Y ⟨s1, s2, s3, s4, s5, s6, s7, s8, t1, t2, t3, t4, t5, t6, t7, t8⟩ y4 y7 y8 from by rw [e9]; exact HN4.out.put HB4.out)
    have HL9 : Hid (Below w.heap.size w W9) := Lib.hid (by rw [e9]; exact below_put HW4.out (Nat.le_refl _))
    have HZ9 : Hid (BN W9 (w.heap.size + 1)) := Lib.hid (by rw [e9]; exact putN_other HZ4.out nz)
    unfold putN at e9
    try dsimp only at e9
    rw [← e9]
    clear e9
    go_roundw
    case rel => exact ⟨k + 1, ⟨s1, s2, s3, s4, s5, s6, s7, s8, t1, t2, t3, t4, t5, t6, t7, t8⟩, y4, y7, y8, by go_num, by omega, Lib.hid (by rw [HSX.out]; exact HN9.out), Lib.hid (by rw [HSX.out]; exact HB9.out), Lib.hid HZ9.out, Lib.hid HL9.out⟩
    case measure => simp [intOf]; omega
   ·have HE := Lib.hid (HIX.out hi)
    go_wp2_with fail
    refine (spec_l20Idle X ⟨p1, p2, p3, p4, p5, p6, p7, p8, r1, r2, r3, r4, r5, r6, r7, r8⟩ _ HRX.out).mono ?_
    rintro e w5 ⟨he, hb5⟩
    rw [hi] at he
    subst he
    have HN5 := Lib.hid (HNk.out.below hb5)
    have HB5 := Lib.hid (HBk.out.below hb5)
    have HZ5 := Lib.hid (HZk.out.below hb5)
    have HW5 : Hid (Below w.heap.size w w5) := Lib.hid (bw_then HWk.out hb5)
    repeat (first | clear z0 | clear z1 | clear z2 | clear z3 | clear z4 | clear z5 | clear z6 | clear z7 | clear z8 | clear z9 | clear z10)
    clear HNk HBk HZk HRX hb5 hi zl
    have box11 : Box w5 w.heap.size #[.int .i64 X.mesh.g.w, .int .i64 X.mesh.g.h, .slice p1 X.mesh.br.length r1, .slice p2 X.pa.length r2, .slice p3 X.pb.length r3, .slice p4 X.bufs.length r4, .slice p5 X.owners.length r5, .slice p6 X.turns.length r6, .slice p7 X.srcs.length r7, .slice p8 X.arrs.length r8, .int .i64 X.time] := HB5.out.box
    obtain ⟨z0, z1, z2, z3, z4, z5, z6, z7, z8, z9, z10⟩ := all11 box11
    clear box11
    have zl := HB5.out.lt
    have f10 := HB5.out.frozen 10
    obtain ⟨⟨ry0, rv0⟩, ⟨ry1, rv1⟩, ⟨ry2, rv2⟩, ⟨ry3, rv3⟩, ⟨ry4, rv4⟩, ⟨ry5, rv5⟩, ⟨ry6, rv6⟩, ⟨ry7, rv7⟩, ⟨ry8, rv8⟩, ⟨ry9, rv9⟩, ⟨ry10, rv10⟩, rz0, rz1, rz2, rz3, rz4, rz5, rz6, rz7, rz8, rz9, rz10⟩ := allBN HZ5.out
    have nz : ¬ w.heap.size + 1 = w.heap.size := by omega
    have nz' : ¬ w.heap.size = w.heap.size + 1 := by omega
    go_wp2
    obtain ⟨W8, e8⟩ : ∃ z, z = w5.setCell ⟨w.heap.size, 10, none⟩ (.int .i64 (X.time + (S : Int) - (k : Int))) := ⟨_, rfl⟩
    rw [← e8]
    have HN8 : Hid (NX W8 lo { X with time := X.time + (S : Int) - (k : Int) } ⟨p1, p2, p3, p4, p5, p6, p7, p8, r1, r2, r3, r4, r5, r6, r7, r8⟩ u4 u7 u8) := Lib.hid (by rw [e8]; exact (HN5.out.typed HB5.out.blk (by decide) (by decide) (by decide) 10 _).time _)
    have HZ8 : Hid (BN W8 (w.heap.size + 1)) := Lib.hid (by rw [e8]; exact HZ5.out.off nz 10 _)
    have HL8 : Hid (Below w.heap.size w W8) := Lib.hid (by rw [e8]; exact below_setc HW5.out (Nat.le_refl _) 10 _)
    obtain ⟨W9, e9⟩ : ∃ z, z = putN W8 (w.heap.size + 1) { X with time := X.time + (S : Int) - (k : Int) } ⟨p1, p2, p3, p4, p5, p6, p7, p8, r1, r2, r3, r4, r5, r6, r7, r8⟩ := ⟨_, rfl⟩
    have HB9 : Hid (BT W9 (w.heap.size + 1) { X with time := X.time + (S : Int) - (k : Int) } ⟨p1, p2, p3, p4, p5, p6, p7, p8, r1, r2, r3, r4, r5, r6, r7, r8⟩) := Lib.hid (by rw [e9]; exact putN_BT HZ8.out)
    have HN9 : Hid (NX W9 lo { X with time := X.time + (S : Int) - (k : Int) } ⟨p1, p2, p3, p4, p5, p6, p7, p8, r1, r2, r3, r4, r5, r6, r7, r8⟩ u4 u7 u8) := Lib.hid (by rw [e9]; exact HN8.out.put HZ8.out)
    have HL9 : Hid (Below w.heap.size w W9) := Lib.hid (by rw [e9]; exact below_put HL8.out (by omega))
    unfold putN at e9
    try dsimp only at e9
    rw [← e9]
    clear e9 e8
    exact bodyPost_ret (results_cell_row Tryz.results69 _ _ (w.heap.size + 1) 35 _ (0, 0) _ rfl HB9.out Tryz.underlying35 rfl (by kernel_rfl)) rfl (by rw [HE.out]; exact ⟨⟨_, _, _, _, rfl, HN9.out⟩, HL9.out⟩)
  ·obtain rfl : k = S := by omega
   have HE := Lib.hid (HSE.out rfl)
   obtain ⟨⟨ry0, rv0⟩, ⟨ry1, rv1⟩, ⟨ry2, rv2⟩, ⟨ry3, rv3⟩, ⟨ry4, rv4⟩, ⟨ry5, rv5⟩, ⟨ry6, rv6⟩, ⟨ry7, rv7⟩, ⟨ry8, rv8⟩, ⟨ry9, rv9⟩, ⟨ry10, rv10⟩, rz0, rz1, rz2, rz3, rz4, rz5, rz6, rz7, rz8, rz9, rz10⟩ := allBN HZk.out
   go_wp2
   obtain ⟨W9, e9⟩ : ∃ z, z = putN wk (w.heap.size + 1) X ⟨p1, p2, p3, p4, p5, p6, p7, p8, r1, r2, r3, r4, r5, r6, r7, r8⟩ := ⟨_, rfl⟩
   have HB9 : Hid (BT W9 (w.heap.size + 1) X ⟨p1, p2, p3, p4, p5, p6, p7, p8, r1, r2, r3, r4, r5, r6, r7, r8⟩) := Lib.hid (by rw [e9]; exact putN_BT HZk.out)
   have HN9 : Hid (NX W9 lo X ⟨p1, p2, p3, p4, p5, p6, p7, p8, r1, r2, r3, r4, r5, r6, r7, r8⟩ u4 u7 u8) := Lib.hid (by rw [e9]; exact HNk.out.put HZk.out)
   have HL9 : Hid (Below w.heap.size w W9) := Lib.hid (by rw [e9]; exact below_put HWk.out (by omega))
   unfold putN at e9
   try dsimp only at e9
   rw [← e9]
   clear e9
   exact bodyPost_ret (results_cell_row Tryz.results69 _ _ (w.heap.size + 1) 35 _ (0, 0) _ rfl HB9.out Tryz.underlying35 rfl (by kernel_rfl)) rfl (by rw [HE.out]; exact ⟨⟨_, _, _, _, rfl, HN9.out⟩, HL9.out⟩)
set_option maxHeartbeats 16000000 in
set_option maxRecDepth 100000 in
theorem spec_l16Send (n : Net) (p : Packet) (q : NA) (w : World) (hr : NetR 80 w n q) (ok : netOk n = true) (hs : sendOk n p = true) :
  Calls Tryz.prog 87 #[.agg (netCells n q), .agg #[.int .i64 p.id, .int .i64 p.src, .int .i64 p.dst, .int .i64 p.cls, .int .i64 p.len]] w fun e w' => GotNX w w' (sendN n p) e ∧ Below w.heap.size w w' := by
 have HR := Lib.hid hr
 have NBQ := Lib.hid hr.nb
 obtain ⟨l4, l5, l6, l7, l8⟩ := lens_ok ok
 have hsb := srcs_len ok
 have HSL := Lib.hid hsb.2
 have hk : packetOk n.mesh.g p = true := by
  simp only [sendOk, Bool.and_eq_true] at hs
  exact hs.1
 obtain ⟨a1, a2, a3, a4, a5, a6, a7, a8, c1, c2, c3, c4, c5, c6, c7, c8⟩ := q
 clear hr
 dsimp only [netCells]

 go_enter Tryz.func87, Tryz.ntmps87
 go_wp2_with fail
 refine (spec_l15Copy n _ _ (HR.out.below bel)).mono ?_
 rintro e w1 ⟨hg1, HBC⟩
 obtain ⟨qq, v4, v7, v8, rfl, HN0⟩ := hg1
 obtain ⟨b1, b2, b3, b4, b5, b6, b7, b8, d1, d2, d3, d4, d5, d6, d7, d8⟩ := qq
 dsimp only [netCells]
 obtain ⟨w0, e0⟩ : ∃ z, z = w1.alloc (.cells #[.int .i64 n.mesh.g.w, .int .i64 n.mesh.g.h, .slice b1 n.mesh.br.length d1, .slice b2 n.pa.length d2, .slice b3 n.pb.length d3, .slice b4 n.bufs.length d4, .slice b5 n.owners.length d5, .slice b6 n.turns.length d6, .slice b7 n.srcs.length d7, .slice b8 n.arrs.length d8, .int .i64 n.time] 35) := ⟨_, rfl⟩
 have hz0 : w0.heap.size = w1.heap.size + 1 := by rw [e0]; simp only [szs]
 have hw01 : Below w1.heap.size w1 w0 := by rw [e0]; exact bw_alloc _ (bw_refl w1)
 obtain ⟨bx, ebx⟩ : ∃ z, z = w1.heap.size := ⟨_, rfl⟩
 have HBT : Hid (BT w0 bx n ⟨b1, b2, b3, b4, b5, b6, b7, b8, d1, d2, d3, d4, d5, d6, d7, d8⟩) := Lib.hid (by rw [e0, ebx]; exact blk_new w1 _)
 obtain ⟨lo, elo⟩ : ∃ z, z = w.heap.size + 3 := ⟨_, rfl⟩
 have HN : Hid (NX w0 lo n ⟨b1, b2, b3, b4, b5, b6, b7, b8, d1, d2, d3, d4, d5, d6, d7, d8⟩ v4 v7 v8) := Lib.hid ((HN0.lower (by simp only [szs]; omega)).below hw01)
 have HHB : Hid (Below w.heap.size w w0) := Lib.hid (bw_then (bw_then (bw_alloc _ (bw_alloc _ (bw_alloc _ (bw_refl w)))) HBC) hw01)
 have sw : w.heap.size + 3 ≤ w1.heap.size := by have := bw_size HBC; simp only [szs] at this; omega
 have HX0 : Hid (Box w0 w.heap.size #[.int .i64 n.mesh.g.w, .int .i64 n.mesh.g.h, .slice a1 n.mesh.br.length c1, .slice a2 n.pa.length c2, .slice a3 n.pb.length c3, .slice a4 n.bufs.length c4, .slice a5 n.owners.length c5, .slice a6 n.turns.length c6, .slice a7 n.srcs.length c7, .slice a8 n.arrs.length c8, .int .i64 n.time]) := Lib.hid ((((((Box.new w w.heap.size #[.int .i64 n.mesh.g.w, .int .i64 n.mesh.g.h, .slice a1 n.mesh.br.length c1, .slice a2 n.pa.length c2, .slice a3 n.pb.length c3, .slice a4 n.bufs.length c4, .slice a5 n.owners.length c5, .slice a6 n.turns.length c6, .slice a7 n.srcs.length c7, .slice a8 n.arrs.length c8, .int .i64 n.time] 35 rfl).alloc _).alloc _).below HBC)).below hw01)
 have HP0 : Hid (Box w0 (w.heap.size + 1) #[.int .i64 p.id, .int .i64 p.src, .int .i64 p.dst, .int .i64 p.cls, .int .i64 p.len]) := Lib.hid (((((Box.new (w.alloc (.cells #[.int .i64 n.mesh.g.w, .int .i64 n.mesh.g.h, .slice a1 n.mesh.br.length c1, .slice a2 n.pa.length c2, .slice a3 n.pb.length c3, .slice a4 n.bufs.length c4, .slice a5 n.owners.length c5, .slice a6 n.turns.length c6, .slice a7 n.srcs.length c7, .slice a8 n.arrs.length c8, .int .i64 n.time] 35)) (w.heap.size + 1) #[.int .i64 p.id, .int .i64 p.src, .int .i64 p.dst, .int .i64 p.cls, .int .i64 p.len] 115 (by simp only [szs])).alloc _).below HBC)).below hw01)
 have HZB : Hid (BN w0 (w.heap.size + 2)) := Lib.hid (((BT.bn (by have hn := BT.new ((w.alloc (.cells #[.int .i64 n.mesh.g.w, .int .i64 n.mesh.g.h, .slice a1 n.mesh.br.length c1, .slice a2 n.pa.length c2, .slice a3 n.pb.length c3, .slice a4 n.bufs.length c4, .slice a5 n.owners.length c5, .slice a6 n.turns.length c6, .slice a7 n.srcs.length c7, .slice a8 n.arrs.length c8, .int .i64 n.time] 35)).alloc (.cells #[.int .i64 p.id, .int .i64 p.src, .int .i64 p.dst, .int .i64 p.cls, .int .i64 p.len] 115)) ⟨⟨⟨0, 0⟩, []⟩, [], [], [], [], [], [], [], 0⟩ ⟨none, none, none, none, none, none, none, none, 0, 0, 0, 0, 0, 0, 0, 0⟩; simp only [szs] at hn; exact hn)).below HBC).below hw01)
 have sb1 : bx < w0.heap.size := by omega
 have sb2 : w.heap.size + 3 ≤ bx := by omega
 have sl1 : lo ≤ w.heap.size + 3 := by omega
 have sl2 : w.heap.size + 3 ≤ lo := by omega
 have sl4 : lo ≤ w0.heap.size := by omega
 -- the row that grows
 obtain ⟨g7, eg7, t7, s7⟩ := HN.out.form7 l7
 dsimp only at eg7
 subst eg7
 obtain ⟨nd, _, _, _, n1, n5⟩ := packet_parts hk
 have nd1 := isNode_iff.1 nd
 obtain ⟨k, hkt⟩ : ∃ k : Nat, p.src.toNat = k := ⟨_, rfl⟩
 have hkk : p.src = (k : Int) := by omega
 have hks : k < n.srcs.length := by have := HSL.out; omega
 have HKS := Lib.hid hks
 have hrow := HN.out.row7 k hks
 try dsimp only at hrow
 obtain ⟨As, cs, hv⟩ := Kd.R_slice hrow
 rw [hv] at hrow
 obtain ⟨R, hR⟩ : ∃ R, rl n.srcs (k : Int) = R := ⟨_, rfl⟩
 rw [hR] at hrow hv
 have hRl : R.length ≤ 2097152 := by rw [← hR]; exact NBQ.out.h10 _ (rl_mem hks)
 obtain ⟨L, hL⟩ : ∃ L, flitsOf n.mesh.g p = L := ⟨_, rfl⟩
 have HCF : Hid (∀ W : World, Calls Tryz.prog 120 #[.agg #[.int .i64 n.mesh.g.w, .int .i64 n.mesh.g.h], .agg #[.int .i64 p.id, .int .i64 p.src, .int .i64 p.dst, .int .i64 p.cls, .int .i64 p.len]] W fun e w' => GotF W w' L e ∧ Below W.heap.size W w') := Lib.hid (fun W => by rw [← hL]; exact spec_FlitsOf n.mesh.g p W)
 have hL5 : L.length ≤ 5 := by have := flitsOf_len hk; rw [hL] at this; omega
 have HE : Hid (sendN n p = { n with srcs := n.srcs.set k (R ++ L) }) := Lib.hid (by unfold sendN; rw [hL, hkk, hR, Int.toNat_natCast])
 obtain ⟨cl1, cl2⟩ := own_facts7 (x := n) HN.out rfl hks hv
 have CL1 := Lib.hid cl1
 have CL2 := Lib.hid cl2
 have HV := Lib.hid hv
 have HRow := Lib.hid hrow
 obtain ⟨rb, hrb⟩ : ∃ rb, (Value.slice As R.length cs).ownBlock = rb := ⟨_, rfl⟩
 have hbo : BlkT w0 g7 43 := own_typed HN.out.srcs g7 rfl
 have nb1 : ¬ some bx = rb := fun e => by obtain ⟨inner, hin⟩ := Kd.R_own hrow; exact own_ne hin HBT.out (by decide) (e.trans hrb.symm)
 have nb3 : ¬ some g7 = rb := fun e => by
  obtain ⟨inner, hin⟩ := Kd.R_own hrow
  obtain ⟨cc, hc⟩ := hbo
  exact own_ne hin hc (by decide) (e.trans hrb.symm)
 have low : ∀ j, (Value.slice As R.length cs).ownBlock = some j → lo ≤ j := fun j hj => Kd.R_base hrow j hj
 have nbn : ¬ some w.heap.size = rb := fun e => by have := low _ (hrb.trans e.symm); omega
 have nbp : ¬ some (w.heap.size + 1) = rb := fun e => by have := low _ (hrb.trans e.symm); omega
 have nbo : ¬ bx = g7 := by
  obtain ⟨cc, hc⟩ := hbo
  exact blk_ne HBT.out hc (by decide)
 have nno : ¬ w.heap.size = g7 := by omega
 have npo : ¬ w.heap.size + 1 = g7 := by omega
 have HRB1 := Lib.hid hrb
 have HBO := Lib.hid hbo
 have i0 : (0 : Int) ≤ p.src := by omega
 have i1 : p.src < (n.srcs.length : Int) := by omega
 have x0 : w0.cell? ⟨w.heap.size, 0, none⟩ = some (.int .i64 n.mesh.g.w) := HX0.out.get 0
 have x1 : w0.cell? ⟨w.heap.size, 1, none⟩ = some (.int .i64 n.mesh.g.h) := HX0.out.get 1
 have p0 : w0.cell? ⟨w.heap.size + 1, 0, none⟩ = some (.int .i64 p.id) := HP0.out.get 0
 have p1 : w0.cell? ⟨w.heap.size + 1, 1, none⟩ = some (.int .i64 p.src) := HP0.out.get 1
 have p2 : w0.cell? ⟨w.heap.size + 1, 2, none⟩ = some (.int .i64 p.dst) := HP0.out.get 2
 have p3 : w0.cell? ⟨w.heap.size + 1, 3, none⟩ = some (.int .i64 p.cls) := HP0.out.get 3
 have p4 : w0.cell? ⟨w.heap.size + 1, 4, none⟩ = some (.int .i64 p.len) := HP0.out.get 4
 have z8 : w0.cell? ⟨bx, 8, none⟩ = some (.slice (some ⟨g7, 0, none⟩) n.srcs.length d7) := HBT.out.box.get 8
 have g7z : g7 < w0.heap.size := s7
 have q1 : w.heap.size < w0.heap.size := by omega
 have q2 : w.heap.size + 1 < w0.heap.size := by omega
 clear hkk hz0 sw HBC hw01 HN0 elo hk hs hsb nd nd1 n1 n5 hks hv hR hL hrow hbo hrb low
 go_wp2_with fail
 rw [← ebx]
 rw [← e0]
 clear e0 ebx
 refine wp_region_tx (CK w0 rb) (fun i => [.pointer (some ⟨bx, 8, none⟩), .slice (some ⟨g7, 0, none⟩) n.srcs.length d7, .pointer (some ⟨w.heap.size + 1, 1, none⟩), .int .i64 p.src, .pointer (some ⟨bx, 8, none⟩), .slice (some ⟨g7, 0, none⟩) n.srcs.length d7, .pointer (some ⟨w.heap.size + 1, 1, none⟩), .int .i64 p.src, .pointer (some ⟨g7, k, none⟩), .slice As R.length cs, .pointer (some ⟨w.heap.size, 0, none⟩), .pointer (some ⟨w.heap.size, 0, none⟩), .agg #[.int .i64 n.mesh.g.w, .int .i64 n.mesh.g.h], .agg #[.int .i64 p.id, .int .i64 p.src, .int .i64 p.dst, .int .i64 p.cls, .int .i64 p.len], undef, undef, .pointer (some ⟨g7, k, none⟩)].getD i undef) 17 [(0, .quiet), (1, .quiet), (2, .quiet), (3, .quiet), (4, .quiet), (5, .quiet), (6, .quiet), (7, .quiet), (8, .quiet), (9, .quiet), (10, .quiet), (11, .quiet), (12, .quiet), (13, .quiet), (14, .chain), (15, .chain), (16, .quiet)] (by kernel_rfl) (by kernel_rfl) (by kernel_rfl) (by kernel_rfl) (by kernel_rfl) (by kernel_rfl) (by kernel_rfl) (by kernel_rfl) CK.drew (fun W => W = w0.drew) rfl ?_
 refine wpTx_q (some 8) rfl rfl (by rfl) (fun W hC => ?_) ?_
 ·clear hC
  go_simp
  try rfl
 try simp only [Act.put, nms]
 refine wpTx_q (some 9) rfl rfl (by rfl) (fun W hC => ?_) ?_
 ·have := hC.cell sb1 nb1 z8
  clear hC
  go_simp
  try rfl
 try simp only [Act.put, nms]
 refine wpTx_q (some 10) rfl rfl (by rfl) (fun W hC => ?_) ?_
 ·clear hC
  go_simp
  try rfl
 try simp only [Act.put, nms]
 refine wpTx_q (some 11) rfl rfl (by rfl) (fun W hC => ?_) ?_
 ·have := hC.cell q2 nbp p1
  clear hC
  go_simp
  try rfl
 try simp only [Act.put, nms]
 refine wpTx_q (some 12) rfl rfl (by rfl) (fun W hC => ?_) ?_
 ·clear hC
  go_simp
  try rfl
 try simp only [Act.put, nms]
 refine wpTx_q (some 13) rfl rfl (by rfl) (fun W hC => ?_) ?_
 ·have := hC.cell sb1 nb1 z8
  clear hC
  go_simp
  try rfl
 try simp only [Act.put, nms]
 refine wpTx_q (some 14) rfl rfl (by rfl) (fun W hC => ?_) ?_
 ·clear hC
  go_simp
  try rfl
 try simp only [Act.put, nms]
 refine wpTx_q (some 15) rfl rfl (by rfl) (fun W hC => ?_) ?_
 ·have := hC.cell q2 nbp p1
  clear hC
  go_simp
  try rfl
 try simp only [Act.put, nms]
 refine wpTx_q (some 16) rfl rfl (by rfl) (fun W hC => ?_) ?_
 ·clear hC
  go_simp
  try rfl
 try simp only [Act.put, nms]
 refine wpTx_q (some 17) rfl rfl (by rfl) (fun W hC => ?_) ?_
 ·have := hC.cell g7z nb3 CL1.out
  clear hC
  go_simp
  try rfl
 try simp only [Act.put, nms]
 refine wpTx_q (some 18) rfl rfl (by rfl) (fun W hC => ?_) ?_
 ·clear hC
  go_simp
  try rfl
 try simp only [Act.put, nms]
 refine wpTx_q (some 19) rfl rfl (by rfl) (fun W hC => ?_) ?_
 ·clear hC
  go_simp
  try rfl
 try simp only [Act.put, nms]
 refine wpTx_q (some 20) rfl rfl (by rfl) (fun W hC => ?_) ?_
 ·have := hC.cell q1 nbn x0
  have := hC.cell q1 nbn x1
  clear hC
  go_simp
  try rfl
 try simp only [Act.put, nms]
 refine wpTx_q (some 21) rfl rfl (by rfl) (fun W hC => ?_) ?_
 ·have := hC.cell q2 nbp p0
  have := hC.cell q2 nbp p1
  have := hC.cell q2 nbp p2
  have := hC.cell q2 nbp p3
  have := hC.cell q2 nbp p4
  clear hC
  go_simp
  try rfl
 try simp only [Act.put, nms]
 refine wpTx_c (some 22) rfl rfl (by rfl) ((none, 0) : Option Addr × Nat) (fun y => .slice y.1 L.length y.2) (fun y W => kF.R 80 W w0.heap.size (fun _ => True) (.slice y.1 L.length y.2) L ∧ Below w0.heap.size w0 W) (fun W hF hC => ?_) (fun yc => ?_)
 ·subst hF
  refine LoOp.enter (by go_simp; first | done | exact ⟨rfl, rfl⟩ | rfl) ?_
  refine (HCF.out _).mono ?_
  rintro e W1 ⟨hg1, hb1⟩
  obtain ⟨v, rfl, hO⟩ := hg1
  obtain ⟨A, c, rfl⟩ := Kd.R_slice hO
  exact ⟨_, rfl, (A, c), rfl, hC.below hb1, hO, bw_then (bw_drew (bw_refl _)) hb1⟩
 try simp only [Act.put, nms]
 refine wpTx_c (some 23) rfl rfl (by rfl) ((none, 0) : Option Addr × Nat) (fun y => .slice y.1 (R.length + L.length) y.2) (fun y W9 => ∃ wf, Below w0.heap.size w0 wf ∧ kF.R 80 W9 lo (fun _ => True) (.slice y.1 (R ++ L).length y.2) (R ++ L) ∧ wf.grownBy W9 (Value.slice As R.length cs).ownBlock ∧ Anew wf (.slice y.1 (R ++ L).length y.2) (.slice As R.length cs)) (fun W hF hC => ?_) (fun yv => ?_)
 ·obtain ⟨Af, cf⟩ := yc
  obtain ⟨HF0, hbf⟩ := hF
  refine LoOp.of_if (ops := #[]) rfl rfl (by simp) (by rfl) (apps_FS (ops := #[]) (W := W) (B := lo) (by rfl) (.tmp 17) (.tmp 22) rfl (.slice As R.length cs) R L Af cf rfl rfl (Kd.R_below HRow.out hbf) (Kd.R_rowX HF0).2.2 (Nat.le_trans sl4 (bw_size hbf)) (by omega) ?_)
  intro v9 w9 H9 hg9 ha9
  obtain ⟨A9, d9, rfl⟩ := Kd.R_slice H9
  have hg9r := hg9
  rw [HRB1.out] at hg9r
  refine ⟨(A9, d9), ?_, hC.grown hg9r, W, hbf, H9, hg9, ha9⟩
  show Value.slice A9 (R ++ L).length d9 = .slice A9 (R.length + L.length) d9
  rw [List.length_append]
 try simp only [Act.put, nms]
 refine wpTx_q (some 24) rfl rfl (by rfl) (fun W hC => ?_) ?_
 ·clear hC
  go_simp
  try rfl
 try simp only [Act.put, nms]
 refine wpTx_z (fun w9 hF hC => ?_)
 obtain ⟨A9, d9⟩ := yv
 obtain ⟨wf, hbff, H9, hg9, ha9⟩ := hF
 dsimp only at H9 ha9
 have k1 := hC.cell g7z nb3 CL1.out
 have k2 := hC.frozen g7z nb3 CL2.out
 clear hC
 refine ⟨_, rfl, by rfl, ?_⟩
 go_simp
 have hl9 : (R ++ L).length = R.length + L.length := by simp
 obtain ⟨W10, e10⟩ : ∃ z, z = w9.setCell ⟨g7, k, none⟩ (.slice A9 (R.length + L.length) d9) := ⟨_, rfl⟩
 have HNf := HN.out.below hbff
 have HROf := Kd.R_below HRow.out hbff
 obtain ⟨Y, eY⟩ : ∃ Y : Net, Y = { n with srcs := n.srcs.set k (R ++ L) } := ⟨_, rfl⟩
 have HN9 : Hid (NX W10 lo Y ⟨b1, b2, b3, b4, b5, b6, some ⟨g7, 0, none⟩, b8, d1, d2, d3, d4, d5, d6, d7, d8⟩ v4 (v7.set k (.slice A9 (R.length + L.length) d9)) v8) := Lib.hid (by
  have hh := HNf.setSrc (g := g7) (k := k) (u := .slice A9 (R ++ L).length d9) (y := R ++ L) rfl HKS.out (by rw [show vr v7 k = .slice As R.length cs from HV.out]; exact hg9) H9 (by rw [show vr v7 k = .slice As R.length cs from HV.out]; exact ha9)
  rw [hl9] at hh
  rw [e10, eY]
  exact hh)
 have HB9 : Hid (BT W10 bx Y ⟨b1, b2, b3, b4, b5, b6, some ⟨g7, 0, none⟩, b8, d1, d2, d3, d4, d5, d6, d7, d8⟩) := Lib.hid (by
  rw [e10, eY]
  exact (((HBT.out.below hbff).grown hg9 HROf).far ((HBO.out.below hbff).grown hg9 HROf) (by decide) _ _).eq (by simp [netCells]))
 have HW9 : Hid (Below lo w0 W10) := Lib.hid (by
  rw [e10]
  exact below_setc (Below.grownRow (Below.cut hbff sl4) hg9 (Nat.le_trans sl4 (bw_size hbff)) (fun j hj => Kd.R_base HROf j hj)) t7 _ _)
 have HE9 : Hid (sendN n p = Y) := Lib.hid (by rw [eY]; exact HE.out)
 have HZ9 : Hid (BN W10 (w.heap.size + 2)) := Lib.hid (HZB.out.low HW9.out (by omega))
 rw [← e10]
 clear e10 k1 k2 hg9 H9 ha9 HNf HROf eY hbff x0 x1 p0 p1 p2 p3 p4 z8 q1 q2 cl1 cl2 hL5 hRl HE hkt i0 i1 hl9
 have bl := HB9.out.lt
 have b0x : W10.cell? ⟨bx, 0, none⟩ = some (.int .i64 Y.mesh.g.w) := HB9.out.box.get 0
 have b1x : W10.cell? ⟨bx, 1, none⟩ = some (.int .i64 Y.mesh.g.h) := HB9.out.box.get 1
 have b2x : W10.cell? ⟨bx, 2, none⟩ = some (.slice b1 Y.mesh.br.length d1) := HB9.out.box.get 2
 have b3x : W10.cell? ⟨bx, 3, none⟩ = some (.slice b2 Y.pa.length d2) := HB9.out.box.get 3
 have b4x : W10.cell? ⟨bx, 4, none⟩ = some (.slice b3 Y.pb.length d3) := HB9.out.box.get 4
 have b5x : W10.cell? ⟨bx, 5, none⟩ = some (.slice b4 Y.bufs.length d4) := HB9.out.box.get 5
 have b6x : W10.cell? ⟨bx, 6, none⟩ = some (.slice b5 Y.owners.length d5) := HB9.out.box.get 6
 have b7x : W10.cell? ⟨bx, 7, none⟩ = some (.slice b6 Y.turns.length d6) := HB9.out.box.get 7
 have b8x : W10.cell? ⟨bx, 8, none⟩ = some (.slice (some ⟨g7, 0, none⟩) Y.srcs.length d7) := HB9.out.box.get 8
 have b9x : W10.cell? ⟨bx, 9, none⟩ = some (.slice b8 Y.arrs.length d8) := HB9.out.box.get 9
 have b10x : W10.cell? ⟨bx, 10, none⟩ = some (.int .i64 Y.time) := HB9.out.box.get 10
 obtain ⟨⟨ry0, rv0⟩, ⟨ry1, rv1⟩, ⟨ry2, rv2⟩, ⟨ry3, rv3⟩, ⟨ry4, rv4⟩, ⟨ry5, rv5⟩, ⟨ry6, rv6⟩, ⟨ry7, rv7⟩, ⟨ry8, rv8⟩, ⟨ry9, rv9⟩, ⟨ry10, rv10⟩, rz0, rz1, rz2, rz3, rz4, rz5, rz6, rz7, rz8, rz9, rz10⟩ := allBN HZ9.out
 have nz : ¬ w.heap.size + 2 = bx := by omega
 have nz' : ¬ bx = w.heap.size + 2 := by omega
 go_wp2
 obtain ⟨W11, e11⟩ : ∃ z, z = putN W10 (w.heap.size + 2) Y ⟨b1, b2, b3, b4, b5, b6, some ⟨g7, 0, none⟩, b8, d1, d2, d3, d4, d5, d6, d7, d8⟩ := ⟨_, rfl⟩
 have HB11 : Hid (BT W11 (w.heap.size + 2) Y ⟨b1, b2, b3, b4, b5, b6, some ⟨g7, 0, none⟩, b8, d1, d2, d3, d4, d5, d6, d7, d8⟩) := Lib.hid (by rw [e11]; exact putN_BT HZ9.out)
 have HN11 : Hid (NX W11 lo Y ⟨b1, b2, b3, b4, b5, b6, some ⟨g7, 0, none⟩, b8, d1, d2, d3, d4, d5, d6, d7, d8⟩ v4 (v7.set k (.slice A9 (R.length + L.length) d9)) v8) := Lib.hid (by rw [e11]; exact HN9.out.put HZ9.out)
 have HL11 : Hid (Below w.heap.size w W11) := Lib.hid (by
  have h1 : Below w.heap.size w W10 := bw_trans HHB.out HW9.out (by omega)
  rw [e11]
  exact below_put h1 (by omega))
 unfold putN at e11
 try dsimp only at e11
 rw [← e11]
 clear e11
 exact bodyPost_ret (results_cell_row Tryz.results87 _ _ (w.heap.size + 2) 35 _ (0, 0) _ rfl HB11.out Tryz.underlying35 rfl (by kernel_rfl)) rfl (by rw [HE9.out]; exact ⟨⟨_, _, _, _, rfl, HN11.out.lower (by omega)⟩, HL11.out⟩)
section
variable {P : Program} {ops : Array Oper} {rest : List Oper} {o : Oper} {a : Act} {Q : Exit → Act → World → Prop}
theorem app_intG {W0 W : World} (hgd : o.guard = none) (s x : Operand) (t e : TypeId)
    (ho : o.op = .call { callee := .builtin .append, args := #[s, x], argTypes := #[t, t] })
    (ht : P.underlying t = some (.slice e)) (hinfo : (P.info? e).map (fun i => (i.zero, i.size, i.bytes)) = some (some (.int .i64 0), 1, 8))
    (v : Value) (xs : List Int) (y : Int) (hs : a.eval s = v) (hx : a.eval x = .slice (some ⟨W.heap.size, 0, none⟩) 1 1)
    (HO : Kd.R (Kd.int .i64) e W W0.heap.size (fun _ => True) v xs) (HB : Below W0.heap.size W0 W) (hl : xs.length ≤ 1000000000)
    (h : ∀ v1 w1, Kd.R (Kd.int .i64) e w1 W0.heap.size (fun _ => True) v1 (xs ++ [y]) → Below W0.heap.size W0 w1 → W.grownBy w1 v.ownBlock → (v1.ownBlock = v.ownBlock ∨ ∃ b, v1.ownBlock = some b ∧ W.heap.size ≤ b) → wpList P ops Q rest (a.put o.dst v1) w1) :
    wpList P ops Q (o :: rest) a (W.alloc (.cells #[.int .i64 y] e)) :=
  Kd.R_append (Kd.int .i64) W0.heap.size hgd s x t e (.int .i64 0) 8 ho ht hinfo rfl (by decide) (by omega) v xs y [.int .i64 y] (fun _ => True) (fun _ => False) hs hx rfl (fun _ hk => hk.elim) (fun _ _ => trivial) HO HB HB.size (by omega) h
end
def cwAt (i : Nat) : Int := if i / 4 = i % 4 then 4 else ri [1, 2, 0, 3] ((i / 4 : Nat) : Int)
def cwL (k : Nat) : List Int := (List.range k).map cwAt
theorem cwL_succ (k : Nat) : cwL (k + 1) = cwL k ++ [cwAt k] := by simp [cwL, List.range_succ]
theorem cwL_len (k : Nat) : (cwL k).length = k := by simp [cwL]

theorem R_off2 {e base : Nat} {w w1 : World} {v : Value} {xs : List Int} {b : Nat} {u : Value} (h : Kd.R (Kd.int .i64) e w base (fun _ => True) v xs) (hlo : ∀ k, v.ownBlock = some k → b < k) (he : w1 = w.setCell ⟨b, 0, none⟩ u) : Kd.R (Kd.int .i64) e w1 base (fun _ => True) v xs := by
  subst he
  refine R_grownI h (grownBy_setCell' w b u) ?_
  cases e : v.ownBlock with
  | none => exact .inl rfl
  | some k => right; intro e2; have := hlo k e; injection e2 with e2; omega
theorem lo_step {W : World} {v v1 : Value} {b : Nat} (h : ∀ k, v.ownBlock = some k → b < k) (hat : v1.ownBlock = v.ownBlock ∨ ∃ g, v1.ownBlock = some g ∧ W.heap.size ≤ g) (hb : b < W.heap.size) : ∀ k, v1.ownBlock = some k → b < k := by
  intro k hk
  rcases hat with hat | ⟨g, hg, hle⟩
  · exact h k (by rw [← hat]; exact hk)
  · rw [hg] at hk; injection hk with hk; omega
theorem box_ne {v : Value} {b : Nat} (h : ∀ k, v.ownBlock = some k → b < k) (c : Nat) (hc : c ≤ b) : some c ≠ v.ownBlock := by
  intro e
  have := h c e.symm
  omega

set_option maxHeartbeats 8000000 in
theorem spec_ClockwiseTable (w : World) : Calls Tryz.prog 85 #[] w fun e w' => GotTab w w' (cwL 16) e ∧ Below w.heap.size w w' := by
 go_enter Tryz.func85, Tryz.ntmps85
 go_wp2
 go_loopw [2] (fun i wr => ∃ k : Nat, k ≤ 16 ∧ (∃ v : Value, i = .int .i64 k ∧ Kd.R (Kd.int .i64) 3 wr w.heap.size (fun _ => True) v (cwL (k)) ∧ Boxed wr w.heap.size 30 (.slice none 0 0) ∧ Boxed wr (w.heap.size + 1) 30 v ∧ (∀ k, v.ownBlock = some k → w.heap.size + 1 < k) ∧ w.heap.size + 1 < wr.heap.size ∧ Below w.heap.size w wr)) (fun i _ => 16 - (intOf i).toNat)
 case atStart => exact ⟨0, Nat.zero_le _, .slice none 0 0, rfl, Kd.R_nil _ _ _ _ _, Boxed.alloc (Boxed.new w _ _) _, by have h := Boxed.new (w.alloc (.cells #[.slice none 0 0] 30)) 30 (.slice none 0 0); rw [World.size_alloc] at h; exact h, (fun k h => by simp [Value.ownBlock] at h), by simp only [szs]; omega, bel⟩
 case round =>
  obtain ⟨k, hk, v, rfl, HO, HBR, HBV, hlo, hsz, HB⟩ := hrel
  obtain ⟨Ao, co, rfl⟩ := Kd.R_slice HO
  have hx0 := HBV.cell
  have hf0 := HBV.frozen
  have hsz9 : w.heap.size < wr.heap.size := by omega
  rcases (by omega : k = 0 ∨ k = 1 ∨ k = 2 ∨ k = 3 ∨ k = 4 ∨ k = 5 ∨ k = 6 ∨ k = 7 ∨ k = 8 ∨ k = 9 ∨ k = 10 ∨ k = 11 ∨ k = 12 ∨ k = 13 ∨ k = 14 ∨ k = 15 ∨ k = 16) with rfl | rfl | rfl | rfl | rfl | rfl | rfl | rfl | rfl | rfl | rfl | rfl | rfl | rfl | rfl | rfl | rfl
  ·go_wp2_with (at_builtin; refine app_intG (W0 := w) rfl (.tmp 20) (.tmp 22) 26 3 rfl Tryz.underlying26 info_int _ _ _ rfl (by first | rfl | exact congrArg (fun z => Value.slice (some ⟨z, 0, none⟩) 1 1) (World.size_alloc _ _).symm) (by exact Kd.R_below HO bel) bel (by rw [cwL_len]; omega) ?_; intro v1 w1 HO1 HB1 hg1 hat1; obtain ⟨A1, c1, rfl⟩ := Kd.R_slice HO1; have HR1 := Boxed.kept (Boxed.alloc HBR _) hg1 (box_ne hlo _ (by omega)); have HV1 := Boxed.kept (Boxed.alloc HBV _) hg1 (box_ne hlo _ (by omega)); have hlo1 := lo_step hlo hat1 (by simp only [szs]; omega); have hsz1 : w.heap.size + 1 < w1.heap.size := Nat.lt_of_lt_of_le (by simp only [szs]; omega) hg1.size; have hx1 := HV1.cell; have hxf := HV1.frozen; clear hx0 hf0)
   go_roundw
   case rel => exact ⟨1, by omega, _, by first | rfl | (simp; done) | go_num, R_off2 (by rw [cwL_succ]; exact HO1) hlo1 rfl, HR1.kept (grownBy_setCell' _ _ _) (by intro e; injection e with e; omega), HV1.set _, hlo1, by simpa only [szs] using hsz1, bw_set _ HB1 (by omega)⟩
   case measure => simp [intOf]
  ·go_wp2_with (at_builtin; refine app_intG (W0 := w) rfl (.tmp 20) (.tmp 22) 26 3 rfl Tryz.underlying26 info_int _ _ _ rfl (by first | rfl | exact congrArg (fun z => Value.slice (some ⟨z, 0, none⟩) 1 1) (World.size_alloc _ _).symm) (by exact Kd.R_below HO bel) bel (by rw [cwL_len]; omega) ?_; intro v1 w1 HO1 HB1 hg1 hat1; obtain ⟨A1, c1, rfl⟩ := Kd.R_slice HO1; have HR1 := Boxed.kept (Boxed.alloc HBR _) hg1 (box_ne hlo _ (by omega)); have HV1 := Boxed.kept (Boxed.alloc HBV _) hg1 (box_ne hlo _ (by omega)); have hlo1 := lo_step hlo hat1 (by simp only [szs]; omega); have hsz1 : w.heap.size + 1 < w1.heap.size := Nat.lt_of_lt_of_le (by simp only [szs]; omega) hg1.size; have hx1 := HV1.cell; have hxf := HV1.frozen; clear hx0 hf0)
   go_roundw
   case rel => exact ⟨2, by omega, _, by first | rfl | (simp; done) | go_num, R_off2 (by rw [cwL_succ]; exact HO1) hlo1 rfl, HR1.kept (grownBy_setCell' _ _ _) (by intro e; injection e with e; omega), HV1.set _, hlo1, by simpa only [szs] using hsz1, bw_set _ HB1 (by omega)⟩
   case measure => simp [intOf]
  ·go_wp2_with (at_builtin; refine app_intG (W0 := w) rfl (.tmp 20) (.tmp 22) 26 3 rfl Tryz.underlying26 info_int _ _ _ rfl (by first | rfl | exact congrArg (fun z => Value.slice (some ⟨z, 0, none⟩) 1 1) (World.size_alloc _ _).symm) (by exact Kd.R_below HO bel) bel (by rw [cwL_len]; omega) ?_; intro v1 w1 HO1 HB1 hg1 hat1; obtain ⟨A1, c1, rfl⟩ := Kd.R_slice HO1; have HR1 := Boxed.kept (Boxed.alloc HBR _) hg1 (box_ne hlo _ (by omega)); have HV1 := Boxed.kept (Boxed.alloc HBV _) hg1 (box_ne hlo _ (by omega)); have hlo1 := lo_step hlo hat1 (by simp only [szs]; omega); have hsz1 : w.heap.size + 1 < w1.heap.size := Nat.lt_of_lt_of_le (by simp only [szs]; omega) hg1.size; have hx1 := HV1.cell; have hxf := HV1.frozen; clear hx0 hf0)
   go_roundw
   case rel => exact ⟨3, by omega, _, by first | rfl | (simp; done) | go_num, R_off2 (by rw [cwL_succ]; exact HO1) hlo1 rfl, HR1.kept (grownBy_setCell' _ _ _) (by intro e; injection e with e; omega), HV1.set _, hlo1, by simpa only [szs] using hsz1, bw_set _ HB1 (by omega)⟩
   case measure => simp [intOf]
  ·go_wp2_with (at_builtin; refine app_intG (W0 := w) rfl (.tmp 20) (.tmp 22) 26 3 rfl Tryz.underlying26 info_int _ _ _ rfl (by first | rfl | exact congrArg (fun z => Value.slice (some ⟨z, 0, none⟩) 1 1) (World.size_alloc _ _).symm) (by exact Kd.R_below HO bel) bel (by rw [cwL_len]; omega) ?_; intro v1 w1 HO1 HB1 hg1 hat1; obtain ⟨A1, c1, rfl⟩ := Kd.R_slice HO1; have HR1 := Boxed.kept (Boxed.alloc HBR _) hg1 (box_ne hlo _ (by omega)); have HV1 := Boxed.kept (Boxed.alloc HBV _) hg1 (box_ne hlo _ (by omega)); have hlo1 := lo_step hlo hat1 (by simp only [szs]; omega); have hsz1 : w.heap.size + 1 < w1.heap.size := Nat.lt_of_lt_of_le (by simp only [szs]; omega) hg1.size; have hx1 := HV1.cell; have hxf := HV1.frozen; clear hx0 hf0)
   go_roundw
   case rel => exact ⟨4, by omega, _, by first | rfl | (simp; done) | go_num, R_off2 (by rw [cwL_succ]; exact HO1) hlo1 rfl, HR1.kept (grownBy_setCell' _ _ _) (by intro e; injection e with e; omega), HV1.set _, hlo1, by simpa only [szs] using hsz1, bw_set _ HB1 (by omega)⟩
   case measure => simp [intOf]
  ·go_wp2_with (at_builtin; refine app_intG (W0 := w) rfl (.tmp 20) (.tmp 22) 26 3 rfl Tryz.underlying26 info_int _ _ _ rfl (by first | rfl | exact congrArg (fun z => Value.slice (some ⟨z, 0, none⟩) 1 1) (World.size_alloc _ _).symm) (by exact Kd.R_below HO bel) bel (by rw [cwL_len]; omega) ?_; intro v1 w1 HO1 HB1 hg1 hat1; obtain ⟨A1, c1, rfl⟩ := Kd.R_slice HO1; have HR1 := Boxed.kept (Boxed.alloc HBR _) hg1 (box_ne hlo _ (by omega)); have HV1 := Boxed.kept (Boxed.alloc HBV _) hg1 (box_ne hlo _ (by omega)); have hlo1 := lo_step hlo hat1 (by simp only [szs]; omega); have hsz1 : w.heap.size + 1 < w1.heap.size := Nat.lt_of_lt_of_le (by simp only [szs]; omega) hg1.size; have hx1 := HV1.cell; have hxf := HV1.frozen; clear hx0 hf0)
   go_roundw
   case rel => exact ⟨5, by omega, _, by first | rfl | (simp; done) | go_num, R_off2 (by rw [cwL_succ]; exact HO1) hlo1 rfl, HR1.kept (grownBy_setCell' _ _ _) (by intro e; injection e with e; omega), HV1.set _, hlo1, by simpa only [szs] using hsz1, bw_set _ HB1 (by omega)⟩
   case measure => simp [intOf]
  ·go_wp2_with (at_builtin; refine app_intG (W0 := w) rfl (.tmp 20) (.tmp 22) 26 3 rfl Tryz.underlying26 info_int _ _ _ rfl (by first | rfl | exact congrArg (fun z => Value.slice (some ⟨z, 0, none⟩) 1 1) (World.size_alloc _ _).symm) (by exact Kd.R_below HO bel) bel (by rw [cwL_len]; omega) ?_; intro v1 w1 HO1 HB1 hg1 hat1; obtain ⟨A1, c1, rfl⟩ := Kd.R_slice HO1; have HR1 := Boxed.kept (Boxed.alloc HBR _) hg1 (box_ne hlo _ (by omega)); have HV1 := Boxed.kept (Boxed.alloc HBV _) hg1 (box_ne hlo _ (by omega)); have hlo1 := lo_step hlo hat1 (by simp only [szs]; omega); have hsz1 : w.heap.size + 1 < w1.heap.size := Nat.lt_of_lt_of_le (by simp only [szs]; omega) hg1.size; have hx1 := HV1.cell; have hxf := HV1.frozen; clear hx0 hf0)
   go_roundw
   case rel => exact ⟨6, by omega, _, by first | rfl | (simp; done) | go_num, R_off2 (by rw [cwL_succ]; exact HO1) hlo1 rfl, HR1.kept (grownBy_setCell' _ _ _) (by intro e; injection e with e; omega), HV1.set _, hlo1, by simpa only [szs] using hsz1, bw_set _ HB1 (by omega)⟩
   case measure => simp [intOf]
  ·go_wp2_with (at_builtin; refine app_intG (W0 := w) rfl (.tmp 20) (.tmp 22) 26 3 rfl Tryz.underlying26 info_int _ _ _ rfl (by first | rfl | exact congrArg (fun z => Value.slice (some ⟨z, 0, none⟩) 1 1) (World.size_alloc _ _).symm) (by exact Kd.R_below HO bel) bel (by rw [cwL_len]; omega) ?_; intro v1 w1 HO1 HB1 hg1 hat1; obtain ⟨A1, c1, rfl⟩ := Kd.R_slice HO1; have HR1 := Boxed.kept (Boxed.alloc HBR _) hg1 (box_ne hlo _ (by omega)); have HV1 := Boxed.kept (Boxed.alloc HBV _) hg1 (box_ne hlo _ (by omega)); have hlo1 := lo_step hlo hat1 (by simp only [szs]; omega); have hsz1 : w.heap.size + 1 < w1.heap.size := Nat.lt_of_lt_of_le (by simp only [szs]; omega) hg1.size; have hx1 := HV1.cell; have hxf := HV1.frozen; clear hx0 hf0)
   go_roundw
   case rel => exact ⟨7, by omega, _, by first | rfl | (simp; done) | go_num, R_off2 (by rw [cwL_succ]; exact HO1) hlo1 rfl, HR1.kept (grownBy_setCell' _ _ _) (by intro e; injection e with e; omega), HV1.set _, hlo1, by simpa only [szs] using hsz1, bw_set _ HB1 (by omega)⟩
   case measure => simp [intOf]
  ·go_wp2_with (at_builtin; refine app_intG (W0 := w) rfl (.tmp 20) (.tmp 22) 26 3 rfl Tryz.underlying26 info_int _ _ _ rfl (by first | rfl | exact congrArg (fun z => Value.slice (some ⟨z, 0, none⟩) 1 1) (World.size_alloc _ _).symm) (by exact Kd.R_below HO bel) bel (by rw [cwL_len]; omega) ?_; intro v1 w1 HO1 HB1 hg1 hat1; obtain ⟨A1, c1, rfl⟩ := Kd.R_slice HO1; have HR1 := Boxed.kept (Boxed.alloc HBR _) hg1 (box_ne hlo _ (by omega)); have HV1 := Boxed.kept (Boxed.alloc HBV _) hg1 (box_ne hlo _ (by omega)); have hlo1 := lo_step hlo hat1 (by simp only [szs]; omega); have hsz1 : w.heap.size + 1 < w1.heap.size := Nat.lt_of_lt_of_le (by simp only [szs]; omega) hg1.size; have hx1 := HV1.cell; have hxf := HV1.frozen; clear hx0 hf0)
   go_roundw
   case rel => exact ⟨8, by omega, _, by first | rfl | (simp; done) | go_num, R_off2 (by rw [cwL_succ]; exact HO1) hlo1 rfl, HR1.kept (grownBy_setCell' _ _ _) (by intro e; injection e with e; omega), HV1.set _, hlo1, by simpa only [szs] using hsz1, bw_set _ HB1 (by omega)⟩
   case measure => simp [intOf]
  ·go_wp2_with (at_builtin; refine app_intG (W0 := w) rfl (.tmp 20) (.tmp 22) 26 3 rfl Tryz.underlying26 info_int _ _ _ rfl (by first | rfl | exact congrArg (fun z => Value.slice (some ⟨z, 0, none⟩) 1 1) (World.size_alloc _ _).symm) (by exact Kd.R_below HO bel) bel (by rw [cwL_len]; omega) ?_; intro v1 w1 HO1 HB1 hg1 hat1; obtain ⟨A1, c1, rfl⟩ := Kd.R_slice HO1; have HR1 := Boxed.kept (Boxed.alloc HBR _) hg1 (box_ne hlo _ (by omega)); have HV1 := Boxed.kept (Boxed.alloc HBV _) hg1 (box_ne hlo _ (by omega)); have hlo1 := lo_step hlo hat1 (by simp only [szs]; omega); have hsz1 : w.heap.size + 1 < w1.heap.size := Nat.lt_of_lt_of_le (by simp only [szs]; omega) hg1.size; have hx1 := HV1.cell; have hxf := HV1.frozen; clear hx0 hf0)
   go_roundw
   case rel => exact ⟨9, by omega, _, by first | rfl | (simp; done) | go_num, R_off2 (by rw [cwL_succ]; exact HO1) hlo1 rfl, HR1.kept (grownBy_setCell' _ _ _) (by intro e; injection e with e; omega), HV1.set _, hlo1, by simpa only [szs] using hsz1, bw_set _ HB1 (by omega)⟩
   case measure => simp [intOf]
  ·go_wp2_with (at_builtin; refine app_intG (W0 := w) rfl (.tmp 20) (.tmp 22) 26 3 rfl Tryz.underlying26 info_int _ _ _ rfl (by first | rfl | exact congrArg (fun z => Value.slice (some ⟨z, 0, none⟩) 1 1) (World.size_alloc _ _).symm) (by exact Kd.R_below HO bel) bel (by rw [cwL_len]; omega) ?_; intro v1 w1 HO1 HB1 hg1 hat1; obtain ⟨A1, c1, rfl⟩ := Kd.R_slice HO1; have HR1 := Boxed.kept (Boxed.alloc HBR _) hg1 (box_ne hlo _ (by omega)); have HV1 := Boxed.kept (Boxed.alloc HBV _) hg1 (box_ne hlo _ (by omega)); have hlo1 := lo_step hlo hat1 (by simp only [szs]; omega); have hsz1 : w.heap.size + 1 < w1.heap.size := Nat.lt_of_lt_of_le (by simp only [szs]; omega) hg1.size; have hx1 := HV1.cell; have hxf := HV1.frozen; clear hx0 hf0)
   go_roundw
   case rel => exact ⟨10, by omega, _, by first | rfl | (simp; done) | go_num, R_off2 (by rw [cwL_succ]; exact HO1) hlo1 rfl, HR1.kept (grownBy_setCell' _ _ _) (by intro e; injection e with e; omega), HV1.set _, hlo1, by simpa only [szs] using hsz1, bw_set _ HB1 (by omega)⟩
   case measure => simp [intOf]
  ·go_wp2_with (at_builtin; refine app_intG (W0 := w) rfl (.tmp 20) (.tmp 22) 26 3 rfl Tryz.underlying26 info_int _ _ _ rfl (by first | rfl | exact congrArg (fun z => Value.slice (some ⟨z, 0, none⟩) 1 1) (World.size_alloc _ _).symm) (by exact Kd.R_below HO bel) bel (by rw [cwL_len]; omega) ?_; intro v1 w1 HO1 HB1 hg1 hat1; obtain ⟨A1, c1, rfl⟩ := Kd.R_slice HO1; have HR1 := Boxed.kept (Boxed.alloc HBR _) hg1 (box_ne hlo _ (by omega)); have HV1 := Boxed.kept (Boxed.alloc HBV _) hg1 (box_ne hlo _ (by omega)); have hlo1 := lo_step hlo hat1 (by simp only [szs]; omega); have hsz1 : w.heap.size + 1 < w1.heap.size := Nat.lt_of_lt_of_le (by simp only [szs]; omega) hg1.size; have hx1 := HV1.cell; have hxf := HV1.frozen; clear hx0 hf0)
   go_roundw
   case rel => exact ⟨11, by omega, _, by first | rfl | (simp; done) | go_num, R_off2 (by rw [cwL_succ]; exact HO1) hlo1 rfl, HR1.kept (grownBy_setCell' _ _ _) (by intro e; injection e with e; omega), HV1.set _, hlo1, by simpa only [szs] using hsz1, bw_set _ HB1 (by omega)⟩
   case measure => simp [intOf]
  ·go_wp2_with (at_builtin; refine app_intG (W0 := w) rfl (.tmp 20) (.tmp 22) 26 3 rfl Tryz.underlying26 info_int _ _ _ rfl (by first | rfl | exact congrArg (fun z => Value.slice (some ⟨z, 0, none⟩) 1 1) (World.size_alloc _ _).symm) (by exact Kd.R_below HO bel) bel (by rw [cwL_len]; omega) ?_; intro v1 w1 HO1 HB1 hg1 hat1; obtain ⟨A1, c1, rfl⟩ := Kd.R_slice HO1; have HR1 := Boxed.kept (Boxed.alloc HBR _) hg1 (box_ne hlo _ (by omega)); have HV1 := Boxed.kept (Boxed.alloc HBV _) hg1 (box_ne hlo _ (by omega)); have hlo1 := lo_step hlo hat1 (by simp only [szs]; omega); have hsz1 : w.heap.size + 1 < w1.heap.size := Nat.lt_of_lt_of_le (by simp only [szs]; omega) hg1.size; have hx1 := HV1.cell; have hxf := HV1.frozen; clear hx0 hf0)
   go_roundw
   case rel => exact ⟨12, by omega, _, by first | rfl | (simp; done) | go_num, R_off2 (by rw [cwL_succ]; exact HO1) hlo1 rfl, HR1.kept (grownBy_setCell' _ _ _) (by intro e; injection e with e; omega), HV1.set _, hlo1, by simpa only [szs] using hsz1, bw_set _ HB1 (by omega)⟩
   case measure => simp [intOf]
  ·go_wp2_with (at_builtin; refine app_intG (W0 := w) rfl (.tmp 20) (.tmp 22) 26 3 rfl Tryz.underlying26 info_int _ _ _ rfl (by first | rfl | exact congrArg (fun z => Value.slice (some ⟨z, 0, none⟩) 1 1) (World.size_alloc _ _).symm) (by exact Kd.R_below HO bel) bel (by rw [cwL_len]; omega) ?_; intro v1 w1 HO1 HB1 hg1 hat1; obtain ⟨A1, c1, rfl⟩ := Kd.R_slice HO1; have HR1 := Boxed.kept (Boxed.alloc HBR _) hg1 (box_ne hlo _ (by omega)); have HV1 := Boxed.kept (Boxed.alloc HBV _) hg1 (box_ne hlo _ (by omega)); have hlo1 := lo_step hlo hat1 (by simp only [szs]; omega); have hsz1 : w.heap.size + 1 < w1.heap.size := Nat.lt_of_lt_of_le (by simp only [szs]; omega) hg1.size; have hx1 := HV1.cell; have hxf := HV1.frozen; clear hx0 hf0)
   go_roundw
   case rel => exact ⟨13, by omega, _, by first | rfl | (simp; done) | go_num, R_off2 (by rw [cwL_succ]; exact HO1) hlo1 rfl, HR1.kept (grownBy_setCell' _ _ _) (by intro e; injection e with e; omega), HV1.set _, hlo1, by simpa only [szs] using hsz1, bw_set _ HB1 (by omega)⟩
   case measure => simp [intOf]
  ·go_wp2_with (at_builtin; refine app_intG (W0 := w) rfl (.tmp 20) (.tmp 22) 26 3 rfl Tryz.underlying26 info_int _ _ _ rfl (by first | rfl | exact congrArg (fun z => Value.slice (some ⟨z, 0, none⟩) 1 1) (World.size_alloc _ _).symm) (by exact Kd.R_below HO bel) bel (by rw [cwL_len]; omega) ?_; intro v1 w1 HO1 HB1 hg1 hat1; obtain ⟨A1, c1, rfl⟩ := Kd.R_slice HO1; have HR1 := Boxed.kept (Boxed.alloc HBR _) hg1 (box_ne hlo _ (by omega)); have HV1 := Boxed.kept (Boxed.alloc HBV _) hg1 (box_ne hlo _ (by omega)); have hlo1 := lo_step hlo hat1 (by simp only [szs]; omega); have hsz1 : w.heap.size + 1 < w1.heap.size := Nat.lt_of_lt_of_le (by simp only [szs]; omega) hg1.size; have hx1 := HV1.cell; have hxf := HV1.frozen; clear hx0 hf0)
   go_roundw
   case rel => exact ⟨14, by omega, _, by first | rfl | (simp; done) | go_num, R_off2 (by rw [cwL_succ]; exact HO1) hlo1 rfl, HR1.kept (grownBy_setCell' _ _ _) (by intro e; injection e with e; omega), HV1.set _, hlo1, by simpa only [szs] using hsz1, bw_set _ HB1 (by omega)⟩
   case measure => simp [intOf]
  ·go_wp2_with (at_builtin; refine app_intG (W0 := w) rfl (.tmp 20) (.tmp 22) 26 3 rfl Tryz.underlying26 info_int _ _ _ rfl (by first | rfl | exact congrArg (fun z => Value.slice (some ⟨z, 0, none⟩) 1 1) (World.size_alloc _ _).symm) (by exact Kd.R_below HO bel) bel (by rw [cwL_len]; omega) ?_; intro v1 w1 HO1 HB1 hg1 hat1; obtain ⟨A1, c1, rfl⟩ := Kd.R_slice HO1; have HR1 := Boxed.kept (Boxed.alloc HBR _) hg1 (box_ne hlo _ (by omega)); have HV1 := Boxed.kept (Boxed.alloc HBV _) hg1 (box_ne hlo _ (by omega)); have hlo1 := lo_step hlo hat1 (by simp only [szs]; omega); have hsz1 : w.heap.size + 1 < w1.heap.size := Nat.lt_of_lt_of_le (by simp only [szs]; omega) hg1.size; have hx1 := HV1.cell; have hxf := HV1.frozen; clear hx0 hf0)
   go_roundw
   case rel => exact ⟨15, by omega, _, by first | rfl | (simp; done) | go_num, R_off2 (by rw [cwL_succ]; exact HO1) hlo1 rfl, HR1.kept (grownBy_setCell' _ _ _) (by intro e; injection e with e; omega), HV1.set _, hlo1, by simpa only [szs] using hsz1, bw_set _ HB1 (by omega)⟩
   case measure => simp [intOf]
  ·go_wp2_with (at_builtin; refine app_intG (W0 := w) rfl (.tmp 20) (.tmp 22) 26 3 rfl Tryz.underlying26 info_int _ _ _ rfl (by first | rfl | exact congrArg (fun z => Value.slice (some ⟨z, 0, none⟩) 1 1) (World.size_alloc _ _).symm) (by exact Kd.R_below HO bel) bel (by rw [cwL_len]; omega) ?_; intro v1 w1 HO1 HB1 hg1 hat1; obtain ⟨A1, c1, rfl⟩ := Kd.R_slice HO1; have HR1 := Boxed.kept (Boxed.alloc HBR _) hg1 (box_ne hlo _ (by omega)); have HV1 := Boxed.kept (Boxed.alloc HBV _) hg1 (box_ne hlo _ (by omega)); have hlo1 := lo_step hlo hat1 (by simp only [szs]; omega); have hsz1 : w.heap.size + 1 < w1.heap.size := Nat.lt_of_lt_of_le (by simp only [szs]; omega) hg1.size; have hx1 := HV1.cell; have hxf := HV1.frozen; clear hx0 hf0)
   go_roundw
   case rel => exact ⟨16, by omega, _, by first | rfl | (simp; done) | go_num, R_off2 (by rw [cwL_succ]; exact HO1) hlo1 rfl, HR1.kept (grownBy_setCell' _ _ _) (by intro e; injection e with e; omega), HV1.set _, hlo1, by simpa only [szs] using hsz1, bw_set _ HB1 (by omega)⟩
   case measure => simp [intOf]
  ·have hr0 := HBR.cell
   have hrf := HBR.frozen
   go_wp2
   exact bodyPost_ret (v := .agg #[.slice Ao (cwL 16).length co]) (by simp [results, Tryz.results85, go_sem, *]) rfl ⟨⟨_, rfl, R_off2 HO (fun k h => by have := hlo k h; omega) rfl⟩, bel⟩

def ringM : Mesh := ⟨⟨2, 2⟩, []⟩
theorem cw_len : (cwL 16).length = 16 := cwL_len 16
end Go.Proofs.YtaihmgbflhbebaaGreat
namespace NoC
def stdCol (x t : Int) : Int := if t < x then 3 else 1
def stdRow (y t : Int) : Int := if t < y then 0 else 2
def stdRule (rule b : Int) : Int := if rule = 4 then 1 + b % 2 else rule
def stdFirst (g : Grid) (r a b : Int) : Bool := if r = 2 then decide (a / g.w = b / g.w) else if r = 3 then decide (b % g.w < a % g.w) || decide (a / g.w = b / g.w) else !decide (a % g.w = b % g.w)
def stdPort (g : Grid) (rule a b : Int) : Int :=
  if a = b then 4 else if stdFirst g (stdRule rule b) a b = true then stdCol (a % g.w) (b % g.w) else stdRow (a / g.w) (b / g.w)
def makeTo (g : Grid) (rule : Int) (k : Nat) : List Int := (List.range k).map (fun (i : Nat) => stdPort g rule ((i / (nodeCount g).toNat : Nat) : Int) ((i % (nodeCount g).toNat : Nat) : Int))
def makeT (g : Grid) (rule : Int) : List Int := makeTo g rule ((nodeCount g).toNat * (nodeCount g).toNat)
set_option maxRecDepth 100000 in
theorem make_ok {w h r : Int} (w1 : 1 ≤ w) (w4 : w ≤ 4) (h1 : 1 ≤ h) (h4 : h ≤ 4) (r1 : 1 ≤ r) (r4 : r ≤ 4) : tableOk ⟨⟨w, h⟩, []⟩ (makeT ⟨w, h⟩ r) = true := by
  have hw : w = 1 ∨ w = 2 ∨ w = 3 ∨ w = 4 := by omega
  have hh : h = 1 ∨ h = 2 ∨ h = 3 ∨ h = 4 := by omega
  have hr : r = 1 ∨ r = 2 ∨ r = 3 ∨ r = 4 := by omega
  rcases hw with rfl | rfl | rfl | rfl <;> rcases hh with rfl | rfl | rfl | rfl <;> rcases hr with rfl | rfl | rfl | rfl <;> exact of_decide_eq_true (by kernel_rfl)
end NoC
namespace Go.Proofs.YtaihmgbflhbebaaGreat
open Go.RowKit Go.Proofs.YtaihmgbflhbebaaGreatW.PrintWords
open NoC
def srcTo (l : List Packet) (a : Int) (k : Nat) : Int := (l.take k).foldl (fun s p => if p.src = a then wrap64 (s + p.len) else s) 0
def dstTo (l : List Packet) (a : Int) (k : Nat) : Int := (l.take k).foldl (fun s p => if p.dst = a then wrap64 (s + p.len) else s) 0
def atL (b x : Int) : Int := if 0 < x then max b (x + 2) else b
def bl (xs : List Int) (k : Nat) : Int := (xs.take k).foldl atL 0
def bs (l : List Packet) : Nat → Int
  | 0 => 0
  | k + 1 => atL (bs l k) (srcTo l k l.length)
def bd (l : List Packet) : Nat → Int
  | 0 => 0
  | k + 1 => atL (bd l k) (dstTo l k l.length)
def Arr (W : World) (b : Nat) (t : TypeId) (cs : Array Value) : Prop := W.heap[b]? = some (.cells cs t (0, 0))
theorem Arr.lt {W : World} {b : Nat} {t : TypeId} {cs : Array Value} (h : Arr W b t cs) : b < W.heap.size := (Array.getElem?_eq_some_iff.1 h).1
theorem Arr.cell {W : World} {b : Nat} {t : TypeId} {cs : Array Value} (h : Arr W b t cs) (o : Nat) : W.cell? ⟨b, o, none⟩ = cs[o]? := by
  unfold World.cell?
  rw [show W.heap[b]? = _ from h]
  rfl
theorem Arr.frozen {W : World} {b : Nat} {t : TypeId} {cs : Array Value} (h : Arr W b t cs) (o : Nat) : W.frozen? ⟨b, o, none⟩ = false := by
  unfold World.frozen?
  rw [show W.heap[b]? = _ from h]
  simp
theorem Arr.new (W : World) (b : Nat) (t : TypeId) (cs : Array Value) (hb : b = W.heap.size) : Arr (W.alloc (.cells cs t)) b t cs := by
  subst hb
  exact (show (W.heap.push _)[W.heap.size]? = _ from Array.getElem?_push_size)
theorem Arr.below {W W1 : World} {b : Nat} {t : TypeId} {cs : Array Value} (h : Arr W b t cs) (hb : Below W.heap.size W W1) : Arr W1 b t cs := (hb.block b h.lt).trans h
theorem Arr.set {W : World} {b : Nat} {t : TypeId} {cs : Array Value} (h : Arr W b t cs) (i : Nat) (v : Value) : Arr (W.setCell ⟨b, i, none⟩ v) b t (cs.setIfInBounds i v) := by
  show (W.heap.modify b _)[b]? = _
  have hlt := h.lt
  have h2 : W.heap[b]? = some (.cells cs t (0, 0)) := h
  rw [Array.getElem?_eq_getElem hlt] at h2
  injection h2 with h2
  rw [Array.getElem?_eq_getElem (by rw [Array.size_modify]; exact hlt), Array.getElem_modify_self, h2]
  rfl
theorem Arr.other {W : World} {b : Nat} {t : TypeId} {cs : Array Value} (h : Arr W b t cs) (g i : Nat) (v : Value) (hne : b ≠ g) : Arr (W.setCell ⟨g, i, none⟩ v) b t cs :=
  (Below.heap_setCell W ⟨g, i, none⟩ v b hne).trans h
theorem and255 (x : Int) : 0 ≤ bits .and .i64 x 255 ∧ bits .and .i64 x 255 ≤ 255 := by
  have h255 : (BitVec.ofInt 64 255).toNat = 2 ^ 8 - 1 := by decide
  have key : (BitVec.ofInt 64 x &&& BitVec.ofInt 64 255).toNat = (x % ((2 ^ 64 : Nat) : Int)).toNat % 2 ^ 8 := by
    rw [BitVec.toNat_and, BitVec.toNat_ofInt, h255, Nat.and_two_pow_sub_one_eq_mod]
  show 0 ≤ IntKind.i64.wrap ((BitVec.ofInt 64 x &&& BitVec.ofInt 64 255).toNat : Nat) ∧ IntKind.i64.wrap ((BitVec.ofInt 64 x &&& BitVec.ofInt 64 255).toNat : Nat) ≤ 255
  rw [key, IntKind.wrap_i64]
  omega
theorem grown_cell (W : World) (b k : Nat) (v : Value) : W.grownBy (W.setCell ⟨b, k, none⟩ v) (some b) :=
  ⟨rfl, rfl, rfl, (KeepsWalks.setCell W _ v).size, fun j _ hj => Below.heap_setCell _ _ _ j (fun e => hj (by rw [e]))⟩
theorem grown_drew (W : World) (r : Option Nat) : W.grownBy W.drew r := ⟨rfl, rfl, rfl, Nat.le_refl _, fun _ _ _ => rfl⟩
theorem rdU_at {w : World} {A : Option Addr} {l : List Int} (h : Kd.C (Kd.int .u8) w A l.length l) (k : Nat) (hk : k < l.length) :
    ∃ b off, A = some ⟨b, off, none⟩ ∧ b < w.heap.size ∧ ∀ j, j < l.length → w.cell? ⟨b, off + j, none⟩ = some (.int .u8 (NoC.ri l j)) := by
  have key : ∀ j, j < l.length → ∃ ad, A = some ad ∧ w.cell? (ad.add j) = some (.int .u8 (NoC.ri l j)) := by
    intro j hj
    obtain ⟨ad, cs, e, _, hK, hc⟩ := Kd.C_get h 0 (j : Int) (by omega) (by omega)
    have hK' : cs = [.int .u8 (l.getD (j : Int).toNat 0)] := hK
    subst hK'
    have := hc 0 _ rfl
    refine ⟨ad, e, ?_⟩
    have e2 : (j : Int).toNat * (Kd.int .u8).sz + 0 = j := by show (j : Int).toNat * 1 + 0 = j; omega
    rw [e2] at this
    exact this
  obtain ⟨ad, rfl, h0⟩ := key 0 (by omega)
  have hs : ad.spot = none := by
    cases hsp : ad.spot with
    | none => rfl
    | some s =>
      have : ad.add 0 = ad := by simp [Addr.add]
      rw [this] at h0
      unfold World.cell? at h0
      split at h0
      · simp [hsp] at h0
      · simp at h0
  obtain ⟨b, off, sp⟩ := ad
  simp only at hs
  subst hs
  refine ⟨b, off, rfl, World.block_lt_of_cell? w _ h0, fun j hj => ?_⟩
  obtain ⟨ad, e, h1⟩ := key j hj
  obtain rfl := Option.some.inj e
  rwa [show (⟨b, off, none⟩ : Addr).add j = ⟨b, off + j, none⟩ by unfold Addr.add; split <;> simp_all] at h1
def Cur (w : World) (b B0 : Nat) : Prop := B0 ≤ b ∧ ∃ A N c i h, Arr w b 97 #[.slice A N c, .int .i64 i, .int .i64 h] ∧ 0 ≤ i ∧ N ≤ 140737488355328 ∧ ∀ n : Nat, n < N → ∃ B off u, A = some ⟨B, off, none⟩ ∧ B < B0 ∧ w.cell? ⟨B, off + n, none⟩ = some (.int .u8 u)
theorem Cur.lt {w : World} {b B0 : Nat} (h : Cur w b B0) : b < w.heap.size := by
  obtain ⟨_, A, N, c, i, x, ha, _⟩ := h
  exact ha.lt
theorem Cur.grown {w w1 : World} {b B0 : Nat} {row : Option Nat} (h : Cur w b B0) (hg : w.grownBy w1 row) (hr : ∀ k, row = some k → B0 ≤ k ∧ k ≠ b) : Cur w1 b B0 := by
  have hlt := h.lt
  obtain ⟨h0, A, N, c, i, x, ha, hi, hN, hk⟩ := h
  refine ⟨h0, A, N, c, i, x, (hg.block b hlt (fun e => (hr b e.symm).2 rfl)).trans ha, hi, hN, fun n hn => ?_⟩
  obtain ⟨B, off, u, e, hB, hc⟩ := hk n hn
  refine ⟨B, off, u, e, hB, ?_⟩
  rw [← hc]
  have := hg.block B (by omega) (fun e => by have := (hr B e.symm).1; omega)
  unfold World.cell?
  rw [this]
theorem Cur.below {w w1 : World} {b B0 : Nat} (h : Cur w b B0) (hg : Below w.heap.size w w1) : Cur w1 b B0 := h.grown (grown_below none hg) (fun k e => by cases e)
theorem Cur.set {w : World} {b B0 : Nat} {A : Option Addr} {N c : Nat} {i h : Int} (h0 : B0 ≤ b) (ha : Arr w b 97 #[.slice A N c, .int .i64 i, .int .i64 h]) (hN : N ≤ 140737488355328)
    (hk : ∀ n : Nat, n < N → ∃ B off u, A = some ⟨B, off, none⟩ ∧ B < B0 ∧ w.cell? ⟨B, off + n, none⟩ = some (.int .u8 u)) {w1 : World} (hg : w.grownBy w1 (some b)) {i1 h1 : Int} (hi : 0 ≤ i1) (h1a : Arr w1 b 97 #[.slice A N c, .int .i64 i1, .int .i64 h1]) : Cur w1 b B0 := by
  have hlt := ha.lt
  refine ⟨h0, A, N, c, i1, h1, h1a, hi, hN, fun n hn => ?_⟩
  obtain ⟨B, off, u, e, hB, hc⟩ := hk n hn
  refine ⟨B, off, u, e, hB, ?_⟩
  rw [← hc]
  have := hg.block B (by omega) (fun e => by injection e with e; omega)
  unfold World.cell?
  rw [this]
theorem gt_drew {w W : World} {r : Option Nat} (h : w.grownBy W r) : w.grownBy W.drew r := grown_trans h (grown_drew W r)
theorem gt_cell {w W : World} {b : Nat} (k : Nat) (v : Value) (h : w.grownBy W (some b)) : w.grownBy (W.setCell ⟨b, k, none⟩ v) (some b) := grown_trans h (grown_cell W b k v)
set_option maxHeartbeats 1000000 in
theorem spec_l01Byte (b B0 : Nat) (w : World) (HC : Cur w b B0) : Calls Tryz.prog 76 #[.pointer (some ⟨b, 0, none⟩)] w fun e w' => ∃ x : Int, e = .returned (.int .i64 x) ∧ 0 ≤ x ∧ x ≤ 255 ∧ Cur w' b B0 ∧ w.grownBy w' (some b) := by
  obtain ⟨h0, A, N, c, i, h, ha, hi, hN, hk⟩ := HC
  have hlt := ha.lt
  have c0 : w.cell? ⟨b, 0, none⟩ = some (.slice A N c) := ha.cell 0
  have c1 : w.cell? ⟨b, 1, none⟩ = some (.int .i64 i) := ha.cell 1
  have c2 : w.cell? ⟨b, 2, none⟩ = some (.int .i64 h) := ha.cell 2
  have f1 := ha.frozen 1
  have f2 := ha.frozen 2
  have HK := Lib.hid hk
  have HA := Lib.hid ha
  clear hk ha
  by_cases hl : i < N
  · obtain ⟨n, rfl⟩ : ∃ n : Nat, i = n := ⟨i.toNat, by omega⟩
    obtain ⟨B, off, u, rfl, hB, hx⟩ := HK.out n (by omega)
    have hne : B ≠ b := by omega
    go_enter Tryz.func76, Tryz.ntmps76
    go_wp2
    go_region
    go_wp2
    go_region
    go_wp2
    go_region
    go_wp2
    go_ret
    refine ⟨_, rfl, (and255 _).1, (and255 _).2, Cur.set h0 HA.out hN HK.out (i1 := (n : Int) + 1) ?_ (by omega) (by exact ((HA.out).set 2 _).set 1 _), ?_⟩
    all_goals (with_reducible repeat (first | exact World.grownBy.refl _ _ | apply gt_cell | apply gt_drew))
  · go_enter Tryz.func76, Tryz.ntmps76
    go_wp2
    go_region
    go_wp2
    go_region
    go_wp2
    go_ret
    refine ⟨_, rfl, (and255 _).1, (and255 _).2, Cur.set h0 HA.out hN HK.out (i1 := i) ?_ (by omega) (by exact (HA.out).set 2 _), ?_⟩
    all_goals (with_reducible repeat (first | exact World.grownBy.refl _ _ | apply gt_cell | apply gt_drew))
set_option maxHeartbeats 1000000 in
theorem spec_l01Below (b B0 : Nat) (n : Int) (w : World) (HC : Cur w b B0) (n0 : 0 < n) (n1 : n ≤ 1000000000) : Calls Tryz.prog 41 #[.pointer (some ⟨b, 0, none⟩), .int .i64 n] w fun e w' => ∃ x : Int, e = .returned (.int .i64 x) ∧ 0 ≤ x ∧ x < n ∧ Cur w' b B0 ∧ w.grownBy w' (some b) := by
  have HG : w.grownBy w (some b) := World.grownBy.refl _ _
  by_cases hl : n ≤ 256
  · go_enter Tryz.func41, Tryz.ntmps41
    go_wp2_with (go_at_call 76; refine (spec_l01Byte b B0 _ HC).mono ?_; rintro e w1 ⟨x, rfl, x0, x1, HC1, hg1⟩)
    go_ret
    exact ⟨_, rfl, Int.emod_nonneg _ (by omega), Int.emod_lt_of_pos _ n0, HC1, hg1⟩
  · go_enter Tryz.func41, Tryz.ntmps41
    go_wp2_with (go_at_call 76; refine (spec_l01Byte b B0 _ HC).mono ?_; rintro e w1 ⟨x, rfl, x0, x1, HC1, hg1⟩; replace HG := grown_trans HG hg1; replace HC := HC1)
    go_ret
    exact ⟨_, rfl, Int.emod_nonneg _ (by omega), Int.emod_lt_of_pos _ n0, HC, HG⟩
theorem gt_alloc {w W : World} {r : Option Nat} (o : Obj) (h : w.grownBy W r) : w.grownBy (W.alloc o) r := grown_trans h (World.grownBy_alloc W o r)
theorem Cur.far {w : World} {b B0 g : Nat} (k : Nat) (v : Value) (h : Cur w b B0) (hg : b < g) : Cur (w.setCell ⟨g, k, none⟩ v) b B0 :=
  h.grown (grown_cell w g k v) (fun j e => by injection e with e; have := h.1; omega)
def Byt (w : World) (A : Option Addr) (N : Nat) : Prop := N ≤ 140737488355328 ∧ ∀ n : Nat, n < N → ∃ B off u, A = some ⟨B, off, none⟩ ∧ B < w.heap.size ∧ w.cell? ⟨B, off + n, none⟩ = some (.int .u8 u)
theorem Byt.below {w w1 : World} {A : Option Addr} {N : Nat} (h : Byt w A N) (hb : Below w.heap.size w w1) : Byt w1 A N :=
  ⟨h.1, fun n hn => by
    obtain ⟨B, off, u, e, hB, hc⟩ := h.2 n hn
    exact ⟨B, off, u, e, Nat.lt_of_lt_of_le hB hb.size, ((bcell hb).1 B _ hB).trans hc⟩⟩
theorem cur_new {w : World} {A : Option Addr} {N : Nat} (c : Nat) (x : Int) (h : Byt w A N) : Cur (w.alloc (.cells #[.slice A N c, .int .i64 0, .int .i64 x] 97)) w.heap.size w.heap.size :=
  ⟨Nat.le_refl _, A, N, c, 0, x, Arr.new w _ _ _ rfl, by omega, h.1, fun n hn => by
    obtain ⟨B, off, u, e, hB, hc⟩ := h.2 n hn
    exact ⟨B, off, u, e, hB, ((bcell (bw_alloc _ (bw_refl w))).1 B _ hB).trans hc⟩⟩
set_option maxHeartbeats 1000000 in
theorem spec_l01New (A : Option Addr) (N c : Nat) (w : World) (HX : Byt w A N) : Calls Tryz.prog 36 #[.slice A N c] w fun e w' => ∃ b, e = .returned (.pointer (some ⟨b, 0, none⟩)) ∧ w.heap.size ≤ b ∧ Cur w' b w.heap.size ∧ Below w.heap.size w w' := by
  have hN := HX.1
  go_enter Tryz.func36, Tryz.ntmps36
  go_wp2
  go_loop [3, 4] (fun h i => ∃ (k : Nat) (x : Int), i = .int .i64 k ∧ h = .int .i64 x ∧ k ≤ N) (fun _ i => N - (intOf i).toNat)
  case atStart => exact ⟨0, _, rfl, rfl, Nat.zero_le _⟩
  case round =>
    obtain ⟨k, x, rfl, rfl, hk⟩ := hrel
    by_cases hlt : k < N
    · obtain ⟨B, off, u, rfl, hB, hc⟩ := HX.2 k hlt
      have i0 : (k : Int) < (N : Int) := by omega
      by_cases h4 : (k : Int) < 4000
      · go_wp2
        go_round
        case rel => exact ⟨k + 1, _, by go_num, rfl, by omega⟩
        case measure => simp [intOf]; omega
      · go_wp2
        go_ret
        exact ⟨_, rfl, Nat.le_refl _, cur_new _ _ HX, bel⟩
    · go_wp2
      go_ret
      exact ⟨_, rfl, Nat.le_refl _, cur_new _ _ HX, bel⟩
theorem bw_cur {w W W1 : World} {b : Nat} (h : Below w.heap.size w W) (hg : W.grownBy W1 (some b)) (hb : w.heap.size ≤ b) : Below w.heap.size w W1 :=
  h.grown hg h.size (fun k hk => by injection hk with hk; omega)
section
variable {P : Program} {ops : Array Oper} {rest : List Oper} {o : Oper} {a : Act} {Q : Exit → Act → World → Prop}
end
section
variable {ops : Array Oper} {o : Oper} {a : Act} {Kc : Act → World → Prop} {Q' : Exit → Act → World → Prop}
end
theorem low_set {B b : Nat} {w0 W : World} (h : Below B w0 W) (hb : B ≤ b) (j : Nat) (u : Value) : Below B w0 (W.setCell ⟨b, j, none⟩ u) :=
  ⟨h.os, h.tape, h.output, by have := h.size; simp only [World.size_setCell]; exact this, fun i hi => (Below.heap_setCell W ⟨b, j, none⟩ u i (fun e => by
    have e2 : i = b := e
    omega)).trans (h.block i hi)⟩
theorem arr_gt {w w1 : World} {g t b : Nat} {cs : Array Value} (h : Arr w g t cs) (hg : w.grownBy w1 (some b)) (hne : g ≠ b) : Arr w1 g t cs := (hg.block g h.lt (by intro e; injection e with e; exact hne e)).trans h
def Drawn (g : Grid) (l : List Packet) : Prop := l.length ≤ 6 ∧ ∀ j : Nat, j < l.length → packetOk g (rp l j) = true ∧ (rp l j).id = (j : Int) + 1
section
variable {ops : Array Oper} {rest : List Oper} {o : Oper} {a : Act} {Q : Exit → Act → World → Prop}
end
structure TX where
  A : Option Addr
  c : Nat
  lo : Nat
  hi : Nat
def gT (B : Nat) (y : TX) (xs : List Int) (W : World) : Prop := B ≤ y.lo ∧ y.lo ≤ y.hi ∧ y.hi ≤ W.heap.size ∧ RU (Kd.int .i64) 3 W y.lo y.hi (.slice y.A xs.length y.c) xs
theorem gT.below {B : Nat} {y : TX} {xs : List Int} {W W1 : World} (h : gT B y xs W) (hb : Below W.heap.size W W1) : gT B y xs W1 := ⟨h.1, h.2.1, Nat.le_trans h.2.2.1 hb.size, h.2.2.2.below hb⟩
theorem gT.grown {B b : Nat} {y : TX} {xs : List Int} {W W1 : World} (h : gT B y xs W) (hg : W.grownBy W1 (some b)) (hb : b < B) : gT B y xs W1 :=
  ⟨h.1, h.2.1, Nat.le_trans h.2.2.1 hg.size, h.2.2.2.step (fun k h1 _ h3 => hg.block k h3 (fun e => by
    have := h.1
    have := Option.some.inj e
    omega))⟩
theorem gT.of {B : Nat} {xs : List Int} {W W1 : World} {e : Ending} (h : GotTab W W1 xs e) (hb : Below W.heap.size W W1) (hB : B ≤ W.heap.size) : ∃ y : TX, e = .returned (.agg #[.slice y.A xs.length y.c]) ∧ gT B y xs W1 ∧ W.heap.size ≤ y.lo ∧ y.hi ≤ W1.heap.size := by
  obtain ⟨v, rfl, hr⟩ := h
  obtain ⟨A, c, rfl⟩ := Kd.R_slice hr
  exact ⟨⟨A, c, W.heap.size, W1.heap.size⟩, rfl, ⟨hB, hb.size, Nat.le_refl _, RU.of hr (Nat.le_refl _) (Nat.le_refl _)⟩, Nat.le_refl _, Nat.le_refl _⟩
theorem NX.cur {w w1 : World} {lo b : Nat} {n : Net} {q : NA} {v4 v7 v8 : List Value} (h : NX w lo n q v4 v7 v8) (hg : w.grownBy w1 (some b)) (hb : b < lo) : NX w1 lo n q v4 v7 v8 := by
  have ne : ∀ {v : Value}, (∀ k, v.ownBlock = some k → lo ≤ k) → v.ownBlock = none ∨ v.ownBlock ≠ some b := fun {v} hv => by
    cases e : v.ownBlock with
    | none => exact .inl rfl
    | some k => exact .inr (fun e2 => by have := hv k e; have := Option.some.inj e2; omega)
  exact ⟨R_grownI h.br hg (ne (Kd.R_base h.br)), R_grownI h.pa hg (ne (Kd.R_base h.pa)), R_grownI h.pb hg (ne (Kd.R_base h.pb)), R_grownI h.owners hg (ne (Kd.R_base h.owners)), R_grownI h.turns hg (ne (Kd.R_base h.turns)), own_other h.bufs hg (ne (own_base h.bufs)), own_other h.srcs hg (ne (own_base h.srcs)), own_other h.arrs hg (ne (own_base h.arrs)), ⟨h.rows.len, fun i hi => R_grownF (h.rows.row i hi) hg (ne (Kd.R_base (h.rows.row i hi))), h.rows.ap⟩, h.apI, h.apO⟩
theorem BN.cur {w w1 : World} {c b : Nat} (h : BN w c) (hg : w.grownBy w1 (some b)) (hne : c ≠ b) : BN w1 c := by
  have hl := h.lt
  obtain ⟨cs, h1, h2⟩ := h
  exact ⟨cs, (hg.block c hl (fun e => hne (Option.some.inj e))).trans h1, h2⟩
theorem BT.cur {w w1 : World} {c b : Nat} {n : Net} {q : NA} (h : BT w c n q) (hg : w.grownBy w1 (some b)) (hne : c ≠ b) : BT w1 c n q :=
  (hg.block c h.lt (fun e => hne (Option.some.inj e))).trans h
theorem cur_put {w : World} {b B0 c : Nat} {n : Net} {q : NA} (h : Cur w b B0) (h1 : b < c) : Cur (putN w c n q) b B0 := by
  unfold putN
  refine Cur.far _ _ ?_ h1
  refine Cur.far _ _ ?_ h1
  refine Cur.far _ _ ?_ h1
  refine Cur.far _ _ ?_ h1
  refine Cur.far _ _ ?_ h1
  refine Cur.far _ _ ?_ h1
  refine Cur.far _ _ ?_ h1
  refine Cur.far _ _ ?_ h1
  refine Cur.far _ _ ?_ h1
  refine Cur.far _ _ ?_ h1
  refine Cur.far _ _ ?_ h1
  exact h
theorem bn_off {w : World} {b c : Nat} {n : Net} {q : NA} (h : BN w c) (hne : c ≠ b) : BN (putN w b n q) c := by
  obtain ⟨cs, h1, h2⟩ := h
  exact ⟨cs, by rw [blk_put hne]; exact h1, h2⟩
def DrN (n : Net) : Prop := ∃ (g : Grid) (r s : Int) (l : List Packet) (k : Nat), (1 ≤ g.w ∧ g.w ≤ 4 ∧ 1 ≤ g.h ∧ g.h ≤ 4 ∧ 2 ≤ nodeCount g) ∧ (1 ≤ r ∧ r ≤ 4 ∧ 1 ≤ s ∧ s ≤ 4) ∧ Drawn g l ∧ k < 12 ∧ n = runN (sendAllN (newN ⟨g, []⟩ (makeT g r) (makeT g s)) l) k
theorem std_classes {g : Grid} {r s : Int} (hg : 1 ≤ g.w ∧ g.w ≤ 4 ∧ 1 ≤ g.h ∧ g.h ≤ 4) (h : 1 ≤ r ∧ r ≤ 4 ∧ 1 ≤ s ∧ s ≤ 4) : classesOk ⟨g, []⟩ (makeT g r) (makeT g s) = true := by
  unfold classesOk
  rw [make_ok hg.1 hg.2.1 hg.2.2.1 hg.2.2.2 h.1 h.2.1, make_ok hg.1 hg.2.1 hg.2.2.1 hg.2.2.2 h.2.2.1 h.2.2.2]
  rfl
theorem sendAll_ok {n : Net} (ok : netOk n = true) (l : List Packet) : netOk (sendAllN n l) = true := by
  unfold sendAllN
  split
  · exact sndTo_ok ok l _
  · exact ok
theorem sndTo_rest (n : Net) (l : List Packet) : ∀ k, (sndTo n l k).time = n.time ∧ (sndTo n l k).arrs = n.arrs ∧ (sndTo n l k).mesh = n.mesh ∧ (sndTo n l k).pa = n.pa ∧ (sndTo n l k).pb = n.pb ∧ (sndTo n l k).bufs = n.bufs := by
  intro k
  induction k with
  | zero => exact ⟨rfl, rfl, rfl, rfl, rfl, rfl⟩
  | succ k ih =>
    have h : ∀ x : Net, ∀ p, (sndN x p).time = x.time ∧ (sndN x p).arrs = x.arrs ∧ (sndN x p).mesh = x.mesh ∧ (sndN x p).pa = x.pa ∧ (sndN x p).pb = x.pb ∧ (sndN x p).bufs = x.bufs := fun x p => by unfold sndN sendN; split <;> exact ⟨rfl, rfl, rfl, rfl, rfl, rfl⟩
    obtain ⟨a1, a2, a3, a4, a5, a6⟩ := h (sndTo n l k) (rp l (k : Int))
    obtain ⟨b1, b2, b3, b4, b5, b6⟩ := ih
    exact ⟨a1.trans b1, a2.trans b2, a3.trans b3, a4.trans b4, a5.trans b5, a6.trans b6⟩
theorem sendAll_rest (n : Net) (l : List Packet) : (sendAllN n l).time = n.time ∧ (sendAllN n l).arrs = n.arrs ∧ (sendAllN n l).mesh = n.mesh ∧ (sendAllN n l).pa = n.pa ∧ (sendAllN n l).pb = n.pb ∧ (sendAllN n l).bufs = n.bufs := by
  unfold sendAllN
  split
  · exact sndTo_rest n l _
  · exact ⟨rfl, rfl, rfl, rfl, rfl, rfl⟩
theorem new_arrs (m : Mesh) (pa pb : List Int) : ∀ x ∈ (newN m pa pb).arrs, x = [] := by
  intro x hx
  exact List.eq_of_mem_replicate hx
end Go.Proofs.YtaihmgbflhbebaaGreat
namespace NoC
theorem enter_in {n : Net} (ok : netOk n = true) : ∀ a ∈ enteringN n, ∃ i : Nat, a = (i : Int) ∧ i < n.srcs.length ∧ 0 < (rl n.srcs a).length ∧ 10 * (i : Int) + 8 ≤ eTo n a ∧ eTo n a ≤ 10 * (i : Int) + 9 ∧ eTo n a < (n.bufs.length : Int) := by
  intro a ha
  obtain ⟨i, rfl, hi, he⟩ := (enterTo_spec n n.srcs.length).1 a ha
  simp only [enters, Bool.and_eq_true, decide_eq_true_eq] at he
  obtain ⟨_, _, _, hcl⟩ := src_buf ok i hi
  obtain ⟨d0, d1, d2⟩ := hcl he.1
  refine ⟨i, rfl, hi, he.1, ?_, ?_, ?_⟩ <;> unfold eTo <;> omega
theorem afterPop_len (n : Net) : (afterPop n).bufs.length = n.bufs.length := popL_len _ _
theorem afterPush_len (n : Net) : (afterPush n).bufs.length = n.bufs.length := by unfold afterPush; rw [(push_lens n _ _).1]; exact afterPop_len n
theorem ri_setI {l : List Int} {k : Int} {v : Int} (k0 : 0 ≤ k) (hk : k < (l.length : Int)) (j : Int) (hj : 0 ≤ j) : ri (l.set k.toNat v) j = if j = k then v else ri l j := by
  by_cases e : j = k
  · subst e
    have h : j.toNat < l.length := by omega
    simp [ri, List.getD_eq_getElem?_getD, h]
  · have h : ¬ k.toNat = j.toNat := by omega
    simp [ri, List.getD_eq_getElem?_getD, e, h]
end NoC
namespace NoC
open Go.Proofs.YtaihmgbflhbebaaGreat (totTo)
theorem pushG_arrs (n x : Net) (g : Grant) : (pushG n x g).arrs = if g.port = 4 then x.arrs.set g.node.toNat (rl x.arrs g.node ++ [mvF n g]) else x.arrs := by unfold pushG; split <;> rfl
end NoC
