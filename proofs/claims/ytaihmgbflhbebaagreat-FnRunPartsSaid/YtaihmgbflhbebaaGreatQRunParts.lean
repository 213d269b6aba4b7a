/- The law FnExactRunParts answers true for all arguments, and leaves each as it was. No conditions. -/
import Derived.Test.YtaihmgbflhbebaaGreatQ18
import Derived.Test.YtaihmgbflhbebaaGreatQ6
import Derived.Test.YtaihmgbflhbebaaGreatRows
import Derived.WalkKit
import Derived.ProofKit
import Derived.OpenShut
import Derived.ShutString
import Derived.ChangeOld
import Derived.Below
import Derived.SizedLaws
set_option linter.unusedVariables false
set_option linter.unusedSimpArgs false
namespace Go.Proofs.YtaihmgbflhbebaaGreat
open Go.RowKit Go.Proofs.YtaihmgbflhbebaaGreatW.PrintWords
open NoC
set_option maxRecDepth 100000 in
set_option maxHeartbeats 16000000 in
theorem law_RunParts (A : Option Addr) (N c : Nat) (w : World) (HXB : Byt w A N) : Calls Tryz.prog 5 #[.slice A N c] w fun e w' => e = .returned (.bool true) ∧ Below w.heap.size w w' := by
 go_enter Tryz.func5, Tryz.ntmps5
 by_cases hbig : (1048576 : Int) < (N : Int)
 ·go_wp2_with (go_at_call 10; refine (laws_big _ _ _ _).mono ?_; rintro e w' ⟨rfl, rfl⟩)
  go_ret
  exact ⟨rfl, bel⟩
 go_wp2_with (go_at_call 10; refine (laws_big _ _ _ _).mono ?_; rintro e w' ⟨rfl, rfl⟩)
 refine (spec_DrawNet A N c _ HXB).mono ?_
 rintro e w1 ⟨⟨n, q, rfl, HD, hr⟩, hb1⟩
 have RR0 := Lib.hid hr
 have HWW := Lib.hid hb1
 have HXB1 := Lib.hid (HXB.below hb1)
 have HDN := Lib.hid HD
 obtain ⟨a1, a2, a3, a4, a5, a6, a7, a8, c1, c2, c3, c4, c5, c6, c7, c8⟩ := q
 clear hr hb1 HD HXB
 dsimp only [netCells]
 obtain ⟨ok, we, t0, t1, hA, g, hm, hg2⟩ := HDN.out.facts
 have HMM := Lib.hid hm
 clear hm
 have HAS : Hid (∀ i : Nat, (rl n.arrs i).length ≤ 880) := Lib.hid HDN.out.arrs
 have hbx : Below w1.heap.size w1 (w1.alloc (.cells #[.int .i64 n.mesh.g.w, .int .i64 n.mesh.g.h, .slice a1 n.mesh.br.length c1, .slice a2 n.pa.length c2, .slice a3 n.pb.length c3, .slice a4 n.bufs.length c4, .slice a5 n.owners.length c5, .slice a6 n.turns.length c6, .slice a7 n.srcs.length c7, .slice a8 n.arrs.length c8, .int .i64 n.time] 35)) := bw_alloc _ (bw_refl w1)
 have BX0 := Lib.hid (show Box (w1.alloc (.cells #[.int .i64 n.mesh.g.w, .int .i64 n.mesh.g.h, .slice a1 n.mesh.br.length c1, .slice a2 n.pa.length c2, .slice a3 n.pb.length c3, .slice a4 n.bufs.length c4, .slice a5 n.owners.length c5, .slice a6 n.turns.length c6, .slice a7 n.srcs.length c7, .slice a8 n.arrs.length c8, .int .i64 n.time] 35)) w1.heap.size #[.int .i64 n.mesh.g.w, .int .i64 n.mesh.g.h, .slice a1 n.mesh.br.length c1, .slice a2 n.pa.length c2, .slice a3 n.pb.length c3, .slice a4 n.bufs.length c4, .slice a5 n.owners.length c5, .slice a6 n.turns.length c6, .slice a7 n.srcs.length c7, .slice a8 n.arrs.length c8, .int .i64 n.time] from Box.new w1 _ _ _ rfl)
 obtain ⟨y0, g0⟩ := BX0.out
 replace RR0 := Lib.hid (RR0.out.below hbx)
 replace HXB1 := Lib.hid (HXB1.out.below hbx)
 replace HWW := Lib.hid (bw_then HWW.out hbx)
 clear hbx
 have zzw2 : w1.heap.size + 1 ≤ (w1.alloc (.cells #[.int .i64 n.mesh.g.w, .int .i64 n.mesh.g.h, .slice a1 n.mesh.br.length c1, .slice a2 n.pa.length c2, .slice a3 n.pb.length c3, .slice a4 n.bufs.length c4, .slice a5 n.owners.length c5, .slice a6 n.turns.length c6, .slice a7 n.srcs.length c7, .slice a8 n.arrs.length c8, .int .i64 n.time] 35)).heap.size := Nat.le_of_eq (World.size_alloc _ _).symm
 go_wp2_with fail
 generalize w1.alloc (.cells #[.int .i64 n.mesh.g.w, .int .i64 n.mesh.g.h, .slice a1 n.mesh.br.length c1, .slice a2 n.pa.length c2, .slice a3 n.pb.length c3, .slice a4 n.bufs.length c4, .slice a5 n.owners.length c5, .slice a6 n.turns.length c6, .slice a7 n.srcs.length c7, .slice a8 n.arrs.length c8, .int .i64 n.time] 35) = w2 at *
 refine (spec_DrawPlaces A N c _ HXB1.out).mono ?_
 rintro e w3 ⟨⟨xs, hg, hxl, hxr⟩, hbc⟩
 obtain ⟨pb, po, pc, x0, x1, x2, rfl, hpl, q0, q1, q2, q3, q4, q5⟩ := places3 hg hxl hxr
 have HPL := Lib.hid hpl
 clear hpl hg hxr hxl
 have zzw3 := bw_size hbc
 replace RR0 := Lib.hid (RR0.out.below hbc)
 replace BX0 := Lib.hid (Box.below BX0.out hbc)
 clear y0 g0
 obtain ⟨y0, g0⟩ := BX0.out
 replace HXB1 := Lib.hid (HXB1.out.below hbc)
 replace HWW := Lib.hid (bw_then HWW.out hbc)
 clear hbc
 obtain ⟨pl, pq0, pq1, pq2⟩ := HPL.out
 have RR9 : Hid (∀ k : Nat, k ≤ 22 → canRunN n (k : Int) = true ∧ runNetN n (k : Int) = runN n k) := Lib.hid (fun k hk => by
  have h : canRunN n (k : Int) = true := by unfold canRunN; rw [ok, inside_iff.2 ⟨by omega, by omega⟩, decide_eq_true (by omega)]; rfl
  exact ⟨h, by unfold runNetN; rw [if_pos h, Int.toNat_natCast]⟩)
 obtain ⟨a, ha⟩ : ∃ a : Nat, x0 % 12 = (a : Int) := ⟨(x0 % 12).toNat, by omega⟩
 obtain ⟨b, hb⟩ : ∃ b : Nat, x1 % 12 = (b : Int) := ⟨(x1 % 12).toNat, by omega⟩
 have al : a < 12 := by omega
 have bl : b < 12 := by omega
 have oka := runN_ok ok a (by omega)
 have ta : (runN n a).time = n.time + a := runN_time n a
 have HS : Hid (runN (runN n a) b = runN n (a + b)) := Lib.hid (runN_add n a b).symm
 have HA1 := run_nb RR0.out.nb hA a (by omega) oka
 have HA2 := run_nb RR0.out.nb hA (a + b) (by omega) (runN_ok ok (a + b) (by push_cast; omega))
 have HAA : ∀ x ∈ (runN n a).arrs, x.length ≤ 1048576 := fun x hx => by
  obtain ⟨i, hi, rfl⟩ := rl_of_mem hx
  have h1 := run_arrs n i a
  have h2 := HAS.out i
  omega
 have hc2 : canRunN (runN n a) (b : Int) = true := by unfold canRunN; rw [oka, inside_iff.2 ⟨by omega, by omega⟩, decide_eq_true (by omega)]; rfl
 have HC2 := Lib.hid hc2
 have HR2 : Hid (runNetN (runN n a) (b : Int) = runN n (a + b)) := Lib.hid (by unfold runNetN; rw [if_pos hc2, Int.toNat_natCast, HS.out])
 have h9 := RR9.out (a + b) (by omega)
 have HC1 := Lib.hid h9.1
 have HR1 := Lib.hid h9.2
 have HC3 := Lib.hid (RR9.out a (by omega)).1
 have HR3 := Lib.hid (RR9.out a (by omega)).2
 have HNA := Lib.hid hA
 have HNAA := Lib.hid HAA
 have hab : ((a + b : Nat) : Int) = x0 % 12 + x1 % 12 := by push_cast; omega
 obtain ⟨X, hX⟩ : ∃ z, runN n (a + b) = z := ⟨_, rfl⟩
 obtain ⟨Y, hY⟩ : ∃ z, runN n a = z := ⟨_, rfl⟩
 rw [hX] at HR1 HR2 HA2
 rw [hY] at HR2 HR3 HA1 HC2 HNAA
 rw [hab] at HC1 HR1
 rw [← ha] at HC3 HR3
 rw [← hb] at HC2 HR2
 have NB1 := Lib.hid HA1
 have NB2 := Lib.hid HA2
 clear hX hY hA HAA hc2 h9 HS HA1 HA2 RR9 oka ta ok we hab ha hb al bl HAS
 go_wp2_with fail
 clear pl pq0 pq1 pq2
 refine (impl_RunNet n _ _ _ RR0.out HNA.out).mono ?_
 rintro e w4 ⟨hg, hbc⟩
 rw [HR1.out, HC1.out] at hg
 obtain ⟨q9, v4, v7, v8, rfl, HNX⟩ := hg
 obtain ⟨p1, p2, p3, p4, p5, p6, p7, p8, d1, d2, d3, d4, d5, d6, d7, d8⟩ := q9
 dsimp only [netCells]
 have zzw4 := bw_size hbc
 replace RR0 := Lib.hid (RR0.out.below hbc)
 replace BX0 := Lib.hid (Box.below BX0.out hbc)
 clear y0 g0
 obtain ⟨y0, g0⟩ := BX0.out
 replace HXB1 := Lib.hid (HXB1.out.below hbc)
 replace HPL := Lib.hid (HPL.out.below hbc)
 replace HWW := Lib.hid (bw_then HWW.out hbc)
 clear hbc
 have RR1 := Lib.hid (HNX.reads NB2.out)
 clear HNX
 have hbx : Below w4.heap.size w4 (w4.alloc (.cells #[.int .i64 X.mesh.g.w, .int .i64 X.mesh.g.h, .slice p1 X.mesh.br.length d1, .slice p2 X.pa.length d2, .slice p3 X.pb.length d3, .slice p4 X.bufs.length d4, .slice p5 X.owners.length d5, .slice p6 X.turns.length d6, .slice p7 X.srcs.length d7, .slice p8 X.arrs.length d8, .int .i64 X.time] 35)) := bw_alloc _ (bw_refl w4)
 have BX1 := Lib.hid (show Box (w4.alloc (.cells #[.int .i64 X.mesh.g.w, .int .i64 X.mesh.g.h, .slice p1 X.mesh.br.length d1, .slice p2 X.pa.length d2, .slice p3 X.pb.length d3, .slice p4 X.bufs.length d4, .slice p5 X.owners.length d5, .slice p6 X.turns.length d6, .slice p7 X.srcs.length d7, .slice p8 X.arrs.length d8, .int .i64 X.time] 35)) w4.heap.size #[.int .i64 X.mesh.g.w, .int .i64 X.mesh.g.h, .slice p1 X.mesh.br.length d1, .slice p2 X.pa.length d2, .slice p3 X.pb.length d3, .slice p4 X.bufs.length d4, .slice p5 X.owners.length d5, .slice p6 X.turns.length d6, .slice p7 X.srcs.length d7, .slice p8 X.arrs.length d8, .int .i64 X.time] from Box.new w4 _ _ _ rfl)
 obtain ⟨y1, g1⟩ := BX1.out
 replace RR0 := Lib.hid (RR0.out.below hbx)
 replace BX0 := Lib.hid (Box.below BX0.out hbx)
 clear y0 g0
 obtain ⟨y0, g0⟩ := BX0.out
 replace RR1 := Lib.hid (RR1.out.below hbx)
 replace HXB1 := Lib.hid (HXB1.out.below hbx)
 replace HPL := Lib.hid (HPL.out.below hbx)
 replace HWW := Lib.hid (bw_then HWW.out hbx)
 clear hbx
 have zzw5 : w4.heap.size + 1 ≤ (w4.alloc (.cells #[.int .i64 X.mesh.g.w, .int .i64 X.mesh.g.h, .slice p1 X.mesh.br.length d1, .slice p2 X.pa.length d2, .slice p3 X.pb.length d3, .slice p4 X.bufs.length d4, .slice p5 X.owners.length d5, .slice p6 X.turns.length d6, .slice p7 X.srcs.length d7, .slice p8 X.arrs.length d8, .int .i64 X.time] 35)).heap.size := Nat.le_of_eq (World.size_alloc _ _).symm
 go_wp2_with fail
 generalize w4.alloc (.cells #[.int .i64 X.mesh.g.w, .int .i64 X.mesh.g.h, .slice p1 X.mesh.br.length d1, .slice p2 X.pa.length d2, .slice p3 X.pb.length d3, .slice p4 X.bufs.length d4, .slice p5 X.owners.length d5, .slice p6 X.turns.length d6, .slice p7 X.srcs.length d7, .slice p8 X.arrs.length d8, .int .i64 X.time] 35) = w5 at *
 refine (impl_RunNet n _ _ _ RR0.out HNA.out).mono ?_
 rintro e w6 ⟨hg, hbc⟩
 rw [HR3.out, HC3.out] at hg
 obtain ⟨q9, v4, v7, v8, rfl, HNX⟩ := hg
 obtain ⟨s1, s2, s3, s4, s5, s6, s7, s8, t1, t2, t3, t4, t5, t6, t7, t8⟩ := q9
 dsimp only [netCells]
 have zzw6 := bw_size hbc
 replace RR0 := Lib.hid (RR0.out.below hbc)
 replace BX0 := Lib.hid (Box.below BX0.out hbc)
 clear y0 g0
 obtain ⟨y0, g0⟩ := BX0.out
 replace RR1 := Lib.hid (RR1.out.below hbc)
 replace BX1 := Lib.hid (Box.below BX1.out hbc)
 clear y1 g1
 obtain ⟨y1, g1⟩ := BX1.out
 replace HXB1 := Lib.hid (HXB1.out.below hbc)
 replace HPL := Lib.hid (HPL.out.below hbc)
 replace HWW := Lib.hid (bw_then HWW.out hbc)
 clear hbc
 have RR2 := Lib.hid (HNX.reads NB1.out)
 clear HNX
 have hbx : Below w6.heap.size w6 (w6.alloc (.cells #[.int .i64 Y.mesh.g.w, .int .i64 Y.mesh.g.h, .slice s1 Y.mesh.br.length t1, .slice s2 Y.pa.length t2, .slice s3 Y.pb.length t3, .slice s4 Y.bufs.length t4, .slice s5 Y.owners.length t5, .slice s6 Y.turns.length t6, .slice s7 Y.srcs.length t7, .slice s8 Y.arrs.length t8, .int .i64 Y.time] 35)) := bw_alloc _ (bw_refl w6)
 have BX2 := Lib.hid (show Box (w6.alloc (.cells #[.int .i64 Y.mesh.g.w, .int .i64 Y.mesh.g.h, .slice s1 Y.mesh.br.length t1, .slice s2 Y.pa.length t2, .slice s3 Y.pb.length t3, .slice s4 Y.bufs.length t4, .slice s5 Y.owners.length t5, .slice s6 Y.turns.length t6, .slice s7 Y.srcs.length t7, .slice s8 Y.arrs.length t8, .int .i64 Y.time] 35)) w6.heap.size #[.int .i64 Y.mesh.g.w, .int .i64 Y.mesh.g.h, .slice s1 Y.mesh.br.length t1, .slice s2 Y.pa.length t2, .slice s3 Y.pb.length t3, .slice s4 Y.bufs.length t4, .slice s5 Y.owners.length t5, .slice s6 Y.turns.length t6, .slice s7 Y.srcs.length t7, .slice s8 Y.arrs.length t8, .int .i64 Y.time] from Box.new w6 _ _ _ rfl)
 obtain ⟨y2, g2⟩ := BX2.out
 replace RR0 := Lib.hid (RR0.out.below hbx)
 replace BX0 := Lib.hid (Box.below BX0.out hbx)
 clear y0 g0
 obtain ⟨y0, g0⟩ := BX0.out
 replace RR1 := Lib.hid (RR1.out.below hbx)
 replace BX1 := Lib.hid (Box.below BX1.out hbx)
 clear y1 g1
 obtain ⟨y1, g1⟩ := BX1.out
 replace RR2 := Lib.hid (RR2.out.below hbx)
 replace HXB1 := Lib.hid (HXB1.out.below hbx)
 replace HPL := Lib.hid (HPL.out.below hbx)
 replace HWW := Lib.hid (bw_then HWW.out hbx)
 clear hbx
 have zzw7 : w6.heap.size + 1 ≤ (w6.alloc (.cells #[.int .i64 Y.mesh.g.w, .int .i64 Y.mesh.g.h, .slice s1 Y.mesh.br.length t1, .slice s2 Y.pa.length t2, .slice s3 Y.pb.length t3, .slice s4 Y.bufs.length t4, .slice s5 Y.owners.length t5, .slice s6 Y.turns.length t6, .slice s7 Y.srcs.length t7, .slice s8 Y.arrs.length t8, .int .i64 Y.time] 35)).heap.size := Nat.le_of_eq (World.size_alloc _ _).symm
 go_wp2_with fail
 generalize w6.alloc (.cells #[.int .i64 Y.mesh.g.w, .int .i64 Y.mesh.g.h, .slice s1 Y.mesh.br.length t1, .slice s2 Y.pa.length t2, .slice s3 Y.pb.length t3, .slice s4 Y.bufs.length t4, .slice s5 Y.owners.length t5, .slice s6 Y.turns.length t6, .slice s7 Y.srcs.length t7, .slice s8 Y.arrs.length t8, .int .i64 Y.time] 35) = w7 at *
 refine (impl_RunNet Y _ _ _ RR2.out HNAA.out).mono ?_
 rintro e w8 ⟨hg, hbc⟩
 rw [HR2.out, HC2.out] at hg
 obtain ⟨q9, v4, v7, v8, rfl, HNX⟩ := hg
 obtain ⟨u1, u2, u3, u4, u5, u6, u7, u8, v1, v2, v3, v4, v5, v6, v7, v8⟩ := q9
 dsimp only [netCells]
 have zzw8 := bw_size hbc
 replace RR0 := Lib.hid (RR0.out.below hbc)
 replace BX0 := Lib.hid (Box.below BX0.out hbc)
 clear y0 g0
 obtain ⟨y0, g0⟩ := BX0.out
 replace RR1 := Lib.hid (RR1.out.below hbc)
 replace BX1 := Lib.hid (Box.below BX1.out hbc)
 clear y1 g1
 obtain ⟨y1, g1⟩ := BX1.out
 replace RR2 := Lib.hid (RR2.out.below hbc)
 replace BX2 := Lib.hid (Box.below BX2.out hbc)
 clear y2 g2
 obtain ⟨y2, g2⟩ := BX2.out
 replace HXB1 := Lib.hid (HXB1.out.below hbc)
 replace HPL := Lib.hid (HPL.out.below hbc)
 replace HWW := Lib.hid (bw_then HWW.out hbc)
 clear hbc
 have RR3 := Lib.hid (HNX.reads NB2.out)
 clear HNX
 have hbx : Below w8.heap.size w8 (w8.alloc (.cells #[.int .i64 X.mesh.g.w, .int .i64 X.mesh.g.h, .slice u1 X.mesh.br.length v1, .slice u2 X.pa.length v2, .slice u3 X.pb.length v3, .slice u4 X.bufs.length v4, .slice u5 X.owners.length v5, .slice u6 X.turns.length v6, .slice u7 X.srcs.length v7, .slice u8 X.arrs.length v8, .int .i64 X.time] 35)) := bw_alloc _ (bw_refl w8)
 have BX3 := Lib.hid (show Box (w8.alloc (.cells #[.int .i64 X.mesh.g.w, .int .i64 X.mesh.g.h, .slice u1 X.mesh.br.length v1, .slice u2 X.pa.length v2, .slice u3 X.pb.length v3, .slice u4 X.bufs.length v4, .slice u5 X.owners.length v5, .slice u6 X.turns.length v6, .slice u7 X.srcs.length v7, .slice u8 X.arrs.length v8, .int .i64 X.time] 35)) w8.heap.size #[.int .i64 X.mesh.g.w, .int .i64 X.mesh.g.h, .slice u1 X.mesh.br.length v1, .slice u2 X.pa.length v2, .slice u3 X.pb.length v3, .slice u4 X.bufs.length v4, .slice u5 X.owners.length v5, .slice u6 X.turns.length v6, .slice u7 X.srcs.length v7, .slice u8 X.arrs.length v8, .int .i64 X.time] from Box.new w8 _ _ _ rfl)
 obtain ⟨y3, g3⟩ := BX3.out
 replace RR0 := Lib.hid (RR0.out.below hbx)
 replace BX0 := Lib.hid (Box.below BX0.out hbx)
 clear y0 g0
 obtain ⟨y0, g0⟩ := BX0.out
 replace RR1 := Lib.hid (RR1.out.below hbx)
 replace BX1 := Lib.hid (Box.below BX1.out hbx)
 clear y1 g1
 obtain ⟨y1, g1⟩ := BX1.out
 replace RR2 := Lib.hid (RR2.out.below hbx)
 replace BX2 := Lib.hid (Box.below BX2.out hbx)
 clear y2 g2
 obtain ⟨y2, g2⟩ := BX2.out
 replace RR3 := Lib.hid (RR3.out.below hbx)
 replace HXB1 := Lib.hid (HXB1.out.below hbx)
 replace HPL := Lib.hid (HPL.out.below hbx)
 replace HWW := Lib.hid (bw_then HWW.out hbx)
 clear hbx
 have zzw9 : w8.heap.size + 1 ≤ (w8.alloc (.cells #[.int .i64 X.mesh.g.w, .int .i64 X.mesh.g.h, .slice u1 X.mesh.br.length v1, .slice u2 X.pa.length v2, .slice u3 X.pb.length v3, .slice u4 X.bufs.length v4, .slice u5 X.owners.length v5, .slice u6 X.turns.length v6, .slice u7 X.srcs.length v7, .slice u8 X.arrs.length v8, .int .i64 X.time] 35)).heap.size := Nat.le_of_eq (World.size_alloc _ _).symm
 go_wp2_with fail
 generalize w8.alloc (.cells #[.int .i64 X.mesh.g.w, .int .i64 X.mesh.g.h, .slice u1 X.mesh.br.length v1, .slice u2 X.pa.length v2, .slice u3 X.pb.length v3, .slice u4 X.bufs.length v4, .slice u5 X.owners.length v5, .slice u6 X.turns.length v6, .slice u7 X.srcs.length v7, .slice u8 X.arrs.length v8, .int .i64 X.time] 35) = w9 at *
 refine (impl_SameNet X _ _ _ RR1.out RR3.out).mono ?_
 rintro e w10 ⟨rfl, hbc⟩
 have zzw10 := bw_size hbc
 replace RR0 := Lib.hid (RR0.out.below hbc)
 replace BX0 := Lib.hid (Box.below BX0.out hbc)
 clear y0 g0
 obtain ⟨y0, g0⟩ := BX0.out
 replace RR1 := Lib.hid (RR1.out.below hbc)
 replace BX1 := Lib.hid (Box.below BX1.out hbc)
 clear y1 g1
 obtain ⟨y1, g1⟩ := BX1.out
 replace RR2 := Lib.hid (RR2.out.below hbc)
 replace BX2 := Lib.hid (Box.below BX2.out hbc)
 clear y2 g2
 obtain ⟨y2, g2⟩ := BX2.out
 replace RR3 := Lib.hid (RR3.out.below hbc)
 replace BX3 := Lib.hid (Box.below BX3.out hbc)
 clear y3 g3
 obtain ⟨y3, g3⟩ := BX3.out
 replace HXB1 := Lib.hid (HXB1.out.below hbc)
 replace HPL := Lib.hid (HPL.out.below hbc)
 replace HWW := Lib.hid (bw_then HWW.out hbc)
 clear hbc
 go_wp2
 go_ret
 exact ⟨rfl, HWW.out⟩
end Go.Proofs.YtaihmgbflhbebaaGreat
namespace Go.Proofs.YtaihmgbflhbebaaGreat
open Go.ChangeShapes Go.WideShapes Go.ChangeAt Go.RowKit Go.Proofs.YtaihmgbflhbebaaGreatW.PrintWords
open NoC
set_option linter.unusedVariables false
theorem own : ownKnob Tryz.prog.godebug = none := by kernel_rfl
theorem laidOut : laidOutB Tryz.prog = true := by kernel_rfl
theorem arr_of {cs : Array Value} {l : List Value} (h : cs.toList = l) : cs = l.toArray := by rw [← h]
set_option maxHeartbeats 1000000 in
set_option maxRecDepth 100000 in
theorem lifted_RunParts (os : Os) (started : os.Started) (H : Type) (enc : TypeId × Value → H) :
    ReturnsInHanded {} Tryz.checked os 5 .any (Rows.fnRunPartsSpec.pre6 enc Tryz.prog Tryz.f5 Rows.fnRunPartsRow.domain false) (Rows.fnRunPartsSpec.post enc Tryz.prog Tryz.f5 false true false false) := by
  refine returnsInHanded_of_change_sized (C := Tryz.checked) own started (by kernel_rfl) Tryz.func5
    (ChangeSpec.witness6 (enc := enc) (C := Tryz.checked) false ⟨#[], #[.slice none 0 0], []⟩ 8 (by kernel_rfl) (by kernel_rfl) (by kernel_rfl) (by kernel_rfl)) ?_
  intro W base args ds gs before hval0 hW hcnd hsz0 _
  have hsz : (DataW.weightsEach Tryz.prog (Tryz.f5.params.toList ++ Rows.fnRunPartsSpec.plain.varTypes Tryz.prog) (ds ++ gs)).all (· ≤ reachBytes) = true := hsz0
  have hval : ∀ (j : Nat) t v, Tryz.f5.params[j]? = some t → args[j]? = some v → Value.okWide Tryz.prog W .any base t v := hval0
  have hW' := hW
  obtain ⟨p, q, hA0, hV, rfl, hfz, hnd⟩ := hW
  have hA : DataW.TrodAll enc Tryz.prog W 0 (fun _ => true) true Tryz.f5.params.toList args.toList ds p := hA0
  rw [Tryz.params5] at hA hval hsz
  obtain ⟨v0, vs0, d0, ds0, p0, q0, hargs, rfl, rfl, h0, r0⟩ := trodAll_cons hA
  obtain ⟨rfl, rfl, rfl⟩ := trodAll_nil r0
  obtain rfl : args = #[v0] := by cases args; simp_all
  obtain ⟨rfl, rfl⟩ := trodVars_none hV
  obtain ⟨c0, n0, o0, rfl⟩ := okWide_slice Tryz.underlying22 (hval 0 _ v0 rfl rfl)
  have k0 := h0
  have lt0 : ∀ x ∈ p0, x.block < W.heap.size := by obtain ⟨m, hm⟩ := k0; exact DataW.trod_lt m _ _ _ hm
  obtain ⟨f0, g0⟩ := h0
  obtain ⟨A0, a0, N0, e0, hl0⟩ := op_bytes g0 (light_arg hsz (j := 0) rfl rfl)
  simp [Value.cells] at e0
  obtain ⟨rfl, rfl, rfl⟩ := e0
  clear hA0 hval0 hsz0 hsz
  refine (law_RunParts c0 n0 o0 W hl0).mono fun e W' ⟨he, bel⟩ => ?_
  subst he
  exact ⟨_, rfl, _, _, _, [], _, [], hW', trodAll_mk1 (shut_bool Tryz.underlying4 _), (trodAll_cons_mk (Below.trod laidOut (by kernel_rfl) (of_decide_eq_true (by kernel_rfl)) k0 bel lt0) trodAll_mk0), rfl, bel.frame _, fun h => by cases h⟩
theorem over_RunParts : Rows.fnRunPartsRow.holds Tryz.pinned (OpenSpec.ofChange Rows.fnRunPartsSpec) :=
  OpenClaim.holds_of_wide 5 Tryz.f5 rfl rfl rfl rfl rfl rfl rfl ⟨rfl, rfl, rfl, rfl, rfl⟩ rfl rfl rfl rfl rfl (by kernel_rfl) Tryz.func5 (by kernel_rfl)
    (of_decide_eq_true (by kernel_rfl)) (by unfold Func.isWrapper; first | (rw [if_pos (by decide +kernel)]; kernel_rfl) | (rw [if_neg (by decide +kernel)]; exact ⟨rfl, rfl⟩))
    (fun os started H enc _ => lifted_RunParts os started H enc)
theorem fnRunParts_holds : Rows.FnRunPartsSaid := over_RunParts
#print axioms fnRunParts_holds
end Go.Proofs.YtaihmgbflhbebaaGreat
