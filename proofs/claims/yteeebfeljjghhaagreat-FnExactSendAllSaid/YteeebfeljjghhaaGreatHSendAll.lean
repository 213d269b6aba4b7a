/- The law FnExactSendAll answers true for all arguments, and leaves each as it was. No conditions. -/
import Derived.Test.YteeebfeljjghhaaGreatH13
import Derived.Test.YteeebfeljjghhaaGreatH14
import Derived.Test.YteeebfeljjghhaaGreatH12
import Derived.Test.YteeebfeljjghhaaGreatH3
import Derived.Test.YteeebfeljjghhaaGreatRows
import Derived.WalkKit
import Derived.ProofKit
import Derived.OpenShut
import Derived.ShutString
import Derived.ChangeOld
import Derived.Below
import Derived.SizedLaws
/- The law FnExactSendAll, walked: it answers true for all arguments. -/
set_option linter.unusedVariables false
set_option linter.unusedSimpArgs false
namespace Go.Proofs.YteeebfeljjghhaaGreat
open Go.RowKit Go.Proofs.YteeebfeljjghhaaGreatW.PrintWords
open NoC

set_option maxHeartbeats 16000000 in
set_option maxRecDepth 100000 in
theorem law_SendAll (n : Net) (l : List Packet) (q : NA) (lA : Option Addr) (lc : Nat) (w : World) (hn : NetC w n q) (hl : kP.C w lA l.length l) (hln : l.length ≤ 140737488355328) :
  Calls Tryz.prog 9 #[.agg (netCells n q), .slice lA l.length lc] w fun e w' => e = .returned (.bool true) ∧ Below w.heap.size w w' := by
 have HC := Lib.hid hn
 clear hn
 have Hl := Lib.hid hl
 clear hl
 obtain ⟨a1, a2, a3, a4, a5, a6, a7, a8, c1, c2, c3, c4, c5, c6, c7, c8⟩ := q
 obtain ⟨X, hX0⟩ : ∃ X, sendAllN n l = X := ⟨_, rfl⟩
 obtain ⟨b, hb0⟩ : ∃ b, sendAllK n l = b := ⟨_, rfl⟩
 have HX := Lib.hid hX0
 have HV := Lib.hid hb0
 clear hX0 hb0
 dsimp only [netCells]
 have B3 : Box (w.alloc (.cells #[.int .i64 n.mesh.g.w, .int .i64 n.mesh.g.h, .slice a1 n.mesh.br.length c1, .slice a2 n.pa.length c2, .slice a3 n.pb.length c3, .slice a4 n.bufs.length c4, .slice a5 n.owners.length c5, .slice a6 n.turns.length c6, .slice a7 n.srcs.length c7, .slice a8 n.arrs.length c8, .int .i64 n.time] 33)) w.heap.size #[.int .i64 n.mesh.g.w, .int .i64 n.mesh.g.h, .slice a1 n.mesh.br.length c1, .slice a2 n.pa.length c2, .slice a3 n.pb.length c3, .slice a4 n.bufs.length c4, .slice a5 n.owners.length c5, .slice a6 n.turns.length c6, .slice a7 n.srcs.length c7, .slice a8 n.arrs.length c8, .int .i64 n.time] := Box.new w _ _ _ rfl
 have H0 : Below w.heap.size w (w.alloc (.cells #[.int .i64 n.mesh.g.w, .int .i64 n.mesh.g.h, .slice a1 n.mesh.br.length c1, .slice a2 n.pa.length c2, .slice a3 n.pb.length c3, .slice a4 n.bufs.length c4, .slice a5 n.owners.length c5, .slice a6 n.turns.length c6, .slice a7 n.srcs.length c7, .slice a8 n.arrs.length c8, .int .i64 n.time] 33)) := bw_alloc _ (bw_refl w)
 obtain ⟨y3, g3⟩ := B3
 go_enter Tryz.func9, Tryz.ntmps9
 go_wp2_with fail
 refine (laws_szNet n _ 1048576 _ (HC.out.below H0) (by omega) (by omega)).mono ?_
 rintro e wa ⟨r, rfl, rlo, rhi, KB, hb1⟩
 have sA := bw_size hb1
 simp only [szs] at sA
 replace H0 := bw_then H0 hb1
 have B3 := Box.below ⟨y3, g3⟩ hb1
 clear y3 g3
 obtain ⟨y3, g3⟩ := B3
 clear hb1
 by_cases hneg : r < 0
 ·go_wp2
  go_ret
  exact ⟨rfl, H0⟩
 have R := Lib.hid (HC.out.bound (KB.out (by omega)).1)
 have HA : Hid (∀ l ∈ n.arrs, l.length ≤ 1048576) := Lib.hid (fun l hl => by have := (KB.out (by omega)).2 l hl; omega)
 have NBX : Hid (NB X) := Lib.hid (by rw [← HX.out]; exact (fun (hnb : NB n) (hA : ∀ l ∈ n.arrs, l.length ≤ 1048576) => sendAll_nb hnb) R.out.nb HA.out)
 clear HC KB
 go_wp2_with fail
 refine (laws_szPacketS l r lA lc _ hln (by omega) (by omega)).mono ?_
 rintro e w' ⟨rfl, rfl⟩
 by_cases hs9 : szN l.length r < 0
 ·go_wp2
  go_ret
  exact ⟨rfl, H0⟩
 have hlb : l.length ≤ 2097152 := by
  unfold szN at hs9
  split at hs9 <;> omega
 go_wp2_with fail
 refine (laws_toNet n _ _ (R.out.below H0)).mono ?_
 rintro e wb ⟨⟨⟨e1, e2, e3, e4, e5, e6, e7, e8, ec1, ec2, ec3, ec4, ec5, ec6, ec7, ec8⟩, rfl, HT⟩, hb1⟩
 have HT1 := Lib.hid (HT.reads R.out)
 clear HT
 have swb := bw_size hb1
 dsimp only [netCells]
 replace H0 := bw_then H0 hb1
 have B3 := Box.below ⟨y3, g3⟩ hb1
 clear y3 g3
 obtain ⟨y3, g3⟩ := B3
 clear hb1
 go_wp2_with fail
 refine (laws_toPacketS l lA lc _ (Kd.C_below Hl.out H0) hlb).mono ?_
 rintro e wl1 ⟨hg, hb1⟩
 obtain ⟨vl1, rfl, HO⟩ := hg
 obtain ⟨Al1, dl1, rfl, _, HRl1⟩ := Kd.R_reads HO
 have Tl1 := Lib.hid HRl1
 clear HRl1 HO
 have swl1 := bw_size hb1
 replace HT1 := Lib.hid (HT1.out.below hb1)
 replace H0 := bw_then H0 hb1
 have B3 := Box.below ⟨y3, g3⟩ hb1
 clear y3 g3
 obtain ⟨y3, g3⟩ := B3
 clear hb1
 go_wp2_with fail
 refine (spec_SendAll n l _ Al1 dl1 _ HT1.out (Tl1.out) hlb).mono ?_
 rintro e wc ⟨hg, hb1⟩
 rw [HX.out, HV.out] at hg
 obtain ⟨q9, s4, s7, s8, rfl, HO⟩ := hg
 obtain ⟨p1, p2, p3, p4, p5, p6, p7, p8, d1, d2, d3, d4, d5, d6, d7, d8⟩ := q9
 dsimp only [netCells]
 have swc := bw_size hb1
 have HW := Lib.hid HO.ny
 have HWB : Below wc.heap.size wc wc := bw_refl wc
 clear HO HT1
 clear Tl1
 replace H0 := bw_then H0 hb1
 have B3 := Box.below ⟨y3, g3⟩ hb1
 clear y3 g3
 obtain ⟨y3, g3⟩ := B3
 clear hb1
 have hbX : Below wc.heap.size wc (wc.alloc (.cells #[.int .i64 X.mesh.g.w, .int .i64 X.mesh.g.h, .slice p1 X.mesh.br.length d1, .slice p2 X.pa.length d2, .slice p3 X.pb.length d3, .slice p4 X.bufs.length d4, .slice p5 X.owners.length d5, .slice p6 X.turns.length d6, .slice p7 X.srcs.length d7, .slice p8 X.arrs.length d8, .int .i64 X.time] 43)) := bw_alloc _ (bw_refl wc)
 have B4 : Box (wc.alloc (.cells #[.int .i64 X.mesh.g.w, .int .i64 X.mesh.g.h, .slice p1 X.mesh.br.length d1, .slice p2 X.pa.length d2, .slice p3 X.pb.length d3, .slice p4 X.bufs.length d4, .slice p5 X.owners.length d5, .slice p6 X.turns.length d6, .slice p7 X.srcs.length d7, .slice p8 X.arrs.length d8, .int .i64 X.time] 43)) wc.heap.size #[.int .i64 X.mesh.g.w, .int .i64 X.mesh.g.h, .slice p1 X.mesh.br.length d1, .slice p2 X.pa.length d2, .slice p3 X.pb.length d3, .slice p4 X.bufs.length d4, .slice p5 X.owners.length d5, .slice p6 X.turns.length d6, .slice p7 X.srcs.length d7, .slice p8 X.arrs.length d8, .int .i64 X.time] := Box.new wc _ _ _ rfl
 have sX : (wc.alloc (.cells #[.int .i64 X.mesh.g.w, .int .i64 X.mesh.g.h, .slice p1 X.mesh.br.length d1, .slice p2 X.pa.length d2, .slice p3 X.pb.length d3, .slice p4 X.bufs.length d4, .slice p5 X.owners.length d5, .slice p6 X.turns.length d6, .slice p7 X.srcs.length d7, .slice p8 X.arrs.length d8, .int .i64 X.time] 43)).heap.size = wc.heap.size + 1 := World.size_alloc _ _
 replace H0 := bw_then H0 hbX
 replace HWB := bw_then HWB hbX
 have B3 := Box.below ⟨y3, g3⟩ hbX
 clear y3 g3
 obtain ⟨y3, g3⟩ := B3
 go_wp2_with fail
 generalize wc.alloc (.cells #[.int .i64 X.mesh.g.w, .int .i64 X.mesh.g.h, .slice p1 X.mesh.br.length d1, .slice p2 X.pa.length d2, .slice p3 X.pb.length d3, .slice p4 X.bufs.length d4, .slice p5 X.owners.length d5, .slice p6 X.turns.length d6, .slice p7 X.srcs.length d7, .slice p8 X.arrs.length d8, .int .i64 X.time] 43) = wc2 at *
 clear hbX
 have sX4 : wc.heap.size + 1 ≤ wc2.heap.size := Nat.le_of_eq sX.symm
 clear sX
 obtain ⟨y4, g4⟩ := B4
 refine (laws_toNet2 n _ _ (R.out.below H0)).mono ?_
 rintro e wd ⟨⟨q9, aN, bN, v4, v7, v8, rfl, DL, HN⟩, hb1⟩
 obtain ⟨x1, x2, x3, x4, x5, x6, x7, x8, z1, z2, z3, z4, z5, z6, z7, z8⟩ := q9
 have swd := bw_size hb1
 dsimp only [netCells]
 replace H0 := bw_then H0 hb1
 replace HWB := bw_then HWB hb1
 have B3 := Box.below ⟨y3, g3⟩ hb1
 clear y3 g3
 obtain ⟨y3, g3⟩ := B3
 have B4 := Box.below ⟨y4, g4⟩ hb1
 clear y4 g4
 obtain ⟨y4, g4⟩ := B4
 clear hb1
 have hbX : Below wd.heap.size wd (wd.alloc (.cells #[.int .i64 n.mesh.g.w, .int .i64 n.mesh.g.h, .slice x1 n.mesh.br.length z1, .slice x2 n.pa.length z2, .slice x3 n.pb.length z3, .slice x4 n.bufs.length z4, .slice x5 n.owners.length z5, .slice x6 n.turns.length z6, .slice x7 n.srcs.length z7, .slice x8 n.arrs.length z8, .int .i64 n.time] 43)) := bw_alloc _ (bw_refl wd)
 have B5 : Box (wd.alloc (.cells #[.int .i64 n.mesh.g.w, .int .i64 n.mesh.g.h, .slice x1 n.mesh.br.length z1, .slice x2 n.pa.length z2, .slice x3 n.pb.length z3, .slice x4 n.bufs.length z4, .slice x5 n.owners.length z5, .slice x6 n.turns.length z6, .slice x7 n.srcs.length z7, .slice x8 n.arrs.length z8, .int .i64 n.time] 43)) wd.heap.size #[.int .i64 n.mesh.g.w, .int .i64 n.mesh.g.h, .slice x1 n.mesh.br.length z1, .slice x2 n.pa.length z2, .slice x3 n.pb.length z3, .slice x4 n.bufs.length z4, .slice x5 n.owners.length z5, .slice x6 n.turns.length z6, .slice x7 n.srcs.length z7, .slice x8 n.arrs.length z8, .int .i64 n.time] := Box.new wd _ _ _ rfl
 have sX : (wd.alloc (.cells #[.int .i64 n.mesh.g.w, .int .i64 n.mesh.g.h, .slice x1 n.mesh.br.length z1, .slice x2 n.pa.length z2, .slice x3 n.pb.length z3, .slice x4 n.bufs.length z4, .slice x5 n.owners.length z5, .slice x6 n.turns.length z6, .slice x7 n.srcs.length z7, .slice x8 n.arrs.length z8, .int .i64 n.time] 43)).heap.size = wd.heap.size + 1 := World.size_alloc _ _
 replace H0 := bw_then H0 hbX
 replace HWB := bw_then HWB hbX
 have B3 := Box.below ⟨y3, g3⟩ hbX
 clear y3 g3
 obtain ⟨y3, g3⟩ := B3
 have B4 := Box.below ⟨y4, g4⟩ hbX
 clear y4 g4
 obtain ⟨y4, g4⟩ := B4
 replace HN := HN.below hbX
 go_wp2_with fail
 generalize wd.alloc (.cells #[.int .i64 n.mesh.g.w, .int .i64 n.mesh.g.h, .slice x1 n.mesh.br.length z1, .slice x2 n.pa.length z2, .slice x3 n.pb.length z3, .slice x4 n.bufs.length z4, .slice x5 n.owners.length z5, .slice x6 n.turns.length z6, .slice x7 n.srcs.length z7, .slice x8 n.arrs.length z8, .int .i64 n.time] 43) = we at *
 clear hbX
 have sX5 : wd.heap.size + 1 ≤ we.heap.size := Nat.le_of_eq sX.symm
 clear sX
 obtain ⟨y5, g5⟩ := B5
 go_wp2_with fail
 refine (laws_toPacketS l lA lc _ (Kd.C_below Hl.out H0) hlb).mono ?_
 rintro e wl2 ⟨hg, hb1⟩
 obtain ⟨vl2, rfl, HO⟩ := hg
 obtain ⟨Al2, dl2, rfl⟩ := Kd.R_slice HO
 have Ul2 := RU.of HO (Nat.le_refl _) (Nat.le_refl _)
 clear HO
 have swl2 := bw_size hb1
 replace H0 := bw_then H0 hb1
 replace HWB := bw_then HWB hb1
 have B3 := Box.below ⟨y3, g3⟩ hb1
 clear y3 g3
 obtain ⟨y3, g3⟩ := B3
 have B4 := Box.below ⟨y4, g4⟩ hb1
 clear y4 g4
 obtain ⟨y4, g4⟩ := B4
 have B5 := Box.below ⟨y5, g5⟩ hb1
 clear y5 g5
 obtain ⟨y5, g5⟩ := B5
 replace HN := HN.below hb1
 clear hb1
 go_wp2_with fail
 refine (impl_SendAll n l _ Al2 dl2 _ (HN.reads R.out) (Ul2.reads.2.2) hlb).mono ?_
 rintro e wf ⟨hg, hb1⟩
 rw [HX.out, HV.out] at hg
 obtain ⟨q9, u4, u7, u8, rfl, HO⟩ := hg
 obtain ⟨ga1, ga2, ga3, ga4, ga5, ga6, ga7, ga8, gc1, gc2, gc3, gc4, gc5, gc6, gc7, gc8⟩ := q9
 dsimp only [netCells]
 have swf := bw_size hb1
 have HG := Lib.hid HO.ny
 have HTP := Lib.hid HO.ny.top
 clear HO
 replace H0 := bw_then H0 hb1
 replace Ul2 := Ul2.below hb1
 replace HWB := bw_then HWB hb1
 have B3 := Box.below ⟨y3, g3⟩ hb1
 clear y3 g3
 obtain ⟨y3, g3⟩ := B3
 have B4 := Box.below ⟨y4, g4⟩ hb1
 clear y4 g4
 obtain ⟨y4, g4⟩ := B4
 have B5 := Box.below ⟨y5, g5⟩ hb1
 clear y5 g5
 obtain ⟨y5, g5⟩ := B5
 replace HN := HN.below hb1
 clear hb1
 have hbX : Below wf.heap.size wf (wf.alloc (.cells #[.int .i64 X.mesh.g.w, .int .i64 X.mesh.g.h, .slice ga1 X.mesh.br.length gc1, .slice ga2 X.pa.length gc2, .slice ga3 X.pb.length gc3, .slice ga4 X.bufs.length gc4, .slice ga5 X.owners.length gc5, .slice ga6 X.turns.length gc6, .slice ga7 X.srcs.length gc7, .slice ga8 X.arrs.length gc8, .int .i64 X.time] 43)) := bw_alloc _ (bw_refl wf)
 have B6 : Box (wf.alloc (.cells #[.int .i64 X.mesh.g.w, .int .i64 X.mesh.g.h, .slice ga1 X.mesh.br.length gc1, .slice ga2 X.pa.length gc2, .slice ga3 X.pb.length gc3, .slice ga4 X.bufs.length gc4, .slice ga5 X.owners.length gc5, .slice ga6 X.turns.length gc6, .slice ga7 X.srcs.length gc7, .slice ga8 X.arrs.length gc8, .int .i64 X.time] 43)) wf.heap.size #[.int .i64 X.mesh.g.w, .int .i64 X.mesh.g.h, .slice ga1 X.mesh.br.length gc1, .slice ga2 X.pa.length gc2, .slice ga3 X.pb.length gc3, .slice ga4 X.bufs.length gc4, .slice ga5 X.owners.length gc5, .slice ga6 X.turns.length gc6, .slice ga7 X.srcs.length gc7, .slice ga8 X.arrs.length gc8, .int .i64 X.time] := Box.new wf _ _ _ rfl
 have sX : (wf.alloc (.cells #[.int .i64 X.mesh.g.w, .int .i64 X.mesh.g.h, .slice ga1 X.mesh.br.length gc1, .slice ga2 X.pa.length gc2, .slice ga3 X.pb.length gc3, .slice ga4 X.bufs.length gc4, .slice ga5 X.owners.length gc5, .slice ga6 X.turns.length gc6, .slice ga7 X.srcs.length gc7, .slice ga8 X.arrs.length gc8, .int .i64 X.time] 43)).heap.size = wf.heap.size + 1 := World.size_alloc _ _
 replace H0 := bw_then H0 hbX
 replace Ul2 := Ul2.below hbX
 replace HWB := bw_then HWB hbX
 have B3 := Box.below ⟨y3, g3⟩ hbX
 clear y3 g3
 obtain ⟨y3, g3⟩ := B3
 have B4 := Box.below ⟨y4, g4⟩ hbX
 clear y4 g4
 obtain ⟨y4, g4⟩ := B4
 have B5 := Box.below ⟨y5, g5⟩ hbX
 clear y5 g5
 obtain ⟨y5, g5⟩ := B5
 replace HN := HN.below hbX
 replace HG := Lib.hid (HG.out.below hbX)
 go_wp2_with fail
 generalize wf.alloc (.cells #[.int .i64 X.mesh.g.w, .int .i64 X.mesh.g.h, .slice ga1 X.mesh.br.length gc1, .slice ga2 X.pa.length gc2, .slice ga3 X.pb.length gc3, .slice ga4 X.bufs.length gc4, .slice ga5 X.owners.length gc5, .slice ga6 X.turns.length gc6, .slice ga7 X.srcs.length gc7, .slice ga8 X.arrs.length gc8, .int .i64 X.time] 43) = wg at *
 clear hbX
 have sX6 : wf.heap.size + 1 ≤ wg.heap.size := Nat.le_of_eq sX.symm
 clear sX
 obtain ⟨y6, g6⟩ := B6
 have eself : (b != b) = false := by simp
 refine (laws_eqNet X _ _ _ (HG.out.reads NBX.out) ((HW.out.below HWB).reads NBX.out)).mono ?_
 rintro e wg2 ⟨rfl, hb1⟩
 have swg2 := bw_size hb1
 replace H0 := bw_then H0 hb1
 replace Ul2 := Ul2.below hb1
 replace HWB := bw_then HWB hb1
 have B3 := Box.below ⟨y3, g3⟩ hb1
 clear y3 g3
 obtain ⟨y3, g3⟩ := B3
 have B4 := Box.below ⟨y4, g4⟩ hb1
 clear y4 g4
 obtain ⟨y4, g4⟩ := B4
 have B5 := Box.below ⟨y5, g5⟩ hb1
 clear y5 g5
 obtain ⟨y5, g5⟩ := B5
 have B6 := Box.below ⟨y6, g6⟩ hb1
 clear y6 g6
 obtain ⟨y6, g6⟩ := B6
 replace HN := HN.below hb1
 replace HG := Lib.hid (HG.out.below hb1)
 clear hb1
 go_wp2_with fail
 have RR := Lib.hid (R.out.below H0)
 have XX := Lib.hid (HN.reads R.out)
 go_region_held3 (fun w' => Below (wg2).heap.size (wg2) w' ∧ ∀ bq oq, bq < (wg2).heap.size → w'.cell? ⟨bq, oq, none⟩ = (wg2).cell? ⟨bq, oq, none⟩) (first | exact far_of bel) ( first | (go_at_call 12; refine (laws_toNet n _ _ (RR.out.below bel)).mono ?_; rintro e w1 ⟨⟨qT, rfl, HT⟩, hb1⟩; obtain ⟨f1, f2, f3, f4, f5, f6, f7, f8, h1, h2, h3, h4, h5, h6, h7, h8⟩ := qT; have HT3 := Lib.hid (HT.reads RR.out); clear HT; dsimp only [netCells]; obtain ⟨hc1, hf1, hz1⟩ := bcell hb1; (try simp only [szs] at hz1); have hb2 := (by first | exact bw_then hb2 hb1 | exact bw_then (bw_drewN _ hb2) hb1 | exact bw_then (bw_alloc _ hb2) hb1 | exact bw_then (bw_drew hb2) hb1 | exact bw_then HB hb1 | exact bw_then (bw_drewN _ HB) hb1 | exact bw_then (bw_alloc _ HB) hb1 | exact bw_then (bw_drew HB) hb1 | exact hb1); obtain ⟨hc2, hf2, hz2⟩ := bcell hb2; (try simp only [szs] at hz2); try (first | obtain ⟨hy1, hy2, hy3, hy4⟩ := lts4 hz2 | obtain ⟨hy1, hy2, hy3⟩ := lts3 hz2 | obtain ⟨hy1, hy2⟩ := lts2 hz2 | have hy1 := lts1 hz2); have hb9 := hb1) | (go_at_call 14; refine (laws_eqNet n _ _ _ (XX.out.below bel) (HT3.out.below bel)).mono ?_; rintro e w1 ⟨rfl, hb1⟩; obtain ⟨hc1, hf1, hz1⟩ := bcell hb1; (try simp only [szs] at hz1); have hb2 := (by first | exact bw_then hb2 hb1 | exact bw_then (bw_drewN _ hb2) hb1 | exact bw_then (bw_alloc _ hb2) hb1 | exact bw_then (bw_drew hb2) hb1 | exact bw_then HB hb1 | exact bw_then (bw_drewN _ HB) hb1 | exact bw_then (bw_alloc _ HB) hb1 | exact bw_then (bw_drew HB) hb1 | exact hb1); obtain ⟨hc2, hf2, hz2⟩ := bcell hb2; (try simp only [szs] at hz2); try (first | obtain ⟨hy1, hy2, hy3, hy4⟩ := lts4 hz2 | obtain ⟨hy1, hy2, hy3⟩ := lts3 hz2 | obtain ⟨hy1, hy2⟩ := lts2 hz2 | have hy1 := lts1 hz2); have hb9 := hb1))
 have hb3 : Below wg2.heap.size wg2 w1 := by first | exact bw_then (bw_drew (bw_refl _)) hb2 | exact hb2
 repeat (first | clear hc1 | clear hf1 | clear hz1 | clear hb1 | clear hb9 | clear hc2 | clear hf2 | clear hz2 | clear hb2 | clear hy1 | clear hy2 | clear hy3 | clear hy4)
 clear RR XX HT3
 obtain ⟨wh, rfl⟩ : ∃ x, x = w1 := ⟨_, rfl⟩
 have swh := bw_size hb3
 replace H0 := bw_then H0 hb3
 replace Ul2 := Ul2.below hb3
 replace HWB := bw_then HWB hb3
 have B3 := Box.below ⟨y3, g3⟩ hb3
 clear y3 g3
 obtain ⟨y3, g3⟩ := B3
 have B4 := Box.below ⟨y4, g4⟩ hb3
 clear y4 g4
 obtain ⟨y4, g4⟩ := B4
 have B5 := Box.below ⟨y5, g5⟩ hb3
 clear y5 g5
 obtain ⟨y5, g5⟩ := B5
 have B6 := Box.below ⟨y6, g6⟩ hb3
 clear y6 g6
 obtain ⟨y6, g6⟩ := B6
 replace HN := HN.below hb3
 replace HG := Lib.hid (HG.out.below hb3)
 clear hb3
 go_wp2_with fail
 refine (laws_toPacketS l lA lc _ (Kd.C_below Hl.out H0) hlb).mono ?_
 rintro e wl3 ⟨hg, hb1⟩
 obtain ⟨vl3, rfl, HO⟩ := hg
 obtain ⟨Al3, dl3, rfl, _, HRl3⟩ := Kd.R_reads HO
 have Tl3 := Lib.hid HRl3
 clear HRl3 HO
 have swl3 := bw_size hb1
 replace H0 := bw_then H0 hb1
 replace Ul2 := Ul2.below hb1
 replace HWB := bw_then HWB hb1
 have B3 := Box.below ⟨y3, g3⟩ hb1
 clear y3 g3
 obtain ⟨y3, g3⟩ := B3
 have B4 := Box.below ⟨y4, g4⟩ hb1
 clear y4 g4
 obtain ⟨y4, g4⟩ := B4
 have B5 := Box.below ⟨y5, g5⟩ hb1
 clear y5 g5
 obtain ⟨y5, g5⟩ := B5
 have B6 := Box.below ⟨y6, g6⟩ hb1
 clear y6 g6
 obtain ⟨y6, g6⟩ := B6
 replace HN := HN.below hb1
 replace HG := Lib.hid (HG.out.below hb1)
 clear hb1
 go_wp2_with fail
 refine (laws_eqPacketS l Al2 Al3 dl2 dl3 _ Ul2.reads.2.2 Tl3.out hlb).mono ?_
 rintro e wzl ⟨rfl, hb1⟩
 have swzl := bw_size hb1
 replace H0 := bw_then H0 hb1
 replace Ul2 := Ul2.below hb1
 replace Tl3 := Lib.hid (Kd.C_below Tl3.out hb1)
 replace HWB := bw_then HWB hb1
 have B3 := Box.below ⟨y3, g3⟩ hb1
 clear y3 g3
 obtain ⟨y3, g3⟩ := B3
 have B4 := Box.below ⟨y4, g4⟩ hb1
 clear y4 g4
 obtain ⟨y4, g4⟩ := B4
 have B5 := Box.below ⟨y5, g5⟩ hb1
 clear y5 g5
 obtain ⟨y5, g5⟩ := B5
 have B6 := Box.below ⟨y6, g6⟩ hb1
 clear y6 g6
 obtain ⟨y6, g6⟩ := B6
 replace HN := HN.below hb1
 replace HG := Lib.hid (HG.out.below hb1)
 clear hb1
 clear Tl3
 go_wp2_with fail
 refine (laws_markNet2 n _ 1 wc2.heap.size wd.heap.size aN bN v4 v7 v8 _ _ _ HN R.out DL (by omega) (by omega) (by omega)).mono ?_
 rintro e wi ⟨⟨r2, rfl, hr2, hr3b⟩, G⟩
 clear HN
 have swi := G.size
 replace Ul2 := Ul2.chg G (by omega)
 replace H0 := Chg.below H0 G (by omega)
 replace HWB := Chg.below HWB G (by omega)
 have B3 := Box.chg ⟨y3, g3⟩ G (by omega)
 clear y3 g3
 obtain ⟨y3, g3⟩ := B3
 have B4 := Box.chg ⟨y4, g4⟩ G (by omega)
 clear y4 g4
 obtain ⟨y4, g4⟩ := B4
 have B5 := Box.chg ⟨y5, g5⟩ G (by omega)
 clear y5 g5
 obtain ⟨y5, g5⟩ := B5
 have B6 := Box.chg ⟨y6, g6⟩ G (by omega)
 clear y6 g6
 obtain ⟨y6, g6⟩ := B6
 replace HG := Lib.hid (HG.out.chg G (by omega))
 clear G
 have hr3 : ¬ r2 < 0 := by omega
 go_wp2_with fail
 refine (laws_markPacketS l r2 Al2 dl2 _ _ Ul2.row hlb (by omega) (by omega)).mono ?_
 rintro e wq0 ⟨rfl, _, hg1⟩
 have G := Chg.of_grown hg1 Ul2.within
 have swq0 := G.size
 have hk5 : ¬ r2 + 5 * (l.length : Int) < 0 := by omega
 replace H0 := Chg.below H0 G (by omega)
 replace HWB := Chg.below HWB G (by omega)
 have B3 := Box.chg ⟨y3, g3⟩ G (by omega)
 clear y3 g3
 obtain ⟨y3, g3⟩ := B3
 have B4 := Box.chg ⟨y4, g4⟩ G (by omega)
 clear y4 g4
 obtain ⟨y4, g4⟩ := B4
 have B5 := Box.chg ⟨y5, g5⟩ G (by omega)
 clear y5 g5
 obtain ⟨y5, g5⟩ := B5
 have B6 := Box.chg ⟨y6, g6⟩ G (by omega)
 clear y6 g6
 obtain ⟨y6, g6⟩ := B6
 replace HG := Lib.hid (HG.out.chg G (by omega))
 clear G hg1 Ul2
 go_wp2_with fail
 refine (laws_eqNet X _ _ _ (HG.out.reads NBX.out) ((HW.out.below HWB).reads NBX.out)).mono ?_
 rintro e wj ⟨rfl, hb1⟩
 have swj := bw_size hb1
 replace H0 := bw_then H0 hb1
 replace HWB := bw_then HWB hb1
 have B3 := Box.below ⟨y3, g3⟩ hb1
 clear y3 g3
 obtain ⟨y3, g3⟩ := B3
 have B4 := Box.below ⟨y4, g4⟩ hb1
 clear y4 g4
 obtain ⟨y4, g4⟩ := B4
 have B5 := Box.below ⟨y5, g5⟩ hb1
 clear y5 g5
 obtain ⟨y5, g5⟩ := B5
 have B6 := Box.below ⟨y6, g6⟩ hb1
 clear y6 g6
 obtain ⟨y6, g6⟩ := B6
 replace HG := Lib.hid (HG.out.below hb1)
 clear hb1
 go_wp2_with fail
 refine (laws_markNetY X ⟨ga1, ga2, ga3, ga4, ga5, ga6, ga7, ga8, gc1, gc2, gc3, gc4, gc5, gc6, gc7, gc8⟩ u4 u7 u8 _ wf.heap.size 1 _ HG.out NBX.out HTP.out (by omega) (by omega) (by omega)).mono ?_
 rintro e wk ⟨rfl, hm1, G⟩
 have HM := Lib.hid hm1
 clear HG hm1
 have swk := G.size
 replace H0 := Chg.below H0 G (by omega)
 replace HWB := Chg.below HWB G (by omega)
 have B3 := Box.chg ⟨y3, g3⟩ G (by omega)
 clear y3 g3
 obtain ⟨y3, g3⟩ := B3
 have B4 := Box.chg ⟨y4, g4⟩ G (by omega)
 clear y4 g4
 obtain ⟨y4, g4⟩ := B4
 have B5 := Box.chg ⟨y5, g5⟩ G (by omega)
 clear y5 g5
 obtain ⟨y5, g5⟩ := B5
 have B6 := Box.chg ⟨y6, g6⟩ G (by omega)
 clear y6 g6
 obtain ⟨y6, g6⟩ := B6
 clear G
 have NBM := Lib.hid (marked_nb (k := 1) NBX.out)
 have k8 : 0 ≤ mk8 1 X := (mk_bounds NBX.out (by omega) (by omega)).2.2.2.2.2.2.2
 have k8n : ¬ mk8 1 X < 0 := by omega
 have k8s := bne_self (mk8 1 X)
 go_wp2_with fail
 refine (laws_heldNetY X ⟨ga1, ga2, ga3, ga4, ga5, ga6, ga7, ga8, gc1, gc2, gc3, gc4, gc5, gc6, gc7, gc8⟩ 1 _ (HM.out.reads NBM.out) NBX.out (by omega) (by omega)).mono ?_
 rintro e wl ⟨rfl, hb1⟩
 have swl := bw_size hb1
 replace H0 := bw_then H0 hb1
 replace HWB := bw_then HWB hb1
 have B3 := Box.below ⟨y3, g3⟩ hb1
 clear y3 g3
 obtain ⟨y3, g3⟩ := B3
 have B4 := Box.below ⟨y4, g4⟩ hb1
 clear y4 g4
 obtain ⟨y4, g4⟩ := B4
 have B5 := Box.below ⟨y5, g5⟩ hb1
 clear y5 g5
 obtain ⟨y5, g5⟩ := B5
 have B6 := Box.below ⟨y6, g6⟩ hb1
 clear y6 g6
 obtain ⟨y6, g6⟩ := B6
 replace HM := Lib.hid (HM.out.below hb1)
 clear hb1
 go_wp2_with fail
 refine (laws_toNet n _ _ (R.out.below H0)).mono ?_
 rintro e wm ⟨⟨⟨f1, f2, f3, f4, f5, f6, f7, f8, fc1, fc2, fc3, fc4, fc5, fc6, fc7, fc8⟩, rfl, HT⟩, hb1⟩
 have HT3 := Lib.hid (HT.reads R.out)
 clear HT
 have swm := bw_size hb1
 dsimp only [netCells]
 replace H0 := bw_then H0 hb1
 replace HWB := bw_then HWB hb1
 have B3 := Box.below ⟨y3, g3⟩ hb1
 clear y3 g3
 obtain ⟨y3, g3⟩ := B3
 have B4 := Box.below ⟨y4, g4⟩ hb1
 clear y4 g4
 obtain ⟨y4, g4⟩ := B4
 have B5 := Box.below ⟨y5, g5⟩ hb1
 clear y5 g5
 obtain ⟨y5, g5⟩ := B5
 have B6 := Box.below ⟨y6, g6⟩ hb1
 clear y6 g6
 obtain ⟨y6, g6⟩ := B6
 replace HM := Lib.hid (HM.out.below hb1)
 clear hb1
 go_wp2_with fail
 refine (laws_toPacketS l lA lc _ (Kd.C_below Hl.out H0) hlb).mono ?_
 rintro e wl4 ⟨hg, hb1⟩
 obtain ⟨vl4, rfl, HO⟩ := hg
 obtain ⟨Al4, dl4, rfl, _, HRl4⟩ := Kd.R_reads HO
 have Tl4 := Lib.hid HRl4
 clear HRl4 HO
 have swl4 := bw_size hb1
 replace HT3 := Lib.hid (HT3.out.below hb1)
 replace H0 := bw_then H0 hb1
 replace HWB := bw_then HWB hb1
 have B3 := Box.below ⟨y3, g3⟩ hb1
 clear y3 g3
 obtain ⟨y3, g3⟩ := B3
 have B4 := Box.below ⟨y4, g4⟩ hb1
 clear y4 g4
 obtain ⟨y4, g4⟩ := B4
 have B5 := Box.below ⟨y5, g5⟩ hb1
 clear y5 g5
 obtain ⟨y5, g5⟩ := B5
 have B6 := Box.below ⟨y6, g6⟩ hb1
 clear y6 g6
 obtain ⟨y6, g6⟩ := B6
 replace HM := Lib.hid (HM.out.below hb1)
 clear hb1
 go_wp2_with fail
 refine (impl_SendAll n l _ Al4 dl4 _ HT3.out (Tl4.out) hlb).mono ?_
 rintro e wn ⟨hg, hb1⟩
 rw [HX.out, HV.out] at hg
 obtain ⟨q9, t4, t7, t8, rfl, HO⟩ := hg
 obtain ⟨i1, i2, i3, i4, i5, i6, i7, i8, j1, j2, j3, j4, j5, j6, j7, j8⟩ := q9
 dsimp only [netCells]
 have swn := bw_size hb1
 have HH := Lib.hid HO.ny
 clear HO HT3
 replace H0 := bw_then H0 hb1
 replace Tl4 := Lib.hid (Kd.C_below Tl4.out hb1)
 replace HWB := bw_then HWB hb1
 have B3 := Box.below ⟨y3, g3⟩ hb1
 clear y3 g3
 obtain ⟨y3, g3⟩ := B3
 have B4 := Box.below ⟨y4, g4⟩ hb1
 clear y4 g4
 obtain ⟨y4, g4⟩ := B4
 have B5 := Box.below ⟨y5, g5⟩ hb1
 clear y5 g5
 obtain ⟨y5, g5⟩ := B5
 have B6 := Box.below ⟨y6, g6⟩ hb1
 clear y6 g6
 obtain ⟨y6, g6⟩ := B6
 replace HM := Lib.hid (HM.out.below hb1)
 clear hb1
 have hbX : Below wn.heap.size wn (wn.alloc (.cells #[.int .i64 X.mesh.g.w, .int .i64 X.mesh.g.h, .slice i1 X.mesh.br.length j1, .slice i2 X.pa.length j2, .slice i3 X.pb.length j3, .slice i4 X.bufs.length j4, .slice i5 X.owners.length j5, .slice i6 X.turns.length j6, .slice i7 X.srcs.length j7, .slice i8 X.arrs.length j8, .int .i64 X.time] 43)) := bw_alloc _ (bw_refl wn)
 have B7 : Box (wn.alloc (.cells #[.int .i64 X.mesh.g.w, .int .i64 X.mesh.g.h, .slice i1 X.mesh.br.length j1, .slice i2 X.pa.length j2, .slice i3 X.pb.length j3, .slice i4 X.bufs.length j4, .slice i5 X.owners.length j5, .slice i6 X.turns.length j6, .slice i7 X.srcs.length j7, .slice i8 X.arrs.length j8, .int .i64 X.time] 43)) wn.heap.size #[.int .i64 X.mesh.g.w, .int .i64 X.mesh.g.h, .slice i1 X.mesh.br.length j1, .slice i2 X.pa.length j2, .slice i3 X.pb.length j3, .slice i4 X.bufs.length j4, .slice i5 X.owners.length j5, .slice i6 X.turns.length j6, .slice i7 X.srcs.length j7, .slice i8 X.arrs.length j8, .int .i64 X.time] := Box.new wn _ _ _ rfl
 have sX : (wn.alloc (.cells #[.int .i64 X.mesh.g.w, .int .i64 X.mesh.g.h, .slice i1 X.mesh.br.length j1, .slice i2 X.pa.length j2, .slice i3 X.pb.length j3, .slice i4 X.bufs.length j4, .slice i5 X.owners.length j5, .slice i6 X.turns.length j6, .slice i7 X.srcs.length j7, .slice i8 X.arrs.length j8, .int .i64 X.time] 43)).heap.size = wn.heap.size + 1 := World.size_alloc _ _
 replace H0 := bw_then H0 hbX
 replace Tl4 := Lib.hid (Kd.C_below Tl4.out hbX)
 replace HWB := bw_then HWB hbX
 have B3 := Box.below ⟨y3, g3⟩ hbX
 clear y3 g3
 obtain ⟨y3, g3⟩ := B3
 have B4 := Box.below ⟨y4, g4⟩ hbX
 clear y4 g4
 obtain ⟨y4, g4⟩ := B4
 have B5 := Box.below ⟨y5, g5⟩ hbX
 clear y5 g5
 obtain ⟨y5, g5⟩ := B5
 have B6 := Box.below ⟨y6, g6⟩ hbX
 clear y6 g6
 obtain ⟨y6, g6⟩ := B6
 replace HM := Lib.hid (HM.out.below hbX)
 have hbO := hbX
 go_wp2_with fail
 generalize wn.alloc (.cells #[.int .i64 X.mesh.g.w, .int .i64 X.mesh.g.h, .slice i1 X.mesh.br.length j1, .slice i2 X.pa.length j2, .slice i3 X.pb.length j3, .slice i4 X.bufs.length j4, .slice i5 X.owners.length j5, .slice i6 X.turns.length j6, .slice i7 X.srcs.length j7, .slice i8 X.arrs.length j8, .int .i64 X.time] 43) = wo at *
 clear hbX
 have sX7 : wn.heap.size + 1 ≤ wo.heap.size := Nat.le_of_eq sX.symm
 clear sX
 obtain ⟨y7, g7⟩ := B7
 refine (laws_eqNet X _ _ _ ((HH.out.below hbO).reads NBX.out) ((HW.out.below HWB).reads NBX.out)).mono ?_
 rintro e wp ⟨rfl, hb1⟩
 have swp := bw_size hb1
 replace H0 := bw_then H0 hb1
 replace Tl4 := Lib.hid (Kd.C_below Tl4.out hb1)
 replace HWB := bw_then HWB hb1
 have B3 := Box.below ⟨y3, g3⟩ hb1
 clear y3 g3
 obtain ⟨y3, g3⟩ := B3
 have B4 := Box.below ⟨y4, g4⟩ hb1
 clear y4 g4
 obtain ⟨y4, g4⟩ := B4
 have B5 := Box.below ⟨y5, g5⟩ hb1
 clear y5 g5
 obtain ⟨y5, g5⟩ := B5
 have B6 := Box.below ⟨y6, g6⟩ hb1
 clear y6 g6
 obtain ⟨y6, g6⟩ := B6
 have B7 := Box.below ⟨y7, g7⟩ hb1
 clear y7 g7
 obtain ⟨y7, g7⟩ := B7
 replace HM := Lib.hid (HM.out.below hb1)
 clear hb1
 go_wp2_with fail
 refine (laws_heldNetY X ⟨ga1, ga2, ga3, ga4, ga5, ga6, ga7, ga8, gc1, gc2, gc3, gc4, gc5, gc6, gc7, gc8⟩ 1 _ (HM.out.reads NBM.out) NBX.out (by omega) (by omega)).mono ?_
 rintro e wq ⟨rfl, hb1⟩
 have swq := bw_size hb1
 replace H0 := bw_then H0 hb1
 replace Tl4 := Lib.hid (Kd.C_below Tl4.out hb1)
 replace HWB := bw_then HWB hb1
 have B3 := Box.below ⟨y3, g3⟩ hb1
 clear y3 g3
 obtain ⟨y3, g3⟩ := B3
 have B4 := Box.below ⟨y4, g4⟩ hb1
 clear y4 g4
 obtain ⟨y4, g4⟩ := B4
 have B5 := Box.below ⟨y5, g5⟩ hb1
 clear y5 g5
 obtain ⟨y5, g5⟩ := B5
 have B6 := Box.below ⟨y6, g6⟩ hb1
 clear y6 g6
 obtain ⟨y6, g6⟩ := B6
 have B7 := Box.below ⟨y7, g7⟩ hb1
 clear y7 g7
 obtain ⟨y7, g7⟩ := B7
 replace HM := Lib.hid (HM.out.below hb1)
 clear hb1
 go_wp2
 go_ret
 exact ⟨rfl, H0⟩
end Go.Proofs.YteeebfeljjghhaaGreat
/- The law FnExactSendAll answers true for every input, and each argument reads afterwards as it read before. -/
namespace Go.Proofs.YteeebfeljjghhaaGreat
open Go.ChangeShapes Go.WideShapes Go.ChangeAt Go.RowKit Go.Proofs.YteeebfeljjghhaaGreatW.PrintWords
open NoC
set_option linter.unusedVariables false
theorem own : ownKnob Tryz.prog.godebug = none := by kernel_rfl
theorem laidOut : laidOutB Tryz.prog = true := by kernel_rfl
theorem arr_of {cs : Array Value} {l : List Value} (h : cs.toList = l) : cs = l.toArray := by rw [← h]
set_option maxHeartbeats 1000000 in
set_option maxRecDepth 100000 in
theorem lifted_SendAll (os : Os) (started : os.Started) (H : Type) (enc : TypeId × Value → H) :
    ReturnsInHanded {} Tryz.checked os 9 .any (Rows.fnExactSendAllSpec.pre6 enc Tryz.prog Tryz.f9 Rows.fnExactSendAllRow.domain false) (Rows.fnExactSendAllSpec.post enc Tryz.prog Tryz.f9 false true false false) := by
  refine returnsInHanded_of_change_sized (C := Tryz.checked) own started (by kernel_rfl) Tryz.func9
    (ChangeSpec.witness6 (enc := enc) (C := Tryz.checked) false ⟨#[], #[.agg #[.int .i64 0, .int .i64 0, .slice none 0 0, .slice none 0 0, .slice none 0 0, .slice none 0 0, .slice none 0 0, .slice none 0 0, .slice none 0 0, .slice none 0 0, .int .i64 0], .slice none 0 0], []⟩ 8 (by kernel_rfl) (by kernel_rfl) (by kernel_rfl) (by kernel_rfl)) ?_
  intro W base args ds gs before hval0 hW hcnd hsz0 _
  have hsz : (DataW.weightsEach Tryz.prog (Tryz.f9.params.toList ++ Rows.fnExactSendAllSpec.plain.varTypes Tryz.prog) (ds ++ gs)).all (· ≤ reachBytes) = true := hsz0
  have hval : ∀ (j : Nat) t v, Tryz.f9.params[j]? = some t → args[j]? = some v → Value.okWide Tryz.prog W .any base t v := hval0
  have hW' := hW
  obtain ⟨p, q, hA0, hV, rfl, hfz, hnd⟩ := hW
  have hA : DataW.TrodAll enc Tryz.prog W 0 (fun _ => true) true Tryz.f9.params.toList args.toList ds p := hA0
  rw [Tryz.params9] at hA hval hsz
  obtain ⟨v0, vs0, d0, ds0, p0, q0, hargs, rfl, rfl, h0, r0⟩ := trodAll_cons hA
  obtain ⟨v1, vs1, d1, ds1, p1, q1, rfl, rfl, rfl, h1, r1⟩ := trodAll_cons r0
  obtain ⟨rfl, rfl, rfl⟩ := trodAll_nil r1
  obtain rfl : args = #[v0, v1] := by cases args; simp_all
  obtain ⟨rfl, rfl⟩ := trodVars_none hV
  obtain ⟨c0, rfl, _⟩ := okWide_struct Tryz.underlying33 (hval 0 _ v0 rfl rfl)
  obtain ⟨c1, n1, o1, rfl⟩ := okWide_slice Tryz.underlying54 (hval 1 _ v1 rfl rfl)
  have k0 := h0
  have lt0 : ∀ x ∈ p0, x.block < W.heap.size := by obtain ⟨m, hm⟩ := k0; exact DataW.trod_lt m _ _ _ hm
  have k1 := h1
  have lt1 : ∀ x ∈ p1, x.block < W.heap.size := by obtain ⟨m, hm⟩ := k1; exact DataW.trod_lt m _ _ _ hm
  obtain ⟨f0, g0⟩ := h0
  obtain ⟨f1, g1⟩ := h1
  obtain ⟨n0, q0', e0, hn0⟩ := op_net g0 (light_arg hsz (j := 0) rfl rfl)
  obtain rfl := arr_of e0
  obtain ⟨A1, a1, l1, e1, hl1, hln1⟩ := op_packets g1 (light_arg hsz (j := 1) rfl rfl)
  simp [Value.cells] at e1
  obtain ⟨rfl, rfl, rfl⟩ := e1
  clear hA0 hval0 hsz0 hsz
  refine (law_SendAll n0 l1 q0' c1 o1 W hn0 hl1 hln1).mono fun e W' ⟨he, bel⟩ => ?_
  subst he
  exact ⟨_, rfl, _, _, _, [], _, [], hW', trodAll_mk1 (shut_bool Tryz.underlying4 _), (trodAll_cons_mk (Below.trod laidOut (by kernel_rfl) (of_decide_eq_true (by kernel_rfl)) k0 bel lt0) (trodAll_cons_mk (Below.trod laidOut (by kernel_rfl) (of_decide_eq_true (by kernel_rfl)) k1 bel lt1) trodAll_mk0)), rfl, bel.frame _, fun h => by cases h⟩
theorem over_SendAll : Rows.fnExactSendAllRow.holds Tryz.pinned (OpenSpec.ofChange Rows.fnExactSendAllSpec) :=
  OpenClaim.holds_of_wide 9 Tryz.f9 rfl rfl rfl rfl rfl rfl rfl ⟨rfl, rfl, rfl, rfl, rfl⟩ rfl rfl rfl rfl rfl (by kernel_rfl) Tryz.func9 (by kernel_rfl)
    (of_decide_eq_true (by kernel_rfl)) (by unfold Func.isWrapper; first | (rw [if_pos (by decide +kernel)]; kernel_rfl) | (rw [if_neg (by decide +kernel)]; exact ⟨rfl, rfl⟩))
    (fun os started H enc _ => lifted_SendAll os started H enc)
theorem fnExactSendAll_holds : Rows.FnExactSendAllSaid := over_SendAll
#print axioms fnExactSendAll_holds
end Go.Proofs.YteeebfeljjghhaaGreat
