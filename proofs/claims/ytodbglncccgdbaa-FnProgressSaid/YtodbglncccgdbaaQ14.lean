/- Lemmas for laws of this seat, for all inputs: RunS SndS SndT SndJ SndV DrN RunJ RunT RunU RunB MA WEqStruct WhI WhS WhP Arr Among ArF Mis Dl Len Cr Rot Wh Si Geo Wh2 Hop Fr. -/
import Derived.Test.YtodbglncccgdbaaQ10
import Derived.Test.YtodbglncccgdbaaQ12
import Derived.Test.YtodbglncccgdbaaQ13
import Derived.Test.YtodbglncccgdbaaQ7
import Derived.Test.YtodbglncccgdbaaQ4
import Derived.Test.YtodbglncccgdbaaQ3
import Derived.Test.YtodbglncccgdbaaQ6
import Derived.Test.YtodbglncccgdbaaQ5
import Derived.Test.YtodbglncccgdbaaQ1
import Derived.Test.YtodbglncccgdbaaQ2
import Derived.Laws.StructEq
import Derived.Test.YtodbglncccgdbaaQ9
import Derived.Test.YtodbglncccgdbaaQ8
set_option linter.unusedVariables false
set_option linter.unusedSimpArgs false
namespace Go.Proofs.Ytodbglncccgdbaa
open Go.RowKit Go.Proofs.YtodbglncccgdbaaW.PrintWords
open NoC
theorem sendAll_no1 {n : Net} {l : List Packet} (h : netOk n = false) : sendAllN n l = n ∧ sendAllK n l = -1 := by
  have e : canAll n l = false := by simp [canAll, h]
  exact ⟨by unfold sendAllN; rw [e]; rfl, by unfold sendAllK; rw [e]; rfl⟩
theorem sendAll_no2 {n : Net} {l : List Packet} (h : ¬ l.length ≤ 40) : sendAllN n l = n ∧ sendAllK n l = -1 := by
  have e : canAll n l = false := by simp [canAll, h]
  exact ⟨by unfold sendAllN; rw [e]; rfl, by unfold sendAllK; rw [e]; rfl⟩
theorem sendAll_yes {n : Net} {l : List Packet} (h : netOk n = true) (h2 : l.length ≤ 40) : sendAllN n l = sndTo n l l.length ∧ sendAllK n l = cntTo n l l.length := by
  have e : canAll n l = true := by simp [canAll, h, h2]
  exact ⟨by unfold sendAllN; rw [e]; rfl, by unfold sendAllK; rw [e]; rfl⟩
theorem cnt_yes {n : Net} {l : List Packet} {k : Nat} (h : sendOk (sndTo n l k) (rp l k) = true) : cntTo n l (k + 1) = cntTo n l k + 1 := by simp only [cntTo]; rw [if_pos h]
theorem cnt_no {n : Net} {l : List Packet} {k : Nat} (h : sendOk (sndTo n l k) (rp l k) = false) : cntTo n l (k + 1) = cntTo n l k := by simp only [cntTo]; rw [if_neg (by simp [h])]; omega
set_option maxHeartbeats 16000000 in
set_option maxRecDepth 100000 in
theorem impl_SendAll (n : Net) (l : List Packet) (q : NA) (A : Option Addr) (c : Nat) (w : World) (hr : NetR 102 w n q) (hp : kP.C w A l.length l) (hl : l.length ≤ 2097152) :
  Calls Try.prog 10 #[.agg (netCells n q), .slice A l.length c] w fun e w' => GotNV w w' (sendAllN n l) (.int .i64 (sendAllK n l)) e ∧ Below w.heap.size w w' := by
 have HR := Lib.hid hr
 have NBQ := Lib.hid hr.nb
 have HP := Lib.hid hp
 clear hp
 obtain ⟨a1, a2, a3, a4, a5, a6, a7, a8, c1, c2, c3, c4, c5, c6, c7, c8⟩ := q
 clear hr
 dsimp only [netCells]
 go_enter Try.func10, Try.ntmps10
 go_wp2_with fail

 refine (impl_copyNet n _ _ (HR.out.below bel)).mono ?_
 rintro e w1 ⟨hg1, HBC⟩
 obtain ⟨qq, v4, v7, v8, rfl, HN0⟩ := hg1
 obtain ⟨b1, b2, b3, b4, b5, b6, b7, b8, d1, d2, d3, d4, d5, d6, d7, d8⟩ := qq
 dsimp only [netCells]
 have HN1 := Lib.hid HN0
 clear HN0
 obtain ⟨w0, e0⟩ : ∃ z, z = w1.alloc (.cells #[.int .i64 n.mesh.g.w, .int .i64 n.mesh.g.h, .slice b1 n.mesh.br.length d1, .slice b2 n.pa.length d2, .slice b3 n.pb.length d3, .slice b4 n.bufs.length d4, .slice b5 n.owners.length d5, .slice b6 n.turns.length d6, .slice b7 n.srcs.length d7, .slice b8 n.arrs.length d8, .int .i64 n.time] 38) := ⟨_, rfl⟩
 have hz0 : w0.heap.size = w1.heap.size + 1 := by rw [e0]; simp only [szs]
 have hw01 : Below w1.heap.size w1 w0 := by rw [e0]; exact bw_alloc _ (bw_refl w1)
 obtain ⟨bx, ebx⟩ : ∃ z, z = w1.heap.size := ⟨_, rfl⟩
 have HBT : Hid (BT w0 bx n ⟨b1, b2, b3, b4, b5, b6, b7, b8, d1, d2, d3, d4, d5, d6, d7, d8⟩) := Lib.hid (by rw [e0, ebx]; exact blk_new w1 _)
 obtain ⟨lo, elo⟩ : ∃ z, z = w.heap.size + 2 := ⟨_, rfl⟩
 have HN : Hid (NX w0 lo n ⟨b1, b2, b3, b4, b5, b6, b7, b8, d1, d2, d3, d4, d5, d6, d7, d8⟩ v4 v7 v8) := Lib.hid ((HN1.out.lower (by simp only [szs]; omega)).below hw01)
 have HHB : Hid (Below w.heap.size w w0) := Lib.hid (bw_then (bw_then (bw_alloc _ (bw_alloc _ (bw_refl w))) HBC) hw01)
 have sw : w.heap.size + 2 ≤ w1.heap.size := by have := bw_size HBC; simp only [szs] at this; omega
 have HX0 : Hid (Box w0 w.heap.size #[.int .i64 n.mesh.g.w, .int .i64 n.mesh.g.h, .slice a1 n.mesh.br.length c1, .slice a2 n.pa.length c2, .slice a3 n.pb.length c3, .slice a4 n.bufs.length c4, .slice a5 n.owners.length c5, .slice a6 n.turns.length c6, .slice a7 n.srcs.length c7, .slice a8 n.arrs.length c8, .int .i64 n.time]) := Lib.hid (((((Box.new w w.heap.size #[.int .i64 n.mesh.g.w, .int .i64 n.mesh.g.h, .slice a1 n.mesh.br.length c1, .slice a2 n.pa.length c2, .slice a3 n.pb.length c3, .slice a4 n.bufs.length c4, .slice a5 n.owners.length c5, .slice a6 n.turns.length c6, .slice a7 n.srcs.length c7, .slice a8 n.arrs.length c8, .int .i64 n.time] 38 rfl).alloc _).below HBC)).below hw01)
 have HZB : Hid (BN w0 (w.heap.size + 1)) := Lib.hid (((BT.bn (by have hn := BT.new (w.alloc (.cells #[.int .i64 n.mesh.g.w, .int .i64 n.mesh.g.h, .slice a1 n.mesh.br.length c1, .slice a2 n.pa.length c2, .slice a3 n.pb.length c3, .slice a4 n.bufs.length c4, .slice a5 n.owners.length c5, .slice a6 n.turns.length c6, .slice a7 n.srcs.length c7, .slice a8 n.arrs.length c8, .int .i64 n.time] 38)) ⟨⟨⟨0, 0⟩, []⟩, [], [], [], [], [], [], [], 0⟩ ⟨none, none, none, none, none, none, none, none, 0, 0, 0, 0, 0, 0, 0, 0⟩; rw [World.size_alloc] at hn; exact hn)).below HBC).below hw01)
 have box11 : Box (w1.alloc (.cells #[.int .i64 n.mesh.g.w, .int .i64 n.mesh.g.h, .slice b1 n.mesh.br.length d1, .slice b2 n.pa.length d2, .slice b3 n.pb.length d3, .slice b4 n.bufs.length d4, .slice b5 n.owners.length d5, .slice b6 n.turns.length d6, .slice b7 n.srcs.length d7, .slice b8 n.arrs.length d8, .int .i64 n.time] 38)) w.heap.size #[.int .i64 n.mesh.g.w, .int .i64 n.mesh.g.h, .slice a1 n.mesh.br.length c1, .slice a2 n.pa.length c2, .slice a3 n.pb.length c3, .slice a4 n.bufs.length c4, .slice a5 n.owners.length c5, .slice a6 n.turns.length c6, .slice a7 n.srcs.length c7, .slice a8 n.arrs.length c8, .int .i64 n.time] := by rw [← e0]; exact HX0.out
 obtain ⟨xo0, xo1, xo2, xo3, xo4, xo5, xo6, xo7, xo8, xo9, xo10⟩ := all11 box11
 clear box11
 have xol : w.heap.size < (w1.alloc (.cells #[.int .i64 n.mesh.g.w, .int .i64 n.mesh.g.h, .slice b1 n.mesh.br.length d1, .slice b2 n.pa.length d2, .slice b3 n.pb.length d3, .slice b4 n.bufs.length d4, .slice b5 n.owners.length d5, .slice b6 n.turns.length d6, .slice b7 n.srcs.length d7, .slice b8 n.arrs.length d8, .int .i64 n.time] 38)).heap.size := by rw [← e0]; exact HX0.out.lt
 go_wp2_with fail
 rw [← e0]
 try rw [← ebx]
 repeat (first | clear xo0 | clear xo1 | clear xo2 | clear xo3 | clear xo4 | clear xo5 | clear xo6 | clear xo7 | clear xo8 | clear xo9 | clear xo10)
 clear xol
 have sb1 : bx < w0.heap.size := by omega
 have sb2 : w.heap.size + 2 ≤ bx := by omega
 have sl1 : lo ≤ w.heap.size + 2 := by omega
 have sl2 : w.heap.size + 2 ≤ lo := by omega
 have sl3 : lo ≤ bx := by omega
 have sl4 : lo ≤ w0.heap.size := by omega
 clear e0 ebx elo hz0 sw HN1 HBC hw01

 refine (impl_NetOk n _ _ (HR.out.below HHB.out)).mono ?_

 rintro e w2 ⟨rfl, hb2⟩
 have HN2 := Lib.hid (HN.out.below hb2)
 have HB2 := Lib.hid (HBT.out.below hb2)
 have HZ2 := Lib.hid (HZB.out.below hb2)
 have HX2 := Lib.hid (HX0.out.below hb2)
 have HL2 : Hid (Below lo w0 w2) := Lib.hid (Below.cut hb2 sl4)
 have zz2 := bw_size hb2
 have HWB : Hid (Below w.heap.size w w2) := Lib.hid (bw_then HHB.out hb2)
 clear hb2

 cases hk : netOk n
 ·have HE := Lib.hid (sendAll_no1 (l := l) hk)
  have box11 : Box w2 bx #[.int .i64 n.mesh.g.w, .int .i64 n.mesh.g.h, .slice b1 n.mesh.br.length d1, .slice b2 n.pa.length d2, .slice b3 n.pb.length d3, .slice b4 n.bufs.length d4, .slice b5 n.owners.length d5, .slice b6 n.turns.length d6, .slice b7 n.srcs.length d7, .slice b8 n.arrs.length d8, .int .i64 n.time] := HB2.out.box
  obtain ⟨z0, z1, z2, z3, z4, z5, z6, z7, z8, z9, z10⟩ := all11 box11
  clear box11
  have zx : bx < w2.heap.size := HB2.out.lt

  obtain ⟨⟨ry0, rv0⟩, ⟨ry1, rv1⟩, ⟨ry2, rv2⟩, ⟨ry3, rv3⟩, ⟨ry4, rv4⟩, ⟨ry5, rv5⟩, ⟨ry6, rv6⟩, ⟨ry7, rv7⟩, ⟨ry8, rv8⟩, ⟨ry9, rv9⟩, ⟨ry10, rv10⟩, rz0, rz1, rz2, rz3, rz4, rz5, rz6, rz7, rz8, rz9, rz10⟩ := allBN HZ2.out
  go_wp2
  obtain ⟨W9, e9⟩ : ∃ z, z = putN w2 (w.heap.size + 1) n ⟨b1, b2, b3, b4, b5, b6, b7, b8, d1, d2, d3, d4, d5, d6, d7, d8⟩ := ⟨_, rfl⟩
  have HB9 : Hid (BT W9 (w.heap.size + 1) n ⟨b1, b2, b3, b4, b5, b6, b7, b8, d1, d2, d3, d4, d5, d6, d7, d8⟩) := Lib.hid (by rw [e9]; exact putN_BT HZ2.out)
  have HN9 := Lib.hid (show NX W9 _ n ⟨b1, b2, b3, b4, b5, b6, b7, b8, d1, d2, d3, d4, d5, d6, d7, d8⟩ v4 v7 v8 from by rw [e9]; exact HN2.out.put HZ2.out)
  have HL9 : Hid (Below w.heap.size w W9) := Lib.hid (by rw [e9]; exact below_put HWB.out (by omega))
  unfold putN at e9
  try dsimp only at e9
  rw [← e9]
  clear e9
  exact bodyPost_ret (results_cell_row2 Try.results10 _ _ ((w.heap.size + 1)) 38 _ (0, 0) _ rfl HB9.out Try.underlying38 rfl (by kernel_rfl)) rfl (by dsimp only; rw [HE.out.1, HE.out.2]; exact ⟨⟨_, _, _, _, rfl, HN9.out.lower (by omega)⟩, HL9.out⟩)
 by_cases h40 : l.length ≤ 40
 case neg =>
  have HE := Lib.hid (sendAll_no2 (n := n) h40)
  have h41 : (40 : Int) < (l.length : Int) := by omega
  clear h40
  have box11 : Box w2 bx #[.int .i64 n.mesh.g.w, .int .i64 n.mesh.g.h, .slice b1 n.mesh.br.length d1, .slice b2 n.pa.length d2, .slice b3 n.pb.length d3, .slice b4 n.bufs.length d4, .slice b5 n.owners.length d5, .slice b6 n.turns.length d6, .slice b7 n.srcs.length d7, .slice b8 n.arrs.length d8, .int .i64 n.time] := HB2.out.box
  obtain ⟨z0, z1, z2, z3, z4, z5, z6, z7, z8, z9, z10⟩ := all11 box11
  clear box11
  have zx : bx < w2.heap.size := HB2.out.lt

  obtain ⟨⟨ry0, rv0⟩, ⟨ry1, rv1⟩, ⟨ry2, rv2⟩, ⟨ry3, rv3⟩, ⟨ry4, rv4⟩, ⟨ry5, rv5⟩, ⟨ry6, rv6⟩, ⟨ry7, rv7⟩, ⟨ry8, rv8⟩, ⟨ry9, rv9⟩, ⟨ry10, rv10⟩, rz0, rz1, rz2, rz3, rz4, rz5, rz6, rz7, rz8, rz9, rz10⟩ := allBN HZ2.out
  go_wp2
  obtain ⟨W9, e9⟩ : ∃ z, z = putN w2 (w.heap.size + 1) n ⟨b1, b2, b3, b4, b5, b6, b7, b8, d1, d2, d3, d4, d5, d6, d7, d8⟩ := ⟨_, rfl⟩
  have HB9 : Hid (BT W9 (w.heap.size + 1) n ⟨b1, b2, b3, b4, b5, b6, b7, b8, d1, d2, d3, d4, d5, d6, d7, d8⟩) := Lib.hid (by rw [e9]; exact putN_BT HZ2.out)
  have HN9 := Lib.hid (show NX W9 _ n ⟨b1, b2, b3, b4, b5, b6, b7, b8, d1, d2, d3, d4, d5, d6, d7, d8⟩ v4 v7 v8 from by rw [e9]; exact HN2.out.put HZ2.out)
  have HL9 : Hid (Below w.heap.size w W9) := Lib.hid (by rw [e9]; exact below_put HWB.out (by omega))
  unfold putN at e9
  try dsimp only at e9
  rw [← e9]
  clear e9
  exact bodyPost_ret (results_cell_row2 Try.results10 _ _ ((w.heap.size + 1)) 38 _ (0, 0) _ rfl HB9.out Try.underlying38 rfl (by kernel_rfl)) rfl (by dsimp only; rw [HE.out.1, HE.out.2]; exact ⟨⟨_, _, _, _, rfl, HN9.out.lower (by omega)⟩, HL9.out⟩)
 case pos =>
  have HE := Lib.hid (sendAll_yes hk h40)
  have HOK : Hid (∀ k : Nat, netOk (sndTo n l k) = true) := Lib.hid (sndTo_ok hk l)
  have HNB : Hid (∀ k : Nat, NB (sndTo n l k)) := Lib.hid (sndTo_nb NBQ.out hk l)
  have h41 : ¬ (40 : Int) < (l.length : Int) := by omega
  clear hk
  go_wp2_with fail
  go_loopw [7, 23] (fun v i wr => ∃ (k : Nat) (q' : NA) (u4 u7 u8 : List Value), i = .int .i64 k ∧ v = .int .i64 (cntTo n l k) ∧ k ≤ l.length ∧ Hid (NX wr lo (sndTo n l k) q' u4 u7 u8) ∧ Hid (BT wr bx (sndTo n l k) q') ∧ Hid (Below lo w0 wr)) (fun _ i _ => l.length - (intOf i).toNat)
  case atStart => exact ⟨0, _, v4, v7, v8, rfl, rfl, Nat.zero_le _, Lib.hid HN2.out, Lib.hid HB2.out, Lib.hid HL2.out⟩
  case round =>
   clear HN2 HB2 HL2 HZ2 HX2 HWB
   obtain ⟨k, q', u4, u7, u8, rfl, rfl, hk, HNk, HBk, HLk⟩ := hrel
   obtain ⟨wk, ewk⟩ : ∃ z, z = wr := ⟨_, rfl⟩
   subst ewk
   have hcr := cntTo_range n l k
   by_cases hlt : k < l.length
   ·have HWBk : Hid (Below w.heap.size w wk) := Lib.hid (bw_trans HHB.out HLk.out (by omega))
    have hpk := Kd.C_below HP.out HWBk.out
    obtain ⟨pb, po, eA, hpb, p0, p1, p2, p3, p4⟩ := rdP_at hpk k hlt
    subst eA
    have zzk := HLk.out.size
    have i0 : (k : Int) < (l.length : Int) := by omega
    have k0 : (0 : Int) ≤ (k : Int) := by omega
    obtain ⟨P, hP⟩ : ∃ P, rp l k = P := ⟨_, rfl⟩
    rw [hP] at p0 p1 p2 p3 p4
    have HP9 := Lib.hid hP
    obtain ⟨w5, e5⟩ : ∃ z, z = wk.alloc (.cells #[.int .i64 P.id, .int .i64 P.src, .int .i64 P.dst, .int .i64 P.cls, .int .i64 P.len] 48) := ⟨_, rfl⟩
    have hb5 : Below wk.heap.size wk w5 := by rw [e5]; exact bw_alloc _ (bw_refl wk)
    have HN5 := Lib.hid (HNk.out.below hb5)
    have HB5 := Lib.hid (HBk.out.below hb5)
    have HL5 : Hid (Below lo w0 w5) := Lib.hid (below_then HLk.out (by omega) hb5)
    have z5 := bw_size hb5
    clear hpk hP hb5
    go_wp2_with fail
    rw [← e5]
    clear e5
    refine (impl_send (sndTo n l k) P q' bx lo u4 u7 u8 _ HN5.out HB5.out (HNB.out k) (HOK.out k) sl3 (by omega)).mono ?_
    rintro e w3 ⟨rfl, ⟨q3, y4, y7, y8, hn3, hb3⟩, hl3⟩
    have HN3 := Lib.hid hn3
    have HB3 := Lib.hid hb3
    have HL3 : Hid (Below lo w0 w3) := Lib.hid (bw_trans HL5.out hl3 (Nat.le_refl _))
    have HS3 : Hid (sndTo n l (k + 1) = sndN (sndTo n l k) P) := Lib.hid (by rw [← HP9.out]; rfl)
    have HC1 : Hid (sendOk (sndTo n l k) P = true → cntTo n l (k + 1) = cntTo n l k + 1) := Lib.hid (fun h => cnt_yes (by rw [HP9.out]; exact h))
    have HC2 : Hid (sendOk (sndTo n l k) P = false → cntTo n l (k + 1) = cntTo n l k) := Lib.hid (fun h => cnt_no (by rw [HP9.out]; exact h))
    clear hn3 hb3 hl3 p0 p1 p2 p3 p4
    cases hs : sendOk (sndTo n l k) P
    ·have HC := Lib.hid (HC2.out hs)
     go_wp2
     go_roundw
     case rel => exact ⟨k + 1, q3, y4, y7, y8, by go_num, by rw [HC.out], by omega, Lib.hid (by rw [HS3.out]; exact HN3.out), Lib.hid (by rw [HS3.out]; exact HB3.out), Lib.hid HL3.out⟩
     case measure => simp [intOf]; omega
    ·have HC := Lib.hid (HC1.out hs)
     go_wp2
     go_roundw
     case rel => exact ⟨k + 1, q3, y4, y7, y8, by go_num, by rw [HC.out], by omega, Lib.hid (by rw [HS3.out]; exact HN3.out), Lib.hid (by rw [HS3.out]; exact HB3.out), Lib.hid HL3.out⟩
     case measure => simp [intOf]; omega
   ·obtain rfl : k = l.length := by omega
    obtain ⟨p1, p2, p3, p4, p5, p6, p7, p8, r1, r2, r3, r4, r5, r6, r7, r8⟩ := q'
    have HZk : Hid (BN wk (w.heap.size + 1)) := Lib.hid (HZB.out.low HLk.out (by omega))
    have HWBk : Hid (Below w.heap.size w wk) := Lib.hid (bw_trans HHB.out HLk.out (by omega))
    have zzk := HLk.out.size
    obtain ⟨X, hX⟩ : ∃ X, sndTo n l l.length = X := ⟨_, rfl⟩
    obtain ⟨K, hK⟩ : ∃ K, cntTo n l l.length = K := ⟨_, rfl⟩
    rw [hX] at HNk HBk HE
    rw [hK] at HE
    try rw [hK]
    clear hX hK hcr
    have box11 : Box wk bx #[.int .i64 X.mesh.g.w, .int .i64 X.mesh.g.h, .slice p1 X.mesh.br.length r1, .slice p2 X.pa.length r2, .slice p3 X.pb.length r3, .slice p4 X.bufs.length r4, .slice p5 X.owners.length r5, .slice p6 X.turns.length r6, .slice p7 X.srcs.length r7, .slice p8 X.arrs.length r8, .int .i64 X.time] := HBk.out.box
    obtain ⟨z0, z1, z2, z3, z4, z5, z6, z7, z8, z9, z10⟩ := all11 box11
    clear box11
    have zx : bx < wk.heap.size := HBk.out.lt

    obtain ⟨⟨ry0, rv0⟩, ⟨ry1, rv1⟩, ⟨ry2, rv2⟩, ⟨ry3, rv3⟩, ⟨ry4, rv4⟩, ⟨ry5, rv5⟩, ⟨ry6, rv6⟩, ⟨ry7, rv7⟩, ⟨ry8, rv8⟩, ⟨ry9, rv9⟩, ⟨ry10, rv10⟩, rz0, rz1, rz2, rz3, rz4, rz5, rz6, rz7, rz8, rz9, rz10⟩ := allBN HZk.out
    go_wp2
    obtain ⟨W9, e9⟩ : ∃ z, z = putN wk (w.heap.size + 1) X ⟨p1, p2, p3, p4, p5, p6, p7, p8, r1, r2, r3, r4, r5, r6, r7, r8⟩ := ⟨_, rfl⟩
    have HB9 : Hid (BT W9 (w.heap.size + 1) X ⟨p1, p2, p3, p4, p5, p6, p7, p8, r1, r2, r3, r4, r5, r6, r7, r8⟩) := Lib.hid (by rw [e9]; exact putN_BT HZk.out)
    have HN9 := Lib.hid (show NX W9 _ X ⟨p1, p2, p3, p4, p5, p6, p7, p8, r1, r2, r3, r4, r5, r6, r7, r8⟩ u4 u7 u8 from by rw [e9]; exact HNk.out.put HZk.out)
    have HL9 : Hid (Below w.heap.size w W9) := Lib.hid (by rw [e9]; exact below_put HWBk.out (by omega))
    unfold putN at e9
    try dsimp only at e9
    rw [← e9]
    clear e9
    exact bodyPost_ret (results_cell_row2 Try.results10 _ _ ((w.heap.size + 1)) 38 _ (0, 0) _ rfl HB9.out Try.underlying38 rfl (by kernel_rfl)) rfl (by dsimp only; rw [HE.out.1, HE.out.2]; exact ⟨⟨_, _, _, _, rfl, HN9.out.lower (by omega)⟩, HL9.out⟩)
theorem NX.cur {w w1 : World} {lo b : Nat} {n : Net} {q : NA} {v4 v7 v8 : List Value} (h : NX w lo n q v4 v7 v8) (hg : w.grownBy w1 (some b)) (hb : b < lo) : NX w1 lo n q v4 v7 v8 := by
  have ne : ∀ {v : Value}, (∀ k, v.ownBlock = some k → lo ≤ k) → v.ownBlock = none ∨ v.ownBlock ≠ some b := fun {v} hv => by
    cases e : v.ownBlock with
    | none => exact .inl rfl
    | some k => exact .inr (fun e2 => by have := hv k e; have := Option.some.inj e2; omega)
  exact ⟨R_grownI h.br hg (ne (Kd.R_base h.br)), R_grownI h.pa hg (ne (Kd.R_base h.pa)), R_grownI h.pb hg (ne (Kd.R_base h.pb)), R_grownI h.owners hg (ne (Kd.R_base h.owners)), R_grownI h.turns hg (ne (Kd.R_base h.turns)), own_other h.bufs hg (ne (own_base h.bufs)), own_other h.srcs hg (ne (own_base h.srcs)), own_other h.arrs hg (ne (own_base h.arrs)), ⟨h.rows.len, fun i hi => R_grownF (h.rows.row i hi) hg (ne (Kd.R_base (h.rows.row i hi))), h.rows.ap⟩, h.apI, h.apO⟩
theorem BN.cur {w w1 : World} {c b : Nat} (h : BN w c) (hg : w.grownBy w1 (some b)) (hne : c ≠ b) : BN w1 c := by
  have hl := h.lt
  obtain ⟨cs, h1, h2⟩ := h
  exact ⟨cs, (hg.block c hl (fun e => hne (Option.some.inj e))).trans h1, h2⟩
theorem BT.cur {w w1 : World} {c b : Nat} {n : Net} {q : NA} (h : BT w c n q) (hg : w.grownBy w1 (some b)) (hne : c ≠ b) : BT w1 c n q :=
  (hg.block c h.lt (fun e => hne (Option.some.inj e))).trans h
def DrN (n : Net) : Prop := ∃ (g : Grid) (r s : Int) (l : List Packet) (k : Nat), (1 ≤ g.w ∧ g.w ≤ 4 ∧ 1 ≤ g.h ∧ g.h ≤ 4 ∧ 2 ≤ nodeCount g) ∧ (1 ≤ r ∧ r ≤ 4 ∧ 1 ≤ s ∧ s ≤ 4) ∧ Drawn g l ∧ k < 12 ∧ n = runN (sendAllN (newN ⟨g, []⟩ (makeT g r) (makeT g s)) l) k
theorem std_classes {g : Grid} {r s : Int} (hg : 1 ≤ g.w ∧ g.w ≤ 4 ∧ 1 ≤ g.h ∧ g.h ≤ 4) (h : 1 ≤ r ∧ r ≤ 4 ∧ 1 ≤ s ∧ s ≤ 4) : classesOk ⟨g, []⟩ (makeT g r) (makeT g s) = true := by
  unfold classesOk
  rw [make_ok hg.1 hg.2.1 hg.2.2.1 hg.2.2.2 h.1 h.2.1, make_ok hg.1 hg.2.1 hg.2.2.1 hg.2.2.2 h.2.2.1 h.2.2.2]
  rfl
theorem sendAll_ok {n : Net} (ok : netOk n = true) (l : List Packet) : netOk (sendAllN n l) = true := by
  unfold sendAllN
  split
  · exact sndTo_ok ok l _
  · exact ok
theorem sndTo_rest (n : Net) (l : List Packet) : ∀ k, (sndTo n l k).time = n.time ∧ (sndTo n l k).arrs = n.arrs ∧ (sndTo n l k).mesh = n.mesh ∧ (sndTo n l k).pa = n.pa ∧ (sndTo n l k).pb = n.pb ∧ (sndTo n l k).bufs = n.bufs := by
  intro k
  induction k with
  | zero => exact ⟨rfl, rfl, rfl, rfl, rfl, rfl⟩
  | succ k ih =>
    have h : ∀ x : Net, ∀ p, (sndN x p).time = x.time ∧ (sndN x p).arrs = x.arrs ∧ (sndN x p).mesh = x.mesh ∧ (sndN x p).pa = x.pa ∧ (sndN x p).pb = x.pb ∧ (sndN x p).bufs = x.bufs := fun x p => by unfold sndN sendN; split <;> exact ⟨rfl, rfl, rfl, rfl, rfl, rfl⟩
    obtain ⟨a1, a2, a3, a4, a5, a6⟩ := h (sndTo n l k) (rp l (k : Int))
    obtain ⟨b1, b2, b3, b4, b5, b6⟩ := ih
    exact ⟨a1.trans b1, a2.trans b2, a3.trans b3, a4.trans b4, a5.trans b5, a6.trans b6⟩
theorem sendAll_rest (n : Net) (l : List Packet) : (sendAllN n l).time = n.time ∧ (sendAllN n l).arrs = n.arrs ∧ (sendAllN n l).mesh = n.mesh ∧ (sendAllN n l).pa = n.pa ∧ (sendAllN n l).pb = n.pb ∧ (sendAllN n l).bufs = n.bufs := by
  unfold sendAllN
  split
  · exact sndTo_rest n l _
  · exact ⟨rfl, rfl, rfl, rfl, rfl, rfl⟩
set_option maxHeartbeats 8000000 in
set_option maxRecDepth 100000 in
theorem impl_MovesAlways (n : Net) (s : Int) (q : NA) (w : World) (hr : NetR 102 w n q) (hA : ∀ x ∈ n.arrs, x.length ≤ 1048576) :
  Calls Try.prog 22 #[.agg (netCells n q), .int .i64 s] w fun e w' => e = .returned (.bool (movesAlwaysN n s)) ∧ Below w.heap.size w w' := by
 have HR := Lib.hid hr
 have NBQ := Lib.hid hr.nb
 have HA := Lib.hid hA
 clear hA
 obtain ⟨a1, a2, a3, a4, a5, a6, a7, a8, c1, c2, c3, c4, c5, c6, c7, c8⟩ := q
 clear hr
 dsimp only [netCells]
 cases hk : canRunN n s
 ·have HE : Hid (movesAlwaysN n s = false) := Lib.hid (by simp [movesAlwaysN, hk])
  go_enter Try.func22, Try.ntmps22
  go_wp2_with (go_at_call 35; refine (impl_canRun n s _ _ (HR.out.below bel)).mono ?_; rintro e w1 ⟨he, hb1⟩; rw [hk] at he; subst he; obtain ⟨hc1, hf1, hz1⟩ := bcell hb1; (try simp only [szs] at hz1); have hb2 := far2; obtain ⟨hc2, hf2, hz2⟩ := bcell hb2; (try simp only [szs] at hz2); try (first | obtain ⟨hy1, hy2, hy3, hy4⟩ := lts4 hz2 | obtain ⟨hy1, hy2, hy3⟩ := lts3 hz2 | obtain ⟨hy1, hy2⟩ := lts2 hz2 | have hy1 := lts1 hz2); have hb9 := hb1)
  go_ret
  exact ⟨ret_bool HE.out.symm, bel⟩
 ·have HE : Hid (movesAlwaysN n s = movesFrom n 0 s.toNat) := Lib.hid (by simp [movesAlwaysN, hk])
  obtain ⟨ok, s0, s4, st⟩ := canRun_parts hk
  obtain ⟨S, hS⟩ : ∃ S : Nat, s = (S : Int) := ⟨s.toNat, by omega⟩
  subst hS
  rw [Int.toNat_natCast] at HE
  have HOK : Hid (∀ k : Nat, k ≤ S → netOk (runN n k) = true) := Lib.hid (fun k hk => runN_ok ok k (by omega))
  have hS4 : S ≤ 400 := by omega
  go_enter Try.func22, Try.ntmps22
  go_wp2_with fail
  refine (impl_canRun n S _ _ (HR.out.below bel)).mono ?_
  rintro e w2 ⟨he, hb2⟩
  rw [hk] at he
  subst he
  clear hk
  have XB : Box w2 w.heap.size #[.int .i64 n.mesh.g.w, .int .i64 n.mesh.g.h, .slice a1 n.mesh.br.length c1, .slice a2 n.pa.length c2, .slice a3 n.pb.length c3, .slice a4 n.bufs.length c4, .slice a5 n.owners.length c5, .slice a6 n.turns.length c6, .slice a7 n.srcs.length c7, .slice a8 n.arrs.length c8, .int .i64 n.time] := (Box.new w w.heap.size #[.int .i64 n.mesh.g.w, .int .i64 n.mesh.g.h, .slice a1 n.mesh.br.length c1, .slice a2 n.pa.length c2, .slice a3 n.pb.length c3, .slice a4 n.bufs.length c4, .slice a5 n.owners.length c5, .slice a6 n.turns.length c6, .slice a7 n.srcs.length c7, .slice a8 n.arrs.length c8, .int .i64 n.time] 38 rfl).below hb2
  have box11 : Box w2 w.heap.size #[.int .i64 n.mesh.g.w, .int .i64 n.mesh.g.h, .slice a1 n.mesh.br.length c1, .slice a2 n.pa.length c2, .slice a3 n.pb.length c3, .slice a4 n.bufs.length c4, .slice a5 n.owners.length c5, .slice a6 n.turns.length c6, .slice a7 n.srcs.length c7, .slice a8 n.arrs.length c8, .int .i64 n.time] := XB
  obtain ⟨x0, x1, x2, x3, x4, x5, x6, x7, x8, x9, x10⟩ := all11 box11
  clear box11
  have xbl := XB.lt
  have HW2 : Hid (Below w.heap.size w w2) := Lib.hid (bw_then (bw_alloc _ (bw_refl w)) hb2)
  go_wp2_with fail
  refine (impl_copyNet n _ _ (HR.out.below HW2.out)).mono ?_
  rintro e w1 ⟨hg1, HBC⟩
  obtain ⟨qq, v4, v7, v8, rfl, HN0⟩ := hg1
  obtain ⟨b1, b2, b3, b4, b5, b6, b7, b8, d1, d2, d3, d4, d5, d6, d7, d8⟩ := qq
  dsimp only [netCells]
  obtain ⟨w0, e0⟩ : ∃ z, z = w1.alloc (.cells #[.int .i64 n.mesh.g.w, .int .i64 n.mesh.g.h, .slice b1 n.mesh.br.length d1, .slice b2 n.pa.length d2, .slice b3 n.pb.length d3, .slice b4 n.bufs.length d4, .slice b5 n.owners.length d5, .slice b6 n.turns.length d6, .slice b7 n.srcs.length d7, .slice b8 n.arrs.length d8, .int .i64 n.time] 38) := ⟨_, rfl⟩
  have hz0 : w0.heap.size = w1.heap.size + 1 := by rw [e0]; simp only [szs]
  have hw01 : Below w1.heap.size w1 w0 := by rw [e0]; exact bw_alloc _ (bw_refl w1)
  obtain ⟨bx, ebx⟩ : ∃ z, z = w1.heap.size := ⟨_, rfl⟩
  have HBT : Hid (BT w0 bx n ⟨b1, b2, b3, b4, b5, b6, b7, b8, d1, d2, d3, d4, d5, d6, d7, d8⟩) := Lib.hid (by rw [e0, ebx]; exact blk_new w1 _)
  obtain ⟨lo, elo⟩ : ∃ z, z = w2.heap.size := ⟨_, rfl⟩
  have HN : Hid (NX w0 lo n ⟨b1, b2, b3, b4, b5, b6, b7, b8, d1, d2, d3, d4, d5, d6, d7, d8⟩ v4 v7 v8) := Lib.hid ((HN0.lower (by omega)).below hw01)
  have HHB : Hid (Below w.heap.size w w0) := Lib.hid (bw_then (bw_then HW2.out HBC) hw01)
  have sw := bw_size HBC
  have sw2 := bw_size HW2.out
  have sl3 : lo ≤ bx := by omega
  have sl4 : lo ≤ w0.heap.size := by omega
  have sl5 : w.heap.size ≤ lo := by omega
  clear HN0 HBC hw01 XB xbl hb2
  repeat (first | clear x0 | clear x1 | clear x2 | clear x3 | clear x4 | clear x5 | clear x6 | clear x7 | clear x8 | clear x9 | clear x10)
  go_wp2_with fail
  rw [← e0]
  try rw [← ebx]
  clear e0 ebx hz0
  go_loopw [13] (fun i wr => ∃ (k : Nat) (q' : NA) (u4 u7 u8 : List Value), i = .int .i64 k ∧ k ≤ S ∧ Hid (NX wr lo (runN n k) q' u4 u7 u8) ∧ Hid (BT wr bx (runN n k) q') ∧ Hid (Below lo w0 wr) ∧ Hid (movesFrom n 0 S = movesFrom n k (S - k))) (fun i _ => S - (intOf i).toNat)
  case atStart => exact ⟨0, _, v4, v7, v8, rfl, Nat.zero_le _, Lib.hid HN.out, Lib.hid HBT.out, Lib.hid (Below.cut (Below.refl _ _) sl4), Lib.hid rfl⟩
  case round =>
   clear HN HBT
   obtain ⟨k, q', u4, u7, u8, rfl, hk, HNk, HBk, HLk, HIk⟩ := hrel
   by_cases hlt : k < S
   ·have e41 : S - k = (S - (k + 1)) + 1 := by omega
    rw [e41] at HIk
    have HRk := Lib.hid (HNk.out.reads (run_nb NBQ.out HA.out k (by omega) (HOK.out k (by omega))))
    cases hi : stuckN (runN n k)
    ·have HI2 : Hid (movesFrom n 0 S = movesFrom n (k + 1) (S - (k + 1))) := Lib.hid (HIk.out.trans (movesFrom_no hi))
     clear e41
     go_wp2_with fail
     refine (impl_isStuck (runN n k) q' bx _ HRk.out HBk.out.box (HOK.out k (by omega))).mono ?_
     rintro e w5 ⟨rfl, hb5⟩
     replace HNk := Lib.hid (HNk.out.below hb5)
     replace HBk := Lib.hid (HBk.out.below hb5)
     replace HLk : Hid (Below lo w0 w5) := Lib.hid (below_then HLk.out (Nat.le_trans sl4 HLk.out.size) hb5)
     clear HRk hb5
     go_wp2_with fail
     refine (impl_step (runN n k) q' bx lo u4 u7 u8 _ HNk.out HBk.out (run_nb NBQ.out HA.out k (by omega) (HOK.out k (by omega))) (HOK.out k (by omega)) sl3 (Nat.le_trans sl4 HLk.out.size)).mono ?_
     rintro e w3 ⟨rfl, ⟨q3, y4, y7, y8, hn3, hb3⟩, hl3⟩
     have HN3 := Lib.hid hn3
     have HB3 := Lib.hid hb3
     have HL3 : Hid (Below lo w0 w3) := Lib.hid (bw_trans HLk.out hl3 (Nat.le_refl _))
     clear hn3 hb3 hl3
     go_wp2
     go_roundw
     case rel => exact ⟨k + 1, q3, y4, y7, y8, by go_num, by omega, Lib.hid HN3.out, Lib.hid HB3.out, Lib.hid HL3.out, Lib.hid HI2.out⟩
     case measure => simp [intOf]; omega
    ·have HI2 : Hid (movesAlwaysN n (S : Int) = false) := Lib.hid (HE.out.trans (HIk.out.trans (movesFrom_yes hi)))
     clear e41
     go_wp2_with fail
     refine (impl_isStuck (runN n k) q' bx _ HRk.out HBk.out.box (HOK.out k (by omega))).mono ?_
     rintro e w5 ⟨rfl, hb5⟩
     replace HNk := Lib.hid (HNk.out.below hb5)
     replace HBk := Lib.hid (HBk.out.below hb5)
     replace HLk : Hid (Below lo w0 w5) := Lib.hid (below_then HLk.out (Nat.le_trans sl4 HLk.out.size) hb5)
     clear HRk hb5
     go_wp2
     go_ret
     exact ⟨ret_bool HI2.out.symm, bw_trans HHB.out HLk.out sl5⟩
   ·obtain rfl : k = S := by omega
    have HI2 : Hid (movesAlwaysN n (k : Int) = true) := Lib.hid (by rw [HE.out, HIk.out, Nat.sub_self]; rfl)
    go_wp2
    go_ret
    exact ⟨ret_bool HI2.out.symm, bw_trans HHB.out HLk.out sl5⟩
end Go.Proofs.Ytodbglncccgdbaa
namespace Go.Proofs.Ytodbglncccgdbaa
open NoC
end Go.Proofs.Ytodbglncccgdbaa
namespace NoC
end NoC
namespace Go.Proofs.YtodbglncccgdbaaW.PrintWords
open Go.RowKit
section
variable {P : Program} {d : Nat} {xs ys : Array Value} {f : Field} {fs : List Field} {a b : Value} {r s : Bool} {w : World}
end
end Go.Proofs.YtodbglncccgdbaaW.PrintWords
namespace Go.Proofs.Ytodbglncccgdbaa
open Go.RowKit Go.Proofs.YtodbglncccgdbaaW.PrintWords
open NoC
def lenOf : Value → Nat
  | .slice _ m _ => m
  | _ => 0
theorem clsOnly_len (l : List Flit) (c : Int) : (clsOnly l c).length ≤ l.length := List.length_filter_le _ _
end Go.Proofs.Ytodbglncccgdbaa
namespace Go.Proofs.Ytodbglncccgdbaa
open NoC
def startN (m : Mesh) (pa pb : List Int) (l : List Packet) : Net := sendAllN (newN m pa pb) l
theorem snd_arrs (n : Net) (l : List Packet) : ∀ k, (sndTo n l k).arrs = n.arrs := by
  intro k
  induction k with
  | zero => rfl
  | succ k ih =>
    show (sndN (sndTo n l k) (rp l k)).arrs = _
    unfold sndN
    split
    · exact ih
    · exact ih
theorem start_arrs (m : Mesh) (pa pb : List Int) (l : List Packet) : ∀ x ∈ (startN m pa pb l).arrs, x.length ≤ 1048576 := by
  have e : (startN m pa pb l).arrs = (newN m pa pb).arrs := by
    unfold startN sendAllN
    split
    · exact snd_arrs _ _ _
    · rfl
  rw [e]
  intro x hx
  rw [(List.mem_replicate.1 hx).2]
  simp
end Go.Proofs.Ytodbglncccgdbaa
namespace NoC
theorem enter_in {n : Net} (ok : netOk n = true) : ∀ a ∈ enteringN n, ∃ i : Nat, a = (i : Int) ∧ i < n.srcs.length ∧ 0 < (rl n.srcs a).length ∧ 10 * (i : Int) + 8 ≤ eTo n a ∧ eTo n a ≤ 10 * (i : Int) + 9 ∧ eTo n a < (n.bufs.length : Int) := by
  intro a ha
  obtain ⟨i, rfl, hi, he⟩ := (enterTo_spec n n.srcs.length).1 a ha
  simp only [enters, Bool.and_eq_true, decide_eq_true_eq] at he
  obtain ⟨_, _, _, hcl⟩ := src_buf ok i hi
  obtain ⟨d0, d1, d2⟩ := hcl he.1
  refine ⟨i, rfl, hi, he.1, ?_, ?_, ?_⟩ <;> unfold eTo <;> omega
theorem afterPop_len (n : Net) : (afterPop n).bufs.length = n.bufs.length := popL_len _ _
theorem afterPush_len (n : Net) : (afterPush n).bufs.length = n.bufs.length := by unfold afterPush; rw [(push_lens n _ _).1]; exact afterPop_len n
theorem ri_setI {l : List Int} {k : Int} {v : Int} (k0 : 0 ≤ k) (hk : k < (l.length : Int)) (j : Int) (hj : 0 ≤ j) : ri (l.set k.toNat v) j = if j = k then v else ri l j := by
  by_cases e : j = k
  · subst e
    have h : j.toNat < l.length := by omega
    simp [ri, List.getD_eq_getElem?_getD, h]
  · have h : ¬ k.toNat = j.toNat := by omega
    simp [ri, List.getD_eq_getElem?_getD, e, h]
end NoC
namespace NoC
open Go.Proofs.Ytodbglncccgdbaa (totTo)
theorem pushG_arrs (n x : Net) (g : Grant) : (pushG n x g).arrs = if g.port = 4 then x.arrs.set g.node.toNat (rl x.arrs g.node ++ [mvF n g]) else x.arrs := by unfold pushG; split <;> rfl
end NoC
namespace NoC
abbrev FS := Option (Int × Int × Int)
def fid (f : Flit) : Int × Int × Int := (f.pk, f.dst, f.cls)
def aft (f : Flit) : FS := if f.tail = true then none else some (fid f)
def nx (s : FS) (f : Flit) : Option FS :=
  match s with
  | none => if f.head = true then some (aft f) else none
  | some t => if f.head = false ∧ fid f = t then some (aft f) else none
def runF (s : FS) : List Flit → Option FS
  | [] => some s
  | f :: l => match nx s f with
    | some s' => runF s' l
    | none => none
theorem nx_aft {s s' : FS} {f : Flit} (h : nx s f = some s') : s' = aft f := by
  unfold nx at h
  split at h <;> split at h <;> simp_all
theorem nx_head {s s' : FS} {f : Flit} (h : nx s f = some s') (hh : f.head = true) : s = none := by
  cases s with
  | none => rfl
  | some t =>
    unfold nx at h
    simp [hh] at h
theorem nx_body {s s' : FS} {f : Flit} (h : nx s f = some s') (hh : f.head = false) : s = some (fid f) := by
  cases s with
  | none =>
    unfold nx at h
    simp [hh] at h
  | some t =>
    unfold nx at h
    simp only [hh, true_and] at h
    split at h
    · rename_i e; rw [e]
    · cases h
theorem nx_of {s : FS} {f : Flit} (h1 : f.head = true → s = none) (h2 : f.head = false → s = some (fid f)) : nx s f = some (aft f) := by
  cases hh : f.head
  · rw [h2 hh]; simp [nx, hh]
  · rw [h1 hh]; simp [nx, hh]
theorem run_cons {s t : FS} {f : Flit} {l : List Flit} (h : runF s (f :: l) = some t) : nx s f = some (aft f) ∧ runF (aft f) l = some t := by
  unfold runF at h
  split at h
  · rename_i s' e
    have := nx_aft e
    subst this
    exact ⟨e, h⟩
  · cases h
theorem run_snoc (f : Flit) : ∀ (l : List Flit) (s s' : FS), runF s l = some s' → runF s (l ++ [f]) = nx s' f := by
  intro l
  induction l with
  | nil =>
    intro s s' h
    simp only [runF, Option.some.injEq] at h
    subst h
    simp only [List.nil_append, runF]
    cases nx s f <;> rfl
  | cons g l ih =>
    intro s s' h
    obtain ⟨h1, h2⟩ := run_cons h
    simp only [List.cons_append, runF, h1]
    exact ih _ _ h2
theorem run_app : ∀ (l r : List Flit) (s s' : FS), runF s l = some s' → runF s (l ++ r) = runF s' r := by
  intro l
  induction l with
  | nil =>
    intro r s s' h
    simp only [runF, Option.some.injEq] at h
    subst h
    rfl
  | cons g l ih =>
    intro r s s' h
    obtain ⟨h1, h2⟩ := run_cons h
    simp only [List.cons_append, runF, h1]
    exact ih r _ _ h2
def dn (m : Mesh) (si : Int → FS) (sa : Int → Int → FS) (a p c : Int) : FS := if p = 4 then sa a c else si (10 * nextNode m.g a p + 2 * opposite p + c)
def opens (m : Mesh) (a p : Int) : Prop := isNode m.g a = true ∧ 0 ≤ p ∧ p ≤ 4 ∧ (p = 4 ∨ live m (4 * a + p) = true)
def lcl (s : FS) (c : Int) : FS := match s with
  | some t => if t.2.2 = c then some t else none
  | none => none
structure WI (n : Net) (so si : Int → FS) (ss : Int → FS) (sa : Int → Int → FS) : Prop where
  buf : ∀ b : Int, 0 ≤ b → b < (n.bufs.length : Int) → runF (so b) (rl n.bufs b) = some (si b)
  src : ∀ a : Int, 0 ≤ a → a < (n.srcs.length : Int) → runF (ss a) (rl n.srcs a) = some none
  arr : ∀ a c : Int, 0 ≤ a → a < (n.arrs.length : Int) → runF none (clsOnly (rl n.arrs a) c) = some (sa a c)
  loc : ∀ a c : Int, 0 ≤ a → 0 ≤ c → c ≤ 1 → si (10 * a + 8 + c) = lcl (ss a) c
  own : ∀ a p c : Int, opens n.mesh a p → 0 ≤ c → c ≤ 1 → (ownAt n a p c = -1 ∧ dn n.mesh si sa a p c = none) ∨ (∃ s, dn n.mesh si sa a p c = some s ∧ 0 ≤ ownAt n a p c ∧ so (10 * a + 2 * ownAt n a p c + c) = some s)
  uniq : ∀ a p p' c : Int, opens n.mesh a p → opens n.mesh a p' → 0 ≤ c → c ≤ 1 → 0 ≤ ownAt n a p c → ownAt n a p c = ownAt n a p' c → p = p'
theorem behind_inj {m : Mesh} (hm : meshOk m = true) {a p c a' p' c' : Int} (h : opens m a p) (h' : opens m a' p') (p4 : ¬ p = 4) (p4' : ¬ p' = 4) (c0 : 0 ≤ c) (c1 : c ≤ 1) (c0' : 0 ≤ c') (c1' : c' ≤ 1)
    (e : 10 * nextNode m.g a p + 2 * opposite p + c = 10 * nextNode m.g a' p' + 2 * opposite p' + c') : a = a' ∧ p = p' ∧ c = c' := by
  obtain ⟨n1, q0, q4, hl⟩ := h
  obtain ⟨n1', q0', q4', hl'⟩ := h'
  have hl1 : live m (4 * a + p) = true := hl.resolve_left p4
  have hl1' : live m (4 * a' + p') = true := hl'.resolve_left p4'
  have o := opp_eq (p := p) q0 (by omega)
  have o' := opp_eq (p := p') q0' (by omega)
  have i1 := isNode_iff.1 (next_live q0 (by omega) hm hl1)
  have i1' := isNode_iff.1 (next_live q0' (by omega) hm hl1')
  have e1 : p = p' := by omega
  subst e1
  exact ⟨next_inj q0 (by omega) n1 n1' i1.1 (by omega), rfl, by omega⟩
theorem own_move {m : Mesh} {so : Int → FS} {D D' : Int → Int → Int → FS} {ow ow' : Int → Int → Int → Int} {N P c0 j : Int} {f : Flit}
  (hP : opens m N P) (c00 : 0 ≤ c0) (c01 : c0 ≤ 1) (j0 : 0 ≤ j) (j4 : j ≤ 4)
  (hr : ∀ a p c, ow a p c ≤ 4)
  (own : ∀ a p c : Int, opens m a p → 0 ≤ c → c ≤ 1 → (ow a p c = -1 ∧ D a p c = none) ∨ (∃ s, D a p c = some s ∧ 0 ≤ ow a p c ∧ so (10 * a + 2 * ow a p c + c) = some s))
  (uniq : ∀ a p p' c : Int, opens m a p → opens m a p' → 0 ≤ c → c ≤ 1 → 0 ≤ ow a p c → ow a p c = ow a p' c → p = p')
  (hso : nx (so (10 * N + 2 * j + c0)) f = some (aft f))
  (hreq : (f.head = true ∧ ow N P c0 = -1) ∨ (f.head = false ∧ ow N P c0 = j))
  (hD : ∀ a p c : Int, opens m a p → 0 ≤ c → c ≤ 1 → D' a p c = if a = N ∧ p = P ∧ c = c0 then aft f else D a p c)
  (how : ∀ a p c : Int, opens m a p → 0 ≤ c → c ≤ 1 → ow' a p c = if a = N ∧ p = P ∧ c = c0 then (if f.tail = true then -1 else j) else ow a p c) :
  (∀ a p c : Int, opens m a p → 0 ≤ c → c ≤ 1 → (ow' a p c = -1 ∧ D' a p c = none) ∨ (∃ s, D' a p c = some s ∧ 0 ≤ ow' a p c ∧ (if 10 * a + 2 * ow' a p c + c = 10 * N + 2 * j + c0 then aft f else so (10 * a + 2 * ow' a p c + c)) = some s)) ∧
  (∀ a p p' c : Int, opens m a p → opens m a p' → 0 ≤ c → c ≤ 1 → 0 ≤ ow' a p c → ow' a p c = ow' a p' c → p = p') := by
 have key : ∀ p c : Int, opens m N p → c = c0 → ow N p c = j → p = P := by
  intro p c hp hc hj
  subst hc
  rcases hreq with ⟨hh, _⟩ | ⟨hh, ho⟩
  ·have h0 := nx_head hso hh
   rcases own N p c hp c00 c01 with ⟨h1, _⟩ | ⟨s, _, _, h3⟩
   ·omega
   ·rw [hj, h0] at h3
    cases h3
  ·exact uniq N p P c hp hP c00 c01 (by omega) (by omega)
 constructor
 ·intro a p c hp h0 h1
  rw [how a p c hp h0 h1, hD a p c hp h0 h1]
  by_cases e : a = N ∧ p = P ∧ c = c0
  ·rw [if_pos e, if_pos e]
   obtain ⟨rfl, rfl, rfl⟩ := e
   cases ht : f.tail
   ·right
    refine ⟨fid f, by simp [aft, ht], by simpa using j0, ?_⟩
    simp [aft, ht]
   ·left
    simp [aft, ht]
  ·rw [if_neg e, if_neg e]
   rcases own a p c hp h0 h1 with h | ⟨s, h2, h3, h4⟩
   ·exact .inl h
   ·right
    refine ⟨s, h2, h3, ?_⟩
    rw [if_neg ?_]
    ·exact h4
    ·intro e2
     have h5 := hr a p c
     have e3 : a = N := by omega
     have e4 : c = c0 := by omega
     have e5 : ow a p c = j := by omega
     subst e3
     exact e ⟨rfl, key p c hp e4 e5, e4⟩
 ·intro a p p' c hp hp' h0 h1 h2 h3
  rw [how a p c hp h0 h1] at h2 h3
  rw [how a p' c hp' h0 h1] at h3
  by_cases e : a = N ∧ p = P ∧ c = c0
  ·by_cases e' : a = N ∧ p' = P ∧ c = c0
   ·rw [e.2.1, e'.2.1]
   ·rw [if_pos e] at h2 h3
    rw [if_neg e'] at h3
    obtain ⟨rfl, rfl, rfl⟩ := e
    cases ht : f.tail
    ·rw [ht] at h3
     simp only [Bool.false_eq_true, if_false] at h3
     exact (key p' c hp' rfl h3.symm).symm
    ·rw [ht] at h2
     simp at h2
  ·by_cases e' : a = N ∧ p' = P ∧ c = c0
   ·rw [if_neg e] at h2 h3
    rw [if_pos e'] at h3
    obtain ⟨rfl, rfl, rfl⟩ := e'
    cases ht : f.tail
    ·rw [ht] at h3
     simp only [Bool.false_eq_true, if_false] at h3
     exact key p c hp rfl h3
    ·rw [ht] at h3
     simp at h3
     omega
   ·rw [if_neg e] at h2 h3
    rw [if_neg e'] at h3
    exact uniq a p p' c hp hp' h0 h1 h2 h3
theorem clsOnly_snoc (l : List Flit) (f : Flit) (c : Int) : clsOnly (l ++ [f]) c = if f.cls = c then clsOnly l c ++ [f] else clsOnly l c := by
  unfold clsOnly
  rw [List.filter_append]
  by_cases e : f.cls = c
  · simp [e]
  · simp [e]
theorem ownAt_set {x : Net} {g : Grant} {v : Int} {a p c : Int} (g0 : 0 ≤ gAt g) (g1 : gAt g < (x.owners.length : Int)) (a0 : 0 ≤ a) (p0 : 0 ≤ p) (p4 : p ≤ 4) (c0 : 0 ≤ c) (c1 : c ≤ 1) (q0 : 0 ≤ g.port) (q4 : g.port ≤ 4) :
    ri (x.owners.set (gAt g).toNat v) (10 * a + 2 * p + c) = if a = g.node ∧ p = g.port ∧ c = g.input % 2 then v else ownAt x a p c := by
  rw [ri_setI g0 g1 _ (by omega)]
  unfold ownAt
  by_cases e : a = g.node ∧ p = g.port ∧ c = g.input % 2
  · rw [if_pos e, if_pos (by unfold gAt; omega)]
  · rw [if_neg e, if_neg (by unfold gAt; omega)]
def soM (so : Int → FS) (g : Grant) (f : Flit) : Int → FS := fun b => if b = gIdx g then aft f else so b
def siM (n : Net) (si : Int → FS) (g : Grant) (f : Flit) : Int → FS := fun b => if g.port ≠ 4 ∧ b = gTo n g then aft f else si b
def saM (sa : Int → Int → FS) (g : Grant) (f : Flit) : Int → Int → FS := fun a c => if g.port = 4 ∧ a = g.node ∧ c = g.input % 2 then aft f else sa a c
theorem dn_M {n x : Net} {si : Int → FS} {sa : Int → Int → FS} {g : Grant} {f : Flit} (hm : meshOk x.mesh = true) (hmn : n.mesh = x.mesh) (ho : opens x.mesh g.node g.port) (i0 : 0 ≤ g.input) {a p c : Int} (hp : opens x.mesh a p) (c0 : 0 ≤ c) (c1 : c ≤ 1) :
    dn x.mesh (siM n si g f) (saM sa g f) a p c = if a = g.node ∧ p = g.port ∧ c = g.input % 2 then aft f else dn x.mesh si sa a p c := by
  have eT : gTo n g = 10 * nextNode x.mesh.g g.node g.port + 2 * opposite g.port + g.input % 2 := by unfold gTo behindI; rw [hmn]
  unfold dn siM saM
  by_cases e4 : p = 4
  · rw [if_pos e4, if_pos e4]
    by_cases e : g.port = 4 ∧ a = g.node ∧ c = g.input % 2
    · rw [if_pos e, if_pos ⟨e.2.1, by omega, e.2.2⟩]
    · rw [if_neg e, if_neg (fun e2 => e ⟨by omega, e2.1, e2.2.2⟩)]
  · rw [if_neg e4, if_neg e4]
    by_cases e : a = g.node ∧ p = g.port ∧ c = g.input % 2
    · rw [if_pos e, if_pos ⟨by omega, by rw [e.1, e.2.1, e.2.2]; exact eT.symm⟩]
    · rw [if_neg e, if_neg (fun e2 => e (behind_inj hm hp ho e4 e2.1 c0 c1 (by omega) (by omega) (by rw [e2.2, eT])))]
theorem WI_move {n x : Net} {so si : Int → FS} {ss : Int → FS} {sa : Int → Int → FS} (h : WI x so si ss sa) (hm : meshOk x.mesh = true) (hmn : n.mesh = x.mesh) {g : Grant} {f : Flit} {rest : List Flit}
  (ho : opens x.mesh g.node g.port) (i0 : 0 ≤ g.input) (i9 : g.input ≤ 9) (hb1 : gIdx g < (x.bufs.length : Int)) (ho1 : gAt g < (x.owners.length : Int)) (ha : g.node < (x.arrs.length : Int))
  (ht : ¬ g.port = 4 → 0 ≤ gTo n g ∧ gTo n g < (x.bufs.length : Int)) (hor : ∀ k : Int, ri x.owners k ≤ 4)
  (hf : rl x.bufs (gIdx g) = f :: rest) (hmv : mvF n g = f)
  (hreq : (f.head = true ∧ ownAt x g.node g.port (g.input % 2) = -1) ∨ (f.head = false ∧ ownAt x g.node g.port (g.input % 2) = g.input / 2))
  (hcls : f.cls = g.input % 2) : WI (pushG n (popN x g) g) (soM so g f) (siM n si g f) ss (saM sa g f) := by
 obtain ⟨nd, q0, q4, hl⟩ := id ho
 have nd' := isNode_iff.1 nd
 have b0 : 0 ≤ gIdx g := by unfold gIdx; omega
 have eb : 10 * g.node + 2 * (g.input / 2) + g.input % 2 = gIdx g := by unfold gIdx; omega
 obtain ⟨r1, r2⟩ := run_cons (by rw [← hf]; exact h.buf (gIdx g) b0 hb1)
 have hso : nx (so (10 * g.node + 2 * (g.input / 2) + g.input % 2)) f = some (aft f) := by rw [eb]; exact r1
 have hDn : nx (dn x.mesh si sa g.node g.port (g.input % 2)) f = some (aft f) := by
  rcases h.own g.node g.port (g.input % 2) ho (by omega) (by omega) with ⟨o1, o2⟩ | ⟨s, o1, o2, o3⟩
  ·rw [o2]
   exact nx_of (fun _ => rfl) (fun hh => by
    rcases hreq with ⟨hh', _⟩ | ⟨_, hj⟩
    ·rw [hh] at hh'; cases hh'
    ·omega)
  ·rcases hreq with ⟨_, hj⟩ | ⟨hh, hj⟩
   ·omega
   ·have h3 := nx_body r1 hh
    rw [hj, eb, h3] at o3
    rw [o1, ← o3]
    exact nx_of (fun h' => by rw [hh] at h'; cases h') (fun _ => rfl)
 have hpop : ∀ b : Int, 0 ≤ b → rl (popB x.bufs g) b = if b = gIdx g then rest else rl x.bufs b := by
  intro b hb
  unfold popB
  rw [rl_setI b0 hb1 b hb, hf]
  rfl
 have hrun : ∀ b : Int, 0 ≤ b → b < (x.bufs.length : Int) → runF (if b = gIdx g then aft f else so b) (rl (popB x.bufs g) b) = some (si b) := by
  intro b hb hb2
  rw [hpop b hb]
  by_cases e : b = gIdx g
  ·rw [if_pos e, if_pos e, e]; exact r2
  ·rw [if_neg e, if_neg e]; exact h.buf b hb hb2
 have g0 : 0 ≤ gAt g := by unfold gAt; omega
 have hown : (pushG n (popN x g) g).owners = x.owners.set (gAt g).toNat (gOwn n g) := by unfold pushG popN; split <;> rfl
 have hgo : gOwn n g = if f.tail = true then -1 else g.input / 2 := by unfold gOwn; rw [hmv]
 have hmesh : (pushG n (popN x g) g).mesh = x.mesh := by unfold pushG popN; split <;> rfl
 have hsrc : (pushG n (popN x g) g).srcs = x.srcs := by unfold pushG popN; split <;> rfl
 have how : ∀ a p c : Int, opens x.mesh a p → 0 ≤ c → c ≤ 1 → ownAt (pushG n (popN x g) g) a p c = if a = g.node ∧ p = g.port ∧ c = g.input % 2 then (if f.tail = true then -1 else g.input / 2) else ownAt x a p c := by
  intro a p c hp c0 c1
  have := isNode_iff.1 hp.1
  show ri (pushG n (popN x g) g).owners _ = _
  rw [hown, hgo]
  exact ownAt_set g0 ho1 this.1 hp.2.1 hp.2.2.1 c0 c1 q0 q4
 by_cases h4 : g.port = 4
 ·have eb1 : (pushG n (popN x g) g).bufs = popB x.bufs g := by rw [pushG_bufs, if_pos h4]; rfl
  have ea1 : (pushG n (popN x g) g).arrs = x.arrs.set g.node.toNat (rl x.arrs g.node ++ [f]) := by rw [pushG_arrs, if_pos h4, hmv]; rfl
  have hdn4 : dn x.mesh si sa g.node g.port (g.input % 2) = sa g.node (g.input % 2) := by unfold dn; rw [if_pos h4]
  have e1 : siM n si g f = si := by funext b; simp [siM, h4]
  have e2 : saM sa g f = fun a c => if a = g.node ∧ c = g.input % 2 then aft f else sa a c := by funext a c; simp [saM, h4]
  have hD : ∀ a p c : Int, opens x.mesh a p → 0 ≤ c → c ≤ 1 → dn x.mesh si (fun a c => if a = g.node ∧ c = g.input % 2 then aft f else sa a c) a p c = if a = g.node ∧ p = g.port ∧ c = g.input % 2 then aft f else dn x.mesh si sa a p c := by
   intro a p c hp c0 c1
   have := dn_M (n := n) (si := si) (sa := sa) (f := f) hm hmn ho i0 hp c0 c1
   rwa [e1, e2] at this
  rw [e1, e2]
  unfold soM
  obtain ⟨w1, w2⟩ := own_move (m := x.mesh) ho (by omega) (by omega) (by omega) (by omega) (fun a p c => hor _) h.own h.uniq hso hreq hD how
  refine ⟨fun b hb hb2 => ?_, fun a a0 a1 => ?_, fun a c a0 a1 => ?_, h.loc, ?_, ?_⟩
  ·rw [eb1] at hb2 ⊢
   rw [popB_len] at hb2
   exact hrun b hb hb2
  ·rw [hsrc] at a1 ⊢
   exact h.src a a0 a1
  ·rw [ea1] at a1 ⊢
   rw [List.length_set] at a1
   rw [rl_setI nd'.1 ha a a0]
   by_cases e : a = g.node
   ·rw [if_pos e, clsOnly_snoc, hcls, ← e]
    by_cases ec : g.input % 2 = c
    ·rw [if_pos ec, if_pos ⟨rfl, ec.symm⟩, run_snoc f _ _ _ (h.arr a c a0 a1)]
     rw [hdn4, ← e, ec] at hDn
     exact hDn
    ·rw [if_neg ec, if_neg (fun e2 => ec e2.2.symm)]
     exact h.arr a c a0 a1
   ·rw [if_neg e, if_neg (fun e2 => e e2.1)]
    exact h.arr a c a0 a1
  ·rw [hmesh]
   intro a p c hp c0 c1
   have := w1 a p c hp c0 c1
   rwa [eb] at this
  ·rw [hmesh]
   exact w2
 ·obtain ⟨t0, t1⟩ := ht h4
  have eT : gTo n g = 10 * nextNode x.mesh.g g.node g.port + 2 * opposite g.port + g.input % 2 := by unfold gTo behindI; rw [hmn]
  have eb1 : (pushG n (popN x g) g).bufs = addB (popB x.bufs g) (gTo n g) f := by rw [pushG_bufs, if_neg h4, hmv]; rfl
  have ea1 : (pushG n (popN x g) g).arrs = x.arrs := by rw [pushG_arrs, if_neg h4]; rfl
  have hdn4 : dn x.mesh si sa g.node g.port (g.input % 2) = si (gTo n g) := by unfold dn; rw [if_neg h4, eT]
  have hopp := opp_eq (p := g.port) q0 (by omega)
  have e1 : siM n si g f = fun b => if b = gTo n g then aft f else si b := by funext b; simp [siM, h4]
  have e2 : saM sa g f = sa := by funext a c; simp [saM, h4]
  have hD : ∀ a p c : Int, opens x.mesh a p → 0 ≤ c → c ≤ 1 → dn x.mesh (fun b => if b = gTo n g then aft f else si b) sa a p c = if a = g.node ∧ p = g.port ∧ c = g.input % 2 then aft f else dn x.mesh si sa a p c := by
   intro a p c hp c0 c1
   have := dn_M (n := n) (si := si) (sa := sa) (f := f) hm hmn ho i0 hp c0 c1
   rwa [e1, e2] at this
  rw [e1, e2]
  unfold soM
  obtain ⟨w1, w2⟩ := own_move (m := x.mesh) ho (by omega) (by omega) (by omega) (by omega) (fun a p c => hor _) h.own h.uniq hso hreq hD how
  refine ⟨fun b hb hb2 => ?_, fun a a0 a1 => ?_, fun a c a0 a1 => ?_, fun a c a0 c0 c1 => ?_, ?_, ?_⟩
  ·rw [eb1] at hb2 ⊢
   rw [addB_len, popB_len] at hb2
   have h5 := hrun b hb hb2
   unfold addB
   rw [rl_setI t0 (by rw [popB_len]; exact t1) b hb]
   by_cases e : b = gTo n g
   ·rw [if_pos e, if_pos e]
    rw [e] at h5 ⊢
    rw [run_snoc f _ _ _ h5]
    rw [hdn4] at hDn
    exact hDn
   ·rw [if_neg e, if_neg e]
    exact h5
  ·rw [hsrc] at a1 ⊢
   exact h.src a a0 a1
  ·rw [ea1] at a1 ⊢
   exact h.arr a c a0 a1
  ·rw [if_neg (by omega)]
   exact h.loc a c a0 c0 c1
  ·rw [hmesh]
   intro a p c hp c0 c1
   have := w1 a p c hp c0 c1
   rwa [eb] at this
  ·rw [hmesh]
   exact w2
theorem gAt_ne {g h : Grant} (hg : GLt g h) (g1 : 0 ≤ g.port ∧ g.port ≤ 4) (h1 : 0 ≤ h.port ∧ h.port ≤ 4) : gAt h ≠ gAt g := by
  unfold gAt
  rcases hg with h2 | ⟨h2, h3, _⟩ <;> omega
structure Mv (n x : Net) (g : Grant) (rest : List Flit) : Prop where
  ok : netOk n = true
  mem : g ∈ allGrants n
  mesh : x.mesh = n.mesh
  pa : x.pa = n.pa
  pb : x.pb = n.pb
  lb : x.bufs.length = n.bufs.length
  lo : x.owners.length = n.owners.length
  la : x.arrs.length = n.arrs.length
  srcs : x.srcs = n.srcs
  hor : ∀ k : Int, ri x.owners k ≤ 4
  hf : rl x.bufs (gIdx g) = mvF n g :: rest
  own : ownAt x g.node g.port (g.input % 2) = ownAt n g.node g.port (g.input % 2)
structure En (n x : Net) (a : Int) (rest : List Flit) : Prop where
  ok : netOk n = true
  mem : a ∈ enteringN n
  mesh : x.mesh = n.mesh
  pa : x.pa = n.pa
  pb : x.pb = n.pb
  lb : x.bufs.length = n.bufs.length
  ls : x.srcs.length = n.srcs.length
  a0 : 0 ≤ a
  a1 : a < (n.srcs.length : Int)
  hf : rl x.srcs a = rf (rl n.srcs a) 0 :: rest
  hn : 0 < (rl n.srcs a).length
  c0 : 0 ≤ (rf (rl n.srcs a) 0).cls
  c1 : (rf (rl n.srcs a) 0).cls ≤ 1
  t1 : eTo n a < (n.bufs.length : Int)
theorem Mv.one {n x : Net} {g : Grant} {rest : List Flit} (h : Mv n x g rest) : GOne n g := grants_one h.mem
theorem Mv.idx {n x : Net} {g : Grant} {rest : List Flit} (h : Mv n x g rest) : 0 ≤ gIdx g ∧ gIdx g < (n.bufs.length : Int) ∧ 0 ≤ g.node ∧ g.node < (n.arrs.length : Int) ∧ 0 ≤ gAt g ∧ gAt g < (n.owners.length : Int) := by
  have h1 := (h.one.at h.ok).idx
  have h2 := h.one.p0
  have h3 := h.one.p4
  have h4 := h.one.i0
  have h5 := h.one.i9
  unfold gIdx gAt
  omega
theorem Mv.to {n x : Net} {g : Grant} {rest : List Flit} (h : Mv n x g rest) (h4 : ¬ g.port = 4) : 0 ≤ gTo n g ∧ gTo n g < (n.bufs.length : Int) := by
  have := h.one.to h.ok h4
  exact ⟨this.1, this.2.1⟩
theorem specG_bufs {n x : Net} {g : Grant} {rest : List Flit} (h : Mv n x g rest) (b : Int) (hb : 0 ≤ b) : rl (specG n x g).bufs b = (if b = gIdx g then rest else rl x.bufs b) ++ (if g.port ≠ 4 ∧ b = gTo n g then [mvF n g] else []) := by
  obtain ⟨b0, b1, _⟩ := h.idx
  have hpop : rl (popB x.bufs g) b = if b = gIdx g then rest else rl x.bufs b := by
    unfold popB
    rw [rl_setI b0 (by rw [h.lb]; exact b1) b hb, h.hf]
    rfl
  unfold specG
  rw [pushG_bufs]
  by_cases h4 : g.port = 4
  · rw [if_pos h4, if_neg (show ¬ (g.port ≠ 4 ∧ b = gTo n g) from fun e => e.1 h4), List.append_nil]
    exact hpop
  · rw [if_neg h4]
    obtain ⟨t0, t1⟩ := h.to h4
    unfold addB
    show rl ((popB x.bufs g).set _ (rl (popB x.bufs g) _ ++ [_])) _ = _
    rw [rl_setI t0 (by rw [popB_len, h.lb]; exact t1) b hb]
    by_cases e : b = gTo n g
    · rw [if_pos e, if_pos (show g.port ≠ 4 ∧ b = gTo n g from ⟨h4, e⟩), ← e, hpop]
    · rw [if_neg e, if_neg (show ¬ (g.port ≠ 4 ∧ b = gTo n g) from fun e2 => e e2.2), List.append_nil]
      exact hpop
theorem specG_rest (n x : Net) (g : Grant) : (specG n x g).mesh = x.mesh ∧ (specG n x g).pa = x.pa ∧ (specG n x g).pb = x.pb ∧ (specG n x g).srcs = x.srcs ∧ (specG n x g).bufs.length = x.bufs.length ∧ (specG n x g).arrs.length = x.arrs.length ∧ (specG n x g).owners = x.owners.set (gAt g).toNat (gOwn n g) := by
  unfold specG
  refine ⟨?_, ?_, ?_, ?_, ?_, ?_, ?_⟩
  · unfold pushG popN; split <;> rfl
  · unfold pushG popN; split <;> rfl
  · unfold pushG popN; split <;> rfl
  · unfold pushG popN; split <;> rfl
  · rw [pushG_len]; exact popB_len _ _
  · rw [pushG_arrs]; split
    · rw [List.length_set]; rfl
    · rfl
  · unfold pushG popN; split <;> rfl
theorem enterB_bufs {n x : Net} {a : Int} {rest : List Flit} (h : En n x a rest) (b : Int) (hb : 0 ≤ b) : rl (enterB n x a).bufs b = rl x.bufs b ++ (if b = eTo n a then [rf (rl n.srcs a) 0] else []) := by
  have t0 : 0 ≤ eTo n a := by have := h.a0; have := h.c0; unfold eTo; omega
  show rl (x.bufs.set _ (rl x.bufs _ ++ [_])) _ = _
  rw [rl_setI t0 (by rw [h.lb]; exact h.t1) b hb]
  by_cases e : b = eTo n a
  · rw [if_pos e, if_pos e, e]
  · rw [if_neg e, if_neg e, List.append_nil]
theorem enterB_src {n x : Net} {a : Int} {rest : List Flit} (h : En n x a rest) (y : Int) (hy : 0 ≤ y) : rl (enterB n x a).srcs y = if y = a then rest else rl x.srcs y := by
  show rl (x.srcs.set a.toNat ((rl x.srcs a).drop 1)) y = _
  rw [rl_setI h.a0 (by rw [h.ls]; exact h.a1) y hy, h.hf]
  rfl
theorem grants_go {n : Net} (ok : netOk n = true) (P : List Grant → Net → Prop)
    (hs : ∀ gs g x rest, (∃ r, allGrants n = gs ++ g :: r) → Mv n x g rest → P gs x → P (gs ++ [g]) (specG n x g)) :
    ∀ (gs pre : List Grant) (x : Net), allGrants n = pre ++ gs → P pre x → x.mesh = n.mesh → x.pa = n.pa → x.pb = n.pb → x.bufs.length = n.bufs.length → x.owners.length = n.owners.length → x.arrs.length = n.arrs.length → x.srcs = n.srcs → (∀ k : Int, ri x.owners k ≤ 4) →
    gs.Pairwise GLt → (gs.map gIdx).Nodup → (∀ g ∈ gs, (∃ rest, rl x.bufs (gIdx g) = mvF n g :: rest) ∧ ownAt x g.node g.port (g.input % 2) = ownAt n g.node g.port (g.input % 2)) → P (allGrants n) (specL n x gs) := by
  intro gs
  induction gs with
  | nil =>
    intro pre x e h _ _ _ _ _ _ _ _ _ _ _
    rw [List.append_nil] at e
    rw [e]
    exact h
  | cons g gs ih =>
    intro pre x e h hm hpa hpb hb ho ha hsr hor hp hn hx
    obtain ⟨⟨rest, hf⟩, hown⟩ := hx g (by simp)
    have M : Mv n x g rest := ⟨ok, by rw [e]; simp, hm, hpa, hpb, hb, ho, ha, hsr, hor, hf, hown⟩
    obtain ⟨r1, r2, r3, r4, r5, r6, r7⟩ := specG_rest n x g
    obtain ⟨b0, b1, n0, n1, g0, g1⟩ := M.idx
    have hp' := List.pairwise_cons.1 hp
    simp only [List.map_cons, List.nodup_cons] at hn
    have one := M.one
    have hgo : gOwn n g ≤ 4 := by have := one.i9; unfold gOwn; split <;> omega
    have go : gAt g < (x.owners.length : Int) := by rw [ho]; exact g1
    show P (allGrants n) (specL n (specG n x g) gs)
    refine ih (pre ++ [g]) _ (by rw [e]; simp) (hs pre g x rest ⟨gs, e⟩ M h) (r1.trans hm) (r2.trans hpa) (r3.trans hpb) (r5.trans hb) (by rw [r7, List.length_set]; exact ho) (r6.trans ha) (r4.trans hsr) (fun k => ?_) hp'.2 hn.2 (fun y hy => ?_)
    · rw [r7]
      by_cases hk : 0 ≤ k
      · rw [ri_setI g0 go k hk]
        split
        · exact hgo
        · exact hor k
      · have e : ∀ l : List Int, ri l k = ri l 0 := fun l => by unfold ri; rw [show k.toNat = (0 : Int).toNat by omega]
        rw [e, ri_setI g0 go 0 (by omega)]
        split
        · exact hgo
        · exact hor 0
    · have y1 : GOne n y := grants_one (by rw [e]; simp [hy])
      obtain ⟨⟨r2, hr2⟩, ho2⟩ := hx y (by simp [hy])
      have hne : gIdx y ≠ gIdx g := fun e => hn.1 (by rw [← e]; exact List.mem_map_of_mem hy)
      have y0 : 0 ≤ gIdx y := by have := (y1.at ok).idx; unfold gIdx; exact this.2.2.1
      constructor
      · rw [specG_bufs M _ y0, if_neg hne, hr2]
        exact ⟨_, List.cons_append ..⟩
      · rw [← ho2]
        unfold ownAt
        rw [r7, ri_setI g0 go _ (by have := isNode_iff.1 y1.nd; have := y1.p0; have := y1.i0; omega), if_neg]
        exact gAt_ne (hp'.1 y hy) ⟨one.p0, one.p4⟩ ⟨y1.p0, y1.p4⟩
theorem grants_ind {n : Net} (ok : netOk n = true) (P : List Grant → Net → Prop) (h0 : P [] n)
    (hs : ∀ gs g x rest, (∃ r, allGrants n = gs ++ g :: r) → Mv n x g rest → P gs x → P (gs ++ [g]) (specG n x g)) : P (allGrants n) (afterPush n) := by
  have hok := grants_GsOk ok
  obtain ⟨_, _, _, _, _, _, _, _, hw, _⟩ := netOk_parts ok
  have h1 := grants_go ok P hs (allGrants n) [] n rfl h0 rfl rfl rfl rfl rfl rfl rfl (fun k => by
    by_cases hk : k.toNat < n.owners.length
    · have := inside_iff.1 (hw k.toNat hk)
      have e : ri n.owners k = ri n.owners ((k.toNat : Nat) : Int) := by unfold ri; rw [Int.toNat_natCast]
      rw [e]; exact this.2
    · have e : ri n.owners k = 0 := by simp [ri, List.getD_eq_getElem?_getD, hk]
      rw [e]; omega) (grants_pw n) hok.nodup (fun g hg => ⟨by
        have := hok.full g hg
        cases hl : rl n.bufs (gIdx g) with
        | nil => exact absurd hl this
        | cons f r => exact ⟨r, by unfold mvF; rw [hl]; rfl⟩, rfl⟩)
  rw [specStep ok] at h1
  exact h1
theorem enters_go {n : Net} (ok : netOk n = true) (Q : List Int → Net → Prop)
    (hs : ∀ ks a x rest, (∃ r, enteringN n = ks ++ a :: r) → En n x a rest → Q ks x → Q (ks ++ [a]) (enterB n x a)) :
    ∀ (ks pre : List Int) (x : Net), enteringN n = pre ++ ks → Q pre x → x.mesh = n.mesh → x.pa = n.pa → x.pb = n.pb → x.bufs.length = n.bufs.length → x.srcs.length = n.srcs.length → ks.Pairwise (· < ·) →
    (∀ a ∈ ks, ∃ rest, rl x.srcs a = rf (rl n.srcs a) 0 :: rest) → Q (enteringN n) (enterL n x ks) := by
  intro ks
  induction ks with
  | nil =>
    intro pre x e h _ _ _ _ _ _ _
    rw [List.append_nil] at e
    rw [e]
    exact h
  | cons a ks ih =>
    intro pre x e h hm hpa hpb hb hsl hp hx
    obtain ⟨rest, hf⟩ := hx a (by simp)
    obtain ⟨i, hai, hi, hl, e1, e2, e3⟩ := enter_in ok a (by rw [e]; simp)
    have hc : 0 ≤ (rf (rl n.srcs a) 0).cls ∧ (rf (rl n.srcs a) 0).cls ≤ 1 := by unfold eTo at e1 e2; omega
    have E : En n x a rest := ⟨ok, by rw [e]; simp, hm, hpa, hpb, hb, hsl, by omega, by omega, hf, hl, hc.1, hc.2, e3⟩
    rw [List.pairwise_cons] at hp
    show Q (enteringN n) (enterL n (enterB n x a) ks)
    refine ih (pre ++ [a]) _ (by rw [e]; simp) (hs pre a x rest ⟨ks, e⟩ E h) hm hpa hpb (by show (x.bufs.set _ _).length = _; rw [List.length_set]; exact hb) (by show (x.srcs.set _ _).length = _; rw [List.length_set]; exact hsl) hp.2 (fun y hy => ?_)
    obtain ⟨j, hyj, _⟩ := enter_in ok y (by rw [e]; simp [hy])
    obtain ⟨r, hr⟩ := hx y (by simp [hy])
    have hlt := hp.1 y hy
    rw [enterB_src E y (by omega), if_neg (by omega)]
    exact ⟨r, hr⟩
theorem enters_ind {n : Net} (ok : netOk n = true) (Q : List Int → Net → Prop) (h0 : Q [] (afterPush n))
    (hs : ∀ ks a x rest, (∃ r, enteringN n = ks ++ a :: r) → En n x a rest → Q ks x → Q (ks ++ [a]) (enterB n x a)) : Q (enteringN n) (enterL n (afterPush n) (enteringN n)) := by
  have h2 := pushL_same n (allGrants n) (afterPop n)
  have hsr : (afterPush n).srcs = n.srcs := pushL_srcs (allGrants n) (afterPop n)
  refine enters_go ok Q hs (enteringN n) [] _ rfl h0 h2.2.1 h2.2.2.1 h2.2.2.2 (afterPush_len n) (by rw [hsr]) (enterTo_spec n n.srcs.length).2 (fun a ha => ?_)
  obtain ⟨i, rfl, hi, hl, _⟩ := enter_in ok a ha
  rw [hsr]
  cases hl2 : rl n.srcs (i : Int) with
  | nil => rw [hl2] at hl; simp at hl
  | cons f r => exact ⟨r, rfl⟩
theorem step_ind {n : Net} (ok : netOk n = true) (P : Net → Prop) (h0 : P n) (hg : ∀ g x rest, Mv n x g rest → P x → P (specG n x g)) (he : ∀ a x rest, En n x a rest → P x → P (enterB n x a)) (ht : ∀ (x : Net) (t : Int), P x → P { x with time := t }) : P (stepN n) := by
  have h1 : P (afterPush n) := grants_ind ok (fun _ x => P x) h0 (fun gs g x rest _ M h => hg g x rest M h)
  have h2 : P (enterL n (afterPush n) (enteringN n)) := enters_ind ok (fun _ x => P x) h1 (fun ks a x rest _ E h => he a x rest E h)
  exact ht _ _ h2
theorem grid_cases {g : Grid} (h : gridOk g = true) : ∃ w h : Nat, w < 4 ∧ h < 4 ∧ g = ⟨(w : Int) + 1, (h : Int) + 1⟩ := by
  simp only [gridOk, inside, Bool.and_eq_true, decide_eq_true_eq] at h
  obtain ⟨⟨w1, w4⟩, h1, h4⟩ := h
  obtain ⟨w, h⟩ := g
  dsimp only at w1 w4 h1 h4
  refine ⟨(w - 1).toNat, (h - 1).toNat, by omega, by omega, ?_⟩
  rw [Int.toNat_of_nonneg (by omega), Int.toNat_of_nonneg (by omega)]
  congr 1 <;> omega
theorem isNode_ok {g : Grid} {a : Int} (ha : isNode g a = true) : gridOk g = true ∧ 0 ≤ a ∧ a < 16 := by
  have h1 := isNode_iff.1 ha
  have h2 := count_le g
  refine ⟨?_, by omega, by omega⟩
  cases h : gridOk g
  · unfold nodeCount at h1
    rw [h] at h1
    simp at h1
    omega
  · rfl
def geoB (g : Grid) (a p : Int) : Bool := !(isNode g a && decide (0 ≤ nextNode g a p)) || (isNode g (nextNode g a p) && decide (nextNode g (nextNode g a p) (opposite p) = a) && decide (opposite (opposite p) = p) && decide (nextNode g a p ≠ a) && decide (0 ≤ opposite p ∧ opposite p ≤ 3))
set_option maxRecDepth 100000 in
theorem geo_all : (allI 4 fun w => allI 4 fun h => allI 16 fun a => allI 4 fun p => geoB ⟨(w : Int) + 1, (h : Int) + 1⟩ (a : Int) (p : Int)) = true := by decide +kernel
theorem geo {g : Grid} {a p : Int} (p0 : 0 ≤ p) (p3 : p ≤ 3) (ha : isNode g a = true) (h0 : 0 ≤ nextNode g a p) : isNode g (nextNode g a p) = true ∧ nextNode g (nextNode g a p) (opposite p) = a ∧ opposite (opposite p) = p ∧ nextNode g a p ≠ a ∧ 0 ≤ opposite p ∧ opposite p ≤ 3 := by
  obtain ⟨hg, a0, a1⟩ := isNode_ok ha
  obtain ⟨w, h, hw, hh, rfl⟩ := grid_cases hg
  have := allI_iff.1 (allI_iff.1 (allI_iff.1 (allI_iff.1 geo_all w hw) h hh) a.toNat (by omega)) p.toNat (by omega)
  rw [Int.toNat_of_nonneg a0, Int.toNat_of_nonneg p0] at this
  unfold geoB at this
  rw [ha, decide_eq_true h0] at this
  simpa [and_assoc] using this
def seM (n : Net) (si : Int → FS) (a : Int) (f : Flit) : Int → FS := fun b => if b = eTo n a then aft f else si b
def ssM (ss : Int → FS) (a : Int) (f : Flit) : Int → FS := fun y => if y = a then aft f else ss y
theorem dn_E {n : Net} {m : Mesh} {si : Int → FS} {sa : Int → Int → FS} {a : Int} {f : Flit} {y p c : Int} (hp : opens m y p) (k0 : 0 ≤ c) (k1 : c ≤ 1) (eT : eTo n a = 10 * a + 8 + f.cls) (c0 : 0 ≤ f.cls) (c1 : f.cls ≤ 1) : dn m (seM n si a f) sa y p c = dn m si sa y p c := by
  unfold dn seM
  by_cases e4 : p = 4
  · rw [if_pos e4, if_pos e4]
  · rw [if_neg e4, if_neg e4]
    have := opp_eq (p := p) hp.2.1 (by have := hp.2.2.1; omega)
    rw [if_neg (by omega)]
theorem WI_enter {n x : Net} {so si : Int → FS} {ss : Int → FS} {sa : Int → Int → FS} (h : WI x so si ss sa) {a : Int} {f : Flit} {rest : List Flit} (a0 : 0 ≤ a) (a1 : a < (x.srcs.length : Int))
    (hf : rl x.srcs a = f :: rest) (hfn : rf (rl n.srcs a) 0 = f) (c0 : 0 ≤ f.cls) (c1 : f.cls ≤ 1) (ht : eTo n a < (x.bufs.length : Int)) : WI (enterB n x a) so (seM n si a f) (ssM ss a f) sa := by
  have eT : eTo n a = 10 * a + 8 + f.cls := by unfold eTo; rw [hfn]
  obtain ⟨r1, r2⟩ := run_cons (by rw [← hf]; exact h.src a a0 a1)
  have hl := h.loc a f.cls a0 c0 c1
  have hsi : nx (si (eTo n a)) f = some (aft f) := by
    rw [eT, hl]
    refine nx_of (fun hh => ?_) (fun hh => ?_)
    · rw [nx_head r1 hh]; rfl
    · rw [nx_body r1 hh]
      simp [lcl, fid]
  refine ⟨fun b hb hb2 => ?_, fun y y0 y1 => ?_, h.arr, fun y c y0 k0 k1 => ?_, fun y p c hp k0 k1 => ?_, h.uniq⟩
  · unfold seM
    have e1 : (enterB n x a).bufs = x.bufs.set (eTo n a).toNat (rl x.bufs (eTo n a) ++ [f]) := by unfold enterB; rw [hfn]
    rw [e1] at hb2 ⊢
    rw [List.length_set] at hb2
    rw [rl_setI (by omega) ht b hb]
    have h5 := h.buf b hb hb2
    by_cases e : b = eTo n a
    · rw [if_pos e, if_pos e]
      rw [e] at h5 ⊢
      rw [run_snoc f _ _ _ h5]
      exact hsi
    · rw [if_neg e, if_neg e]
      exact h5
  · unfold ssM
    have e1 : (enterB n x a).srcs = x.srcs.set a.toNat ((rl x.srcs a).drop 1) := rfl
    rw [e1] at y1 ⊢
    rw [List.length_set] at y1
    rw [rl_setI a0 a1 y y0]
    by_cases e : y = a
    · rw [if_pos e, if_pos e, hf]
      exact r2
    · rw [if_neg e, if_neg e]
      exact h.src y y0 y1
  · unfold seM ssM
    have hy := h.loc y c y0 k0 k1
    by_cases e : y = a
    · rw [if_pos e]
      subst e
      by_cases ec : c = f.cls
      · rw [if_pos (by omega)]
        unfold aft
        cases ht2 : f.tail
        · simp [lcl, fid, ec]
        · simp [lcl]
      · rw [if_neg (by omega), hy]
        have en : ¬ f.cls = c := fun e2 => ec e2.symm
        have h1 : lcl (ss y) c = none := by
          cases hh : f.head
          · rw [nx_body r1 hh]
            simp [lcl, fid, en]
          · rw [nx_head r1 hh]
            rfl
        rw [h1]
        unfold aft
        cases ht2 : f.tail
        · simp [lcl, fid, en]
        · simp [lcl]
    · rw [if_neg e, if_neg (by omega)]
      exact hy
  · have e2 : (enterB n x a).mesh = x.mesh := rfl
    rw [e2] at hp ⊢
    rw [dn_E hp k0 k1 eT c0 c1]
    exact h.own y p c hp k0 k1
structure WX (n : Net) (so si : Int → FS) (sa : Int → Int → FS) : Prop where
  cv : ∀ (a j c : Int) t, 0 ≤ j → j ≤ 4 → 0 ≤ c → c ≤ 1 → so (10 * a + 2 * j + c) = some t → ∃ p, opens n.mesh a p ∧ ownAt n a p c = j
  dr : ∀ (a p c : Int) t, opens n.mesh a p → 0 ≤ c → c ≤ 1 → dn n.mesh si sa a p c = some t → entry n.mesh (tabOf n.pa n.pb c) a t.2.1 = p ∧ isNode n.mesh.g t.2.1 = true
  cl : ∀ (a p c : Int), isNode n.mesh.g a = true → 0 ≤ p → p ≤ 4 → 0 ≤ c → c ≤ 1 → ownAt n a p c ≠ -1 → opens n.mesh a p
  bd : ∀ (a q c : Int), isNode n.mesh.g a = true → 0 ≤ q → q ≤ 3 → 0 ≤ c → c ≤ 1 → si (10 * a + 2 * q + c) ≠ none → isNode n.mesh.g (nextNode n.mesh.g a q) = true ∧ live n.mesh (4 * nextNode n.mesh.g a q + opposite q) = true
def WE (n : Net) : Prop := ∃ so si ss sa, WI n so si ss sa ∧ WX n so si sa
theorem Mv.opens {n x : Net} {g : Grant} {rest : List Flit} (M : Mv n x g rest) : NoC.opens x.mesh g.node g.port := by
  refine ⟨by rw [M.mesh]; exact M.one.nd, M.one.p0, M.one.p4, ?_⟩
  by_cases h4 : g.port = 4
  · exact .inl h4
  · exact .inr (by rw [M.mesh]; exact (M.one.live h4).1)
theorem Mv.req {n x : Net} {g : Grant} {rest : List Flit} (M : Mv n x g rest) : ((mvF n g).head = true ∧ ownAt x g.node g.port (g.input % 2) = -1) ∨ ((mvF n g).head = false ∧ ownAt x g.node g.port (g.input % 2) = g.input / 2) := by
  rw [M.own]
  have hr := M.one.req
  unfold requestN at hr
  rw [Bool.and_eq_true, Bool.and_eq_true] at hr
  have h2 := hr.2
  have e : rf (bufOf n g.node g.input) 0 = mvF n g := rfl
  rw [e] at h2
  cases hh : (mvF n g).head
  · rw [if_neg (by simp [hh])] at h2
    exact .inr ⟨rfl, by simpa using h2⟩
  · rw [if_pos hh] at h2
    exact .inl ⟨rfl, by simpa using h2⟩
theorem Mv.head {n x : Net} {g : Grant} {rest : List Flit} (M : Mv n x g rest) (hh : (mvF n g).head = true) : entry n.mesh (tabOf n.pa n.pb (g.input % 2)) g.node (mvF n g).dst = g.port := by
  have h1 := M.one.wants.1
  have h2 := M.one.full
  rw [wanted_2 (a := g.node) (i := g.input) h2 hh] at h1
  exact h1
theorem WI_mv {n x : Net} {so si : Int → FS} {ss : Int → FS} {sa : Int → Int → FS} {g : Grant} {rest : List Flit} (M : Mv n x g rest) (h : WI x so si ss sa) : WI (specG n x g) (soM so g (mvF n g)) (siM n si g (mvF n g)) ss (saM sa g (mvF n g)) := by
  have hidx := M.idx
  have one := M.one
  have hmk := ok_mesh M.ok
  refine WI_move (n := n) h (by rw [M.mesh]; exact hmk) M.mesh.symm M.opens one.i0 one.i9 (by rw [M.lb]; exact hidx.2.1) (by rw [M.lo]; exact hidx.2.2.2.2.2) (by rw [M.la]; exact hidx.2.2.2.1) (fun h4 => ?_) M.hor M.hf rfl M.req (flit_of M.ok one).1
  rw [M.lb]
  exact M.to h4
theorem WX_mv {n x : Net} {so si : Int → FS} {ss : Int → FS} {sa : Int → Int → FS} {g : Grant} {rest : List Flit} (M : Mv n x g rest) (h : WI x so si ss sa) (hx : WX x so si sa) : WX (specG n x g) (soM so g (mvF n g)) (siM n si g (mvF n g)) (saM sa g (mvF n g)) := by
 obtain ⟨r1, r2, r3, r4, r5, r6, r7⟩ := specG_rest n x g
 obtain ⟨b0, b1, n0, n1, g0, g1⟩ := M.idx
 have one := M.one
 have i0 := one.i0; have i9 := one.i9; have q0 := one.p0; have q4 := one.p4
 have hmk : meshOk x.mesh = true := by rw [M.mesh]; exact ok_mesh M.ok
 have hop := M.opens
 have hgo : gOwn n g = if (mvF n g).tail = true then -1 else g.input / 2 := rfl
 have how : ∀ a p c : Int, 0 ≤ a → 0 ≤ p → p ≤ 4 → 0 ≤ c → c ≤ 1 → ownAt (specG n x g) a p c = if a = g.node ∧ p = g.port ∧ c = g.input % 2 then gOwn n g else ownAt x a p c := by
  intro a p c a0 p0 p4 c0 c1
  show ri (specG n x g).owners _ = _
  rw [r7]
  exact ownAt_set g0 (by rw [M.lo]; exact g1) a0 p0 p4 c0 c1 q0 q4
 have hn0 : isNode x.mesh.g g.node = true := by rw [M.mesh]; exact one.nd
 refine ⟨fun a j c t j0 j4 c0 c1 e => ?_, fun a p c t hp c0 c1 e => ?_, fun a p c ha p0 p4 c0 c1 e => ?_, fun a q c ha p0 p3 c0 c1 e => ?_⟩
 ·rw [r1]
  unfold soM at e
  by_cases eb : 10 * a + 2 * j + c = gIdx g
  ·rw [if_pos eb] at e
   have ea : a = g.node ∧ j = g.input / 2 ∧ c = g.input % 2 := by unfold gIdx at eb; omega
   refine ⟨g.port, by rw [ea.1]; exact hop, ?_⟩
   rw [how a g.port c (by omega) q0 q4 c0 c1, if_pos ⟨ea.1, rfl, ea.2.2⟩, hgo, ea.2.1]
   unfold aft at e
   split at e
   ·cases e
   ·rename_i ht; rw [if_neg ht]
  ·rw [if_neg eb] at e
   obtain ⟨p, hp, hj⟩ := hx.cv a j c t j0 j4 c0 c1 e
   refine ⟨p, hp, ?_⟩
   have := isNode_iff.1 hp.1
   rw [how a p c this.1 hp.2.1 hp.2.2.1 c0 c1, if_neg, hj]
   intro e2
   apply eb
   rcases M.req with ⟨_, h2⟩ | ⟨_, h2⟩
   ·rw [← e2.1, ← e2.2.1, ← e2.2.2, hj] at h2; omega
   ·rw [← e2.1, ← e2.2.1, ← e2.2.2, hj] at h2
    unfold gIdx; omega
 ·rw [r1] at hp e
  rw [r1, r2, r3]
  rw [dn_M hmk M.mesh.symm hop i0 hp c0 c1] at e
  by_cases e2 : a = g.node ∧ p = g.port ∧ c = g.input % 2
  ·rw [if_pos e2] at e
   have et : t = fid (mvF n g) := by
    unfold aft at e
    split at e
    ·cases e
    ·exact (Option.some.inj e).symm
   have hfl := (flit_of M.ok one).2
   unfold flitOk at hfl
   rw [Bool.and_eq_true] at hfl
   refine ⟨?_, by rw [et, M.mesh]; exact hfl.1⟩
   cases hh : (mvF n g).head
   ·obtain ⟨k1, k2⟩ := run_cons (by rw [← M.hf]; exact h.buf (gIdx g) b0 (by rw [M.lb]; exact b1))
    have h3 := nx_body k1 hh
    have hown : ownAt x g.node g.port (g.input % 2) = g.input / 2 := by
     rcases M.req with ⟨h4, _⟩ | ⟨_, h4⟩
     ·rw [hh] at h4; cases h4
     ·exact h4
    rcases h.own g.node g.port (g.input % 2) hop (by omega) (by omega) with ⟨o1, o2⟩ | ⟨s, o1, o2, o3⟩
    ·omega
    ·rw [hown, show 10 * g.node + 2 * (g.input / 2) + g.input % 2 = gIdx g by unfold gIdx; omega, h3] at o3
     refine (hx.dr a p c t hp c0 c1 ?_).1
     rw [e2.1, e2.2.1, e2.2.2, o1, ← o3, et]
   ·have := M.head hh
    rw [et, M.mesh, M.pa, M.pb, e2.1, e2.2.1, e2.2.2]
    exact this
  ·rw [if_neg e2] at e
   exact hx.dr a p c t hp c0 c1 e
 ·rw [r1] at ha ⊢
  rw [how a p c (isNode_iff.1 ha).1 p0 p4 c0 c1] at e
  by_cases e2 : a = g.node ∧ p = g.port ∧ c = g.input % 2
  ·rw [e2.1, e2.2.1]; exact hop
  ·rw [if_neg e2] at e
   exact hx.cl a p c ha p0 p4 c0 c1 e
 ·rw [r1] at ha ⊢
  unfold siM at e
  by_cases e2 : g.port ≠ 4 ∧ 10 * a + 2 * q + c = gTo n g
  ·have hl := (one.to M.ok e2.1)
   obtain ⟨t0, t1, t2, t3, t4, t5, t6⟩ := hl
   have eq := opp_eq (p := g.port) q0 (by have := e2.1; omega)
   have ea : a = nextNode n.mesh.g g.node g.port ∧ q = opposite g.port ∧ c = g.input % 2 := by have := e2.2; omega
   have hgeo := geo (g := n.mesh.g) q0 (by have := e2.1; omega) one.nd t3
   rw [M.mesh, ea.1, ea.2.1, hgeo.2.1, hgeo.2.2.1]
   exact ⟨one.nd, (one.live e2.1).1⟩
  ·rw [if_neg e2] at e
   exact hx.bd a q c ha p0 p3 c0 c1 e
theorem WE_step {n : Net} (ok : netOk n = true) (h : WE n) : WE (stepN n) := by
  refine step_ind ok WE h (fun g x rest M hw => ?_) (fun a x rest E hw => ?_) (fun x t hw => ?_)
  · obtain ⟨so, si, ss, sa, hw, hx⟩ := hw
    exact ⟨_, _, _, _, WI_mv M hw, WX_mv M hw hx⟩
  · obtain ⟨so, si, ss, sa, hw, hx⟩ := hw
    refine ⟨_, _, _, _, WI_enter (n := n) hw E.a0 (by rw [E.ls]; exact E.a1) E.hf rfl E.c0 E.c1 (by rw [E.lb]; exact E.t1), ⟨hx.cv, fun y p c t hp c0 c1 e => ?_, hx.cl, fun y q c hy q0 q3 c0 c1 e => ?_⟩⟩
    · have e2 : (enterB n x a).mesh = x.mesh := rfl
      rw [e2] at hp e
      rw [dn_E hp c0 c1 rfl E.c0 E.c1] at e
      exact hx.dr y p c t hp c0 c1 e
    · refine hx.bd y q c hy q0 q3 c0 c1 (fun e2 => e ?_)
      have := E.c0; have := E.c1
      unfold seM
      rw [if_neg (by unfold eTo; omega)]
      exact e2
  · obtain ⟨so, si, ss, sa, hw, hx⟩ := hw
    exact ⟨so, si, ss, sa, ⟨hw.buf, hw.src, hw.arr, hw.loc, hw.own, hw.uniq⟩, ⟨hx.cv, hx.dr, hx.cl, hx.bd⟩⟩
def wk (m : Mesh) (t : List Int) (b : Int) : Nat → Int → Option (List Int)
  | 0, _ => none
  | k + 1, a => if entry m t a b = 4 then (if a = b then some [] else none)
    else if (inside (entry m t a b) 0 3 && live m (4 * a + entry m t a b)) = true then (wk m t b k (nextNode m.g a (entry m t a b))).map (fun l => (4 * a + entry m t a b) :: l)
    else none
theorem walkF_wk (m : Mesh) (t : List Int) (b : Int) : ∀ (k : Nat) (a : Int) (out : List Int), walkF m t b k a out = match wk m t b k a with | none => [] | some l => out ++ l := by
  intro k
  induction k with
  | zero => intro a out; rfl
  | succ k ih =>
    intro a out
    unfold walkF wk
    by_cases h4 : entry m t a b = 4
    · rw [if_pos h4, if_pos h4]
      by_cases e : a = b
      · rw [if_pos e, if_pos e]; simp
      · rw [if_neg e, if_neg e]
    · rw [if_neg h4, if_neg h4]
      by_cases hi : (inside (entry m t a b) 0 3 && live m (4 * a + entry m t a b)) = true
      · rw [if_pos hi, if_pos hi, ih]
        cases wk m t b k (nextNode m.g a (entry m t a b)) <;> simp
      · rw [if_neg hi, if_neg hi]
theorem wk_mono (m : Mesh) (t : List Int) (b : Int) : ∀ (k : Nat) (a : Int) (l : List Int), wk m t b k a = some l → wk m t b (k + 1) a = some l := by
  intro k
  induction k with
  | zero => intro a l h; cases h
  | succ k ih =>
    intro a l h
    unfold wk at h ⊢
    by_cases h4 : entry m t a b = 4
    · rw [if_pos h4] at h ⊢; exact h
    · rw [if_neg h4] at h ⊢
      by_cases hi : (inside (entry m t a b) 0 3 && live m (4 * a + entry m t a b)) = true
      · rw [if_pos hi] at h ⊢
        cases e : wk m t b k (nextNode m.g a (entry m t a b)) with
        | none => rw [e] at h; cases h
        | some l' => rw [e] at h; rw [ih _ _ e]; exact h
      · rw [if_neg hi] at h; cases h
theorem wk_len (m : Mesh) (t : List Int) (b : Int) : ∀ (k : Nat) (a : Int) (l : List Int), wk m t b k a = some l → l.length < k := by
  intro k
  induction k with
  | zero => intro a l h; cases h
  | succ k ih =>
    intro a l h
    unfold wk at h
    by_cases h4 : entry m t a b = 4
    · rw [if_pos h4] at h
      split at h
      · cases h; simp
      · cases h
    · rw [if_neg h4] at h
      by_cases hi : (inside (entry m t a b) 0 3 && live m (4 * a + entry m t a b)) = true
      · rw [if_pos hi] at h
        cases e : wk m t b k (nextNode m.g a (entry m t a b)) with
        | none => rw [e] at h; cases h
        | some l' =>
          rw [e] at h
          have := ih _ _ e
          cases h
          simp only [List.length_cons]
          omega
      · rw [if_neg hi] at h; cases h
theorem table_at {m : Mesh} {t : List Int} {a b : Int} (h : tableOk m t = true) (ha : isNode m.g a = true) (hb : isNode m.g b = true) : (a = b → entry m t a a = 4) ∧ (a ≠ b → 0 < (walk m t a b).length) := by
  simp only [tableOk, Bool.and_eq_true] at h
  have ha' := isNode_iff.1 ha
  have hb' := isNode_iff.1 hb
  have h2 := allI_iff.1 (allI_iff.1 h.2 a.toNat (by omega)) b.toNat (by omega)
  rw [Int.toNat_of_nonneg ha'.1, Int.toNat_of_nonneg hb'.1] at h2
  by_cases e : a = b
  · subst e
    rw [if_pos rfl, beq_iff_eq] at h2
    exact ⟨fun _ => h2, fun e => absurd rfl e⟩
  · rw [if_neg (by omega), decide_eq_true_eq] at h2
    exact ⟨fun e2 => absurd e2 e, fun _ => h2⟩
theorem wk_ok {m : Mesh} {t : List Int} {a b : Int} (h : tableOk m t = true) (ha : isNode m.g a = true) (hb : isNode m.g b = true) : wk m t b ((nodeCount m.g).toNat + 1) a = some (walk m t a b) := by
  obtain ⟨h1, h2⟩ := table_at h ha hb
  have hw : walk m t a b = match wk m t b ((nodeCount m.g).toNat + 1) a with | none => [] | some l => [] ++ l := walkF_wk m t b _ a []
  cases e : wk m t b ((nodeCount m.g).toNat + 1) a with
  | none =>
    rw [e] at hw
    by_cases hab : a = b
    · subst hab
      unfold wk at e
      rw [if_pos (h1 rfl), if_pos rfl] at e
      cases e
    · have := h2 hab
      rw [hw] at this
      simp at this
  | some l =>
    rw [e] at hw
    rw [hw]
    simp
structure Hop (m : Mesh) (t : List Int) (a b : Int) : Prop where
  p0 : 0 ≤ entry m t a b
  p3 : entry m t a b ≤ 3
  lv : live m (4 * a + entry m t a b) = true
  nd : isNode m.g (nextNode m.g a (entry m t a b)) = true
  wk : walk m t a b = (4 * a + entry m t a b) :: walk m t (nextNode m.g a (entry m t a b)) b
theorem table_mesh {m : Mesh} {t : List Int} (h : tableOk m t = true) : meshOk m = true := by
  simp only [tableOk, Bool.and_eq_true] at h
  exact (sized_iff.1 h.1).1
theorem hop {m : Mesh} {t : List Int} {a b : Int} (h : tableOk m t = true) (ha : isNode m.g a = true) (hb : isNode m.g b = true) (hne : a ≠ b) : Hop m t a b := by
  have e := wk_ok h ha hb
  have e' := e
  unfold NoC.wk at e
  by_cases h4 : entry m t a b = 4
  · rw [if_pos h4, if_neg hne] at e; cases e
  · rw [if_neg h4] at e
    by_cases hi : (inside (entry m t a b) 0 3 && live m (4 * a + entry m t a b)) = true
    · rw [if_pos hi] at e
      rw [Bool.and_eq_true, inside_iff] at hi
      have nd := next_live hi.1.1 hi.1.2 (table_mesh h) hi.2
      cases e2 : NoC.wk m t b (nodeCount m.g).toNat (nextNode m.g a (entry m t a b)) with
      | none => rw [e2] at e; cases e
      | some l =>
        rw [e2] at e
        have e3 := wk_mono m t b _ _ _ e2
        rw [wk_ok h nd hb] at e3
        refine ⟨hi.1.1, hi.1.2, hi.2, nd, ?_⟩
        have e4 : (4 * a + entry m t a b) :: l = walk m t a b := Option.some.inj e
        rw [← e4, Option.some.inj e3]
    · rw [if_neg hi] at e; cases e
theorem hop_end {m : Mesh} {t : List Int} {a : Int} (h : tableOk m t = true) (ha : isNode m.g a = true) : entry m t a a = 4 ∧ walk m t a a = [] := by
  have h1 := (table_at h ha ha).1 rfl
  refine ⟨h1, ?_⟩
  unfold walk walkF
  rw [if_pos h1, if_pos rfl]
theorem hop_four {m : Mesh} {t : List Int} {a b : Int} (h : tableOk m t = true) (ha : isNode m.g a = true) (hb : isNode m.g b = true) : entry m t a b = 4 ↔ a = b := by
  constructor
  · intro e
    by_cases hne : a = b
    · exact hne
    · have := (hop h ha hb hne).p3
      omega
  · rintro rfl
    exact (hop_end h ha).1
theorem walk_le {m : Mesh} {t : List Int} {a b : Int} (h : tableOk m t = true) (ha : isNode m.g a = true) (hb : isNode m.g b = true) : (walk m t a b).length ≤ 16 := by
  have := wk_len m t b _ _ _ (wk_ok h ha hb)
  have := count_le m.g
  omega
theorem hop_len {m : Mesh} {t : List Int} {a b : Int} (h : tableOk m t = true) (ha : isNode m.g a = true) (hb : isNode m.g b = true) (hne : a ≠ b) : (walk m t a b).length = (walk m t (nextNode m.g a (entry m t a b)) b).length + 1 := by
  rw [(hop h ha hb hne).wk]
  rfl
theorem front {n : Net} {so si : Int → FS} {ss : Int → FS} {sa : Int → Int → FS} (hw : WI n so si ss sa) (hx : WX n so si sa) {a i : Int} (h : At n a i) (h0 : 0 < (bufOf n a i).length) :
    wantedN n a i = entry n.mesh (tabOf n.pa n.pb (i % 2)) a (rf (bufOf n a i) 0).dst ∧ ((rf (bufOf n a i) 0).head = false → ownAt n a (wantedN n a i) (i % 2) = i / 2) ∧ nx (so (10 * a + i)) (rf (bufOf n a i) 0) = some (aft (rf (bufOf n a i) 0)) := by
  have i0 := h.i0; have i9 := h.i9
  obtain ⟨x0, x1, x2, x3, _⟩ := h.idx
  obtain ⟨f, rest, hf⟩ : ∃ f rest, rl n.bufs (10 * a + i) = f :: rest := by
    cases e : rl n.bufs (10 * a + i) with
    | nil => unfold bufOf at h0; rw [e] at h0; simp at h0
    | cons f r => exact ⟨f, r, rfl⟩
  have e0 : rf (bufOf n a i) 0 = f := by unfold bufOf; rw [hf]; rfl
  obtain ⟨r1, _⟩ := run_cons (by rw [← hf]; exact hw.buf (10 * a + i) x2 x3)
  rw [e0]
  have eb : 10 * a + 2 * (i / 2) + i % 2 = 10 * a + i := by omega
  cases hh : f.head
  · have hso := nx_body r1 hh
    obtain ⟨p, hp, hown⟩ := hx.cv a (i / 2) (i % 2) (fid f) (by omega) (by omega) (by omega) (by omega) (by rw [eb]; exact hso)
    obtain ⟨_, p0, p4, _⟩ := id hp
    have hop : ownPort n a i = p := by
      have := ownPort_yes (n := n) (a := a) (i := i) p.toNat (by omega) (by rw [Int.toNat_of_nonneg p0]; exact hown) (fun j hj e => by
        have ho := hx.cl a (j : Int) (i % 2) h.nd (by omega) (by omega) (by omega) (by omega) (by omega)
        have := hw.uniq a (j : Int) p (i % 2) ho hp (by omega) (by omega) (by omega) (by rw [e, hown])
        omega)
      rw [this]; omega
    have hwd : wantedN n a i = p := by rw [wanted_3 h0 (by rw [e0]; exact hh), hop]
    refine ⟨?_, fun _ => by rw [hwd]; exact hown, r1⟩
    rw [hwd]
    rcases hw.own a p (i % 2) hp (by omega) (by omega) with ⟨o1, _⟩ | ⟨s, o1, o2, o3⟩
    · omega
    · rw [hown, eb, hso] at o3
      have := (hx.dr a p (i % 2) s hp (by omega) (by omega) o1).1
      rw [← Option.some.inj o3] at this
      exact this.symm
  · refine ⟨?_, fun e => (by cases e), r1⟩
    have := wanted_2 h0 (by rw [e0]; exact hh)
    rw [e0] at this
    exact this
theorem grant_entry {n : Net} (ok : netOk n = true) (hE : WE n) {g : Grant} (hg : g ∈ allGrants n) : entry n.mesh (tabOf n.pa n.pb (g.input % 2)) g.node (mvF n g).dst = g.port := by
  obtain ⟨so, si, ss, sa, hw, hx⟩ := hE
  have one := grants_one hg
  have := (front hw hx (one.at ok) one.full).1
  rw [one.wants.1] at this
  exact this.symm
theorem requests_of {n : Net} {a i p : Int} (i0 : 0 ≤ i) (i9 : i ≤ 9) (p0 : 0 ≤ p) (p4 : p ≤ 4) (h : requestN n a i p = true) : i ∈ requestsN n a p := by
  unfold requestsN requestsTo
  obtain ⟨k, rfl⟩ : ∃ k : Nat, i = k := ⟨i.toNat, by omega⟩
  refine List.mem_map.2 ⟨k, List.mem_filter.2 ⟨List.mem_range.2 (by omega), ?_⟩, rfl⟩
  rw [reqI_in p0 p4]
  exact h
theorem firstTo_some {l : List Int} {turn : Int} (h : smallL l) : ∀ k, 0 < k → k ≤ l.length → 0 ≤ firstTo l turn k := by
  intro k
  induction k with
  | zero => intro h; omega
  | succ k ih =>
    intro _ hk
    have h2 := h k (by omega)
    rw [firstTo_succ l turn k (by omega)]
    unfold better
    split
    · exact h2.1
    · split
      · exact h2.1
      · omega
theorem gst_keeps (n : Net) (a : Int) : ∀ p : Nat, (gst n a p).2 ≠ [] → (gst n a (p + 1)).2 ≠ [] := by
  intro p h
  rw [gst]
  split
  · simp
  · exact h
theorem grants_some {n : Net} {a i p : Int} (i0 : 0 ≤ i) (i9 : i ≤ 9) (p0 : 0 ≤ p) (p4 : p ≤ 4) (h : requestN n a i p = true) : grantsN n a ≠ [] := by
  intro he
  have back : ∀ k : Nat, k ≤ 5 → (gst n a k).2 = [] := by
    have : ∀ j k : Nat, k + j = 5 → (gst n a k).2 = [] := by
      intro j
      induction j with
      | zero => intro k hk; obtain rfl : k = 5 := (by omega); exact he
      | succ j ih =>
        intro k hk
        have h1 := ih (k + 1) (by omega)
        cases e : (gst n a k).2 with
        | nil => rfl
        | cons x xs => exact absurd h1 (gst_keeps n a k (by rw [e]; simp))
    exact fun k hk => this (5 - k) k (by omega)
  have us : ∀ k : Nat, k ≤ 5 → (gst n a k).1 = [false, false, false, false, false] := by
    intro k
    induction k with
    | zero => intro _; rfl
    | succ k ih =>
      intro hk
      have h1 := back (k + 1) hk
      rw [gst] at h1 ⊢
      split at h1
      · simp at h1
      · rename_i hn
        rw [if_neg hn]
        exact ih (by omega)
  obtain ⟨q, rfl⟩ : ∃ q : Nat, p = q := ⟨p.toNat, by omega⟩
  have h1 := back (q + 1) (by omega)
  rw [gst] at h1
  have hl : i ∈ leftOf n a q (gst n a q).1 := by
    unfold leftOf
    rw [us q (by omega)]
    refine List.mem_filter.2 ⟨requests_of i0 i9 p0 p4 h, ?_⟩
    have : ∀ k : Nat, k ≤ 4 → ([false, false, false, false, false] : List Bool).getD k false = false := by
      intro k hk
      rcases (by omega : k = 0 ∨ k = 1 ∨ k = 2 ∨ k = 3 ∨ k = 4) with rfl | rfl | rfl | rfl | rfl <;> rfl
    unfold keepU usedAt
    rw [this _ (by omega)]
    rfl
  have hp : 0 ≤ pick n a q (gst n a q).1 := firstTo_some (smallL_mem (left_small n a q _)) _ (List.length_pos_of_mem hl) (Nat.le_refl _)
  rw [if_pos hp] at h1
  simp at h1
theorem grants_all {n : Net} {a : Int} (ha : isNode n.mesh.g a = true) {g : Grant} (h : g ∈ grantsN n a) : g ∈ allGrants n := by
  have h1 := isNode_iff.1 ha
  unfold allGrants allTo joinI
  refine List.mem_flatMap.2 ⟨a.toNat, List.mem_range.2 (by omega), ?_⟩
  rw [Int.toNat_of_nonneg h1.1]
  exact h
end NoC
