/- The law FnExactSendPacket answers true for all arguments, and leaves each as it was. No conditions. -/
import Derived.Test.YteeebfeljjghhaaG11
import Derived.Test.YteeebfeljjghhaaG12
import Derived.Test.YteeebfeljjghhaaG13
import Derived.Test.YteeebfeljjghhaaG14
import Derived.Test.YteeebfeljjghhaaG3
import Derived.Test.YteeebfeljjghhaaRows
import Derived.WalkKit
import Derived.ProofKit
import Derived.OpenShut
import Derived.ShutString
import Derived.ChangeOld
import Derived.Below
import Derived.SizedLaws
/- The law FnExactSendPacket, walked: it answers true for all arguments. -/
set_option linter.unusedVariables false
set_option linter.unusedSimpArgs false
namespace Go.Proofs.Yteeebfeljjghhaa
open Go.RowKit Go.Proofs.YteeebfeljjghhaaW.PrintWords
open NoC

set_option maxHeartbeats 16000000 in
set_option maxRecDepth 100000 in
theorem law_SendPacket (n : Net) (p : Packet) (q : NA) (w : World) (hn : NetC w n q) :
  Calls Try.prog 3 #[.agg (netCells n q), .agg #[.int .i64 p.id, .int .i64 p.src, .int .i64 p.dst, .int .i64 p.cls, .int .i64 p.len]] w fun e w' => e = .returned (.bool true) ∧ Below w.heap.size w w' := by
 have HC := Lib.hid hn
 clear hn
 obtain ⟨a1, a2, a3, a4, a5, a6, a7, a8, c1, c2, c3, c4, c5, c6, c7, c8⟩ := q
 obtain ⟨X, hX0⟩ : ∃ X, sendPacketN n p = X := ⟨_, rfl⟩
 obtain ⟨b, hb0⟩ : ∃ b, sendPacketB n p = b := ⟨_, rfl⟩
 have HX := Lib.hid hX0
 have HV := Lib.hid hb0
 clear hX0 hb0
 dsimp only [netCells]
 have B3 : Box ((w.alloc (.cells #[.int .i64 n.mesh.g.w, .int .i64 n.mesh.g.h, .slice a1 n.mesh.br.length c1, .slice a2 n.pa.length c2, .slice a3 n.pb.length c3, .slice a4 n.bufs.length c4, .slice a5 n.owners.length c5, .slice a6 n.turns.length c6, .slice a7 n.srcs.length c7, .slice a8 n.arrs.length c8, .int .i64 n.time] 33)).alloc (.cells #[.int .i64 p.id, .int .i64 p.src, .int .i64 p.dst, .int .i64 p.cls, .int .i64 p.len] 35)) w.heap.size #[.int .i64 n.mesh.g.w, .int .i64 n.mesh.g.h, .slice a1 n.mesh.br.length c1, .slice a2 n.pa.length c2, .slice a3 n.pb.length c3, .slice a4 n.bufs.length c4, .slice a5 n.owners.length c5, .slice a6 n.turns.length c6, .slice a7 n.srcs.length c7, .slice a8 n.arrs.length c8, .int .i64 n.time] := (Box.new w _ _ _ rfl).alloc _
 have B8 : Box ((w.alloc (.cells #[.int .i64 n.mesh.g.w, .int .i64 n.mesh.g.h, .slice a1 n.mesh.br.length c1, .slice a2 n.pa.length c2, .slice a3 n.pb.length c3, .slice a4 n.bufs.length c4, .slice a5 n.owners.length c5, .slice a6 n.turns.length c6, .slice a7 n.srcs.length c7, .slice a8 n.arrs.length c8, .int .i64 n.time] 33)).alloc (.cells #[.int .i64 p.id, .int .i64 p.src, .int .i64 p.dst, .int .i64 p.cls, .int .i64 p.len] 35)) (w.heap.size + 1) #[.int .i64 p.id, .int .i64 p.src, .int .i64 p.dst, .int .i64 p.cls, .int .i64 p.len] := Box.new _ _ _ _ (by simp only [szs])
 have H0 : Below w.heap.size w ((w.alloc (.cells #[.int .i64 n.mesh.g.w, .int .i64 n.mesh.g.h, .slice a1 n.mesh.br.length c1, .slice a2 n.pa.length c2, .slice a3 n.pb.length c3, .slice a4 n.bufs.length c4, .slice a5 n.owners.length c5, .slice a6 n.turns.length c6, .slice a7 n.srcs.length c7, .slice a8 n.arrs.length c8, .int .i64 n.time] 33)).alloc (.cells #[.int .i64 p.id, .int .i64 p.src, .int .i64 p.dst, .int .i64 p.cls, .int .i64 p.len] 35)) := bw_alloc _ (bw_alloc _ (bw_refl w))
 obtain ⟨y3, g3⟩ := B3
 obtain ⟨y8, g8⟩ := B8
 go_enter Try.func3, Try.ntmps3
 go_wp2_with fail
 refine (laws_szNet n _ 1048576 _ (HC.out.below H0) (by omega) (by omega)).mono ?_
 rintro e wa ⟨r, rfl, rlo, rhi, KBX0, hb1⟩
 have sA := bw_size hb1
 simp only [szs] at sA
 replace H0 := bw_then H0 hb1
 have B3 := Box.below ⟨y3, g3⟩ hb1
 clear y3 g3
 obtain ⟨y3, g3⟩ := B3
 have B8 := Box.below ⟨y8, g8⟩ hb1
 clear y8 g8
 obtain ⟨y8, g8⟩ := B8
 clear hb1
 by_cases hneg : r < 0
 ·go_wp2
  go_ret
  exact ⟨rfl, H0⟩
 have R := Lib.hid (HC.out.bound (KBX0.out (by omega)).1)
 have HA : Hid (∀ l ∈ n.arrs, l.length ≤ 1048576) := Lib.hid (fun l hl => by have := (KBX0.out (by omega)).2 l hl; omega)
 have NBX : Hid (NB X) := Lib.hid (by rw [← HX.out]; exact (fun (hnb : NB n) (hA : ∀ l ∈ n.arrs, l.length ≤ 1048576) => sendPacket_nb hnb) R.out.nb HA.out)
 clear HC KBX0
 go_wp2_with fail
 refine wp_region_ty wa.heap.size (fun _ => .cells #[.int .i64 0, .int .i64 0, .slice none 0 0, .slice none 0 0, .slice none 0 0, .slice none 0 0, .slice none 0 0, .slice none 0 0, .slice none 0 0, .slice none 0 0, .int .i64 0] 45) (fun W => Below wa.heap.size wa W) (fun i => [.agg #[.int .i64 n.mesh.g.w, .int .i64 n.mesh.g.h, .slice a1 n.mesh.br.length c1, .slice a2 n.pa.length c2, .slice a3 n.pb.length c3, .slice a4 n.bufs.length c4, .slice a5 n.owners.length c5, .slice a6 n.turns.length c6, .slice a7 n.srcs.length c7, .slice a8 n.arrs.length c8, .int .i64 n.time], undef, .agg #[.int .i64 p.id, .int .i64 p.src, .int .i64 p.dst, .int .i64 p.cls, .int .i64 p.len], undef, undef, undef, undef, undef, undef, undef].getD i undef) 10 [(0, .quiet), (1, .chain), (2, .quiet), (3, .chain), (4, .chain), (5, .quiet), (6, .quiet), (7, .quiet), (8, .lit), (9, .chain)] (by kernel_rfl) (by kernel_rfl) (by kernel_rfl) (by kernel_rfl) (by kernel_rfl) (by kernel_rfl) (by kernel_rfl) (by kernel_rfl) (bw_drew (bw_refl _)) ⟨fun W o h => bw_alloc _ h, fun W h => bw_size h⟩ (fun _ => True) trivial (fun _ _ _ _ _ => trivial) ?_
 refine wpTx_q (some 22) rfl rfl (by rfl) (fun W hC => ?_) ?_
 ·have hX := Box.below ⟨y3, g3⟩ hC
  have h0 : W.cell? ⟨w.heap.size, 0, none⟩ = some (.int .i64 n.mesh.g.w) := hX.get 0
  have h1 : W.cell? ⟨w.heap.size, 1, none⟩ = some (.int .i64 n.mesh.g.h) := hX.get 1
  have h2 : W.cell? ⟨w.heap.size, 2, none⟩ = some (.slice a1 n.mesh.br.length c1) := hX.get 2
  have h3 : W.cell? ⟨w.heap.size, 3, none⟩ = some (.slice a2 n.pa.length c2) := hX.get 3
  have h4 : W.cell? ⟨w.heap.size, 4, none⟩ = some (.slice a3 n.pb.length c3) := hX.get 4
  have h5 : W.cell? ⟨w.heap.size, 5, none⟩ = some (.slice a4 n.bufs.length c4) := hX.get 5
  have h6 : W.cell? ⟨w.heap.size, 6, none⟩ = some (.slice a5 n.owners.length c5) := hX.get 6
  have h7 : W.cell? ⟨w.heap.size, 7, none⟩ = some (.slice a6 n.turns.length c6) := hX.get 7
  have h8 : W.cell? ⟨w.heap.size, 8, none⟩ = some (.slice a7 n.srcs.length c7) := hX.get 8
  have h9 : W.cell? ⟨w.heap.size, 9, none⟩ = some (.slice a8 n.arrs.length c8) := hX.get 9
  have h10 : W.cell? ⟨w.heap.size, 10, none⟩ = some (.int .i64 n.time) := hX.get 10
  clear hC hX
  go_simp
  try rfl
 try simp only [Act.put, nms]
 refine wpTx_d (some 23) rfl rfl (by rfl) ((NAV.zero.q, 0) : NA × Nat) (fun y => .agg (netCells n y.1)) (fun y W => NetR 83 W n y.1) (fun y => (y.2, y.2)) (fun W hF hC => ?_) (fun y W W' h hb => h.below hb) (fun yq => ?_)
 ·clear hF
  refine LoOp.enter (by go_simp; first | done | exact ⟨rfl, rfl⟩ | rfl) ?_
  refine (laws_toNet n _ W (R.out.below (bw_then H0 hC))).mono ?_
  rintro e W1 ⟨⟨q9, rfl, HT⟩, hb1⟩
  exact ⟨_, rfl, (q9, W.heap.size), rfl, bw_then hC hb1, HT.reads R.out, hb1, Nat.le_refl _, bw_size hb1⟩
 obtain ⟨⟨e1, e2, e3, e4, e5, e6, e7, e8, f1, f2, f3, f4, f5, f6, f7, f8⟩, zq⟩ := yq
 dsimp only [netCells]
 try simp only [Act.put, nms]
 refine wpTx_q (some 24) rfl rfl (by rfl) (fun W hC => ?_) ?_
 ·have hX := Box.below ⟨y8, g8⟩ hC
  have h0 : W.cell? ⟨w.heap.size + 1, 0, none⟩ = some (.int .i64 p.id) := hX.get 0
  have h1 : W.cell? ⟨w.heap.size + 1, 1, none⟩ = some (.int .i64 p.src) := hX.get 1
  have h2 : W.cell? ⟨w.heap.size + 1, 2, none⟩ = some (.int .i64 p.dst) := hX.get 2
  have h3 : W.cell? ⟨w.heap.size + 1, 3, none⟩ = some (.int .i64 p.cls) := hX.get 3
  have h4 : W.cell? ⟨w.heap.size + 1, 4, none⟩ = some (.int .i64 p.len) := hX.get 4
  clear hC hX
  go_simp
  try rfl
 try simp only [Act.put, nms]
 refine wpTx_d (some 25) rfl rfl (by rfl) (0 : Nat) (fun _ => .agg #[.int .i64 p.id, .int .i64 p.src, .int .i64 p.dst, .int .i64 p.cls, .int .i64 p.len]) (fun _ W => NetR 83 W n ⟨e1, e2, e3, e4, e5, e6, e7, e8, f1, f2, f3, f4, f5, f6, f7, f8⟩) (fun y => (y, y)) (fun W hF hC => ?_) (fun y W W' h hb => h.below hb) (fun _ => ?_)
 ·refine LoOp.enter (by go_simp; first | done | exact ⟨rfl, rfl⟩ | rfl) ?_
  refine (laws_toPacket p W).mono ?_
  rintro e W1 ⟨rfl, hb1⟩
  exact ⟨_, rfl, W.heap.size, rfl, bw_then hC hb1, hF.below hb1, hb1, Nat.le_refl _, bw_size hb1⟩
 try simp only [Act.put, nms]
 refine wpTx_d (some 26) rfl rfl (by rfl) NAV.zero (fun y => .tuple #[.agg (netCells X y.q), .bool b]) (fun y W => GX wa.heap.size X y W) (fun y => (y.lo, y.hi)) (fun W hF hC => ?_) (fun y W W' h hb => h.below hb) (fun yq => ?_)
 ·refine LoOp.enter (by go_simp; first | done | exact ⟨rfl, rfl⟩ | rfl) ?_
  refine (spec_SendPacket n p _ W hF).mono ?_
  rintro e W1 ⟨hg, hb1⟩
  rw [HX.out, HV.out] at hg
  obtain ⟨y, rfl, hx, h1, h2⟩ := GX.of hg hb1 (bw_size hC)
  exact ⟨_, rfl, y, rfl, bw_then hC hb1, hx, hb1, h1, h2⟩
 obtain ⟨⟨p1, p2, p3, p4, p5, p6, p7, p8, d1, d2, d3, d4, d5, d6, d7, d8⟩, s44, s74, s84, lo4, hi4⟩ := yq
 dsimp only [netCells]
 try simp only [Act.put, nms]
 refine wpTx_v (some 21) (.tuple #[.agg #[.int .i64 X.mesh.g.w, .int .i64 X.mesh.g.h, .slice p1 X.mesh.br.length d1, .slice p2 X.pa.length d2, .slice p3 X.pb.length d3, .slice p4 X.bufs.length d4, .slice p5 X.owners.length d5, .slice p6 X.turns.length d6, .slice p7 X.srcs.length d7, .slice p8 X.arrs.length d8, .int .i64 X.time], .bool b]) rfl rfl (by rfl) (fun W hC => ?_) ?_
 ·clear hC
  go_simp
  try rfl
 try simp only [Act.put, nms]
 refine wpTx_v (some 27) (.agg #[.int .i64 X.mesh.g.w, .int .i64 X.mesh.g.h, .slice p1 X.mesh.br.length d1, .slice p2 X.pa.length d2, .slice p3 X.pb.length d3, .slice p4 X.bufs.length d4, .slice p5 X.owners.length d5, .slice p6 X.turns.length d6, .slice p7 X.srcs.length d7, .slice p8 X.arrs.length d8, .int .i64 X.time]) rfl rfl (by rfl) (fun W hC => ?_) ?_
 ·clear hC
  go_simp
  try rfl
 try simp only [Act.put, nms]
 refine wpTx_v (some 28) (.bool b) rfl rfl (by rfl) (fun W hC => ?_) ?_
 ·clear hC
  go_simp
  try rfl
 try simp only [Act.put, nms]
 refine wpTx_l (some 6) rfl rfl (by rfl) (fun W => ?_) (fun gb4 => ?_)
 ·go_simp
  try rfl
 try simp only [Act.put, nms]
 refine wpTx_c none rfl rfl (by rfl) () (fun _ => undef) (fun _ W => Out wa.heap.size X ⟨⟨p1, p2, p3, p4, p5, p6, p7, p8, d1, d2, d3, d4, d5, d6, d7, d8⟩, s44, s74, s84, lo4, hi4⟩ gb4 wa W) (fun W hF hC => ?_) (fun _ => ?_)
 ·have hn := litBN hF rfl
  obtain ⟨ry0, rv0⟩ := hn.get 0 (by omega)
  have rz0 := hn.frozen 0
  obtain ⟨ry1, rv1⟩ := hn.get 1 (by omega)
  have rz1 := hn.frozen 1
  obtain ⟨ry2, rv2⟩ := hn.get 2 (by omega)
  have rz2 := hn.frozen 2
  obtain ⟨ry3, rv3⟩ := hn.get 3 (by omega)
  have rz3 := hn.frozen 3
  obtain ⟨ry4, rv4⟩ := hn.get 4 (by omega)
  have rz4 := hn.frozen 4
  obtain ⟨ry5, rv5⟩ := hn.get 5 (by omega)
  have rz5 := hn.frozen 5
  obtain ⟨ry6, rv6⟩ := hn.get 6 (by omega)
  have rz6 := hn.frozen 6
  obtain ⟨ry7, rv7⟩ := hn.get 7 (by omega)
  have rz7 := hn.frozen 7
  obtain ⟨ry8, rv8⟩ := hn.get 8 (by omega)
  have rz8 := hn.frozen 8
  obtain ⟨ry9, rv9⟩ := hn.get 9 (by omega)
  have rz9 := hn.frozen 9
  obtain ⟨ry10, rv10⟩ := hn.get 10 (by omega)
  have rz10 := hn.frozen 10
  have hO := out_of (X := X) (y := ⟨⟨p1, p2, p3, p4, p5, p6, p7, p8, d1, d2, d3, d4, d5, d6, d7, d8⟩, s44, s74, s84, lo4, hi4⟩) (wa := wa) hF rfl rfl hC
  refine LoOp.skip rfl (w1 := putN W gb4 X ⟨p1, p2, p3, p4, p5, p6, p7, p8, d1, d2, d3, d4, d5, d6, d7, d8⟩) ?_ ⟨(), rfl, hO.below, hO⟩
  clear hO hF hC hn
  unfold putN
  go_simp
  try rfl
 try simp only [Act.put, nms]
 refine wpTx_z (fun wc2 hO hC => ?_)
 clear hC
 have HO := Lib.hid hO
 clear hO
 refine ⟨_, rfl, by rfl, ?_⟩
 go_simp
 have hb1 := HO.out.below
 have off4 := HO.out.off
 have loB4 := HO.out.lo
 have hiB4 := HO.out.hi
 have lhB4 := HO.out.lh
 have gB4 := HO.out.bg
 have sO4 := bw_size hb1
 have gL4 := HO.out.bt.lt
 dsimp only at off4 loB4 hiB4 lhB4
 replace H0 := bw_then H0 hb1
 have B3 := Box.below ⟨y3, g3⟩ hb1
 clear y3 g3
 obtain ⟨y3, g3⟩ := B3
 have B8 := Box.below ⟨y8, g8⟩ hb1
 clear y8 g8
 obtain ⟨y8, g8⟩ := B8
 clear hb1
 have B4 : Box wc2 gb4 #[.int .i64 X.mesh.g.w, .int .i64 X.mesh.g.h, .slice p1 X.mesh.br.length d1, .slice p2 X.pa.length d2, .slice p3 X.pb.length d3, .slice p4 X.bufs.length d4, .slice p5 X.owners.length d5, .slice p6 X.turns.length d6, .slice p7 X.srcs.length d7, .slice p8 X.arrs.length d8, .int .i64 X.time] := HO.out.bt.box
 obtain ⟨y4, g4⟩ := B4
 have HW := Lib.hid HO.out.nx.ny
 have HWB : Below wc2.heap.size wc2 wc2 := bw_refl wc2
 clear HO
 go_wp2_with fail
 refine (laws_toNet2 n _ _ (R.out.below H0)).mono ?_
 rintro e wd ⟨⟨q9, aN, bN, v4, v7, v8, rfl, DL, HN⟩, hb1⟩
 obtain ⟨x1, x2, x3, x4, x5, x6, x7, x8, z1, z2, z3, z4, z5, z6, z7, z8⟩ := q9
 have swd := bw_size hb1
 dsimp only [netCells]
 replace H0 := bw_then H0 hb1
 replace HWB := bw_then HWB hb1
 have B3 := Box.below ⟨y3, g3⟩ hb1
 clear y3 g3
 obtain ⟨y3, g3⟩ := B3
 have B8 := Box.below ⟨y8, g8⟩ hb1
 clear y8 g8
 obtain ⟨y8, g8⟩ := B8
 have B4 := Box.below ⟨y4, g4⟩ hb1
 clear y4 g4
 obtain ⟨y4, g4⟩ := B4
 clear hb1
 have hbX : Below wd.heap.size wd (wd.alloc (.cells #[.int .i64 n.mesh.g.w, .int .i64 n.mesh.g.h, .slice x1 n.mesh.br.length z1, .slice x2 n.pa.length z2, .slice x3 n.pb.length z3, .slice x4 n.bufs.length z4, .slice x5 n.owners.length z5, .slice x6 n.turns.length z6, .slice x7 n.srcs.length z7, .slice x8 n.arrs.length z8, .int .i64 n.time] 45)) := bw_alloc _ (bw_refl wd)
 have B5 : Box (wd.alloc (.cells #[.int .i64 n.mesh.g.w, .int .i64 n.mesh.g.h, .slice x1 n.mesh.br.length z1, .slice x2 n.pa.length z2, .slice x3 n.pb.length z3, .slice x4 n.bufs.length z4, .slice x5 n.owners.length z5, .slice x6 n.turns.length z6, .slice x7 n.srcs.length z7, .slice x8 n.arrs.length z8, .int .i64 n.time] 45)) wd.heap.size #[.int .i64 n.mesh.g.w, .int .i64 n.mesh.g.h, .slice x1 n.mesh.br.length z1, .slice x2 n.pa.length z2, .slice x3 n.pb.length z3, .slice x4 n.bufs.length z4, .slice x5 n.owners.length z5, .slice x6 n.turns.length z6, .slice x7 n.srcs.length z7, .slice x8 n.arrs.length z8, .int .i64 n.time] := Box.new wd _ _ _ rfl
 have sX : (wd.alloc (.cells #[.int .i64 n.mesh.g.w, .int .i64 n.mesh.g.h, .slice x1 n.mesh.br.length z1, .slice x2 n.pa.length z2, .slice x3 n.pb.length z3, .slice x4 n.bufs.length z4, .slice x5 n.owners.length z5, .slice x6 n.turns.length z6, .slice x7 n.srcs.length z7, .slice x8 n.arrs.length z8, .int .i64 n.time] 45)).heap.size = wd.heap.size + 1 := World.size_alloc _ _
 replace H0 := bw_then H0 hbX
 replace HWB := bw_then HWB hbX
 have B3 := Box.below ⟨y3, g3⟩ hbX
 clear y3 g3
 obtain ⟨y3, g3⟩ := B3
 have B8 := Box.below ⟨y8, g8⟩ hbX
 clear y8 g8
 obtain ⟨y8, g8⟩ := B8
 have B4 := Box.below ⟨y4, g4⟩ hbX
 clear y4 g4
 obtain ⟨y4, g4⟩ := B4
 replace HN := HN.below hbX
 go_wp2_with fail
 generalize wd.alloc (.cells #[.int .i64 n.mesh.g.w, .int .i64 n.mesh.g.h, .slice x1 n.mesh.br.length z1, .slice x2 n.pa.length z2, .slice x3 n.pb.length z3, .slice x4 n.bufs.length z4, .slice x5 n.owners.length z5, .slice x6 n.turns.length z6, .slice x7 n.srcs.length z7, .slice x8 n.arrs.length z8, .int .i64 n.time] 45) = we at *
 clear hbX
 have sX5 : wd.heap.size + 1 ≤ we.heap.size := Nat.le_of_eq sX.symm
 clear sX
 obtain ⟨y5, g5⟩ := B5
 go_wp2_with fail
 refine wp_region_ty we.heap.size (fun _ => .cells #[.int .i64 0, .int .i64 0, .slice none 0 0, .slice none 0 0, .slice none 0 0, .slice none 0 0, .slice none 0 0, .slice none 0 0, .slice none 0 0, .slice none 0 0, .int .i64 0] 45) (fun W => Below we.heap.size we W) (fun i => [.agg #[.int .i64 n.mesh.g.w, .int .i64 n.mesh.g.h, .slice x1 n.mesh.br.length z1, .slice x2 n.pa.length z2, .slice x3 n.pb.length z3, .slice x4 n.bufs.length z4, .slice x5 n.owners.length z5, .slice x6 n.turns.length z6, .slice x7 n.srcs.length z7, .slice x8 n.arrs.length z8, .int .i64 n.time], .agg #[.int .i64 p.id, .int .i64 p.src, .int .i64 p.dst, .int .i64 p.cls, .int .i64 p.len], undef, undef, undef, undef, undef, undef, undef].getD i undef) 9 [(0, .quiet), (1, .quiet), (2, .chain), (3, .chain), (4, .quiet), (5, .quiet), (6, .quiet), (7, .lit), (8, .chain)] (by kernel_rfl) (by kernel_rfl) (by kernel_rfl) (by kernel_rfl) (by kernel_rfl) (by kernel_rfl) (by kernel_rfl) (by kernel_rfl) (bw_drew (bw_refl _)) ⟨fun W o h => bw_alloc _ h, fun W h => bw_size h⟩ (fun _ => True) trivial (fun _ _ _ _ _ => trivial) ?_
 refine wpTx_q (some 32) rfl rfl (by rfl) (fun W hC => ?_) ?_
 ·have hX := Box.below ⟨y5, g5⟩ hC
  have h0 : W.cell? ⟨wd.heap.size, 0, none⟩ = some (.int .i64 n.mesh.g.w) := hX.get 0
  have h1 : W.cell? ⟨wd.heap.size, 1, none⟩ = some (.int .i64 n.mesh.g.h) := hX.get 1
  have h2 : W.cell? ⟨wd.heap.size, 2, none⟩ = some (.slice x1 n.mesh.br.length z1) := hX.get 2
  have h3 : W.cell? ⟨wd.heap.size, 3, none⟩ = some (.slice x2 n.pa.length z2) := hX.get 3
  have h4 : W.cell? ⟨wd.heap.size, 4, none⟩ = some (.slice x3 n.pb.length z3) := hX.get 4
  have h5 : W.cell? ⟨wd.heap.size, 5, none⟩ = some (.slice x4 n.bufs.length z4) := hX.get 5
  have h6 : W.cell? ⟨wd.heap.size, 6, none⟩ = some (.slice x5 n.owners.length z5) := hX.get 6
  have h7 : W.cell? ⟨wd.heap.size, 7, none⟩ = some (.slice x6 n.turns.length z6) := hX.get 7
  have h8 : W.cell? ⟨wd.heap.size, 8, none⟩ = some (.slice x7 n.srcs.length z7) := hX.get 8
  have h9 : W.cell? ⟨wd.heap.size, 9, none⟩ = some (.slice x8 n.arrs.length z8) := hX.get 9
  have h10 : W.cell? ⟨wd.heap.size, 10, none⟩ = some (.int .i64 n.time) := hX.get 10
  clear hC hX
  go_simp
  try rfl
 try simp only [Act.put, nms]
 refine wpTx_q (some 33) rfl rfl (by rfl) (fun W hC => ?_) ?_
 ·have hX := Box.below ⟨y8, g8⟩ hC
  have h0 : W.cell? ⟨w.heap.size + 1, 0, none⟩ = some (.int .i64 p.id) := hX.get 0
  have h1 : W.cell? ⟨w.heap.size + 1, 1, none⟩ = some (.int .i64 p.src) := hX.get 1
  have h2 : W.cell? ⟨w.heap.size + 1, 2, none⟩ = some (.int .i64 p.dst) := hX.get 2
  have h3 : W.cell? ⟨w.heap.size + 1, 3, none⟩ = some (.int .i64 p.cls) := hX.get 3
  have h4 : W.cell? ⟨w.heap.size + 1, 4, none⟩ = some (.int .i64 p.len) := hX.get 4
  clear hC hX
  go_simp
  try rfl
 try simp only [Act.put, nms]
 refine wpTx_d (some 34) rfl rfl (by rfl) (0 : Nat) (fun _ => .agg #[.int .i64 p.id, .int .i64 p.src, .int .i64 p.dst, .int .i64 p.cls, .int .i64 p.len]) (fun _ W => True) (fun y => (y, y)) (fun W hF hC => ?_) (fun y W W' h hb => trivial) (fun _ => ?_)
 ·refine LoOp.enter (by go_simp; first | done | exact ⟨rfl, rfl⟩ | rfl) ?_
  refine (laws_toPacket p W).mono ?_
  rintro e W1 ⟨rfl, hb1⟩
  exact ⟨_, rfl, W.heap.size, rfl, bw_then hC hb1, trivial, hb1, Nat.le_refl _, bw_size hb1⟩
 try simp only [Act.put, nms]
 refine wpTx_d (some 35) rfl rfl (by rfl) NAV.zero (fun y => .tuple #[.agg (netCells X y.q), .bool b]) (fun y W => GX we.heap.size X y W) (fun y => (y.lo, y.hi)) (fun W hF hC => ?_) (fun y W W' h hb => h.below hb) (fun yq => ?_)
 ·refine LoOp.enter (by go_simp; first | done | exact ⟨rfl, rfl⟩ | rfl) ?_
  refine (impl_SendPacket n p ⟨x1, x2, x3, x4, x5, x6, x7, x8, z1, z2, z3, z4, z5, z6, z7, z8⟩ W ((HN.reads R.out).below hC)).mono ?_
  rintro e W1 ⟨hg, hb1⟩
  rw [HX.out, HV.out] at hg
  obtain ⟨y, rfl, hx, h1, h2⟩ := GX.of hg hb1 (bw_size hC)
  exact ⟨_, rfl, y, rfl, bw_then hC hb1, hx, hb1, h1, h2⟩
 obtain ⟨⟨ga1, ga2, ga3, ga4, ga5, ga6, ga7, ga8, gc1, gc2, gc3, gc4, gc5, gc6, gc7, gc8⟩, s46, s76, s86, lo6, hi6⟩ := yq
 dsimp only [netCells]
 try simp only [Act.put, nms]
 refine wpTx_v (some 31) (.tuple #[.agg #[.int .i64 X.mesh.g.w, .int .i64 X.mesh.g.h, .slice ga1 X.mesh.br.length gc1, .slice ga2 X.pa.length gc2, .slice ga3 X.pb.length gc3, .slice ga4 X.bufs.length gc4, .slice ga5 X.owners.length gc5, .slice ga6 X.turns.length gc6, .slice ga7 X.srcs.length gc7, .slice ga8 X.arrs.length gc8, .int .i64 X.time], .bool b]) rfl rfl (by rfl) (fun W hC => ?_) ?_
 ·clear hC
  go_simp
  try rfl
 try simp only [Act.put, nms]
 refine wpTx_v (some 36) (.agg #[.int .i64 X.mesh.g.w, .int .i64 X.mesh.g.h, .slice ga1 X.mesh.br.length gc1, .slice ga2 X.pa.length gc2, .slice ga3 X.pb.length gc3, .slice ga4 X.bufs.length gc4, .slice ga5 X.owners.length gc5, .slice ga6 X.turns.length gc6, .slice ga7 X.srcs.length gc7, .slice ga8 X.arrs.length gc8, .int .i64 X.time]) rfl rfl (by rfl) (fun W hC => ?_) ?_
 ·clear hC
  go_simp
  try rfl
 try simp only [Act.put, nms]
 refine wpTx_v (some 37) (.bool b) rfl rfl (by rfl) (fun W hC => ?_) ?_
 ·clear hC
  go_simp
  try rfl
 try simp only [Act.put, nms]
 refine wpTx_l (some 9) rfl rfl (by rfl) (fun W => ?_) (fun gb6 => ?_)
 ·go_simp
  try rfl
 try simp only [Act.put, nms]
 refine wpTx_c none rfl rfl (by rfl) () (fun _ => undef) (fun _ W => Out we.heap.size X ⟨⟨ga1, ga2, ga3, ga4, ga5, ga6, ga7, ga8, gc1, gc2, gc3, gc4, gc5, gc6, gc7, gc8⟩, s46, s76, s86, lo6, hi6⟩ gb6 we W) (fun W hF hC => ?_) (fun _ => ?_)
 ·have hn := litBN hF rfl
  obtain ⟨ry0, rv0⟩ := hn.get 0 (by omega)
  have rz0 := hn.frozen 0
  obtain ⟨ry1, rv1⟩ := hn.get 1 (by omega)
  have rz1 := hn.frozen 1
  obtain ⟨ry2, rv2⟩ := hn.get 2 (by omega)
  have rz2 := hn.frozen 2
  obtain ⟨ry3, rv3⟩ := hn.get 3 (by omega)
  have rz3 := hn.frozen 3
  obtain ⟨ry4, rv4⟩ := hn.get 4 (by omega)
  have rz4 := hn.frozen 4
  obtain ⟨ry5, rv5⟩ := hn.get 5 (by omega)
  have rz5 := hn.frozen 5
  obtain ⟨ry6, rv6⟩ := hn.get 6 (by omega)
  have rz6 := hn.frozen 6
  obtain ⟨ry7, rv7⟩ := hn.get 7 (by omega)
  have rz7 := hn.frozen 7
  obtain ⟨ry8, rv8⟩ := hn.get 8 (by omega)
  have rz8 := hn.frozen 8
  obtain ⟨ry9, rv9⟩ := hn.get 9 (by omega)
  have rz9 := hn.frozen 9
  obtain ⟨ry10, rv10⟩ := hn.get 10 (by omega)
  have rz10 := hn.frozen 10
  have hO := out_of (X := X) (y := ⟨⟨ga1, ga2, ga3, ga4, ga5, ga6, ga7, ga8, gc1, gc2, gc3, gc4, gc5, gc6, gc7, gc8⟩, s46, s76, s86, lo6, hi6⟩) (wa := we) hF rfl rfl hC
  refine LoOp.skip rfl (w1 := putN W gb6 X ⟨ga1, ga2, ga3, ga4, ga5, ga6, ga7, ga8, gc1, gc2, gc3, gc4, gc5, gc6, gc7, gc8⟩) ?_ ⟨(), rfl, hO.below, hO⟩
  clear hO hF hC hn
  unfold putN
  go_simp
  try rfl
 try simp only [Act.put, nms]
 refine wpTx_z (fun wg hO hC => ?_)
 clear hC
 have HO := Lib.hid hO
 clear hO
 refine ⟨_, rfl, by rfl, ?_⟩
 go_simp
 have hb1 := HO.out.below
 have off6 := HO.out.off
 have loB6 := HO.out.lo
 have hiB6 := HO.out.hi
 have lhB6 := HO.out.lh
 have gB6 := HO.out.bg
 have sO6 := bw_size hb1
 have gL6 := HO.out.bt.lt
 dsimp only at off6 loB6 hiB6 lhB6
 replace H0 := bw_then H0 hb1
 replace HWB := bw_then HWB hb1
 have B3 := Box.below ⟨y3, g3⟩ hb1
 clear y3 g3
 obtain ⟨y3, g3⟩ := B3
 have B8 := Box.below ⟨y8, g8⟩ hb1
 clear y8 g8
 obtain ⟨y8, g8⟩ := B8
 have B4 := Box.below ⟨y4, g4⟩ hb1
 clear y4 g4
 obtain ⟨y4, g4⟩ := B4
 have B5 := Box.below ⟨y5, g5⟩ hb1
 clear y5 g5
 obtain ⟨y5, g5⟩ := B5
 replace HN := HN.below hb1
 clear hb1
 have B6 : Box wg gb6 #[.int .i64 X.mesh.g.w, .int .i64 X.mesh.g.h, .slice ga1 X.mesh.br.length gc1, .slice ga2 X.pa.length gc2, .slice ga3 X.pb.length gc3, .slice ga4 X.bufs.length gc4, .slice ga5 X.owners.length gc5, .slice ga6 X.turns.length gc6, .slice ga7 X.srcs.length gc7, .slice ga8 X.arrs.length gc8, .int .i64 X.time] := HO.out.bt.box
 obtain ⟨y6, g6⟩ := B6
 have HG := Lib.hid HO.out.nx.ny
 have HTP := Lib.hid HO.out.nt
 clear HO
 have eself : (b != b) = false := by simp
 go_wp2_with fail
 refine (laws_eqNet X _ _ _ (HG.out.reads NBX.out) ((HW.out.below HWB).reads NBX.out)).mono ?_
 rintro e wg2 ⟨rfl, hb1⟩
 have swg2 := bw_size hb1
 replace H0 := bw_then H0 hb1
 replace HWB := bw_then HWB hb1
 have B3 := Box.below ⟨y3, g3⟩ hb1
 clear y3 g3
 obtain ⟨y3, g3⟩ := B3
 have B8 := Box.below ⟨y8, g8⟩ hb1
 clear y8 g8
 obtain ⟨y8, g8⟩ := B8
 have B4 := Box.below ⟨y4, g4⟩ hb1
 clear y4 g4
 obtain ⟨y4, g4⟩ := B4
 have B5 := Box.below ⟨y5, g5⟩ hb1
 clear y5 g5
 obtain ⟨y5, g5⟩ := B5
 have B6 := Box.below ⟨y6, g6⟩ hb1
 clear y6 g6
 obtain ⟨y6, g6⟩ := B6
 replace HN := HN.below hb1
 replace HG := Lib.hid (HG.out.below hb1)
 clear hb1
 go_wp2_with fail
 have RR := Lib.hid (R.out.below H0)
 have XX := Lib.hid (HN.reads R.out)
 go_region_held3 (fun w' => Below (wg2).heap.size (wg2) w' ∧ ∀ bq oq, bq < (wg2).heap.size → w'.cell? ⟨bq, oq, none⟩ = (wg2).cell? ⟨bq, oq, none⟩) (first | exact far_of bel) ( first | (go_at_call 6; refine (laws_toNet n _ _ (RR.out.below bel)).mono ?_; rintro e w1 ⟨⟨qT, rfl, HT⟩, hb1⟩; obtain ⟨f1, f2, f3, f4, f5, f6, f7, f8, h1, h2, h3, h4, h5, h6, h7, h8⟩ := qT; have HT3 := Lib.hid (HT.reads RR.out); clear HT; dsimp only [netCells]; obtain ⟨hc1, hf1, hz1⟩ := bcell hb1; (try simp only [szs] at hz1); have hb2 := (by first | exact bw_then hb2 hb1 | exact bw_then (bw_drewN _ hb2) hb1 | exact bw_then (bw_alloc _ hb2) hb1 | exact bw_then (bw_drew hb2) hb1 | exact bw_then HB hb1 | exact bw_then (bw_drewN _ HB) hb1 | exact bw_then (bw_alloc _ HB) hb1 | exact bw_then (bw_drew HB) hb1 | exact hb1); obtain ⟨hc2, hf2, hz2⟩ := bcell hb2; (try simp only [szs] at hz2); try (first | obtain ⟨hy1, hy2, hy3, hy4⟩ := lts4 hz2 | obtain ⟨hy1, hy2, hy3⟩ := lts3 hz2 | obtain ⟨hy1, hy2⟩ := lts2 hz2 | have hy1 := lts1 hz2); have hb9 := hb1) | (go_at_call 9; refine (laws_eqNet n _ _ _ (XX.out.below bel) (HT3.out.below bel)).mono ?_; rintro e w1 ⟨rfl, hb1⟩; obtain ⟨hc1, hf1, hz1⟩ := bcell hb1; (try simp only [szs] at hz1); have hb2 := (by first | exact bw_then hb2 hb1 | exact bw_then (bw_drewN _ hb2) hb1 | exact bw_then (bw_alloc _ hb2) hb1 | exact bw_then (bw_drew hb2) hb1 | exact bw_then HB hb1 | exact bw_then (bw_drewN _ HB) hb1 | exact bw_then (bw_alloc _ HB) hb1 | exact bw_then (bw_drew HB) hb1 | exact hb1); obtain ⟨hc2, hf2, hz2⟩ := bcell hb2; (try simp only [szs] at hz2); try (first | obtain ⟨hy1, hy2, hy3, hy4⟩ := lts4 hz2 | obtain ⟨hy1, hy2, hy3⟩ := lts3 hz2 | obtain ⟨hy1, hy2⟩ := lts2 hz2 | have hy1 := lts1 hz2); have hb9 := hb1))
 have hb3 : Below wg2.heap.size wg2 w1 := by first | exact bw_then (bw_drew (bw_refl _)) hb2 | exact hb2
 repeat (first | clear hc1 | clear hf1 | clear hz1 | clear hb1 | clear hb9 | clear hc2 | clear hf2 | clear hz2 | clear hb2 | clear hy1 | clear hy2 | clear hy3 | clear hy4)
 clear RR XX HT3
 obtain ⟨wh, rfl⟩ : ∃ x, x = w1 := ⟨_, rfl⟩
 have swh := bw_size hb3
 replace H0 := bw_then H0 hb3
 replace HWB := bw_then HWB hb3
 have B3 := Box.below ⟨y3, g3⟩ hb3
 clear y3 g3
 obtain ⟨y3, g3⟩ := B3
 have B8 := Box.below ⟨y8, g8⟩ hb3
 clear y8 g8
 obtain ⟨y8, g8⟩ := B8
 have B4 := Box.below ⟨y4, g4⟩ hb3
 clear y4 g4
 obtain ⟨y4, g4⟩ := B4
 have B5 := Box.below ⟨y5, g5⟩ hb3
 clear y5 g5
 obtain ⟨y5, g5⟩ := B5
 have B6 := Box.below ⟨y6, g6⟩ hb3
 clear y6 g6
 obtain ⟨y6, g6⟩ := B6
 replace HN := HN.below hb3
 replace HG := Lib.hid (HG.out.below hb3)
 clear hb3
 go_wp2_with fail
 refine (laws_markNet n _ 1 wc2.heap.size wd.heap.size aN bN v4 v7 v8 _ _ _ HN R.out DL (by omega) (by omega) (by omega)).mono ?_
 rintro e wi ⟨⟨r2, rfl, hr2⟩, G⟩
 clear HN
 have swi := G.size
 replace H0 := Chg.below H0 G (by omega)
 replace HWB := Chg.below HWB G (by omega)
 have B3 := Box.chg ⟨y3, g3⟩ G (by omega)
 clear y3 g3
 obtain ⟨y3, g3⟩ := B3
 have B8 := Box.chg ⟨y8, g8⟩ G (by omega)
 clear y8 g8
 obtain ⟨y8, g8⟩ := B8
 have B4 := Box.chg ⟨y4, g4⟩ G (by omega)
 clear y4 g4
 obtain ⟨y4, g4⟩ := B4
 have B5 := Box.chg ⟨y5, g5⟩ G (by omega)
 clear y5 g5
 obtain ⟨y5, g5⟩ := B5
 have B6 := Box.chg ⟨y6, g6⟩ G (by omega)
 clear y6 g6
 obtain ⟨y6, g6⟩ := B6
 replace HG := Lib.hid (HG.out.chg G (by omega))
 clear G
 have hr3 : ¬ r2 < 0 := by omega
 go_wp2_with fail
 refine (laws_eqNet X _ _ _ (HG.out.reads NBX.out) ((HW.out.below HWB).reads NBX.out)).mono ?_
 rintro e wj ⟨rfl, hb1⟩
 have swj := bw_size hb1
 replace H0 := bw_then H0 hb1
 replace HWB := bw_then HWB hb1
 have B3 := Box.below ⟨y3, g3⟩ hb1
 clear y3 g3
 obtain ⟨y3, g3⟩ := B3
 have B8 := Box.below ⟨y8, g8⟩ hb1
 clear y8 g8
 obtain ⟨y8, g8⟩ := B8
 have B4 := Box.below ⟨y4, g4⟩ hb1
 clear y4 g4
 obtain ⟨y4, g4⟩ := B4
 have B5 := Box.below ⟨y5, g5⟩ hb1
 clear y5 g5
 obtain ⟨y5, g5⟩ := B5
 have B6 := Box.below ⟨y6, g6⟩ hb1
 clear y6 g6
 obtain ⟨y6, g6⟩ := B6
 replace HG := Lib.hid (HG.out.below hb1)
 clear hb1
 go_wp2_with fail
 refine (laws_markNetY X ⟨ga1, ga2, ga3, ga4, ga5, ga6, ga7, ga8, gc1, gc2, gc3, gc4, gc5, gc6, gc7, gc8⟩ s46 s76 s86 lo6 hi6 1 _ HG.out NBX.out HTP.out (by omega) (by omega) (by omega)).mono ?_
 rintro e wk ⟨rfl, hm1, G⟩
 have HM := Lib.hid hm1
 clear HG hm1
 have swk := G.size
 replace H0 := Chg.below H0 G (by omega)
 replace HWB := Chg.below HWB G (by omega)
 have B3 := Box.chg ⟨y3, g3⟩ G (by omega)
 clear y3 g3
 obtain ⟨y3, g3⟩ := B3
 have B8 := Box.chg ⟨y8, g8⟩ G (by omega)
 clear y8 g8
 obtain ⟨y8, g8⟩ := B8
 have B4 := Box.chg ⟨y4, g4⟩ G (by omega)
 clear y4 g4
 obtain ⟨y4, g4⟩ := B4
 have B5 := Box.chg ⟨y5, g5⟩ G (by omega)
 clear y5 g5
 obtain ⟨y5, g5⟩ := B5
 have B6 := Box.chg ⟨y6, g6⟩ G (by omega)
 clear y6 g6
 obtain ⟨y6, g6⟩ := B6
 clear G
 have NBM := Lib.hid (marked_nb (k := 1) NBX.out)
 have k8 : 0 ≤ mk8 1 X := (mk_bounds NBX.out (by omega) (by omega)).2.2.2.2.2.2.2
 have k8n : ¬ mk8 1 X < 0 := by omega
 have k8s := bne_self (mk8 1 X)
 go_wp2_with fail
 refine (laws_heldNetY X ⟨ga1, ga2, ga3, ga4, ga5, ga6, ga7, ga8, gc1, gc2, gc3, gc4, gc5, gc6, gc7, gc8⟩ 1 _ (HM.out.reads NBM.out) NBX.out (by omega) (by omega)).mono ?_
 rintro e wl ⟨rfl, hb1⟩
 have swl := bw_size hb1
 replace H0 := bw_then H0 hb1
 replace HWB := bw_then HWB hb1
 have B3 := Box.below ⟨y3, g3⟩ hb1
 clear y3 g3
 obtain ⟨y3, g3⟩ := B3
 have B8 := Box.below ⟨y8, g8⟩ hb1
 clear y8 g8
 obtain ⟨y8, g8⟩ := B8
 have B4 := Box.below ⟨y4, g4⟩ hb1
 clear y4 g4
 obtain ⟨y4, g4⟩ := B4
 have B5 := Box.below ⟨y5, g5⟩ hb1
 clear y5 g5
 obtain ⟨y5, g5⟩ := B5
 have B6 := Box.below ⟨y6, g6⟩ hb1
 clear y6 g6
 obtain ⟨y6, g6⟩ := B6
 replace HM := Lib.hid (HM.out.below hb1)
 clear hb1
 go_wp2_with fail
 refine wp_region_ty wl.heap.size (fun _ => .cells #[.int .i64 0, .int .i64 0, .slice none 0 0, .slice none 0 0, .slice none 0 0, .slice none 0 0, .slice none 0 0, .slice none 0 0, .slice none 0 0, .slice none 0 0, .int .i64 0] 45) (fun W => Below wl.heap.size wl W) (fun i => [.agg #[.int .i64 n.mesh.g.w, .int .i64 n.mesh.g.h, .slice a1 n.mesh.br.length c1, .slice a2 n.pa.length c2, .slice a3 n.pb.length c3, .slice a4 n.bufs.length c4, .slice a5 n.owners.length c5, .slice a6 n.turns.length c6, .slice a7 n.srcs.length c7, .slice a8 n.arrs.length c8, .int .i64 n.time], undef, .agg #[.int .i64 p.id, .int .i64 p.src, .int .i64 p.dst, .int .i64 p.cls, .int .i64 p.len], undef, undef, undef, undef, undef, undef, undef].getD i undef) 10 [(0, .quiet), (1, .chain), (2, .quiet), (3, .chain), (4, .chain), (5, .quiet), (6, .quiet), (7, .quiet), (8, .lit), (9, .chain)] (by kernel_rfl) (by kernel_rfl) (by kernel_rfl) (by kernel_rfl) (by kernel_rfl) (by kernel_rfl) (by kernel_rfl) (by kernel_rfl) (bw_drew (bw_refl _)) ⟨fun W o h => bw_alloc _ h, fun W h => bw_size h⟩ (fun _ => True) trivial (fun _ _ _ _ _ => trivial) ?_
 refine wpTx_q (some 80) rfl rfl (by rfl) (fun W hC => ?_) ?_
 ·have hX := Box.below ⟨y3, g3⟩ hC
  have h0 : W.cell? ⟨w.heap.size, 0, none⟩ = some (.int .i64 n.mesh.g.w) := hX.get 0
  have h1 : W.cell? ⟨w.heap.size, 1, none⟩ = some (.int .i64 n.mesh.g.h) := hX.get 1
  have h2 : W.cell? ⟨w.heap.size, 2, none⟩ = some (.slice a1 n.mesh.br.length c1) := hX.get 2
  have h3 : W.cell? ⟨w.heap.size, 3, none⟩ = some (.slice a2 n.pa.length c2) := hX.get 3
  have h4 : W.cell? ⟨w.heap.size, 4, none⟩ = some (.slice a3 n.pb.length c3) := hX.get 4
  have h5 : W.cell? ⟨w.heap.size, 5, none⟩ = some (.slice a4 n.bufs.length c4) := hX.get 5
  have h6 : W.cell? ⟨w.heap.size, 6, none⟩ = some (.slice a5 n.owners.length c5) := hX.get 6
  have h7 : W.cell? ⟨w.heap.size, 7, none⟩ = some (.slice a6 n.turns.length c6) := hX.get 7
  have h8 : W.cell? ⟨w.heap.size, 8, none⟩ = some (.slice a7 n.srcs.length c7) := hX.get 8
  have h9 : W.cell? ⟨w.heap.size, 9, none⟩ = some (.slice a8 n.arrs.length c8) := hX.get 9
  have h10 : W.cell? ⟨w.heap.size, 10, none⟩ = some (.int .i64 n.time) := hX.get 10
  clear hC hX
  go_simp
  try rfl
 try simp only [Act.put, nms]
 refine wpTx_d (some 81) rfl rfl (by rfl) ((NAV.zero.q, 0) : NA × Nat) (fun y => .agg (netCells n y.1)) (fun y W => NetR 83 W n y.1) (fun y => (y.2, y.2)) (fun W hF hC => ?_) (fun y W W' h hb => h.below hb) (fun yq => ?_)
 ·clear hF
  refine LoOp.enter (by go_simp; first | done | exact ⟨rfl, rfl⟩ | rfl) ?_
  refine (laws_toNet n _ W (R.out.below (bw_then H0 hC))).mono ?_
  rintro e W1 ⟨⟨q9, rfl, HT⟩, hb1⟩
  exact ⟨_, rfl, (q9, W.heap.size), rfl, bw_then hC hb1, HT.reads R.out, hb1, Nat.le_refl _, bw_size hb1⟩
 obtain ⟨⟨m1, m2, m3, m4, m5, m6, m7, m8, k1, k2, k3, k4, k5, k6, k7, k8⟩, zq⟩ := yq
 dsimp only [netCells]
 try simp only [Act.put, nms]
 refine wpTx_q (some 82) rfl rfl (by rfl) (fun W hC => ?_) ?_
 ·have hX := Box.below ⟨y8, g8⟩ hC
  have h0 : W.cell? ⟨w.heap.size + 1, 0, none⟩ = some (.int .i64 p.id) := hX.get 0
  have h1 : W.cell? ⟨w.heap.size + 1, 1, none⟩ = some (.int .i64 p.src) := hX.get 1
  have h2 : W.cell? ⟨w.heap.size + 1, 2, none⟩ = some (.int .i64 p.dst) := hX.get 2
  have h3 : W.cell? ⟨w.heap.size + 1, 3, none⟩ = some (.int .i64 p.cls) := hX.get 3
  have h4 : W.cell? ⟨w.heap.size + 1, 4, none⟩ = some (.int .i64 p.len) := hX.get 4
  clear hC hX
  go_simp
  try rfl
 try simp only [Act.put, nms]
 refine wpTx_d (some 83) rfl rfl (by rfl) (0 : Nat) (fun _ => .agg #[.int .i64 p.id, .int .i64 p.src, .int .i64 p.dst, .int .i64 p.cls, .int .i64 p.len]) (fun _ W => NetR 83 W n ⟨m1, m2, m3, m4, m5, m6, m7, m8, k1, k2, k3, k4, k5, k6, k7, k8⟩) (fun y => (y, y)) (fun W hF hC => ?_) (fun y W W' h hb => h.below hb) (fun _ => ?_)
 ·refine LoOp.enter (by go_simp; first | done | exact ⟨rfl, rfl⟩ | rfl) ?_
  refine (laws_toPacket p W).mono ?_
  rintro e W1 ⟨rfl, hb1⟩
  exact ⟨_, rfl, W.heap.size, rfl, bw_then hC hb1, hF.below hb1, hb1, Nat.le_refl _, bw_size hb1⟩
 try simp only [Act.put, nms]
 refine wpTx_d (some 84) rfl rfl (by rfl) NAV.zero (fun y => .tuple #[.agg (netCells X y.q), .bool b]) (fun y W => GX wl.heap.size X y W) (fun y => (y.lo, y.hi)) (fun W hF hC => ?_) (fun y W W' h hb => h.below hb) (fun yq => ?_)
 ·refine LoOp.enter (by go_simp; first | done | exact ⟨rfl, rfl⟩ | rfl) ?_
  refine (impl_SendPacket n p _ W hF).mono ?_
  rintro e W1 ⟨hg, hb1⟩
  rw [HX.out, HV.out] at hg
  obtain ⟨y, rfl, hx, h1, h2⟩ := GX.of hg hb1 (bw_size hC)
  exact ⟨_, rfl, y, rfl, bw_then hC hb1, hx, hb1, h1, h2⟩
 obtain ⟨⟨i1, i2, i3, i4, i5, i6, i7, i8, j1, j2, j3, j4, j5, j6, j7, j8⟩, s47, s77, s87, lo7, hi7⟩ := yq
 dsimp only [netCells]
 try simp only [Act.put, nms]
 refine wpTx_v (some 79) (.tuple #[.agg #[.int .i64 X.mesh.g.w, .int .i64 X.mesh.g.h, .slice i1 X.mesh.br.length j1, .slice i2 X.pa.length j2, .slice i3 X.pb.length j3, .slice i4 X.bufs.length j4, .slice i5 X.owners.length j5, .slice i6 X.turns.length j6, .slice i7 X.srcs.length j7, .slice i8 X.arrs.length j8, .int .i64 X.time], .bool b]) rfl rfl (by rfl) (fun W hC => ?_) ?_
 ·clear hC
  go_simp
  try rfl
 try simp only [Act.put, nms]
 refine wpTx_v (some 85) (.agg #[.int .i64 X.mesh.g.w, .int .i64 X.mesh.g.h, .slice i1 X.mesh.br.length j1, .slice i2 X.pa.length j2, .slice i3 X.pb.length j3, .slice i4 X.bufs.length j4, .slice i5 X.owners.length j5, .slice i6 X.turns.length j6, .slice i7 X.srcs.length j7, .slice i8 X.arrs.length j8, .int .i64 X.time]) rfl rfl (by rfl) (fun W hC => ?_) ?_
 ·clear hC
  go_simp
  try rfl
 try simp only [Act.put, nms]
 refine wpTx_v (some 86) (.bool b) rfl rfl (by rfl) (fun W hC => ?_) ?_
 ·clear hC
  go_simp
  try rfl
 try simp only [Act.put, nms]
 refine wpTx_l (some 14) rfl rfl (by rfl) (fun W => ?_) (fun gb7 => ?_)
 ·go_simp
  try rfl
 try simp only [Act.put, nms]
 refine wpTx_c none rfl rfl (by rfl) () (fun _ => undef) (fun _ W => Out wl.heap.size X ⟨⟨i1, i2, i3, i4, i5, i6, i7, i8, j1, j2, j3, j4, j5, j6, j7, j8⟩, s47, s77, s87, lo7, hi7⟩ gb7 wl W) (fun W hF hC => ?_) (fun _ => ?_)
 ·have hn := litBN hF rfl
  obtain ⟨ry0, rv0⟩ := hn.get 0 (by omega)
  have rz0 := hn.frozen 0
  obtain ⟨ry1, rv1⟩ := hn.get 1 (by omega)
  have rz1 := hn.frozen 1
  obtain ⟨ry2, rv2⟩ := hn.get 2 (by omega)
  have rz2 := hn.frozen 2
  obtain ⟨ry3, rv3⟩ := hn.get 3 (by omega)
  have rz3 := hn.frozen 3
  obtain ⟨ry4, rv4⟩ := hn.get 4 (by omega)
  have rz4 := hn.frozen 4
  obtain ⟨ry5, rv5⟩ := hn.get 5 (by omega)
  have rz5 := hn.frozen 5
  obtain ⟨ry6, rv6⟩ := hn.get 6 (by omega)
  have rz6 := hn.frozen 6
  obtain ⟨ry7, rv7⟩ := hn.get 7 (by omega)
  have rz7 := hn.frozen 7
  obtain ⟨ry8, rv8⟩ := hn.get 8 (by omega)
  have rz8 := hn.frozen 8
  obtain ⟨ry9, rv9⟩ := hn.get 9 (by omega)
  have rz9 := hn.frozen 9
  obtain ⟨ry10, rv10⟩ := hn.get 10 (by omega)
  have rz10 := hn.frozen 10
  have hO := out_of (X := X) (y := ⟨⟨i1, i2, i3, i4, i5, i6, i7, i8, j1, j2, j3, j4, j5, j6, j7, j8⟩, s47, s77, s87, lo7, hi7⟩) (wa := wl) hF rfl rfl hC
  refine LoOp.skip rfl (w1 := putN W gb7 X ⟨i1, i2, i3, i4, i5, i6, i7, i8, j1, j2, j3, j4, j5, j6, j7, j8⟩) ?_ ⟨(), rfl, hO.below, hO⟩
  clear hO hF hC hn
  unfold putN
  go_simp
  try rfl
 try simp only [Act.put, nms]
 refine wpTx_z (fun wo hO hC => ?_)
 clear hC
 have HO := Lib.hid hO
 clear hO
 refine ⟨_, rfl, by rfl, ?_⟩
 go_simp
 have hb1 := HO.out.below
 have off7 := HO.out.off
 have loB7 := HO.out.lo
 have hiB7 := HO.out.hi
 have lhB7 := HO.out.lh
 have gB7 := HO.out.bg
 have sO7 := bw_size hb1
 have gL7 := HO.out.bt.lt
 dsimp only at off7 loB7 hiB7 lhB7
 replace H0 := bw_then H0 hb1
 replace HWB := bw_then HWB hb1
 have B3 := Box.below ⟨y3, g3⟩ hb1
 clear y3 g3
 obtain ⟨y3, g3⟩ := B3
 have B8 := Box.below ⟨y8, g8⟩ hb1
 clear y8 g8
 obtain ⟨y8, g8⟩ := B8
 have B4 := Box.below ⟨y4, g4⟩ hb1
 clear y4 g4
 obtain ⟨y4, g4⟩ := B4
 have B5 := Box.below ⟨y5, g5⟩ hb1
 clear y5 g5
 obtain ⟨y5, g5⟩ := B5
 have B6 := Box.below ⟨y6, g6⟩ hb1
 clear y6 g6
 obtain ⟨y6, g6⟩ := B6
 replace HM := Lib.hid (HM.out.below hb1)
 clear hb1
 have B7 : Box wo gb7 #[.int .i64 X.mesh.g.w, .int .i64 X.mesh.g.h, .slice i1 X.mesh.br.length j1, .slice i2 X.pa.length j2, .slice i3 X.pb.length j3, .slice i4 X.bufs.length j4, .slice i5 X.owners.length j5, .slice i6 X.turns.length j6, .slice i7 X.srcs.length j7, .slice i8 X.arrs.length j8, .int .i64 X.time] := HO.out.bt.box
 obtain ⟨y7, g7⟩ := B7
 have HH := Lib.hid (HO.out.nx.reads NBX.out)
 clear HO
 go_wp2_with fail
 refine (laws_eqNet X _ _ _ (HH.out) ((HW.out.below HWB).reads NBX.out)).mono ?_
 rintro e wp ⟨rfl, hb1⟩
 have swp := bw_size hb1
 replace H0 := bw_then H0 hb1
 replace HWB := bw_then HWB hb1
 have B3 := Box.below ⟨y3, g3⟩ hb1
 clear y3 g3
 obtain ⟨y3, g3⟩ := B3
 have B8 := Box.below ⟨y8, g8⟩ hb1
 clear y8 g8
 obtain ⟨y8, g8⟩ := B8
 have B4 := Box.below ⟨y4, g4⟩ hb1
 clear y4 g4
 obtain ⟨y4, g4⟩ := B4
 have B5 := Box.below ⟨y5, g5⟩ hb1
 clear y5 g5
 obtain ⟨y5, g5⟩ := B5
 have B6 := Box.below ⟨y6, g6⟩ hb1
 clear y6 g6
 obtain ⟨y6, g6⟩ := B6
 have B7 := Box.below ⟨y7, g7⟩ hb1
 clear y7 g7
 obtain ⟨y7, g7⟩ := B7
 replace HM := Lib.hid (HM.out.below hb1)
 clear hb1
 go_wp2_with fail
 refine (laws_heldNetY X ⟨ga1, ga2, ga3, ga4, ga5, ga6, ga7, ga8, gc1, gc2, gc3, gc4, gc5, gc6, gc7, gc8⟩ 1 _ (HM.out.reads NBM.out) NBX.out (by omega) (by omega)).mono ?_
 rintro e wq ⟨rfl, hb1⟩
 have swq := bw_size hb1
 replace H0 := bw_then H0 hb1
 replace HWB := bw_then HWB hb1
 have B3 := Box.below ⟨y3, g3⟩ hb1
 clear y3 g3
 obtain ⟨y3, g3⟩ := B3
 have B8 := Box.below ⟨y8, g8⟩ hb1
 clear y8 g8
 obtain ⟨y8, g8⟩ := B8
 have B4 := Box.below ⟨y4, g4⟩ hb1
 clear y4 g4
 obtain ⟨y4, g4⟩ := B4
 have B5 := Box.below ⟨y5, g5⟩ hb1
 clear y5 g5
 obtain ⟨y5, g5⟩ := B5
 have B6 := Box.below ⟨y6, g6⟩ hb1
 clear y6 g6
 obtain ⟨y6, g6⟩ := B6
 have B7 := Box.below ⟨y7, g7⟩ hb1
 clear y7 g7
 obtain ⟨y7, g7⟩ := B7
 replace HM := Lib.hid (HM.out.below hb1)
 clear hb1
 go_wp2
 go_ret
 exact ⟨rfl, H0⟩
end Go.Proofs.Yteeebfeljjghhaa
/- The law FnExactSendPacket answers true for every input, and each argument reads afterwards as it read before. -/
namespace Go.Proofs.Yteeebfeljjghhaa
open Go.ChangeShapes Go.WideShapes Go.ChangeAt Go.RowKit Go.Proofs.YteeebfeljjghhaaW.PrintWords
open NoC
set_option linter.unusedVariables false
theorem own : ownKnob Try.prog.godebug = none := by kernel_rfl
theorem laidOut : laidOutB Try.prog = true := by kernel_rfl
theorem arr_of {cs : Array Value} {l : List Value} (h : cs.toList = l) : cs = l.toArray := by rw [← h]
set_option maxHeartbeats 1000000 in
set_option maxRecDepth 100000 in
theorem lifted_SendPacket (os : Os) (started : os.Started) (H : Type) (enc : TypeId × Value → H) :
    ReturnsInHanded {} Try.checked os 3 .any (Rows.fnExactSendPacketSpec.pre6 enc Try.prog Try.f3 Rows.fnExactSendPacketRow.domain false) (Rows.fnExactSendPacketSpec.post enc Try.prog Try.f3 false true false false) := by
  refine returnsInHanded_of_change_sized (C := Try.checked) own started (by kernel_rfl) Try.func3
    (ChangeSpec.witness6 (enc := enc) (C := Try.checked) false ⟨#[], #[.agg #[.int .i64 0, .int .i64 0, .slice none 0 0, .slice none 0 0, .slice none 0 0, .slice none 0 0, .slice none 0 0, .slice none 0 0, .slice none 0 0, .slice none 0 0, .int .i64 0], .agg #[.int .i64 0, .int .i64 0, .int .i64 0, .int .i64 0, .int .i64 0]], []⟩ 8 (by kernel_rfl) (by kernel_rfl) (by kernel_rfl) (by kernel_rfl)) ?_
  intro W base args ds gs before hval0 hW hcnd hsz0 _
  have hsz : (DataW.weightsEach Try.prog (Try.f3.params.toList ++ Rows.fnExactSendPacketSpec.plain.varTypes Try.prog) (ds ++ gs)).all (· ≤ reachBytes) = true := hsz0
  have hval : ∀ (j : Nat) t v, Try.f3.params[j]? = some t → args[j]? = some v → Value.okWide Try.prog W .any base t v := hval0
  have hW' := hW
  obtain ⟨p, q, hA0, hV, rfl, hfz, hnd⟩ := hW
  have hA : DataW.TrodAll enc Try.prog W 0 (fun _ => true) true Try.f3.params.toList args.toList ds p := hA0
  rw [Try.params3] at hA hval hsz
  obtain ⟨v0, vs0, d0, ds0, p0, q0, hargs, rfl, rfl, h0, r0⟩ := trodAll_cons hA
  obtain ⟨v1, vs1, d1, ds1, p1, q1, rfl, rfl, rfl, h1, r1⟩ := trodAll_cons r0
  obtain ⟨rfl, rfl, rfl⟩ := trodAll_nil r1
  obtain rfl : args = #[v0, v1] := by cases args; simp_all
  obtain ⟨rfl, rfl⟩ := trodVars_none hV
  obtain ⟨c0, rfl, _⟩ := okWide_struct Try.underlying33 (hval 0 _ v0 rfl rfl)
  obtain ⟨c1, rfl, _⟩ := okWide_struct Try.underlying35 (hval 1 _ v1 rfl rfl)
  have k0 := h0
  have lt0 : ∀ x ∈ p0, x.block < W.heap.size := by obtain ⟨m, hm⟩ := k0; exact DataW.trod_lt m _ _ _ hm
  have k1 := h1
  have lt1 : ∀ x ∈ p1, x.block < W.heap.size := by obtain ⟨m, hm⟩ := k1; exact DataW.trod_lt m _ _ _ hm
  obtain ⟨f0, g0⟩ := h0
  obtain ⟨f1, g1⟩ := h1
  obtain ⟨n0, q0', e0, hn0⟩ := op_net g0 (light_arg hsz (j := 0) rfl rfl)
  obtain rfl := arr_of e0
  obtain ⟨x1, e1⟩ := op_packet g1 (light_arg hsz (j := 1) rfl rfl)
  obtain rfl := arr_of e1
  clear hA0 hval0 hsz0 hsz
  refine (law_SendPacket n0 x1 q0' W hn0).mono fun e W' ⟨he, bel⟩ => ?_
  subst he
  exact ⟨_, rfl, _, _, _, [], _, [], hW', trodAll_mk1 (shut_bool Try.underlying4 _), (trodAll_cons_mk (Below.trod laidOut (by kernel_rfl) (of_decide_eq_true (by kernel_rfl)) k0 bel lt0) (trodAll_cons_mk (Below.trod laidOut (by kernel_rfl) (of_decide_eq_true (by kernel_rfl)) k1 bel lt1) trodAll_mk0)), rfl, bel.frame _, fun h => by cases h⟩
theorem over_SendPacket : Rows.fnExactSendPacketRow.holds Try.pinned (OpenSpec.ofChange Rows.fnExactSendPacketSpec) :=
  OpenClaim.holds_of_wide 3 Try.f3 rfl rfl rfl rfl rfl rfl rfl ⟨rfl, rfl, rfl, rfl, rfl⟩ rfl rfl rfl rfl rfl (by kernel_rfl) Try.func3 (by kernel_rfl)
    (of_decide_eq_true (by kernel_rfl)) (by unfold Func.isWrapper; first | (rw [if_pos (by decide +kernel)]; kernel_rfl) | (rw [if_neg (by decide +kernel)]; exact ⟨rfl, rfl⟩))
    (fun os started H enc _ => lifted_SendPacket os started H enc)
theorem fnExactSendPacket_holds : Rows.FnExactSendPacketSaid := over_SendPacket
#print axioms fnExactSendPacket_holds
end Go.Proofs.Yteeebfeljjghhaa
