/- Lemmas for laws of this seat, for all inputs: RunS SndS SndT KB SndU Open OpenP. -/
import Derived.Test.YteeebfeljjghhaaG6
import Derived.Test.YteeebfeljjghhaaG9
import Derived.Test.YteeebfeljjghhaaG10
import Derived.Test.YteeebfeljjghhaaG7
import Derived.Test.YteeebfeljjghhaaG2
import Derived.ProofKit
import Derived.OpenShut
import Derived.SizedLaws
import Derived.WideShapes
import Derived.ChangeSame
import Derived.Test.YteeebfeljjghhaaG3
/- Steps and runs of a network: the reference's side. -/
set_option linter.unusedVariables false
set_option linter.unusedSimpArgs false
namespace Go.Proofs.Yteeebfeljjghhaa
open Go.RowKit Go.Proofs.YteeebfeljjghhaaW.PrintWords
open NoC

end Go.Proofs.Yteeebfeljjghhaa
/- Sends: the reference's side; for all networks and all packets. -/
set_option linter.unusedVariables false
set_option linter.unusedSimpArgs false
namespace Go.Proofs.Yteeebfeljjghhaa
open Go.RowKit Go.Proofs.YteeebfeljjghhaaW.PrintWords
open NoC

set_option maxHeartbeats 16000000 in
set_option maxRecDepth 100000 in
theorem spec_l16Send (n : Net) (p : Packet) (q : NA) (w : World) (hr : NetR 83 w n q) (ok : netOk n = true) (hs : sendOk n p = true) :
  Calls Try.prog 19 #[.agg (netCells n q), .agg #[.int .i64 p.id, .int .i64 p.src, .int .i64 p.dst, .int .i64 p.cls, .int .i64 p.len]] w fun e w' => GotNX w w' (sendN n p) e ∧ Below w.heap.size w w' := by
 have HR := Lib.hid hr
 have NBQ := Lib.hid hr.nb
 obtain ⟨l4, l5, l6, l7, l8⟩ := lens_ok ok
 have hsb := srcs_len ok
 have HSL := Lib.hid hsb.2
 have hk : packetOk n.mesh.g p = true := by
  simp only [sendOk, Bool.and_eq_true] at hs
  exact hs.1
 obtain ⟨a1, a2, a3, a4, a5, a6, a7, a8, c1, c2, c3, c4, c5, c6, c7, c8⟩ := q
 clear hr
 dsimp only [netCells]

 go_enter Try.func19, Try.ntmps19
 go_wp2_with fail
 refine (spec_l15Copy n _ _ (HR.out.below bel)).mono ?_
 rintro e w1 ⟨hg1, HBC⟩
 obtain ⟨qq, v4, v7, v8, rfl, HN0⟩ := hg1
 obtain ⟨b1, b2, b3, b4, b5, b6, b7, b8, d1, d2, d3, d4, d5, d6, d7, d8⟩ := qq
 dsimp only [netCells]
 obtain ⟨w0, e0⟩ : ∃ z, z = w1.alloc (.cells #[.int .i64 n.mesh.g.w, .int .i64 n.mesh.g.h, .slice b1 n.mesh.br.length d1, .slice b2 n.pa.length d2, .slice b3 n.pb.length d3, .slice b4 n.bufs.length d4, .slice b5 n.owners.length d5, .slice b6 n.turns.length d6, .slice b7 n.srcs.length d7, .slice b8 n.arrs.length d8, .int .i64 n.time] 45) := ⟨_, rfl⟩
 have hz0 : w0.heap.size = w1.heap.size + 1 := by rw [e0]; simp only [szs]
 have hw01 : Below w1.heap.size w1 w0 := by rw [e0]; exact bw_alloc _ (bw_refl w1)
 obtain ⟨bx, ebx⟩ : ∃ z, z = w1.heap.size := ⟨_, rfl⟩
 have HBT : Hid (BT w0 bx n ⟨b1, b2, b3, b4, b5, b6, b7, b8, d1, d2, d3, d4, d5, d6, d7, d8⟩) := Lib.hid (by rw [e0, ebx]; exact blk_new w1 _)
 obtain ⟨lo, elo⟩ : ∃ z, z = w.heap.size + 3 := ⟨_, rfl⟩
 have HN : Hid (NX w0 lo n ⟨b1, b2, b3, b4, b5, b6, b7, b8, d1, d2, d3, d4, d5, d6, d7, d8⟩ v4 v7 v8) := Lib.hid ((HN0.lower (by simp only [szs]; omega)).below hw01)
 have HHB : Hid (Below w.heap.size w w0) := Lib.hid (bw_then (bw_then (bw_alloc _ (bw_alloc _ (bw_alloc _ (bw_refl w)))) HBC) hw01)
 have sw : w.heap.size + 3 ≤ w1.heap.size := by have := bw_size HBC; simp only [szs] at this; omega
 have HX0 : Hid (Box w0 w.heap.size #[.int .i64 n.mesh.g.w, .int .i64 n.mesh.g.h, .slice a1 n.mesh.br.length c1, .slice a2 n.pa.length c2, .slice a3 n.pb.length c3, .slice a4 n.bufs.length c4, .slice a5 n.owners.length c5, .slice a6 n.turns.length c6, .slice a7 n.srcs.length c7, .slice a8 n.arrs.length c8, .int .i64 n.time]) := Lib.hid ((((((Box.new w w.heap.size #[.int .i64 n.mesh.g.w, .int .i64 n.mesh.g.h, .slice a1 n.mesh.br.length c1, .slice a2 n.pa.length c2, .slice a3 n.pb.length c3, .slice a4 n.bufs.length c4, .slice a5 n.owners.length c5, .slice a6 n.turns.length c6, .slice a7 n.srcs.length c7, .slice a8 n.arrs.length c8, .int .i64 n.time] 45 rfl).alloc _).alloc _).below HBC)).below hw01)
 have HP0 : Hid (Box w0 (w.heap.size + 1) #[.int .i64 p.id, .int .i64 p.src, .int .i64 p.dst, .int .i64 p.cls, .int .i64 p.len]) := Lib.hid (((((Box.new (w.alloc (.cells #[.int .i64 n.mesh.g.w, .int .i64 n.mesh.g.h, .slice a1 n.mesh.br.length c1, .slice a2 n.pa.length c2, .slice a3 n.pb.length c3, .slice a4 n.bufs.length c4, .slice a5 n.owners.length c5, .slice a6 n.turns.length c6, .slice a7 n.srcs.length c7, .slice a8 n.arrs.length c8, .int .i64 n.time] 45)) (w.heap.size + 1) #[.int .i64 p.id, .int .i64 p.src, .int .i64 p.dst, .int .i64 p.cls, .int .i64 p.len] 49 (by simp only [szs])).alloc _).below HBC)).below hw01)
 have HZB : Hid (BN w0 (w.heap.size + 2)) := Lib.hid (((BT.bn (by have hn := BT.new ((w.alloc (.cells #[.int .i64 n.mesh.g.w, .int .i64 n.mesh.g.h, .slice a1 n.mesh.br.length c1, .slice a2 n.pa.length c2, .slice a3 n.pb.length c3, .slice a4 n.bufs.length c4, .slice a5 n.owners.length c5, .slice a6 n.turns.length c6, .slice a7 n.srcs.length c7, .slice a8 n.arrs.length c8, .int .i64 n.time] 45)).alloc (.cells #[.int .i64 p.id, .int .i64 p.src, .int .i64 p.dst, .int .i64 p.cls, .int .i64 p.len] 49)) ⟨⟨⟨0, 0⟩, []⟩, [], [], [], [], [], [], [], 0⟩ ⟨none, none, none, none, none, none, none, none, 0, 0, 0, 0, 0, 0, 0, 0⟩; simp only [szs] at hn; exact hn)).below HBC).below hw01)
 have sb1 : bx < w0.heap.size := by omega
 have sb2 : w.heap.size + 3 ≤ bx := by omega
 have sl1 : lo ≤ w.heap.size + 3 := by omega
 have sl2 : w.heap.size + 3 ≤ lo := by omega
 have sl4 : lo ≤ w0.heap.size := by omega
 -- the row that grows
 obtain ⟨g7, eg7, t7, s7⟩ := HN.out.form7 l7
 dsimp only at eg7
 subst eg7
 obtain ⟨nd, _, _, _, n1, n5⟩ := packet_parts hk
 have nd1 := isNode_iff.1 nd
 obtain ⟨k, hkt⟩ : ∃ k : Nat, p.src.toNat = k := ⟨_, rfl⟩
 have hkk : p.src = (k : Int) := by omega
 have hks : k < n.srcs.length := by have := HSL.out; omega
 have HKS := Lib.hid hks
 have hrow := HN.out.row7 k hks
 try dsimp only at hrow
 obtain ⟨As, cs, hv⟩ := Kd.R_slice hrow
 rw [hv] at hrow
 obtain ⟨R, hR⟩ : ∃ R, rl n.srcs (k : Int) = R := ⟨_, rfl⟩
 rw [hR] at hrow hv
 have hRl : R.length ≤ 2097152 := by rw [← hR]; exact NBQ.out.h10 _ (rl_mem hks)
 obtain ⟨L, hL⟩ : ∃ L, flitsOf n.mesh.g p = L := ⟨_, rfl⟩
 have HCF : Hid (∀ W : World, Calls Try.prog 49 #[.agg #[.int .i64 n.mesh.g.w, .int .i64 n.mesh.g.h], .agg #[.int .i64 p.id, .int .i64 p.src, .int .i64 p.dst, .int .i64 p.cls, .int .i64 p.len]] W fun e w' => GotF W w' L e ∧ Below W.heap.size W w') := Lib.hid (fun W => by rw [← hL]; exact spec_FlitsOf n.mesh.g p W)
 have hL5 : L.length ≤ 5 := by have := flitsOf_len hk; rw [hL] at this; omega
 have HE : Hid (sendN n p = { n with srcs := n.srcs.set k (R ++ L) }) := Lib.hid (by unfold sendN; rw [hL, hkk, hR, Int.toNat_natCast])
 obtain ⟨cl1, cl2⟩ := own_facts7 (x := n) HN.out rfl hks hv
 have CL1 := Lib.hid cl1
 have CL2 := Lib.hid cl2
 have HV := Lib.hid hv
 have HRow := Lib.hid hrow
 obtain ⟨rb, hrb⟩ : ∃ rb, (Value.slice As R.length cs).ownBlock = rb := ⟨_, rfl⟩
 have hbo : BlkT w0 g7 60 := own_typed HN.out.srcs g7 rfl
 have nb1 : ¬ some bx = rb := fun e => by obtain ⟨inner, hin⟩ := Kd.R_own hrow; exact own_ne hin HBT.out (by decide) (e.trans hrb.symm)
 have nb3 : ¬ some g7 = rb := fun e => by
  obtain ⟨inner, hin⟩ := Kd.R_own hrow
  obtain ⟨cc, hc⟩ := hbo
  exact own_ne hin hc (by decide) (e.trans hrb.symm)
 have low : ∀ j, (Value.slice As R.length cs).ownBlock = some j → lo ≤ j := fun j hj => Kd.R_base hrow j hj
 have nbn : ¬ some w.heap.size = rb := fun e => by have := low _ (hrb.trans e.symm); omega
 have nbp : ¬ some (w.heap.size + 1) = rb := fun e => by have := low _ (hrb.trans e.symm); omega
 have nbo : ¬ bx = g7 := by
  obtain ⟨cc, hc⟩ := hbo
  exact blk_ne HBT.out hc (by decide)
 have nno : ¬ w.heap.size = g7 := by omega
 have npo : ¬ w.heap.size + 1 = g7 := by omega
 have HRB1 := Lib.hid hrb
 have HBO := Lib.hid hbo
 have i0 : (0 : Int) ≤ p.src := by omega
 have i1 : p.src < (n.srcs.length : Int) := by omega
 have x0 : w0.cell? ⟨w.heap.size, 0, none⟩ = some (.int .i64 n.mesh.g.w) := HX0.out.get 0
 have x1 : w0.cell? ⟨w.heap.size, 1, none⟩ = some (.int .i64 n.mesh.g.h) := HX0.out.get 1
 have p0 : w0.cell? ⟨w.heap.size + 1, 0, none⟩ = some (.int .i64 p.id) := HP0.out.get 0
 have p1 : w0.cell? ⟨w.heap.size + 1, 1, none⟩ = some (.int .i64 p.src) := HP0.out.get 1
 have p2 : w0.cell? ⟨w.heap.size + 1, 2, none⟩ = some (.int .i64 p.dst) := HP0.out.get 2
 have p3 : w0.cell? ⟨w.heap.size + 1, 3, none⟩ = some (.int .i64 p.cls) := HP0.out.get 3
 have p4 : w0.cell? ⟨w.heap.size + 1, 4, none⟩ = some (.int .i64 p.len) := HP0.out.get 4
 have z8 : w0.cell? ⟨bx, 8, none⟩ = some (.slice (some ⟨g7, 0, none⟩) n.srcs.length d7) := HBT.out.box.get 8
 have g7z : g7 < w0.heap.size := s7
 have q1 : w.heap.size < w0.heap.size := by omega
 have q2 : w.heap.size + 1 < w0.heap.size := by omega
 clear hkk hz0 sw HBC hw01 HN0 elo hk hs hsb nd nd1 n1 n5 hks hv hR hL hrow hbo hrb low
 go_wp2_with fail
 rw [← ebx]
 rw [← e0]
 clear e0 ebx
 refine wp_region_tx (CK w0 rb) (fun i => [.pointer (some ⟨bx, 8, none⟩), .slice (some ⟨g7, 0, none⟩) n.srcs.length d7, .pointer (some ⟨w.heap.size + 1, 1, none⟩), .int .i64 p.src, .pointer (some ⟨bx, 8, none⟩), .slice (some ⟨g7, 0, none⟩) n.srcs.length d7, .pointer (some ⟨w.heap.size + 1, 1, none⟩), .int .i64 p.src, .pointer (some ⟨g7, k, none⟩), .slice As R.length cs, .pointer (some ⟨w.heap.size, 0, none⟩), .pointer (some ⟨w.heap.size, 0, none⟩), .agg #[.int .i64 n.mesh.g.w, .int .i64 n.mesh.g.h], .agg #[.int .i64 p.id, .int .i64 p.src, .int .i64 p.dst, .int .i64 p.cls, .int .i64 p.len], undef, undef, .pointer (some ⟨g7, k, none⟩)].getD i undef) 17 [(0, .quiet), (1, .quiet), (2, .quiet), (3, .quiet), (4, .quiet), (5, .quiet), (6, .quiet), (7, .quiet), (8, .quiet), (9, .quiet), (10, .quiet), (11, .quiet), (12, .quiet), (13, .quiet), (14, .chain), (15, .chain), (16, .quiet)] (by kernel_rfl) (by kernel_rfl) (by kernel_rfl) (by kernel_rfl) (by kernel_rfl) (by kernel_rfl) (by kernel_rfl) (by kernel_rfl) CK.drew (fun W => W = w0.drew) rfl ?_
 refine wpTx_q (some 8) rfl rfl (by rfl) (fun W hC => ?_) ?_
 ·clear hC
  go_simp
  try rfl
 try simp only [Act.put, nms]
 refine wpTx_q (some 9) rfl rfl (by rfl) (fun W hC => ?_) ?_
 ·have := hC.cell sb1 nb1 z8
  clear hC
  go_simp
  try rfl
 try simp only [Act.put, nms]
 refine wpTx_q (some 10) rfl rfl (by rfl) (fun W hC => ?_) ?_
 ·clear hC
  go_simp
  try rfl
 try simp only [Act.put, nms]
 refine wpTx_q (some 11) rfl rfl (by rfl) (fun W hC => ?_) ?_
 ·have := hC.cell q2 nbp p1
  clear hC
  go_simp
  try rfl
 try simp only [Act.put, nms]
 refine wpTx_q (some 12) rfl rfl (by rfl) (fun W hC => ?_) ?_
 ·clear hC
  go_simp
  try rfl
 try simp only [Act.put, nms]
 refine wpTx_q (some 13) rfl rfl (by rfl) (fun W hC => ?_) ?_
 ·have := hC.cell sb1 nb1 z8
  clear hC
  go_simp
  try rfl
 try simp only [Act.put, nms]
 refine wpTx_q (some 14) rfl rfl (by rfl) (fun W hC => ?_) ?_
 ·clear hC
  go_simp
  try rfl
 try simp only [Act.put, nms]
 refine wpTx_q (some 15) rfl rfl (by rfl) (fun W hC => ?_) ?_
 ·have := hC.cell q2 nbp p1
  clear hC
  go_simp
  try rfl
 try simp only [Act.put, nms]
 refine wpTx_q (some 16) rfl rfl (by rfl) (fun W hC => ?_) ?_
 ·clear hC
  go_simp
  try rfl
 try simp only [Act.put, nms]
 refine wpTx_q (some 17) rfl rfl (by rfl) (fun W hC => ?_) ?_
 ·have := hC.cell g7z nb3 CL1.out
  clear hC
  go_simp
  try rfl
 try simp only [Act.put, nms]
 refine wpTx_q (some 18) rfl rfl (by rfl) (fun W hC => ?_) ?_
 ·clear hC
  go_simp
  try rfl
 try simp only [Act.put, nms]
 refine wpTx_q (some 19) rfl rfl (by rfl) (fun W hC => ?_) ?_
 ·clear hC
  go_simp
  try rfl
 try simp only [Act.put, nms]
 refine wpTx_q (some 20) rfl rfl (by rfl) (fun W hC => ?_) ?_
 ·have := hC.cell q1 nbn x0
  have := hC.cell q1 nbn x1
  clear hC
  go_simp
  try rfl
 try simp only [Act.put, nms]
 refine wpTx_q (some 21) rfl rfl (by rfl) (fun W hC => ?_) ?_
 ·have := hC.cell q2 nbp p0
  have := hC.cell q2 nbp p1
  have := hC.cell q2 nbp p2
  have := hC.cell q2 nbp p3
  have := hC.cell q2 nbp p4
  clear hC
  go_simp
  try rfl
 try simp only [Act.put, nms]
 refine wpTx_c (some 22) rfl rfl (by rfl) ((none, 0) : Option Addr × Nat) (fun y => .slice y.1 L.length y.2) (fun y W => kF.R 83 W w0.heap.size (fun _ => True) (.slice y.1 L.length y.2) L ∧ Below w0.heap.size w0 W) (fun W hF hC => ?_) (fun yc => ?_)
 ·subst hF
  refine LoOp.enter (by go_simp; first | done | exact ⟨rfl, rfl⟩ | rfl) ?_
  refine (HCF.out _).mono ?_
  rintro e W1 ⟨hg1, hb1⟩
  obtain ⟨v, rfl, hO⟩ := hg1
  obtain ⟨A, c, rfl⟩ := Kd.R_slice hO
  exact ⟨_, rfl, (A, c), rfl, hC.below hb1, hO, bw_then (bw_drew (bw_refl _)) hb1⟩
 try simp only [Act.put, nms]
 refine wpTx_c (some 23) rfl rfl (by rfl) ((none, 0) : Option Addr × Nat) (fun y => .slice y.1 (R.length + L.length) y.2) (fun y W9 => ∃ wf, Below w0.heap.size w0 wf ∧ kF.R 83 W9 lo (fun _ => True) (.slice y.1 (R ++ L).length y.2) (R ++ L) ∧ wf.grownBy W9 (Value.slice As R.length cs).ownBlock ∧ Anew wf (.slice y.1 (R ++ L).length y.2) (.slice As R.length cs)) (fun W hF hC => ?_) (fun yv => ?_)
 ·obtain ⟨Af, cf⟩ := yc
  obtain ⟨HF0, hbf⟩ := hF
  refine LoOp.of_if (ops := #[]) rfl rfl (by simp) (by rfl) (apps_FS (ops := #[]) (W := W) (B := lo) (by rfl) (.tmp 17) (.tmp 22) rfl (.slice As R.length cs) R L Af cf rfl rfl (Kd.R_below HRow.out hbf) (Kd.R_rowX HF0).2.2 (Nat.le_trans sl4 (bw_size hbf)) (by omega) ?_)
  intro v9 w9 H9 hg9 ha9
  obtain ⟨A9, d9, rfl⟩ := Kd.R_slice H9
  have hg9r := hg9
  rw [HRB1.out] at hg9r
  refine ⟨(A9, d9), ?_, hC.grown hg9r, W, hbf, H9, hg9, ha9⟩
  show Value.slice A9 (R ++ L).length d9 = .slice A9 (R.length + L.length) d9
  rw [List.length_append]
 try simp only [Act.put, nms]
 refine wpTx_q (some 24) rfl rfl (by rfl) (fun W hC => ?_) ?_
 ·clear hC
  go_simp
  try rfl
 try simp only [Act.put, nms]
 refine wpTx_z (fun w9 hF hC => ?_)
 obtain ⟨A9, d9⟩ := yv
 obtain ⟨wf, hbff, H9, hg9, ha9⟩ := hF
 dsimp only at H9 ha9
 have k1 := hC.cell g7z nb3 CL1.out
 have k2 := hC.frozen g7z nb3 CL2.out
 clear hC
 refine ⟨_, rfl, by rfl, ?_⟩
 go_simp
 have hl9 : (R ++ L).length = R.length + L.length := by simp
 obtain ⟨W10, e10⟩ : ∃ z, z = w9.setCell ⟨g7, k, none⟩ (.slice A9 (R.length + L.length) d9) := ⟨_, rfl⟩
 have HNf := HN.out.below hbff
 have HROf := Kd.R_below HRow.out hbff
 obtain ⟨Y, eY⟩ : ∃ Y : Net, Y = { n with srcs := n.srcs.set k (R ++ L) } := ⟨_, rfl⟩
 have HN9 : Hid (NX W10 lo Y ⟨b1, b2, b3, b4, b5, b6, some ⟨g7, 0, none⟩, b8, d1, d2, d3, d4, d5, d6, d7, d8⟩ v4 (v7.set k (.slice A9 (R.length + L.length) d9)) v8) := Lib.hid (by
  have hh := HNf.setSrc (g := g7) (k := k) (u := .slice A9 (R ++ L).length d9) (y := R ++ L) rfl HKS.out (by rw [show vr v7 k = .slice As R.length cs from HV.out]; exact hg9) H9 (by rw [show vr v7 k = .slice As R.length cs from HV.out]; exact ha9)
  rw [hl9] at hh
  rw [e10, eY]
  exact hh)
 have HB9 : Hid (BT W10 bx Y ⟨b1, b2, b3, b4, b5, b6, some ⟨g7, 0, none⟩, b8, d1, d2, d3, d4, d5, d6, d7, d8⟩) := Lib.hid (by
  rw [e10, eY]
  exact (((HBT.out.below hbff).grown hg9 HROf).far ((HBO.out.below hbff).grown hg9 HROf) (by decide) _ _).eq (by simp [netCells]))
 have HW9 : Hid (Below lo w0 W10) := Lib.hid (by
  rw [e10]
  exact below_setc (Below.grownRow (Below.cut hbff sl4) hg9 (Nat.le_trans sl4 (bw_size hbff)) (fun j hj => Kd.R_base HROf j hj)) t7 _ _)
 have HE9 : Hid (sendN n p = Y) := Lib.hid (by rw [eY]; exact HE.out)
 have HZ9 : Hid (BN W10 (w.heap.size + 2)) := Lib.hid (HZB.out.low HW9.out (by omega))
 rw [← e10]
 clear e10 k1 k2 hg9 H9 ha9 HNf HROf eY hbff x0 x1 p0 p1 p2 p3 p4 z8 q1 q2 cl1 cl2 hL5 hRl HE hkt i0 i1 hl9
 have bl := HB9.out.lt
 have b0x : W10.cell? ⟨bx, 0, none⟩ = some (.int .i64 Y.mesh.g.w) := HB9.out.box.get 0
 have b1x : W10.cell? ⟨bx, 1, none⟩ = some (.int .i64 Y.mesh.g.h) := HB9.out.box.get 1
 have b2x : W10.cell? ⟨bx, 2, none⟩ = some (.slice b1 Y.mesh.br.length d1) := HB9.out.box.get 2
 have b3x : W10.cell? ⟨bx, 3, none⟩ = some (.slice b2 Y.pa.length d2) := HB9.out.box.get 3
 have b4x : W10.cell? ⟨bx, 4, none⟩ = some (.slice b3 Y.pb.length d3) := HB9.out.box.get 4
 have b5x : W10.cell? ⟨bx, 5, none⟩ = some (.slice b4 Y.bufs.length d4) := HB9.out.box.get 5
 have b6x : W10.cell? ⟨bx, 6, none⟩ = some (.slice b5 Y.owners.length d5) := HB9.out.box.get 6
 have b7x : W10.cell? ⟨bx, 7, none⟩ = some (.slice b6 Y.turns.length d6) := HB9.out.box.get 7
 have b8x : W10.cell? ⟨bx, 8, none⟩ = some (.slice (some ⟨g7, 0, none⟩) Y.srcs.length d7) := HB9.out.box.get 8
 have b9x : W10.cell? ⟨bx, 9, none⟩ = some (.slice b8 Y.arrs.length d8) := HB9.out.box.get 9
 have b10x : W10.cell? ⟨bx, 10, none⟩ = some (.int .i64 Y.time) := HB9.out.box.get 10
 obtain ⟨ry0, rv0⟩ := HZ9.out.get 0 (by omega)
 have rz0 := HZ9.out.frozen 0
 obtain ⟨ry1, rv1⟩ := HZ9.out.get 1 (by omega)
 have rz1 := HZ9.out.frozen 1
 obtain ⟨ry2, rv2⟩ := HZ9.out.get 2 (by omega)
 have rz2 := HZ9.out.frozen 2
 obtain ⟨ry3, rv3⟩ := HZ9.out.get 3 (by omega)
 have rz3 := HZ9.out.frozen 3
 obtain ⟨ry4, rv4⟩ := HZ9.out.get 4 (by omega)
 have rz4 := HZ9.out.frozen 4
 obtain ⟨ry5, rv5⟩ := HZ9.out.get 5 (by omega)
 have rz5 := HZ9.out.frozen 5
 obtain ⟨ry6, rv6⟩ := HZ9.out.get 6 (by omega)
 have rz6 := HZ9.out.frozen 6
 obtain ⟨ry7, rv7⟩ := HZ9.out.get 7 (by omega)
 have rz7 := HZ9.out.frozen 7
 obtain ⟨ry8, rv8⟩ := HZ9.out.get 8 (by omega)
 have rz8 := HZ9.out.frozen 8
 obtain ⟨ry9, rv9⟩ := HZ9.out.get 9 (by omega)
 have rz9 := HZ9.out.frozen 9
 obtain ⟨ry10, rv10⟩ := HZ9.out.get 10 (by omega)
 have rz10 := HZ9.out.frozen 10
 have nz : ¬ w.heap.size + 2 = bx := by omega
 have nz' : ¬ bx = w.heap.size + 2 := by omega
 go_wp2
 obtain ⟨W11, e11⟩ : ∃ z, z = putN W10 (w.heap.size + 2) Y ⟨b1, b2, b3, b4, b5, b6, some ⟨g7, 0, none⟩, b8, d1, d2, d3, d4, d5, d6, d7, d8⟩ := ⟨_, rfl⟩
 have HB11 : Hid (BT W11 (w.heap.size + 2) Y ⟨b1, b2, b3, b4, b5, b6, some ⟨g7, 0, none⟩, b8, d1, d2, d3, d4, d5, d6, d7, d8⟩) := Lib.hid (by rw [e11]; exact putN_BT HZ9.out)
 have HN11 : Hid (NX W11 lo Y ⟨b1, b2, b3, b4, b5, b6, some ⟨g7, 0, none⟩, b8, d1, d2, d3, d4, d5, d6, d7, d8⟩ v4 (v7.set k (.slice A9 (R.length + L.length) d9)) v8) := Lib.hid (by rw [e11]; exact HN9.out.put HZ9.out)
 have HL11 : Hid (Below w.heap.size w W11) := Lib.hid (by
  have h1 : Below w.heap.size w W10 := bw_trans HHB.out HW9.out (by omega)
  rw [e11]
  exact below_put h1 (by omega))
 unfold putN at e11
 try dsimp only at e11
 rw [← e11]
 clear e11
 exact bodyPost_ret (results_cell_row Try.results19 _ _ (w.heap.size + 2) 45 _ (0, 0) _ rfl HB11.out Try.underlying45 rfl (by kernel_rfl)) rfl (by rw [HE9.out]; exact ⟨⟨_, _, _, _, rfl, HN11.out.lower (by omega)⟩, HL11.out⟩)
end Go.Proofs.Yteeebfeljjghhaa
/- A packet sent into a copy: the reference's side; for all networks and all packets. -/
set_option linter.unusedVariables false
set_option linter.unusedSimpArgs false
namespace Go.Proofs.Yteeebfeljjghhaa
open Go.RowKit Go.Proofs.YteeebfeljjghhaaW.PrintWords
open NoC

theorem rl_memJ {l : List (List Flit)} {a : Int} (h0 : 0 ≤ a) (h1 : a < (l.length : Int)) : rl l a ∈ l := by
  have := rl_mem (l := l) (k := a.toNat) (by omega)
  rwa [Int.toNat_of_nonneg h0] at this
theorem sendPacket_no {n : Net} {p : Packet} (h : netOk n = false ∨ sendOk n p = false) : sendPacketN n p = n ∧ sendPacketB n p = false := by
  unfold sendPacketN sendPacketB sndN
  rcases h with h | h <;> simp [h]
theorem sendPacket_yes {n : Net} {p : Packet} (h : netOk n = true) (h2 : sendOk n p = true) : sendPacketN n p = sendN n p ∧ sendPacketB n p = true := by
  unfold sendPacketN sendPacketB sndN
  simp [h, h2]
set_option maxHeartbeats 16000000 in
set_option maxRecDepth 100000 in
theorem spec_SendPacket (n : Net) (p : Packet) (q : NA) (w : World) (hr : NetR 83 w n q) :
  Calls Try.prog 5 #[.agg (netCells n q), .agg #[.int .i64 p.id, .int .i64 p.src, .int .i64 p.dst, .int .i64 p.cls, .int .i64 p.len]] w fun e w' => GotNV w w' (sendPacketN n p) (.bool (sendPacketB n p)) e ∧ Below w.heap.size w w' := by
 have HR := Lib.hid hr
 have NBQ := Lib.hid hr.nb
 obtain ⟨a1, a2, a3, a4, a5, a6, a7, a8, c1, c2, c3, c4, c5, c6, c7, c8⟩ := q
 clear hr
 dsimp only [netCells]

 go_enter Try.func5, Try.ntmps5
 go_wp2_with fail
 obtain ⟨w0, e0⟩ : ∃ z, z = (((w.alloc (.cells #[.int .i64 n.mesh.g.w, .int .i64 n.mesh.g.h, .slice a1 n.mesh.br.length c1, .slice a2 n.pa.length c2, .slice a3 n.pb.length c3, .slice a4 n.bufs.length c4, .slice a5 n.owners.length c5, .slice a6 n.turns.length c6, .slice a7 n.srcs.length c7, .slice a8 n.arrs.length c8, .int .i64 n.time] 45)).alloc (.cells #[.int .i64 p.id, .int .i64 p.src, .int .i64 p.dst, .int .i64 p.cls, .int .i64 p.len] 49)).alloc (.cells #[.int .i64 0, .int .i64 0, .slice none 0 0, .slice none 0 0, .slice none 0 0, .slice none 0 0, .slice none 0 0, .slice none 0 0, .slice none 0 0, .slice none 0 0, .int .i64 0] 45)) := ⟨_, rfl⟩
 have HB0 : Below w.heap.size w w0 := by rw [e0]; exact bw_alloc _ (bw_alloc _ (bw_alloc _ (bw_refl w)))
 have HR0 := Lib.hid (HR.out.below HB0)
 have HW0 := Lib.hid HB0
 have HX0 : Hid (Box w0 w.heap.size #[.int .i64 n.mesh.g.w, .int .i64 n.mesh.g.h, .slice a1 n.mesh.br.length c1, .slice a2 n.pa.length c2, .slice a3 n.pb.length c3, .slice a4 n.bufs.length c4, .slice a5 n.owners.length c5, .slice a6 n.turns.length c6, .slice a7 n.srcs.length c7, .slice a8 n.arrs.length c8, .int .i64 n.time]) := Lib.hid (by rw [e0]; exact ((Box.new w w.heap.size #[.int .i64 n.mesh.g.w, .int .i64 n.mesh.g.h, .slice a1 n.mesh.br.length c1, .slice a2 n.pa.length c2, .slice a3 n.pb.length c3, .slice a4 n.bufs.length c4, .slice a5 n.owners.length c5, .slice a6 n.turns.length c6, .slice a7 n.srcs.length c7, .slice a8 n.arrs.length c8, .int .i64 n.time] 45 rfl).alloc _).alloc _)
 have HP0 : Hid (Box w0 (w.heap.size + 1) #[.int .i64 p.id, .int .i64 p.src, .int .i64 p.dst, .int .i64 p.cls, .int .i64 p.len]) := Lib.hid (by rw [e0]; exact (Box.new (w.alloc (.cells #[.int .i64 n.mesh.g.w, .int .i64 n.mesh.g.h, .slice a1 n.mesh.br.length c1, .slice a2 n.pa.length c2, .slice a3 n.pb.length c3, .slice a4 n.bufs.length c4, .slice a5 n.owners.length c5, .slice a6 n.turns.length c6, .slice a7 n.srcs.length c7, .slice a8 n.arrs.length c8, .int .i64 n.time] 45)) (w.heap.size + 1) #[.int .i64 p.id, .int .i64 p.src, .int .i64 p.dst, .int .i64 p.cls, .int .i64 p.len] 49 (by simp only [szs])).alloc _)
 have HZ0 : Hid (BN w0 (w.heap.size + 2)) := Lib.hid (by
  rw [e0]
  exact BT.bn (by have hn := BT.new ((w.alloc (.cells #[.int .i64 n.mesh.g.w, .int .i64 n.mesh.g.h, .slice a1 n.mesh.br.length c1, .slice a2 n.pa.length c2, .slice a3 n.pb.length c3, .slice a4 n.bufs.length c4, .slice a5 n.owners.length c5, .slice a6 n.turns.length c6, .slice a7 n.srcs.length c7, .slice a8 n.arrs.length c8, .int .i64 n.time] 45)).alloc (.cells #[.int .i64 p.id, .int .i64 p.src, .int .i64 p.dst, .int .i64 p.cls, .int .i64 p.len] 49)) ⟨⟨⟨0, 0⟩, []⟩, [], [], [], [], [], [], [], 0⟩ ⟨none, none, none, none, none, none, none, none, 0, 0, 0, 0, 0, 0, 0, 0⟩; simp only [szs] at hn; exact hn))
 rw [← e0]
 clear e0 HB0
 have x0 : w0.cell? ⟨w.heap.size, 0, none⟩ = some (.int .i64 n.mesh.g.w) := HX0.out.get 0
 have x1 : w0.cell? ⟨w.heap.size, 1, none⟩ = some (.int .i64 n.mesh.g.h) := HX0.out.get 1
 have x2 : w0.cell? ⟨w.heap.size, 2, none⟩ = some (.slice a1 n.mesh.br.length c1) := HX0.out.get 2
 have x3 : w0.cell? ⟨w.heap.size, 3, none⟩ = some (.slice a2 n.pa.length c2) := HX0.out.get 3
 have x4 : w0.cell? ⟨w.heap.size, 4, none⟩ = some (.slice a3 n.pb.length c3) := HX0.out.get 4
 have x5 : w0.cell? ⟨w.heap.size, 5, none⟩ = some (.slice a4 n.bufs.length c4) := HX0.out.get 5
 have x6 : w0.cell? ⟨w.heap.size, 6, none⟩ = some (.slice a5 n.owners.length c5) := HX0.out.get 6
 have x7 : w0.cell? ⟨w.heap.size, 7, none⟩ = some (.slice a6 n.turns.length c6) := HX0.out.get 7
 have x8 : w0.cell? ⟨w.heap.size, 8, none⟩ = some (.slice a7 n.srcs.length c7) := HX0.out.get 8
 have x9 : w0.cell? ⟨w.heap.size, 9, none⟩ = some (.slice a8 n.arrs.length c8) := HX0.out.get 9
 have x10 : w0.cell? ⟨w.heap.size, 10, none⟩ = some (.int .i64 n.time) := HX0.out.get 10
 have xl := HX0.out.lt
 have p0 : w0.cell? ⟨w.heap.size + 1, 0, none⟩ = some (.int .i64 p.id) := HP0.out.get 0
 have p1 : w0.cell? ⟨w.heap.size + 1, 1, none⟩ = some (.int .i64 p.src) := HP0.out.get 1
 have p2 : w0.cell? ⟨w.heap.size + 1, 2, none⟩ = some (.int .i64 p.dst) := HP0.out.get 2
 have p3 : w0.cell? ⟨w.heap.size + 1, 3, none⟩ = some (.int .i64 p.cls) := HP0.out.get 3
 have p4 : w0.cell? ⟨w.heap.size + 1, 4, none⟩ = some (.int .i64 p.len) := HP0.out.get 4
 have pl := HP0.out.lt
 have HNO0 : ∀ b : Bool, netOk n = b → Hid (∀ W, Below w0.heap.size w0 W → Calls Try.prog 16 #[.agg #[.int .i64 n.mesh.g.w, .int .i64 n.mesh.g.h, .slice a1 n.mesh.br.length c1, .slice a2 n.pa.length c2, .slice a3 n.pb.length c3, .slice a4 n.bufs.length c4, .slice a5 n.owners.length c5, .slice a6 n.turns.length c6, .slice a7 n.srcs.length c7, .slice a8 n.arrs.length c8, .int .i64 n.time]] W fun e w' => e = .returned (.bool b) ∧ Below W.heap.size W w') := fun b hb => Lib.hid (fun W hW => by have h := spec_NetOk n _ W (HR0.out.below hW); rw [hb] at h; exact h)
 have HPO0 : ∀ b : Bool, packetOk n.mesh.g p = b → Hid (∀ W, Calls Try.prog 17 #[.agg #[.int .i64 n.mesh.g.w, .int .i64 n.mesh.g.h], .agg #[.int .i64 p.id, .int .i64 p.src, .int .i64 p.dst, .int .i64 p.cls, .int .i64 p.len]] W fun e w' => e = .returned (.bool b) ∧ Below W.heap.size W w') := fun b hb => Lib.hid (fun W => by have h := spec_PacketOk n.mesh.g p W; rw [hb] at h; exact h)
 cases hk : netOk n
 ·have HE := Lib.hid (sendPacket_no (p := p) (.inl hk))
  have HNO := HNO0 _ hk
  clear HNO0 HPO0 hk
  go_wp2_with fail
  refine wp_region_far (w0) (by kernel_rfl) (by kernel_rfl) bel ?_
  have hqc := far_cell (w0)
  have hqf := far_frozen (w0)
  repeat (first | go_big_quiet_step ((go_at_call 16; exact far_call (HNO.out _ (Far.h _)))) | quiet_step ((go_at_call 16; exact far_call (HNO.out _ (Far.h _)))))
  refine wpQuiet_nil ?_
  intro wq hbq
  clear hqc hqf
  obtain ⟨hcq, hfq, hzq⟩ := bcell hbq
  try simp only [szs] at hzq
  have HR2 := Lib.hid (HR0.out.below hbq)
  have HZ2 : Hid (BN wq (w.heap.size + 2)) := Lib.hid (HZ0.out.below hbq)
  have HWB : Hid (Below w.heap.size w wq) := Lib.hid (bw_then HW0.out hbq)
  have x0q := HX0.out.below hbq
  have p0q := HP0.out.below hbq
  repeat (first | clear x0 | clear x1 | clear x2 | clear x3 | clear x4 | clear x5 | clear x6 | clear x7 | clear x8 | clear x9 | clear x10)
  repeat (first | clear p0 | clear p1 | clear p2 | clear p3 | clear p4)
  clear HR0 HZ0 HW0 HX0 HP0
  have x0 : wq.cell? ⟨w.heap.size, 0, none⟩ = some (.int .i64 n.mesh.g.w) := x0q.get 0
  have x1 : wq.cell? ⟨w.heap.size, 1, none⟩ = some (.int .i64 n.mesh.g.h) := x0q.get 1
  have x2 : wq.cell? ⟨w.heap.size, 2, none⟩ = some (.slice a1 n.mesh.br.length c1) := x0q.get 2
  have x3 : wq.cell? ⟨w.heap.size, 3, none⟩ = some (.slice a2 n.pa.length c2) := x0q.get 3
  have x4 : wq.cell? ⟨w.heap.size, 4, none⟩ = some (.slice a3 n.pb.length c3) := x0q.get 4
  have x5 : wq.cell? ⟨w.heap.size, 5, none⟩ = some (.slice a4 n.bufs.length c4) := x0q.get 5
  have x6 : wq.cell? ⟨w.heap.size, 6, none⟩ = some (.slice a5 n.owners.length c5) := x0q.get 6
  have x7 : wq.cell? ⟨w.heap.size, 7, none⟩ = some (.slice a6 n.turns.length c6) := x0q.get 7
  have x8 : wq.cell? ⟨w.heap.size, 8, none⟩ = some (.slice a7 n.srcs.length c7) := x0q.get 8
  have x9 : wq.cell? ⟨w.heap.size, 9, none⟩ = some (.slice a8 n.arrs.length c8) := x0q.get 9
  have x10 : wq.cell? ⟨w.heap.size, 10, none⟩ = some (.int .i64 n.time) := x0q.get 10
  have xl := x0q.lt
  have p0 : wq.cell? ⟨w.heap.size + 1, 0, none⟩ = some (.int .i64 p.id) := p0q.get 0
  have p1 : wq.cell? ⟨w.heap.size + 1, 1, none⟩ = some (.int .i64 p.src) := p0q.get 1
  have p2 : wq.cell? ⟨w.heap.size + 1, 2, none⟩ = some (.int .i64 p.dst) := p0q.get 2
  have p3 : wq.cell? ⟨w.heap.size + 1, 3, none⟩ = some (.int .i64 p.cls) := p0q.get 3
  have p4 : wq.cell? ⟨w.heap.size + 1, 4, none⟩ = some (.int .i64 p.len) := p0q.get 4
  have pl := p0q.lt
  clear x0q p0q
  repeat (first | clear hcq | clear hfq | clear hzq)

  go_wp2_with fail
  refine (spec_l15Copy n _ _ HR2.out).mono ?_
  rintro e w4 ⟨hg4, hb4⟩
  obtain ⟨q4, y4, y7, y8, rfl, HN0⟩ := hg4
  obtain ⟨p1, p2, p3, p4, p5, p6, p7, p8, r1, r2, r3, r4, r5, r6, r7, r8⟩ := q4
  dsimp only [netCells]
  have HN4 := Lib.hid HN0
  have HZ4 : Hid (BN w4 (w.heap.size + 2)) := Lib.hid (HZ2.out.below hb4)
  have HWB4 : Hid (Below w.heap.size w w4) := Lib.hid (bw_then HWB.out hb4)
  have zz4 := bw_size hb4
  have zz5 := bw_size HWB.out
  clear HN0 hb4
  repeat (first | clear hcq | clear hfq | clear hzq | clear hbq)
  repeat (first | clear x0 | clear x1 | clear x2 | clear x3 | clear x4 | clear x5 | clear x6 | clear x7 | clear x8 | clear x9 | clear x10)
  repeat (first | clear p0 | clear p1 | clear p2 | clear p3 | clear p4)

  obtain ⟨ry0, rv0⟩ := HZ4.out.get 0 (by omega)
  have rz0 := HZ4.out.frozen 0
  obtain ⟨ry1, rv1⟩ := HZ4.out.get 1 (by omega)
  have rz1 := HZ4.out.frozen 1
  obtain ⟨ry2, rv2⟩ := HZ4.out.get 2 (by omega)
  have rz2 := HZ4.out.frozen 2
  obtain ⟨ry3, rv3⟩ := HZ4.out.get 3 (by omega)
  have rz3 := HZ4.out.frozen 3
  obtain ⟨ry4, rv4⟩ := HZ4.out.get 4 (by omega)
  have rz4 := HZ4.out.frozen 4
  obtain ⟨ry5, rv5⟩ := HZ4.out.get 5 (by omega)
  have rz5 := HZ4.out.frozen 5
  obtain ⟨ry6, rv6⟩ := HZ4.out.get 6 (by omega)
  have rz6 := HZ4.out.frozen 6
  obtain ⟨ry7, rv7⟩ := HZ4.out.get 7 (by omega)
  have rz7 := HZ4.out.frozen 7
  obtain ⟨ry8, rv8⟩ := HZ4.out.get 8 (by omega)
  have rz8 := HZ4.out.frozen 8
  obtain ⟨ry9, rv9⟩ := HZ4.out.get 9 (by omega)
  have rz9 := HZ4.out.frozen 9
  obtain ⟨ry10, rv10⟩ := HZ4.out.get 10 (by omega)
  have rz10 := HZ4.out.frozen 10
  go_wp2
  obtain ⟨W9, e9⟩ : ∃ z, z = putN w4 (w.heap.size + 2) n ⟨p1, p2, p3, p4, p5, p6, p7, p8, r1, r2, r3, r4, r5, r6, r7, r8⟩ := ⟨_, rfl⟩
  have HB9 : Hid (BT W9 (w.heap.size + 2) n ⟨p1, p2, p3, p4, p5, p6, p7, p8, r1, r2, r3, r4, r5, r6, r7, r8⟩) := Lib.hid (by rw [e9]; exact putN_BT HZ4.out)
  have HN9 := Lib.hid (show NX W9 _ n ⟨p1, p2, p3, p4, p5, p6, p7, p8, r1, r2, r3, r4, r5, r6, r7, r8⟩ y4 y7 y8 from by rw [e9]; exact HN4.out.put HZ4.out)
  have HL9 : Hid (Below w.heap.size w W9) := Lib.hid (by rw [e9]; exact below_put HWB4.out (by omega))
  unfold putN at e9
  try dsimp only at e9
  rw [← e9]
  clear e9
  exact bodyPost_ret (results_cell_row2 Try.results5 _ _ ((w.heap.size + 2)) 45 _ (0, 0) _ rfl HB9.out Try.underlying45 rfl (by kernel_rfl)) rfl (by dsimp only; rw [HE.out.1, HE.out.2]; exact ⟨⟨_, _, _, _, rfl, HN9.out.lower (by omega)⟩, HL9.out⟩)
 have HNO := HNO0 _ hk
 have OK := Lib.hid hk
 clear HNO0 hk
 cases hp : packetOk n.mesh.g p
 ·have HE := Lib.hid (sendPacket_no (n := n) (p := p) (.inr (by unfold sendOk; rw [hp]; rfl)))
  have HPO := HPO0 _ hp
  clear HPO0 hp
  go_wp2_with fail
  refine wp_region_far (w0) (by kernel_rfl) (by kernel_rfl) bel ?_
  have hqc := far_cell (w0)
  have hqf := far_frozen (w0)
  repeat (first | go_big_quiet_step (first | (go_at_call 16; exact far_call (HNO.out _ (Far.h _))) | (go_at_call 17; exact far_call (HPO.out _))) | quiet_step (first | (go_at_call 16; exact far_call (HNO.out _ (Far.h _))) | (go_at_call 17; exact far_call (HPO.out _))))
  refine wpQuiet_nil ?_
  intro wq hbq
  clear hqc hqf
  obtain ⟨hcq, hfq, hzq⟩ := bcell hbq
  try simp only [szs] at hzq
  have HR2 := Lib.hid (HR0.out.below hbq)
  have HZ2 : Hid (BN wq (w.heap.size + 2)) := Lib.hid (HZ0.out.below hbq)
  have HWB : Hid (Below w.heap.size w wq) := Lib.hid (bw_then HW0.out hbq)
  have x0q := HX0.out.below hbq
  have p0q := HP0.out.below hbq
  repeat (first | clear x0 | clear x1 | clear x2 | clear x3 | clear x4 | clear x5 | clear x6 | clear x7 | clear x8 | clear x9 | clear x10)
  repeat (first | clear p0 | clear p1 | clear p2 | clear p3 | clear p4)
  clear HR0 HZ0 HW0 HX0 HP0
  have x0 : wq.cell? ⟨w.heap.size, 0, none⟩ = some (.int .i64 n.mesh.g.w) := x0q.get 0
  have x1 : wq.cell? ⟨w.heap.size, 1, none⟩ = some (.int .i64 n.mesh.g.h) := x0q.get 1
  have x2 : wq.cell? ⟨w.heap.size, 2, none⟩ = some (.slice a1 n.mesh.br.length c1) := x0q.get 2
  have x3 : wq.cell? ⟨w.heap.size, 3, none⟩ = some (.slice a2 n.pa.length c2) := x0q.get 3
  have x4 : wq.cell? ⟨w.heap.size, 4, none⟩ = some (.slice a3 n.pb.length c3) := x0q.get 4
  have x5 : wq.cell? ⟨w.heap.size, 5, none⟩ = some (.slice a4 n.bufs.length c4) := x0q.get 5
  have x6 : wq.cell? ⟨w.heap.size, 6, none⟩ = some (.slice a5 n.owners.length c5) := x0q.get 6
  have x7 : wq.cell? ⟨w.heap.size, 7, none⟩ = some (.slice a6 n.turns.length c6) := x0q.get 7
  have x8 : wq.cell? ⟨w.heap.size, 8, none⟩ = some (.slice a7 n.srcs.length c7) := x0q.get 8
  have x9 : wq.cell? ⟨w.heap.size, 9, none⟩ = some (.slice a8 n.arrs.length c8) := x0q.get 9
  have x10 : wq.cell? ⟨w.heap.size, 10, none⟩ = some (.int .i64 n.time) := x0q.get 10
  have xl := x0q.lt
  have p0 : wq.cell? ⟨w.heap.size + 1, 0, none⟩ = some (.int .i64 p.id) := p0q.get 0
  have p1 : wq.cell? ⟨w.heap.size + 1, 1, none⟩ = some (.int .i64 p.src) := p0q.get 1
  have p2 : wq.cell? ⟨w.heap.size + 1, 2, none⟩ = some (.int .i64 p.dst) := p0q.get 2
  have p3 : wq.cell? ⟨w.heap.size + 1, 3, none⟩ = some (.int .i64 p.cls) := p0q.get 3
  have p4 : wq.cell? ⟨w.heap.size + 1, 4, none⟩ = some (.int .i64 p.len) := p0q.get 4
  have pl := p0q.lt
  clear x0q p0q
  repeat (first | clear hcq | clear hfq | clear hzq)

  go_wp2_with fail
  refine (spec_l15Copy n _ _ HR2.out).mono ?_
  rintro e w4 ⟨hg4, hb4⟩
  obtain ⟨q4, y4, y7, y8, rfl, HN0⟩ := hg4
  obtain ⟨p1, p2, p3, p4, p5, p6, p7, p8, r1, r2, r3, r4, r5, r6, r7, r8⟩ := q4
  dsimp only [netCells]
  have HN4 := Lib.hid HN0
  have HZ4 : Hid (BN w4 (w.heap.size + 2)) := Lib.hid (HZ2.out.below hb4)
  have HWB4 : Hid (Below w.heap.size w w4) := Lib.hid (bw_then HWB.out hb4)
  have zz4 := bw_size hb4
  have zz5 := bw_size HWB.out
  clear HN0 hb4
  repeat (first | clear hcq | clear hfq | clear hzq | clear hbq)
  repeat (first | clear x0 | clear x1 | clear x2 | clear x3 | clear x4 | clear x5 | clear x6 | clear x7 | clear x8 | clear x9 | clear x10)
  repeat (first | clear p0 | clear p1 | clear p2 | clear p3 | clear p4)

  obtain ⟨ry0, rv0⟩ := HZ4.out.get 0 (by omega)
  have rz0 := HZ4.out.frozen 0
  obtain ⟨ry1, rv1⟩ := HZ4.out.get 1 (by omega)
  have rz1 := HZ4.out.frozen 1
  obtain ⟨ry2, rv2⟩ := HZ4.out.get 2 (by omega)
  have rz2 := HZ4.out.frozen 2
  obtain ⟨ry3, rv3⟩ := HZ4.out.get 3 (by omega)
  have rz3 := HZ4.out.frozen 3
  obtain ⟨ry4, rv4⟩ := HZ4.out.get 4 (by omega)
  have rz4 := HZ4.out.frozen 4
  obtain ⟨ry5, rv5⟩ := HZ4.out.get 5 (by omega)
  have rz5 := HZ4.out.frozen 5
  obtain ⟨ry6, rv6⟩ := HZ4.out.get 6 (by omega)
  have rz6 := HZ4.out.frozen 6
  obtain ⟨ry7, rv7⟩ := HZ4.out.get 7 (by omega)
  have rz7 := HZ4.out.frozen 7
  obtain ⟨ry8, rv8⟩ := HZ4.out.get 8 (by omega)
  have rz8 := HZ4.out.frozen 8
  obtain ⟨ry9, rv9⟩ := HZ4.out.get 9 (by omega)
  have rz9 := HZ4.out.frozen 9
  obtain ⟨ry10, rv10⟩ := HZ4.out.get 10 (by omega)
  have rz10 := HZ4.out.frozen 10
  go_wp2
  obtain ⟨W9, e9⟩ : ∃ z, z = putN w4 (w.heap.size + 2) n ⟨p1, p2, p3, p4, p5, p6, p7, p8, r1, r2, r3, r4, r5, r6, r7, r8⟩ := ⟨_, rfl⟩
  have HB9 : Hid (BT W9 (w.heap.size + 2) n ⟨p1, p2, p3, p4, p5, p6, p7, p8, r1, r2, r3, r4, r5, r6, r7, r8⟩) := Lib.hid (by rw [e9]; exact putN_BT HZ4.out)
  have HN9 := Lib.hid (show NX W9 _ n ⟨p1, p2, p3, p4, p5, p6, p7, p8, r1, r2, r3, r4, r5, r6, r7, r8⟩ y4 y7 y8 from by rw [e9]; exact HN4.out.put HZ4.out)
  have HL9 : Hid (Below w.heap.size w W9) := Lib.hid (by rw [e9]; exact below_put HWB4.out (by omega))
  unfold putN at e9
  try dsimp only at e9
  rw [← e9]
  clear e9
  exact bodyPost_ret (results_cell_row2 Try.results5 _ _ ((w.heap.size + 2)) 45 _ (0, 0) _ rfl HB9.out Try.underlying45 rfl (by kernel_rfl)) rfl (by dsimp only; rw [HE.out.1, HE.out.2]; exact ⟨⟨_, _, _, _, rfl, HN9.out.lower (by omega)⟩, HL9.out⟩)
 have HPO := HPO0 _ hp
 clear HPO0
 obtain ⟨nd, _, _, _, n1, n5⟩ := packet_parts hp
 have nd1 := isNode_iff.1 nd
 have hsb := srcs_len OK.out
 have s0 : 0 ≤ p.src := by omega
 have s1 : p.src < (n.srcs.length : Int) := by omega
 have Rso := HR0.out.srcs
 obtain ⟨b7, o7, eb7, hb7, Ai, ci, r0, hle, hCi⟩ := rdB_int Rso p.src s0 s1
 subst eb7
 have hRl : (rl n.srcs p.src).length ≤ 2097152 := NBQ.out.h10 _ (rl_memJ s0 s1)
 have HSO : Hid (sendOk n p = decide (((rl n.srcs p.src).length : Int) + p.len ≤ 60)) := Lib.hid (by unfold sendOk; rw [hp]; rfl)
 clear hp nd nd1 hsb Rso hCi hle
 by_cases h60 : ((rl n.srcs p.src).length : Int) + p.len ≤ 60
 case neg =>
  have HE := Lib.hid (sendPacket_no (n := n) (p := p) (.inr (by rw [HSO.out]; exact decide_eq_false h60)))
  have h61 : 60 < ((rl n.srcs p.src).length : Int) + p.len := by omega
  clear h60
  go_wp2_with fail
  refine wp_region_far (w0) (by kernel_rfl) (by kernel_rfl) bel ?_
  have hqc := far_cell (w0)
  have hqf := far_frozen (w0)
  repeat (first | go_big_quiet_step (first | (go_at_call 16; exact far_call (HNO.out _ (Far.h _))) | (go_at_call 17; exact far_call (HPO.out _))) | quiet_step (first | (go_at_call 16; exact far_call (HNO.out _ (Far.h _))) | (go_at_call 17; exact far_call (HPO.out _))))
  refine wpQuiet_nil ?_
  intro wq hbq
  clear hqc hqf
  obtain ⟨hcq, hfq, hzq⟩ := bcell hbq
  try simp only [szs] at hzq
  have HR2 := Lib.hid (HR0.out.below hbq)
  have HZ2 : Hid (BN wq (w.heap.size + 2)) := Lib.hid (HZ0.out.below hbq)
  have HWB : Hid (Below w.heap.size w wq) := Lib.hid (bw_then HW0.out hbq)
  have x0q := HX0.out.below hbq
  have p0q := HP0.out.below hbq
  repeat (first | clear x0 | clear x1 | clear x2 | clear x3 | clear x4 | clear x5 | clear x6 | clear x7 | clear x8 | clear x9 | clear x10)
  repeat (first | clear p0 | clear p1 | clear p2 | clear p3 | clear p4)
  clear HR0 HZ0 HW0 HX0 HP0
  have x0 : wq.cell? ⟨w.heap.size, 0, none⟩ = some (.int .i64 n.mesh.g.w) := x0q.get 0
  have x1 : wq.cell? ⟨w.heap.size, 1, none⟩ = some (.int .i64 n.mesh.g.h) := x0q.get 1
  have x2 : wq.cell? ⟨w.heap.size, 2, none⟩ = some (.slice a1 n.mesh.br.length c1) := x0q.get 2
  have x3 : wq.cell? ⟨w.heap.size, 3, none⟩ = some (.slice a2 n.pa.length c2) := x0q.get 3
  have x4 : wq.cell? ⟨w.heap.size, 4, none⟩ = some (.slice a3 n.pb.length c3) := x0q.get 4
  have x5 : wq.cell? ⟨w.heap.size, 5, none⟩ = some (.slice a4 n.bufs.length c4) := x0q.get 5
  have x6 : wq.cell? ⟨w.heap.size, 6, none⟩ = some (.slice a5 n.owners.length c5) := x0q.get 6
  have x7 : wq.cell? ⟨w.heap.size, 7, none⟩ = some (.slice a6 n.turns.length c6) := x0q.get 7
  have x8 : wq.cell? ⟨w.heap.size, 8, none⟩ = some (.slice (some ⟨b7, o7, none⟩) n.srcs.length c7) := x0q.get 8
  have x9 : wq.cell? ⟨w.heap.size, 9, none⟩ = some (.slice a8 n.arrs.length c8) := x0q.get 9
  have x10 : wq.cell? ⟨w.heap.size, 10, none⟩ = some (.int .i64 n.time) := x0q.get 10
  have xl := x0q.lt
  have p0 : wq.cell? ⟨w.heap.size + 1, 0, none⟩ = some (.int .i64 p.id) := p0q.get 0
  have p1 : wq.cell? ⟨w.heap.size + 1, 1, none⟩ = some (.int .i64 p.src) := p0q.get 1
  have p2 : wq.cell? ⟨w.heap.size + 1, 2, none⟩ = some (.int .i64 p.dst) := p0q.get 2
  have p3 : wq.cell? ⟨w.heap.size + 1, 3, none⟩ = some (.int .i64 p.cls) := p0q.get 3
  have p4 : wq.cell? ⟨w.heap.size + 1, 4, none⟩ = some (.int .i64 p.len) := p0q.get 4
  have pl := p0q.lt
  clear x0q p0q
  repeat (first | clear hcq | clear hfq | clear hzq)

  go_wp2_with fail
  refine (spec_l15Copy n _ _ HR2.out).mono ?_
  rintro e w4 ⟨hg4, hb4⟩
  obtain ⟨q4, y4, y7, y8, rfl, HN0⟩ := hg4
  obtain ⟨p1, p2, p3, p4, p5, p6, p7, p8, r1, r2, r3, r4, r5, r6, r7, r8⟩ := q4
  dsimp only [netCells]
  have HN4 := Lib.hid HN0
  have HZ4 : Hid (BN w4 (w.heap.size + 2)) := Lib.hid (HZ2.out.below hb4)
  have HWB4 : Hid (Below w.heap.size w w4) := Lib.hid (bw_then HWB.out hb4)
  have zz4 := bw_size hb4
  have zz5 := bw_size HWB.out
  clear HN0 hb4
  repeat (first | clear hcq | clear hfq | clear hzq | clear hbq)
  repeat (first | clear x0 | clear x1 | clear x2 | clear x3 | clear x4 | clear x5 | clear x6 | clear x7 | clear x8 | clear x9 | clear x10)
  repeat (first | clear p0 | clear p1 | clear p2 | clear p3 | clear p4)

  obtain ⟨ry0, rv0⟩ := HZ4.out.get 0 (by omega)
  have rz0 := HZ4.out.frozen 0
  obtain ⟨ry1, rv1⟩ := HZ4.out.get 1 (by omega)
  have rz1 := HZ4.out.frozen 1
  obtain ⟨ry2, rv2⟩ := HZ4.out.get 2 (by omega)
  have rz2 := HZ4.out.frozen 2
  obtain ⟨ry3, rv3⟩ := HZ4.out.get 3 (by omega)
  have rz3 := HZ4.out.frozen 3
  obtain ⟨ry4, rv4⟩ := HZ4.out.get 4 (by omega)
  have rz4 := HZ4.out.frozen 4
  obtain ⟨ry5, rv5⟩ := HZ4.out.get 5 (by omega)
  have rz5 := HZ4.out.frozen 5
  obtain ⟨ry6, rv6⟩ := HZ4.out.get 6 (by omega)
  have rz6 := HZ4.out.frozen 6
  obtain ⟨ry7, rv7⟩ := HZ4.out.get 7 (by omega)
  have rz7 := HZ4.out.frozen 7
  obtain ⟨ry8, rv8⟩ := HZ4.out.get 8 (by omega)
  have rz8 := HZ4.out.frozen 8
  obtain ⟨ry9, rv9⟩ := HZ4.out.get 9 (by omega)
  have rz9 := HZ4.out.frozen 9
  obtain ⟨ry10, rv10⟩ := HZ4.out.get 10 (by omega)
  have rz10 := HZ4.out.frozen 10
  go_wp2
  obtain ⟨W9, e9⟩ : ∃ z, z = putN w4 (w.heap.size + 2) n ⟨p1, p2, p3, p4, p5, p6, p7, p8, r1, r2, r3, r4, r5, r6, r7, r8⟩ := ⟨_, rfl⟩
  have HB9 : Hid (BT W9 (w.heap.size + 2) n ⟨p1, p2, p3, p4, p5, p6, p7, p8, r1, r2, r3, r4, r5, r6, r7, r8⟩) := Lib.hid (by rw [e9]; exact putN_BT HZ4.out)
  have HN9 := Lib.hid (show NX W9 _ n ⟨p1, p2, p3, p4, p5, p6, p7, p8, r1, r2, r3, r4, r5, r6, r7, r8⟩ y4 y7 y8 from by rw [e9]; exact HN4.out.put HZ4.out)
  have HL9 : Hid (Below w.heap.size w W9) := Lib.hid (by rw [e9]; exact below_put HWB4.out (by omega))
  unfold putN at e9
  try dsimp only at e9
  rw [← e9]
  clear e9
  exact bodyPost_ret (results_cell_row2 Try.results5 _ _ ((w.heap.size + 2)) 45 _ (0, 0) _ rfl HB9.out Try.underlying45 rfl (by kernel_rfl)) rfl (by dsimp only; rw [HE.out.1, HE.out.2]; exact ⟨⟨_, _, _, _, rfl, HN9.out.lower (by omega)⟩, HL9.out⟩)
 case pos =>
  have SO : Hid (sendOk n p = true) := Lib.hid (by rw [HSO.out]; exact decide_eq_true h60)
  have HE := Lib.hid (sendPacket_yes OK.out SO.out)
  have h61 : ¬ 60 < ((rl n.srcs p.src).length : Int) + p.len := by omega
  go_wp2_with fail
  refine wp_region_far (w0) (by kernel_rfl) (by kernel_rfl) bel ?_
  have hqc := far_cell (w0)
  have hqf := far_frozen (w0)
  repeat (first | go_big_quiet_step (first | (go_at_call 16; exact far_call (HNO.out _ (Far.h _))) | (go_at_call 17; exact far_call (HPO.out _))) | quiet_step (first | (go_at_call 16; exact far_call (HNO.out _ (Far.h _))) | (go_at_call 17; exact far_call (HPO.out _))))
  refine wpQuiet_nil ?_
  intro wq hbq
  clear hqc hqf
  obtain ⟨hcq, hfq, hzq⟩ := bcell hbq
  try simp only [szs] at hzq
  have HR2 := Lib.hid (HR0.out.below hbq)
  have HZ2 : Hid (BN wq (w.heap.size + 2)) := Lib.hid (HZ0.out.below hbq)
  have HWB : Hid (Below w.heap.size w wq) := Lib.hid (bw_then HW0.out hbq)
  have x0q := HX0.out.below hbq
  have p0q := HP0.out.below hbq
  repeat (first | clear x0 | clear x1 | clear x2 | clear x3 | clear x4 | clear x5 | clear x6 | clear x7 | clear x8 | clear x9 | clear x10)
  repeat (first | clear p0 | clear p1 | clear p2 | clear p3 | clear p4)
  clear HR0 HZ0 HW0 HX0 HP0
  have x0 : wq.cell? ⟨w.heap.size, 0, none⟩ = some (.int .i64 n.mesh.g.w) := x0q.get 0
  have x1 : wq.cell? ⟨w.heap.size, 1, none⟩ = some (.int .i64 n.mesh.g.h) := x0q.get 1
  have x2 : wq.cell? ⟨w.heap.size, 2, none⟩ = some (.slice a1 n.mesh.br.length c1) := x0q.get 2
  have x3 : wq.cell? ⟨w.heap.size, 3, none⟩ = some (.slice a2 n.pa.length c2) := x0q.get 3
  have x4 : wq.cell? ⟨w.heap.size, 4, none⟩ = some (.slice a3 n.pb.length c3) := x0q.get 4
  have x5 : wq.cell? ⟨w.heap.size, 5, none⟩ = some (.slice a4 n.bufs.length c4) := x0q.get 5
  have x6 : wq.cell? ⟨w.heap.size, 6, none⟩ = some (.slice a5 n.owners.length c5) := x0q.get 6
  have x7 : wq.cell? ⟨w.heap.size, 7, none⟩ = some (.slice a6 n.turns.length c6) := x0q.get 7
  have x8 : wq.cell? ⟨w.heap.size, 8, none⟩ = some (.slice (some ⟨b7, o7, none⟩) n.srcs.length c7) := x0q.get 8
  have x9 : wq.cell? ⟨w.heap.size, 9, none⟩ = some (.slice a8 n.arrs.length c8) := x0q.get 9
  have x10 : wq.cell? ⟨w.heap.size, 10, none⟩ = some (.int .i64 n.time) := x0q.get 10
  have xl := x0q.lt
  have p0 : wq.cell? ⟨w.heap.size + 1, 0, none⟩ = some (.int .i64 p.id) := p0q.get 0
  have p1 : wq.cell? ⟨w.heap.size + 1, 1, none⟩ = some (.int .i64 p.src) := p0q.get 1
  have p2 : wq.cell? ⟨w.heap.size + 1, 2, none⟩ = some (.int .i64 p.dst) := p0q.get 2
  have p3 : wq.cell? ⟨w.heap.size + 1, 3, none⟩ = some (.int .i64 p.cls) := p0q.get 3
  have p4 : wq.cell? ⟨w.heap.size + 1, 4, none⟩ = some (.int .i64 p.len) := p0q.get 4
  have pl := p0q.lt
  clear x0q p0q
  repeat (first | clear hcq | clear hfq | clear hzq)


  go_wp2_with fail
  refine (spec_l16Send n p _ _ HR2.out OK.out SO.out).mono ?_
  rintro e w4 ⟨hg4, hb4⟩
  obtain ⟨q4, y4, y7, y8, rfl, HN0⟩ := hg4
  obtain ⟨p1, p2, p3, p4, p5, p6, p7, p8, r1, r2, r3, r4, r5, r6, r7, r8⟩ := q4
  dsimp only [netCells]
  have HN4 := Lib.hid HN0
  have HZ4 : Hid (BN w4 (w.heap.size + 2)) := Lib.hid (HZ2.out.below hb4)
  have HWB4 : Hid (Below w.heap.size w w4) := Lib.hid (bw_then HWB.out hb4)
  have zz4 := bw_size hb4
  have zz5 := bw_size HWB.out
  clear HN0 hb4
  repeat (first | clear hcq | clear hfq | clear hzq | clear hbq)
  repeat (first | clear x0 | clear x1 | clear x2 | clear x3 | clear x4 | clear x5 | clear x6 | clear x7 | clear x8 | clear x9 | clear x10)
  repeat (first | clear p0 | clear p1 | clear p2 | clear p3 | clear p4)
  obtain ⟨Y, eY⟩ : ∃ Y : Net, sendN n p = Y := ⟨_, rfl⟩
  rw [eY] at HN4 HE
  try rw [eY]
  clear eY

  obtain ⟨ry0, rv0⟩ := HZ4.out.get 0 (by omega)
  have rz0 := HZ4.out.frozen 0
  obtain ⟨ry1, rv1⟩ := HZ4.out.get 1 (by omega)
  have rz1 := HZ4.out.frozen 1
  obtain ⟨ry2, rv2⟩ := HZ4.out.get 2 (by omega)
  have rz2 := HZ4.out.frozen 2
  obtain ⟨ry3, rv3⟩ := HZ4.out.get 3 (by omega)
  have rz3 := HZ4.out.frozen 3
  obtain ⟨ry4, rv4⟩ := HZ4.out.get 4 (by omega)
  have rz4 := HZ4.out.frozen 4
  obtain ⟨ry5, rv5⟩ := HZ4.out.get 5 (by omega)
  have rz5 := HZ4.out.frozen 5
  obtain ⟨ry6, rv6⟩ := HZ4.out.get 6 (by omega)
  have rz6 := HZ4.out.frozen 6
  obtain ⟨ry7, rv7⟩ := HZ4.out.get 7 (by omega)
  have rz7 := HZ4.out.frozen 7
  obtain ⟨ry8, rv8⟩ := HZ4.out.get 8 (by omega)
  have rz8 := HZ4.out.frozen 8
  obtain ⟨ry9, rv9⟩ := HZ4.out.get 9 (by omega)
  have rz9 := HZ4.out.frozen 9
  obtain ⟨ry10, rv10⟩ := HZ4.out.get 10 (by omega)
  have rz10 := HZ4.out.frozen 10
  go_wp2
  obtain ⟨W9, e9⟩ : ∃ z, z = putN w4 (w.heap.size + 2) Y ⟨p1, p2, p3, p4, p5, p6, p7, p8, r1, r2, r3, r4, r5, r6, r7, r8⟩ := ⟨_, rfl⟩
  have HB9 : Hid (BT W9 (w.heap.size + 2) Y ⟨p1, p2, p3, p4, p5, p6, p7, p8, r1, r2, r3, r4, r5, r6, r7, r8⟩) := Lib.hid (by rw [e9]; exact putN_BT HZ4.out)
  have HN9 := Lib.hid (show NX W9 _ Y ⟨p1, p2, p3, p4, p5, p6, p7, p8, r1, r2, r3, r4, r5, r6, r7, r8⟩ y4 y7 y8 from by rw [e9]; exact HN4.out.put HZ4.out)
  have HL9 : Hid (Below w.heap.size w W9) := Lib.hid (by rw [e9]; exact below_put HWB4.out (by omega))
  unfold putN at e9
  try dsimp only at e9
  rw [← e9]
  clear e9
  exact bodyPost_ret (results_cell_row2 Try.results5 _ _ ((w.heap.size + 2)) 45 _ (0, 0) _ rfl HB9.out Try.underlying45 rfl (by kernel_rfl)) rfl (by dsimp only; rw [HE.out.1, HE.out.2]; exact ⟨⟨_, _, _, _, rfl, HN9.out.lower (by omega)⟩, HL9.out⟩)
end Go.Proofs.Yteeebfeljjghhaa
/- Blocks that stay. -/
set_option linter.unusedVariables false
set_option linter.unusedSimpArgs false
namespace Go.Proofs.Yteeebfeljjghhaa
open Go.RowKit Go.Proofs.YteeebfeljjghhaaW.PrintWords
open NoC

def KB (w0 : World) (ks : List Nat) (W : World) : Prop := ∀ k ∈ ks, W.heap[k]? = w0.heap[k]?
section
variable {w0 W W2 : World} {ks : List Nat}
theorem KB.drew : KB w0 ks w0.drew := fun _ _ => rfl
theorem KB.refl : KB w0 ks w0 := fun _ _ => rfl
theorem KB.get (h : KB w0 ks W) {k o : Nat} (hk : k ∈ ks) {v : Value} (h0 : w0.cell? ⟨k, o, none⟩ = some v) : W.cell? ⟨k, o, none⟩ = some v := (World.cell?_of_block (a := ⟨k, o, none⟩) (h k hk)).trans h0
theorem KB.below (h : KB w0 ks W) (hl : ∀ k ∈ ks, k < W.heap.size) (hb : Below W.heap.size W W2) : KB w0 ks W2 := fun k hk => (hb.block k (hl k hk)).trans (h k hk)
theorem KB.low {B : Nat} (h : KB w0 ks W) (hl : ∀ k ∈ ks, k < B) (hb : Below B W W2) : KB w0 ks W2 := fun k hk => (hb.block k (hl k hk)).trans (h k hk)
theorem KB.set (h : KB w0 ks W) {b : Nat} (hb : b ∉ ks) (j : Nat) (u : Value) : KB w0 ks (W.setCell ⟨b, j, none⟩ u) := fun k hk =>
  (Below.heap_setCell W ⟨b, j, none⟩ u k (fun e => hb (by have e2 : k = b := e; rw [← e2]; exact hk))).trans (h k hk)
theorem KB.put (h : KB w0 ks W) {b : Nat} (hb : b ∉ ks) (n : Net) (q : NA) : KB w0 ks (putN W b n q) := by
  unfold putN
  exact ((((((((((h.set hb _ _).set hb _ _).set hb _ _).set hb _ _).set hb _ _).set hb _ _).set hb _ _).set hb _ _).set hb _ _).set hb _ _).set hb _ _
theorem KB.blk (h : KB w0 ks W) {k : Nat} (hk : k ∈ ks) {o : Obj} (h0 : w0.heap[k]? = some o) : W.heap[k]? = some o := (h k hk).trans h0
theorem KB.lt (h : KB w0 ks W) {k : Nat} (hk : k ∈ ks) (h0 : k < w0.heap.size) : k < W.heap.size := by
  have e := h k hk
  rw [Array.getElem?_eq_getElem h0] at e
  exact (Array.getElem?_eq_some_iff.1 e).1
theorem KB.box (h : KB w0 ks W) {k : Nat} (hk : k ∈ ks) {cs : Array Value} (h0 : Box w0 k cs) : Box W k cs := ⟨h.lt hk h0.lt, fun o => (World.cell?_of_block (a := ⟨k, o, none⟩) (h k hk)).trans (h0.get o)⟩
theorem KB.cons (h : KB w0 ks W) {k : Nat} (h1 : W.heap[k]? = w0.heap[k]?) : KB w0 (k :: ks) W := fun x hx => by
  rcases List.mem_cons.1 hx with rfl | hx
  · exact h1
  · exact h x hx
end
end Go.Proofs.Yteeebfeljjghhaa
/- A packet sent into a copy: the program's side; for all networks and all packets. -/
set_option linter.unusedVariables false
set_option linter.unusedSimpArgs false
namespace Go.Proofs.Yteeebfeljjghhaa
open Go.RowKit Go.Proofs.YteeebfeljjghhaaW.PrintWords
open NoC

set_option maxHeartbeats 16000000 in
set_option maxRecDepth 100000 in
theorem impl_SendPacket (n : Net) (p : Packet) (q : NA) (w : World) (hr : NetR 83 w n q) :
  Calls Try.prog 8 #[.agg (netCells n q), .agg #[.int .i64 p.id, .int .i64 p.src, .int .i64 p.dst, .int .i64 p.cls, .int .i64 p.len]] w fun e w' => GotNV w w' (sendPacketN n p) (.bool (sendPacketB n p)) e ∧ Below w.heap.size w w' := by
 have HR := Lib.hid hr
 have NBQ := Lib.hid hr.nb
 obtain ⟨a1, a2, a3, a4, a5, a6, a7, a8, c1, c2, c3, c4, c5, c6, c7, c8⟩ := q
 clear hr
 dsimp only [netCells]

 go_enter Try.func8, Try.ntmps8
 go_wp2_with fail
 refine (impl_copyNet n _ _ (HR.out.below bel)).mono ?_
 rintro e w1 ⟨hg1, HBC⟩
 obtain ⟨qq, v4, v7, v8, rfl, HN0⟩ := hg1
 obtain ⟨b1, b2, b3, b4, b5, b6, b7, b8, d1, d2, d3, d4, d5, d6, d7, d8⟩ := qq
 dsimp only [netCells]
 obtain ⟨w0, e0⟩ : ∃ z, z = w1.alloc (.cells #[.int .i64 n.mesh.g.w, .int .i64 n.mesh.g.h, .slice b1 n.mesh.br.length d1, .slice b2 n.pa.length d2, .slice b3 n.pb.length d3, .slice b4 n.bufs.length d4, .slice b5 n.owners.length d5, .slice b6 n.turns.length d6, .slice b7 n.srcs.length d7, .slice b8 n.arrs.length d8, .int .i64 n.time] 45) := ⟨_, rfl⟩
 have hz0 : w0.heap.size = w1.heap.size + 1 := by rw [e0]; simp only [szs]
 have hw01 : Below w1.heap.size w1 w0 := by rw [e0]; exact bw_alloc _ (bw_refl w1)
 obtain ⟨bx, ebx⟩ : ∃ z, z = w1.heap.size := ⟨_, rfl⟩
 have HBT : Hid (BT w0 bx n ⟨b1, b2, b3, b4, b5, b6, b7, b8, d1, d2, d3, d4, d5, d6, d7, d8⟩) := Lib.hid (by rw [e0, ebx]; exact blk_new w1 _)
 obtain ⟨lo, elo⟩ : ∃ z, z = w.heap.size + 3 := ⟨_, rfl⟩
 have HN : Hid (NX w0 lo n ⟨b1, b2, b3, b4, b5, b6, b7, b8, d1, d2, d3, d4, d5, d6, d7, d8⟩ v4 v7 v8) := Lib.hid ((HN0.lower (by simp only [szs]; omega)).below hw01)
 have HHB : Hid (Below w.heap.size w w0) := Lib.hid (bw_then (bw_then (bw_alloc _ (bw_alloc _ (bw_alloc _ (bw_refl w)))) HBC) hw01)
 have sw : w.heap.size + 3 ≤ w1.heap.size := by have := bw_size HBC; simp only [szs] at this; omega
 have HX0 : Hid (Box w0 w.heap.size #[.int .i64 n.mesh.g.w, .int .i64 n.mesh.g.h, .slice a1 n.mesh.br.length c1, .slice a2 n.pa.length c2, .slice a3 n.pb.length c3, .slice a4 n.bufs.length c4, .slice a5 n.owners.length c5, .slice a6 n.turns.length c6, .slice a7 n.srcs.length c7, .slice a8 n.arrs.length c8, .int .i64 n.time]) := Lib.hid ((((((Box.new w w.heap.size #[.int .i64 n.mesh.g.w, .int .i64 n.mesh.g.h, .slice a1 n.mesh.br.length c1, .slice a2 n.pa.length c2, .slice a3 n.pb.length c3, .slice a4 n.bufs.length c4, .slice a5 n.owners.length c5, .slice a6 n.turns.length c6, .slice a7 n.srcs.length c7, .slice a8 n.arrs.length c8, .int .i64 n.time] 45 rfl).alloc _).alloc _).below HBC)).below hw01)
 have HP0 : Hid (Box w0 (w.heap.size + 1) #[.int .i64 p.id, .int .i64 p.src, .int .i64 p.dst, .int .i64 p.cls, .int .i64 p.len]) := Lib.hid (((((Box.new (w.alloc (.cells #[.int .i64 n.mesh.g.w, .int .i64 n.mesh.g.h, .slice a1 n.mesh.br.length c1, .slice a2 n.pa.length c2, .slice a3 n.pb.length c3, .slice a4 n.bufs.length c4, .slice a5 n.owners.length c5, .slice a6 n.turns.length c6, .slice a7 n.srcs.length c7, .slice a8 n.arrs.length c8, .int .i64 n.time] 45)) (w.heap.size + 1) #[.int .i64 p.id, .int .i64 p.src, .int .i64 p.dst, .int .i64 p.cls, .int .i64 p.len] 49 (by simp only [szs])).alloc _).below HBC)).below hw01)
 have HZB : Hid (BN w0 (w.heap.size + 2)) := Lib.hid (((BT.bn (by have hn := BT.new ((w.alloc (.cells #[.int .i64 n.mesh.g.w, .int .i64 n.mesh.g.h, .slice a1 n.mesh.br.length c1, .slice a2 n.pa.length c2, .slice a3 n.pb.length c3, .slice a4 n.bufs.length c4, .slice a5 n.owners.length c5, .slice a6 n.turns.length c6, .slice a7 n.srcs.length c7, .slice a8 n.arrs.length c8, .int .i64 n.time] 45)).alloc (.cells #[.int .i64 p.id, .int .i64 p.src, .int .i64 p.dst, .int .i64 p.cls, .int .i64 p.len] 49)) ⟨⟨⟨0, 0⟩, []⟩, [], [], [], [], [], [], [], 0⟩ ⟨none, none, none, none, none, none, none, none, 0, 0, 0, 0, 0, 0, 0, 0⟩; simp only [szs] at hn; exact hn)).below HBC).below hw01)
 have sb1 : bx < w0.heap.size := by omega
 have sb2 : w.heap.size + 3 ≤ bx := by omega
 have sl1 : lo ≤ w.heap.size + 3 := by omega
 have sl2 : w.heap.size + 3 ≤ lo := by omega
 have sl4 : lo ≤ w0.heap.size := by omega
 have HNO0 : ∀ b : Bool, netOk n = b → Hid (∀ W, Below w0.heap.size w0 W → Calls Try.prog 25 #[.agg #[.int .i64 n.mesh.g.w, .int .i64 n.mesh.g.h, .slice a1 n.mesh.br.length c1, .slice a2 n.pa.length c2, .slice a3 n.pb.length c3, .slice a4 n.bufs.length c4, .slice a5 n.owners.length c5, .slice a6 n.turns.length c6, .slice a7 n.srcs.length c7, .slice a8 n.arrs.length c8, .int .i64 n.time]] W fun e w' => e = .returned (.bool b) ∧ Below W.heap.size W w') := fun b hb => Lib.hid (fun W hW => by have h := impl_NetOk n _ W (HR.out.below (bw_then HHB.out hW)); rw [hb] at h; exact h)
 have x0 : w0.cell? ⟨w.heap.size, 0, none⟩ = some (.int .i64 n.mesh.g.w) := HX0.out.get 0
 have x1 : w0.cell? ⟨w.heap.size, 1, none⟩ = some (.int .i64 n.mesh.g.h) := HX0.out.get 1
 have x2 : w0.cell? ⟨w.heap.size, 2, none⟩ = some (.slice a1 n.mesh.br.length c1) := HX0.out.get 2
 have x3 : w0.cell? ⟨w.heap.size, 3, none⟩ = some (.slice a2 n.pa.length c2) := HX0.out.get 3
 have x4 : w0.cell? ⟨w.heap.size, 4, none⟩ = some (.slice a3 n.pb.length c3) := HX0.out.get 4
 have x5 : w0.cell? ⟨w.heap.size, 5, none⟩ = some (.slice a4 n.bufs.length c4) := HX0.out.get 5
 have x6 : w0.cell? ⟨w.heap.size, 6, none⟩ = some (.slice a5 n.owners.length c5) := HX0.out.get 6
 have x7 : w0.cell? ⟨w.heap.size, 7, none⟩ = some (.slice a6 n.turns.length c6) := HX0.out.get 7
 have x8 : w0.cell? ⟨w.heap.size, 8, none⟩ = some (.slice a7 n.srcs.length c7) := HX0.out.get 8
 have x9 : w0.cell? ⟨w.heap.size, 9, none⟩ = some (.slice a8 n.arrs.length c8) := HX0.out.get 9
 have x10 : w0.cell? ⟨w.heap.size, 10, none⟩ = some (.int .i64 n.time) := HX0.out.get 10
 have z0 : w0.cell? ⟨bx, 0, none⟩ = some (.int .i64 n.mesh.g.w) := HBT.out.box.get 0
 have z1 : w0.cell? ⟨bx, 1, none⟩ = some (.int .i64 n.mesh.g.h) := HBT.out.box.get 1
 have z2 : w0.cell? ⟨bx, 2, none⟩ = some (.slice b1 n.mesh.br.length d1) := HBT.out.box.get 2
 have z3 : w0.cell? ⟨bx, 3, none⟩ = some (.slice b2 n.pa.length d2) := HBT.out.box.get 3
 have z4 : w0.cell? ⟨bx, 4, none⟩ = some (.slice b3 n.pb.length d3) := HBT.out.box.get 4
 have z5 : w0.cell? ⟨bx, 5, none⟩ = some (.slice b4 n.bufs.length d4) := HBT.out.box.get 5
 have z6 : w0.cell? ⟨bx, 6, none⟩ = some (.slice b5 n.owners.length d5) := HBT.out.box.get 6
 have z7 : w0.cell? ⟨bx, 7, none⟩ = some (.slice b6 n.turns.length d6) := HBT.out.box.get 7
 have z8 : w0.cell? ⟨bx, 8, none⟩ = some (.slice b7 n.srcs.length d7) := HBT.out.box.get 8
 have z9 : w0.cell? ⟨bx, 9, none⟩ = some (.slice b8 n.arrs.length d8) := HBT.out.box.get 9
 have z10 : w0.cell? ⟨bx, 10, none⟩ = some (.int .i64 n.time) := HBT.out.box.get 10
 have p0 : w0.cell? ⟨w.heap.size + 1, 0, none⟩ = some (.int .i64 p.id) := HP0.out.get 0
 have p1 : w0.cell? ⟨w.heap.size + 1, 1, none⟩ = some (.int .i64 p.src) := HP0.out.get 1
 have p2 : w0.cell? ⟨w.heap.size + 1, 2, none⟩ = some (.int .i64 p.dst) := HP0.out.get 2
 have p3 : w0.cell? ⟨w.heap.size + 1, 3, none⟩ = some (.int .i64 p.cls) := HP0.out.get 3
 have p4 : w0.cell? ⟨w.heap.size + 1, 4, none⟩ = some (.int .i64 p.len) := HP0.out.get 4
 have q1 : w.heap.size < w0.heap.size := by omega
 have q2 : w.heap.size + 1 < w0.heap.size := by omega
 have hm1 : w.heap.size ∈ [w.heap.size, w.heap.size + 1, bx] := by simp
 have hm2 : w.heap.size + 1 ∈ [w.heap.size, w.heap.size + 1, bx] := by simp
 have hm3 : bx ∈ [w.heap.size, w.heap.size + 1, bx] := by simp
 have hml : ∀ k ∈ [w.heap.size, w.heap.size + 1, bx], k < w0.heap.size := by
  intro k hk
  simp only [List.mem_cons, List.not_mem_nil, or_false] at hk
  omega
 have hmn : w.heap.size + 2 ∉ [w.heap.size, w.heap.size + 1, bx] := by
  simp only [List.mem_cons, List.not_mem_nil, or_false]
  omega
 have slo : lo ≤ bx := by omega
 clear sw HBC hw01 HN0
 go_wp2_with fail
 try rw [← ebx]
 try rw [← e0]
 clear e0 ebx elo hz0
 cases hk : netOk n
 ·have HE := Lib.hid (sendPacket_no (p := p) (.inl hk))
  have HNO := HNO0 _ hk
  clear HNO0 hk
  refine wp_region_tx (KB w0 [w.heap.size, w.heap.size + 1, bx]) (fun i => [.agg #[.int .i64 n.mesh.g.w, .int .i64 n.mesh.g.h, .slice b1 n.mesh.br.length d1, .slice b2 n.pa.length d2, .slice b3 n.pb.length d3, .slice b4 n.bufs.length d4, .slice b5 n.owners.length d5, .slice b6 n.turns.length d6, .slice b7 n.srcs.length d7, .slice b8 n.arrs.length d8, .int .i64 n.time], .agg #[.int .i64 n.mesh.g.w, .int .i64 n.mesh.g.h, .slice a1 n.mesh.br.length c1, .slice a2 n.pa.length c2, .slice a3 n.pb.length c3, .slice a4 n.bufs.length c4, .slice a5 n.owners.length c5, .slice a6 n.turns.length c6, .slice a7 n.srcs.length c7, .slice a8 n.arrs.length c8, .int .i64 n.time], undef, .bool false, undef, undef, .bool false, undef].getD i undef) 8 [(0, .quiet), (1, .quiet), (2, .chain), (3, .quiet), (4, .quiet), (5, .quiet), (6, .quiet), (7, .chain)] (by kernel_rfl) (by kernel_rfl) (by kernel_rfl) (by kernel_rfl) (by kernel_rfl) (by kernel_rfl) (by kernel_rfl) (by kernel_rfl) KB.drew (fun W => W = w0.drew) rfl ?_
  refine wpTx_q (some 9) rfl rfl (by rfl) (fun W hC => ?_) ?_
  ·have := hC.get hm3 z0
   have := hC.get hm3 z1
   have := hC.get hm3 z2
   have := hC.get hm3 z3
   have := hC.get hm3 z4
   have := hC.get hm3 z5
   have := hC.get hm3 z6
   have := hC.get hm3 z7
   have := hC.get hm3 z8
   have := hC.get hm3 z9
   have := hC.get hm3 z10
   clear hC
   go_simp
   try rfl
  try simp only [Act.put, nms]
  refine wpTx_q (some 10) rfl rfl (by rfl) (fun W hC => ?_) ?_
  ·have := hC.get hm1 x0
   have := hC.get hm1 x1
   have := hC.get hm1 x2
   have := hC.get hm1 x3
   have := hC.get hm1 x4
   have := hC.get hm1 x5
   have := hC.get hm1 x6
   have := hC.get hm1 x7
   have := hC.get hm1 x8
   have := hC.get hm1 x9
   have := hC.get hm1 x10
   clear hC
   go_simp
   try rfl
  try simp only [Act.put, nms]
  refine wpTx_c (some 11) rfl rfl (by rfl) () (fun _ => .bool false) (fun _ W => Below w0.heap.size w0 W) (fun W hF hC => ?_) (fun _ => ?_)
  ·subst hF
   refine LoOp.enter (by go_simp; first | done | exact ⟨rfl, rfl⟩ | rfl) ?_
   refine (HNO.out _ (bw_drew (bw_refl _))).mono ?_
   rintro e W1 ⟨he, hb1⟩
   subst he
   exact ⟨_, rfl, (), rfl, KB.below KB.drew hml hb1, bw_then (bw_drew (bw_refl _)) hb1⟩
  try simp only [Act.put, nms]
  refine wpTx_q (some 12) rfl rfl (by rfl) (fun W hC => ?_) ?_
  ·clear hC
   go_simp
   try rfl
  try simp only [Act.put, nms]
  refine wpTx_s (some 13) rfl rfl (by rfl) rfl ?_
  try simp only [Act.put, nms]
  refine wpTx_s (some 14) rfl rfl (by rfl) rfl ?_
  try simp only [Act.put, nms]
  refine wpTx_q (some 15) rfl rfl (by rfl) (fun W hC => ?_) ?_
  ·clear hC
   go_simp
   try rfl
  try simp only [Act.put, nms]
  refine wpTx_c none rfl rfl (by rfl) () (fun _ => undef) (fun _ W => ∃ W0, W = putN W0 (w.heap.size + 2) n ⟨b1, b2, b3, b4, b5, b6, b7, b8, d1, d2, d3, d4, d5, d6, d7, d8⟩ ∧ Below w0.heap.size w0 W0) (fun W hF hC => ?_) (fun _ => ?_)
  ·have HZW : Hid (BN W (w.heap.size + 2)) := Lib.hid (HZB.out.below hF)
   obtain ⟨ry0, rv0⟩ := HZW.out.get 0 (by omega)
   have rz0 := HZW.out.frozen 0
   obtain ⟨ry1, rv1⟩ := HZW.out.get 1 (by omega)
   have rz1 := HZW.out.frozen 1
   obtain ⟨ry2, rv2⟩ := HZW.out.get 2 (by omega)
   have rz2 := HZW.out.frozen 2
   obtain ⟨ry3, rv3⟩ := HZW.out.get 3 (by omega)
   have rz3 := HZW.out.frozen 3
   obtain ⟨ry4, rv4⟩ := HZW.out.get 4 (by omega)
   have rz4 := HZW.out.frozen 4
   obtain ⟨ry5, rv5⟩ := HZW.out.get 5 (by omega)
   have rz5 := HZW.out.frozen 5
   obtain ⟨ry6, rv6⟩ := HZW.out.get 6 (by omega)
   have rz6 := HZW.out.frozen 6
   obtain ⟨ry7, rv7⟩ := HZW.out.get 7 (by omega)
   have rz7 := HZW.out.frozen 7
   obtain ⟨ry8, rv8⟩ := HZW.out.get 8 (by omega)
   have rz8 := HZW.out.frozen 8
   obtain ⟨ry9, rv9⟩ := HZW.out.get 9 (by omega)
   have rz9 := HZW.out.frozen 9
   obtain ⟨ry10, rv10⟩ := HZW.out.get 10 (by omega)
   have rz10 := HZW.out.frozen 10
   refine LoOp.skip rfl (w1 := putN W (w.heap.size + 2) n ⟨b1, b2, b3, b4, b5, b6, b7, b8, d1, d2, d3, d4, d5, d6, d7, d8⟩) ?_ ⟨(), rfl, hC.put hmn _ _, W, rfl, hF⟩
   clear hC hF
   unfold putN
   go_simp
   try rfl
  try simp only [Act.put, nms]
  refine wpTx_z (fun w9 hF hC => ?_)
  obtain ⟨W, e9, hF⟩ := hF
  have E9 := Lib.hid e9
  clear hC e9
  refine ⟨_, rfl, by rfl, ?_⟩
  go_simp
  go_wp2

  have HZW := Lib.hid (HZB.out.below hF)
  have HB9 : Hid (BT w9 (w.heap.size + 2) n ⟨b1, b2, b3, b4, b5, b6, b7, b8, d1, d2, d3, d4, d5, d6, d7, d8⟩) := Lib.hid (by rw [E9.out]; exact putN_BT HZW.out)
  have HN9 : Hid (NX w9 lo n ⟨b1, b2, b3, b4, b5, b6, b7, b8, d1, d2, d3, d4, d5, d6, d7, d8⟩ v4 v7 v8) := Lib.hid (by rw [E9.out]; exact (HN.out.below hF).put HZW.out)
  have HL9 : Hid (Below w.heap.size w w9) := Lib.hid (by rw [E9.out]; exact below_put (bw_then HHB.out hF) (by omega))
  exact bodyPost_ret (results_cell_row2 Try.results8 _ _ (w.heap.size + 2) 45 _ (0, 0) _ rfl HB9.out Try.underlying45 rfl (by kernel_rfl)) rfl (by dsimp only; rw [HE.out.1, HE.out.2]; exact ⟨⟨_, _, _, _, rfl, HN9.out.lower (by omega)⟩, HL9.out⟩)

 ·have HE : Hid (sendPacketN n p = sndN n p ∧ sendPacketB n p = sendOk n p) := Lib.hid ⟨by simp [sendPacketN, hk], by simp [sendPacketB, hk]⟩
  have HNO := HNO0 _ hk
  have OK := Lib.hid hk
  clear HNO0 hk
  obtain ⟨B, hB⟩ : ∃ B, sendOk n p = B := ⟨_, rfl⟩
  have HS : Hid (∀ W, Below w0.heap.size w0 W → Calls Try.prog 26 #[.pointer (some ⟨bx, 0, none⟩), .agg #[.int .i64 p.id, .int .i64 p.src, .int .i64 p.dst, .int .i64 p.cls, .int .i64 p.len]] W fun e w' => e = .returned (.bool B) ∧ GotSndQ lo bx w' (sndN n p) ⟨b1, b2, b3, b4, b5, b6, b7, b8, d1, d2, d3, d4, d5, d6, d7, d8⟩ ∧ Below lo W w') := Lib.hid (fun W hW => by have h := impl_sendQ n p ⟨b1, b2, b3, b4, b5, b6, b7, b8, d1, d2, d3, d4, d5, d6, d7, d8⟩ bx lo v4 v7 v8 W (HN.out.below hW) (HBT.out.below hW) NBQ.out OK.out slo (by have := bw_size hW; omega); rw [hB] at h; exact h)
  rw [hB] at HE
  clear hB
  have hme : netCells (sndN n p) ⟨b1, b2, b3, b4, b5, b6, b7, b8, d1, d2, d3, d4, d5, d6, d7, d8⟩ = netCells n ⟨b1, b2, b3, b4, b5, b6, b7, b8, d1, d2, d3, d4, d5, d6, d7, d8⟩ := by
   unfold sndN
   split
   ·simp [netCells, sendN]
   ·rfl
  have HME := Lib.hid hme
  clear hme
  refine wp_region_tx (KB w0 [w.heap.size, w.heap.size + 1, bx]) (fun i => [.agg #[.int .i64 n.mesh.g.w, .int .i64 n.mesh.g.h, .slice b1 n.mesh.br.length d1, .slice b2 n.pa.length d2, .slice b3 n.pb.length d3, .slice b4 n.bufs.length d4, .slice b5 n.owners.length d5, .slice b6 n.turns.length d6, .slice b7 n.srcs.length d7, .slice b8 n.arrs.length d8, .int .i64 n.time], .agg #[.int .i64 n.mesh.g.w, .int .i64 n.mesh.g.h, .slice a1 n.mesh.br.length c1, .slice a2 n.pa.length c2, .slice a3 n.pb.length c3, .slice a4 n.bufs.length c4, .slice a5 n.owners.length c5, .slice a6 n.turns.length c6, .slice a7 n.srcs.length c7, .slice a8 n.arrs.length c8, .int .i64 n.time], undef, .bool true, .agg #[.int .i64 p.id, .int .i64 p.src, .int .i64 p.dst, .int .i64 p.cls, .int .i64 p.len], undef, .bool B, undef].getD i undef) 8 [(0, .quiet), (1, .quiet), (2, .chain), (3, .quiet), (4, .quiet), (5, .chain), (6, .quiet), (7, .chain)] (by kernel_rfl) (by kernel_rfl) (by kernel_rfl) (by kernel_rfl) (by kernel_rfl) (by kernel_rfl) (by kernel_rfl) (by kernel_rfl) KB.drew (fun W => W = w0.drew) rfl ?_
  refine wpTx_q (some 9) rfl rfl (by rfl) (fun W hC => ?_) ?_
  ·have := hC.get hm3 z0
   have := hC.get hm3 z1
   have := hC.get hm3 z2
   have := hC.get hm3 z3
   have := hC.get hm3 z4
   have := hC.get hm3 z5
   have := hC.get hm3 z6
   have := hC.get hm3 z7
   have := hC.get hm3 z8
   have := hC.get hm3 z9
   have := hC.get hm3 z10
   clear hC
   go_simp
   try rfl
  try simp only [Act.put, nms]
  refine wpTx_q (some 10) rfl rfl (by rfl) (fun W hC => ?_) ?_
  ·have := hC.get hm1 x0
   have := hC.get hm1 x1
   have := hC.get hm1 x2
   have := hC.get hm1 x3
   have := hC.get hm1 x4
   have := hC.get hm1 x5
   have := hC.get hm1 x6
   have := hC.get hm1 x7
   have := hC.get hm1 x8
   have := hC.get hm1 x9
   have := hC.get hm1 x10
   clear hC
   go_simp
   try rfl
  try simp only [Act.put, nms]
  refine wpTx_c (some 11) rfl rfl (by rfl) () (fun _ => .bool true) (fun _ W => Below w0.heap.size w0 W) (fun W hF hC => ?_) (fun _ => ?_)
  ·subst hF
   refine LoOp.enter (by go_simp; first | done | exact ⟨rfl, rfl⟩ | rfl) ?_
   refine (HNO.out _ (bw_drew (bw_refl _))).mono ?_
   rintro e W1 ⟨he, hb1⟩
   subst he
   exact ⟨_, rfl, (), rfl, KB.below KB.drew hml hb1, bw_then (bw_drew (bw_refl _)) hb1⟩
  try simp only [Act.put, nms]
  refine wpTx_q (some 12) rfl rfl (by rfl) (fun W hC => ?_) ?_
  ·clear hC
   go_simp
   try rfl
  try simp only [Act.put, nms]
  refine wpTx_q (some 13) rfl rfl (by rfl) (fun W hC => ?_) ?_
  ·have := hC.get hm2 p0
   have := hC.get hm2 p1
   have := hC.get hm2 p2
   have := hC.get hm2 p3
   have := hC.get hm2 p4
   clear hC
   go_simp
   try rfl
  try simp only [Act.put, nms]
  refine wpTx_c (some 14) rfl rfl (by rfl) () (fun _ => .bool B) (fun _ W => (∃ u4 u7 u8, NX W lo (sndN n p) ⟨b1, b2, b3, b4, b5, b6, b7, b8, d1, d2, d3, d4, d5, d6, d7, d8⟩ u4 u7 u8) ∧ Below lo w0 W) (fun W hF hC => ?_) (fun _ => ?_)
  ·refine LoOp.enter (by go_simp; first | done | exact ⟨rfl, rfl⟩ | rfl) ?_
   refine (HS.out _ hF).mono ?_
   rintro e W1 ⟨he, hg, hb1⟩
   subst he
   obtain ⟨u4, u7, u8, hn1, ht1⟩ := hg
   have hl9 := bw_size hF
   refine ⟨_, rfl, (), rfl, fun k hk => ?_, ⟨u4, u7, u8, hn1⟩, bw_trans (Below.cut hF sl4) hb1 (Nat.le_refl _)⟩
   simp only [List.mem_cons, List.not_mem_nil, or_false] at hk
   rcases hk with rfl | rfl | rfl
   ·exact (hb1.block _ (by omega)).trans (hC _ hm1)
   ·exact (hb1.block _ (by omega)).trans (hC _ hm2)
   ·exact (ht1.eq HME.out.symm).trans HBT.out.symm
  try simp only [Act.put, nms]
  refine wpTx_q (some 15) rfl rfl (by rfl) (fun W hC => ?_) ?_
  ·clear hC
   go_simp
   try rfl
  try simp only [Act.put, nms]
  refine wpTx_c none rfl rfl (by rfl) () (fun _ => undef) (fun _ W => ∃ W0, W = putN W0 (w.heap.size + 2) n ⟨b1, b2, b3, b4, b5, b6, b7, b8, d1, d2, d3, d4, d5, d6, d7, d8⟩ ∧ (∃ u4 u7 u8, NX W0 lo (sndN n p) ⟨b1, b2, b3, b4, b5, b6, b7, b8, d1, d2, d3, d4, d5, d6, d7, d8⟩ u4 u7 u8) ∧ Below lo w0 W0) (fun W hF hC => ?_) (fun _ => ?_)
  ·have HZW : Hid (BN W (w.heap.size + 2)) := Lib.hid (HZB.out.low hF.2 (by omega))
   obtain ⟨ry0, rv0⟩ := HZW.out.get 0 (by omega)
   have rz0 := HZW.out.frozen 0
   obtain ⟨ry1, rv1⟩ := HZW.out.get 1 (by omega)
   have rz1 := HZW.out.frozen 1
   obtain ⟨ry2, rv2⟩ := HZW.out.get 2 (by omega)
   have rz2 := HZW.out.frozen 2
   obtain ⟨ry3, rv3⟩ := HZW.out.get 3 (by omega)
   have rz3 := HZW.out.frozen 3
   obtain ⟨ry4, rv4⟩ := HZW.out.get 4 (by omega)
   have rz4 := HZW.out.frozen 4
   obtain ⟨ry5, rv5⟩ := HZW.out.get 5 (by omega)
   have rz5 := HZW.out.frozen 5
   obtain ⟨ry6, rv6⟩ := HZW.out.get 6 (by omega)
   have rz6 := HZW.out.frozen 6
   obtain ⟨ry7, rv7⟩ := HZW.out.get 7 (by omega)
   have rz7 := HZW.out.frozen 7
   obtain ⟨ry8, rv8⟩ := HZW.out.get 8 (by omega)
   have rz8 := HZW.out.frozen 8
   obtain ⟨ry9, rv9⟩ := HZW.out.get 9 (by omega)
   have rz9 := HZW.out.frozen 9
   obtain ⟨ry10, rv10⟩ := HZW.out.get 10 (by omega)
   have rz10 := HZW.out.frozen 10
   refine LoOp.skip rfl (w1 := putN W (w.heap.size + 2) n ⟨b1, b2, b3, b4, b5, b6, b7, b8, d1, d2, d3, d4, d5, d6, d7, d8⟩) ?_ ⟨(), rfl, hC.put hmn _ _, W, rfl, hF⟩
   clear hC hF
   unfold putN
   go_simp
   try rfl
  try simp only [Act.put, nms]
  refine wpTx_z (fun w9 hF hC => ?_)
  obtain ⟨W, e9, hF⟩ := hF
  have E9 := Lib.hid e9
  clear hC e9
  refine ⟨_, rfl, by rfl, ?_⟩
  go_simp
  go_wp2

  obtain ⟨⟨u4, u7, u8, hn9⟩, hl9⟩ := hF

  have HZW := Lib.hid (HZB.out.low hl9 (by omega))
  have HB9 : Hid (BT w9 (w.heap.size + 2) (sndN n p) ⟨b1, b2, b3, b4, b5, b6, b7, b8, d1, d2, d3, d4, d5, d6, d7, d8⟩) := Lib.hid (by rw [E9.out]; exact (putN_BT HZW.out).eq HME.out)
  have HN9 : Hid (NX w9 lo (sndN n p) ⟨b1, b2, b3, b4, b5, b6, b7, b8, d1, d2, d3, d4, d5, d6, d7, d8⟩ u4 u7 u8) := Lib.hid (by rw [E9.out]; exact hn9.put HZW.out)
  have HL9 : Hid (Below w.heap.size w w9) := Lib.hid (by rw [E9.out]; exact below_put (bw_trans HHB.out hl9 (by omega)) (by omega))
  exact bodyPost_ret (results_cell_row2 Try.results8 _ _ (w.heap.size + 2) 45 _ (0, 0) _ rfl HB9.out Try.underlying45 rfl (by kernel_rfl)) rfl (by dsimp only; rw [HE.out.1, HE.out.2]; exact ⟨⟨_, _, _, _, rfl, HN9.out.lower (by omega)⟩, HL9.out⟩)

end Go.Proofs.Yteeebfeljjghhaa
/- A law's arguments, opened: what the reading of an argument says of the cells that it reaches, for every world. -/
set_option linter.unusedVariables false
set_option linter.unusedSimpArgs false
namespace Go.Proofs.Yteeebfeljjghhaa
open Go.ChangeShapes Go.WideShapes Go.ChangeAt Go.RowKit Go.Proofs.YteeebfeljjghhaaW.PrintWords
open NoC

theorem len1 {α : Type} {l : List α} (h : l.length = 1) : ∃ a, l = [a] := by match l, h with | [a], _ => exact ⟨a, rfl⟩
theorem len2 {α : Type} {l : List α} (h : l.length = 2) : ∃ a b, l = [a, b] := by match l, h with | [a, b], _ => exact ⟨a, b, rfl⟩
theorem len3 {α : Type} {l : List α} (h : l.length = 3) : ∃ a b c, l = [a, b, c] := by match l, h with | [a, b, c], _ => exact ⟨a, b, c, rfl⟩
theorem len5 {α : Type} {l : List α} (h : l.length = 5) : ∃ a b c d e, l = [a, b, c, d, e] := by match l, h with | [a, b, c, d, e], _ => exact ⟨a, b, c, d, e, rfl⟩
section
variable {H : Type} {enc : TypeId × Value → H} {W : World} {base : Nat} {spare : Nat → Bool} {held : Bool} {fuel : Nat} {cs : List Value} {x : DataW H × List MemPlace}
def Light (t : TypeId) (d : DataW H) : Prop := ∀ n ∈ d.weights Try.prog t, n ≤ reachBytes
theorem light_arg {ts : List TypeId} {ds : List (DataW H)} (h : (DataW.weightsEach Try.prog ts ds).all (· ≤ reachBytes) = true) {j : Nat} {t : TypeId} {d : DataW H} (ht : ts[j]? = some t) (hd : ds[j]? = some d) : Light t d :=
  fun n hn => by simpa using List.all_eq_true.1 h n (DataW.weights_mem_each ht hd n hn)
theorem light_field {t : TypeId} {fs : Array Field} {parts : List (DataW H)} (hu : Try.prog.underlying t = some (.struct fs)) (h : Light t (.agg parts)) {i : Nat} {f : Field} {d : DataW H} (hf : fs[i]? = some f) (hd : parts[i]? = some d) : Light f.type d :=
  fun n hn => h n (by
    unfold DataW.weights
    rw [hu]
    exact DataW.weights_mem_each (j := i) (by simp [hf]) hd n hn)
theorem op_int (h : DataW.trod enc Try.prog W base spare held fuel 3 cs = some x) : ∃ n, cs = [.int .i64 n] := by
  obtain ⟨n, h, _⟩ := DataW.trod_int Try.underlying3 h
  exact ⟨n, h⟩
theorem op_ints (h : DataW.trod enc Try.prog W base spare held fuel 24 cs = some x) (hl : Light 24 x.1) :
    ∃ A c, ∃ l : List Int, cs = [.slice A l.length c] ∧ Kd.C (Kd.int .i64) W A l.length l ∧ l.length ≤ 140737488355328 := by
  rcases open_ints Try.underlying24 Try.underlying3 (by kernel_rfl) h with ⟨rfl, _⟩ | ⟨a, len, cap, zs, rfl, _, hle, hm, hz, hx, hc, _⟩
  · exact ⟨none, 0, [], rfl, ⟨rfl, by decide, fun h => absurd h (by decide)⟩, by decide⟩
  · have hlen : len ≤ zs.length := by rw [hz]; split <;> omega
    have e : (zs.take len).length = len := by rw [List.length_take, Nat.min_eq_left hlen]
    have hb : len * 8 ≤ 140737488351232 := by
      subst hx
      have z := hl _ (by unfold DataW.weights; rw [show Try.prog.underlying 24 = _ from Try.underlying24]; exact List.mem_cons_self)
      rw [show Try.prog.bytesOf 3 = 8 by kernel_rfl] at z
      have hr : reachBytes = 140737488351232 := by decide
      have h1 : (lits (H := H) .i64 (zs.take len)).length = len := by simp [lits, hlen]
      rw [h1] at z
      omega
    refine ⟨some a, cap, zs.take len, by rw [e], ⟨rfl, by rw [e]; omega, fun _ => ⟨a, rfl, ?_⟩⟩, by rw [e]; omega⟩
    intro j p hj
    refine ⟨[.int .i64 p], rfl, rfl, ?_⟩
    intro i u hi
    obtain ⟨rfl, rfl⟩ : i = 0 ∧ u = .int .i64 p := by
      cases i with
      | zero => simp at hi; exact ⟨rfl, hi.symm⟩
      | succ i => simp at hi
    have hj2 := List.getElem?_eq_some_iff.1 hj
    obtain ⟨hj3, hj4⟩ := hj2
    have hj5 : j < zs.length := by omega
    have := hc j hj5
    rw [show j * (Kd.int .i64).sz + 0 = j by show j * 1 + 0 = j; omega, this]
    rw [List.getElem_take] at hj4
    simp [hj5, hj4]
theorem op_fields {t : TypeId} {fs : Array Field} (hu : Try.prog.underlying t = some (.struct fs)) (h : DataW.trod enc Try.prog W base spare held fuel t cs = some x) (hl : Light t x.1) :
    cs.length = Try.prog.cellsOf t ∧ ∀ (i : Nat) (f : Field), fs[i]? = some f → ∃ n y, DataW.trod enc Try.prog W base spare held n f.type ((cs.drop f.offset).take (Try.prog.cellsOf f.type)) = some y ∧ Light f.type y.1 := by
  obtain ⟨xs, n, _, rfl, hlen, hxs, hf⟩ := DataW.trod_struct hu h
  refine ⟨hlen, fun i f hi => ?_⟩
  have hlt : i < xs.length := by rw [hxs]; exact (Array.getElem?_eq_some_iff.1 hi).1
  have e := hf i f hi
  rw [List.getElem?_eq_getElem hlt] at e
  exact ⟨n, xs[i], e, light_field hu hl hi (by simp [hlt])⟩
theorem op_grid (h : DataW.trod enc Try.prog W base spare held fuel 23 cs = some x) (hl : Light 23 x.1) :
    ∃ g : Grid, cs = [.int .i64 g.w, .int .i64 g.h] := by
  obtain ⟨hlen, hf⟩ := op_fields Try.underlying23 h hl
  rw [show Try.prog.cellsOf 23 = 2 by kernel_rfl] at hlen
  obtain ⟨a0, a1, rfl⟩ : ∃ a0 a1, cs = [a0, a1] := len2 hlen
  obtain ⟨n0, y0, h0, l0⟩ := hf 0 _ rfl
  simp only [List.getElem_toArray, List.getElem_cons_zero, List.getElem_cons_succ] at h0 l0
  rw [show Try.prog.cellsOf 3 = 1 by kernel_rfl] at h0
  obtain ⟨i0, e0⟩ := op_int h0
  simp at e0
  obtain rfl := e0
  obtain ⟨n1, y1, h1, l1⟩ := hf 1 _ rfl
  simp only [List.getElem_toArray, List.getElem_cons_zero, List.getElem_cons_succ] at h1 l1
  rw [show Try.prog.cellsOf 3 = 1 by kernel_rfl] at h1
  obtain ⟨i1, e1⟩ := op_int h1
  simp at e1
  obtain rfl := e1
  exact ⟨⟨i0, i1⟩, rfl⟩
theorem op_mesh (h : DataW.trod enc Try.prog W base spare held fuel 26 cs = some x) (hl : Light 26 x.1) :
    ∃ (m : Mesh) (A : Option Addr) (c : Nat), cs = [.int .i64 m.g.w, .int .i64 m.g.h, .slice A m.br.length c] ∧ Kd.C (Kd.int .i64) W A m.br.length m.br ∧ m.br.length ≤ 140737488355328 := by
  obtain ⟨hlen, hf⟩ := op_fields Try.underlying26 h hl
  rw [show Try.prog.cellsOf 26 = 3 by kernel_rfl] at hlen
  obtain ⟨a0, a1, a2, rfl⟩ : ∃ a0 a1 a2, cs = [a0, a1, a2] := len3 hlen
  obtain ⟨n0, y0, h0, l0⟩ := hf 0 _ rfl
  simp only [List.getElem_toArray, List.getElem_cons_zero, List.getElem_cons_succ] at h0 l0
  rw [show Try.prog.cellsOf 23 = 2 by kernel_rfl] at h0
  obtain ⟨g0, e0⟩ := op_grid h0 l0
  simp at e0
  obtain ⟨rfl, rfl⟩ := e0
  obtain ⟨n1, y1, h1, l1⟩ := hf 1 _ rfl
  simp only [List.getElem_toArray, List.getElem_cons_zero, List.getElem_cons_succ] at h1 l1
  rw [show Try.prog.cellsOf 24 = 1 by kernel_rfl] at h1
  obtain ⟨A1, c1, r1, e1, hr1, hn1⟩ := op_ints h1 l1
  simp at e1
  obtain rfl := e1
  exact ⟨⟨g0, r1⟩, A1, c1, rfl, hr1, hn1⟩
theorem op_table (h : DataW.trod enc Try.prog W base spare held fuel 28 cs = some x) (hl : Light 28 x.1) :
    ∃ A c, ∃ l : List Int, cs = [.slice A l.length c] ∧ Kd.C (Kd.int .i64) W A l.length l ∧ l.length ≤ 140737488355328 := by
  obtain ⟨hlen, hf⟩ := op_fields Try.underlying28 h hl
  rw [show Try.prog.cellsOf 28 = 1 by kernel_rfl] at hlen
  obtain ⟨a0, rfl⟩ : ∃ a0, cs = [a0] := len1 hlen
  obtain ⟨n0, y0, h0, l0⟩ := hf 0 _ rfl
  simp only [List.getElem_toArray, List.getElem_cons_zero, List.getElem_cons_succ] at h0 l0
  rw [show Try.prog.cellsOf 24 = 1 by kernel_rfl] at h0
  obtain ⟨A0, c0, r0, e0, hr0, hn0⟩ := op_ints h0 l0
  simp at e0
  obtain rfl := e0
  exact ⟨A0, c0, r0, rfl, hr0, hn0⟩
theorem op_classes (h : DataW.trod enc Try.prog W base spare held fuel 30 cs = some x) (hl : Light 30 x.1) :
    ∃ A c, ∃ l : List Int, ∃ B d, ∃ k : List Int, cs = [.slice A l.length c, .slice B k.length d] ∧ Kd.C (Kd.int .i64) W A l.length l ∧ l.length ≤ 140737488355328 ∧ Kd.C (Kd.int .i64) W B k.length k ∧ k.length ≤ 140737488355328 := by
  obtain ⟨hlen, hf⟩ := op_fields Try.underlying30 h hl
  rw [show Try.prog.cellsOf 30 = 2 by kernel_rfl] at hlen
  obtain ⟨a0, a1, rfl⟩ : ∃ a0 a1, cs = [a0, a1] := len2 hlen
  obtain ⟨n0, y0, h0, l0⟩ := hf 0 _ rfl
  simp only [List.getElem_toArray, List.getElem_cons_zero, List.getElem_cons_succ] at h0 l0
  rw [show Try.prog.cellsOf 28 = 1 by kernel_rfl] at h0
  obtain ⟨A0, c0, r0, e0, hr0, hn0⟩ := op_table h0 l0
  simp at e0
  obtain rfl := e0
  obtain ⟨n1, y1, h1, l1⟩ := hf 1 _ rfl
  simp only [List.getElem_toArray, List.getElem_cons_zero, List.getElem_cons_succ] at h1 l1
  rw [show Try.prog.cellsOf 28 = 1 by kernel_rfl] at h1
  obtain ⟨A1, c1, r1, e1, hr1, hn1⟩ := op_table h1 l1
  simp at e1
  obtain rfl := e1
  exact ⟨A0, c0, r0, A1, c1, r1, rfl, hr0, hn0, hr1, hn1⟩
theorem op_packet (h : DataW.trod enc Try.prog W base spare held fuel 35 cs = some x) (hl : Light 35 x.1) :
    ∃ p : Packet, cs = [.int .i64 p.id, .int .i64 p.src, .int .i64 p.dst, .int .i64 p.cls, .int .i64 p.len] := by
  obtain ⟨hlen, hf⟩ := op_fields Try.underlying35 h hl
  rw [show Try.prog.cellsOf 35 = 5 by kernel_rfl] at hlen
  obtain ⟨a0, a1, a2, a3, a4, rfl⟩ : ∃ a0 a1 a2 a3 a4, cs = [a0, a1, a2, a3, a4] := len5 hlen
  obtain ⟨n0, y0, h0, l0⟩ := hf 0 _ rfl
  simp only [List.getElem_toArray, List.getElem_cons_zero, List.getElem_cons_succ] at h0 l0
  rw [show Try.prog.cellsOf 3 = 1 by kernel_rfl] at h0
  obtain ⟨i0, e0⟩ := op_int h0
  simp at e0
  obtain rfl := e0
  obtain ⟨n1, y1, h1, l1⟩ := hf 1 _ rfl
  simp only [List.getElem_toArray, List.getElem_cons_zero, List.getElem_cons_succ] at h1 l1
  rw [show Try.prog.cellsOf 3 = 1 by kernel_rfl] at h1
  obtain ⟨i1, e1⟩ := op_int h1
  simp at e1
  obtain rfl := e1
  obtain ⟨n2, y2, h2, l2⟩ := hf 2 _ rfl
  simp only [List.getElem_toArray, List.getElem_cons_zero, List.getElem_cons_succ] at h2 l2
  rw [show Try.prog.cellsOf 3 = 1 by kernel_rfl] at h2
  obtain ⟨i2, e2⟩ := op_int h2
  simp at e2
  obtain rfl := e2
  obtain ⟨n3, y3, h3, l3⟩ := hf 3 _ rfl
  simp only [List.getElem_toArray, List.getElem_cons_zero, List.getElem_cons_succ] at h3 l3
  rw [show Try.prog.cellsOf 3 = 1 by kernel_rfl] at h3
  obtain ⟨i3, e3⟩ := op_int h3
  simp at e3
  obtain rfl := e3
  obtain ⟨n4, y4, h4, l4⟩ := hf 4 _ rfl
  simp only [List.getElem_toArray, List.getElem_cons_zero, List.getElem_cons_succ] at h4 l4
  rw [show Try.prog.cellsOf 3 = 1 by kernel_rfl] at h4
  obtain ⟨i4, e4⟩ := op_int h4
  simp at e4
  obtain rfl := e4
  exact ⟨⟨i0, i1, i2, i3, i4⟩, rfl⟩
end
end Go.Proofs.Yteeebfeljjghhaa
/- A law's rows of records, opened: what the reading of an argument says of the cells that it reaches. -/
set_option linter.unusedVariables false
set_option linter.unusedSimpArgs false
namespace Go.Proofs.Yteeebfeljjghhaa
open Go.ChangeShapes Go.WideShapes Go.ChangeAt Go.RowKit Go.Proofs.YteeebfeljjghhaaW.PrintWords
open NoC

theorem build_list {α : Type} {Q : Nat → α → Prop} : ∀ n : Nat, (∀ i, i < n → ∃ p, Q i p) → ∃ l : List α, l.length = n ∧ ∀ i p, l[i]? = some p → Q i p := by
  intro n
  induction n with
  | zero => intro _; exact ⟨[], rfl, fun i p h => by simp at h⟩
  | succ n ih =>
    intro h
    obtain ⟨l, hl, hq⟩ := ih (fun i hi => h i (by omega))
    obtain ⟨p, hp⟩ := h n (by omega)
    refine ⟨l ++ [p], by simp [hl], fun i q hi => ?_⟩
    by_cases hlt : i < n
    · rw [List.getElem?_append_left (by omega)] at hi
      exact hq i q hi
    · have hlen := (List.getElem?_eq_some_iff.1 hi).1
      have : i = n := by simp at hlen; omega
      subst this
      rw [List.getElem?_append_right (by omega), hl, Nat.sub_self] at hi
      simp at hi
      subst hi
      exact hp
section
variable {H : Type} {enc : TypeId × Value → H} {W : World} {base : Nat} {spare : Nat → Bool} {held : Bool} {fuel : Nat} {cs : List Value} {x : DataW H × List MemPlace}
theorem op_fields0 {t : TypeId} {fs : Array Field} (hu : Try.prog.underlying t = some (.struct fs)) (h : DataW.trod enc Try.prog W base spare held fuel t cs = some x) :
    cs.length = Try.prog.cellsOf t ∧ ∀ (i : Nat) (f : Field), fs[i]? = some f → ∃ n y, DataW.trod enc Try.prog W base spare held n f.type ((cs.drop f.offset).take (Try.prog.cellsOf f.type)) = some y := by
  obtain ⟨xs, n, _, rfl, hlen, hxs, hf⟩ := DataW.trod_struct hu h
  refine ⟨hlen, fun i f hi => ?_⟩
  have hlt : i < xs.length := by rw [hxs]; exact (Array.getElem?_eq_some_iff.1 hi).1
  have e := hf i f hi
  rw [List.getElem?_eq_getElem hlt] at e
  exact ⟨n, xs[i], e⟩
end
end Go.Proofs.Yteeebfeljjghhaa
