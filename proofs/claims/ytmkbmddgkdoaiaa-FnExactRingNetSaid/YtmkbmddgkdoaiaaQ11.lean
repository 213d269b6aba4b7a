/- Lemmas for laws of this seat, for all inputs: NwS SndI SndJ StS RunS SndS. -/
import Derived.Test.YtmkbmddgkdoaiaaQ10
import Derived.Test.YtmkbmddgkdoaiaaQ4
import Derived.Test.YtmkbmddgkdoaiaaQ7
import Derived.Test.YtmkbmddgkdoaiaaQ8
import Derived.Test.YtmkbmddgkdoaiaaQ2
import Derived.Test.YtmkbmddgkdoaiaaQ6
set_option linter.unusedVariables false
set_option linter.unusedSimpArgs false
namespace Go.Proofs.Ytmkbmddgkdoaiaa
open Go.RowKit Go.Proofs.YtmkbmddgkdoaiaaW.PrintWords
open NoC
set_option maxHeartbeats 16000000 in
set_option maxRecDepth 100000 in
theorem spec_NetNew (m : Mesh) (pa pb : List Int) (A1 A2 A3 : Option Addr) (c1 c2 c3 : Nat) (w : World) (hm : Kd.C (Kd.int .i64) w A1 m.br.length m.br) (hn : m.br.length ≤ 2097152) (ha : Kd.C (Kd.int .i64) w A2 pa.length pa) (ka : pa.length ≤ 2097152) (hb : Kd.C (Kd.int .i64) w A3 pb.length pb) (kb : pb.length ≤ 2097152) :
  Calls Try.prog 9 #[.agg #[.int .i64 m.g.w, .int .i64 m.g.h, .slice A1 m.br.length c1], .agg #[.slice A2 pa.length c2, .slice A3 pb.length c3]] w fun e w' => GotNV w w' (netNewN m pa pb) (.bool (classesOk m pa pb)) e ∧ Below w.heap.size w w' := by
 have HM := Lib.hid hm
 have HA := Lib.hid ha
 have HB := Lib.hid hb
 clear hm ha hb
 obtain ⟨wa, ewa⟩ : ∃ z, z = ((w.alloc (.cells #[.int .i64 m.g.w, .int .i64 m.g.h, .slice A1 m.br.length c1] 26)).alloc (.cells #[.slice A2 pa.length c2, .slice A3 pb.length c3] 30)).alloc (.cells #[.int .i64 0, .int .i64 0, .slice none 0 0, .slice none 0 0, .slice none 0 0, .slice none 0 0, .slice none 0 0, .slice none 0 0, .slice none 0 0, .slice none 0 0, .int .i64 0] 33) := ⟨_, rfl⟩
 have hwa : Below w.heap.size w wa := by rw [ewa]; exact bw_alloc _ (bw_alloc _ (bw_alloc _ (bw_refl w)))
 have HXM : Hid (Box wa w.heap.size #[.int .i64 m.g.w, .int .i64 m.g.h, .slice A1 m.br.length c1]) := Lib.hid (by rw [ewa]; exact ((Box.new w w.heap.size _ 26 rfl).alloc _).alloc _)
 have HXC : Hid (Box wa (w.heap.size + 1) #[.slice A2 pa.length c2, .slice A3 pb.length c3]) := Lib.hid (by rw [ewa]; exact (Box.new (w.alloc (.cells #[.int .i64 m.g.w, .int .i64 m.g.h, .slice A1 m.br.length c1] 26)) (w.heap.size + 1) _ 30 (by simp only [szs])).alloc _)
 have HZ : Hid (BN wa (w.heap.size + 2)) := Lib.hid (by rw [ewa]; have h := BT.new ((w.alloc (.cells #[.int .i64 m.g.w, .int .i64 m.g.h, .slice A1 m.br.length c1] 26)).alloc (.cells #[.slice A2 pa.length c2, .slice A3 pb.length c3] 30)) zeroN ZQ; simp only [szs] at h; exact h.bn)
 have zwa : wa.heap.size = w.heap.size + 3 := by rw [ewa]; simp only [szs]
 have g0 : (((w.alloc (.cells #[.int .i64 m.g.w, .int .i64 m.g.h, .slice A1 m.br.length c1] 26)).alloc (.cells #[.slice A2 pa.length c2, .slice A3 pb.length c3] 30)).alloc (.cells #[.int .i64 0, .int .i64 0, .slice none 0 0, .slice none 0 0, .slice none 0 0, .slice none 0 0, .slice none 0 0, .slice none 0 0, .slice none 0 0, .slice none 0 0, .int .i64 0] 33)).cell? ⟨w.heap.size, 0, none⟩ = some (.int .i64 m.g.w) := by rw [← ewa]; exact HXM.out.get 0
 have g1 : (((w.alloc (.cells #[.int .i64 m.g.w, .int .i64 m.g.h, .slice A1 m.br.length c1] 26)).alloc (.cells #[.slice A2 pa.length c2, .slice A3 pb.length c3] 30)).alloc (.cells #[.int .i64 0, .int .i64 0, .slice none 0 0, .slice none 0 0, .slice none 0 0, .slice none 0 0, .slice none 0 0, .slice none 0 0, .slice none 0 0, .slice none 0 0, .int .i64 0] 33)).cell? ⟨w.heap.size, 1, none⟩ = some (.int .i64 m.g.h) := by rw [← ewa]; exact HXM.out.get 1
 have g2 : (((w.alloc (.cells #[.int .i64 m.g.w, .int .i64 m.g.h, .slice A1 m.br.length c1] 26)).alloc (.cells #[.slice A2 pa.length c2, .slice A3 pb.length c3] 30)).alloc (.cells #[.int .i64 0, .int .i64 0, .slice none 0 0, .slice none 0 0, .slice none 0 0, .slice none 0 0, .slice none 0 0, .slice none 0 0, .slice none 0 0, .slice none 0 0, .int .i64 0] 33)).cell? ⟨w.heap.size, 2, none⟩ = some (.slice A1 m.br.length c1) := by rw [← ewa]; exact HXM.out.get 2
 have g3 : (((w.alloc (.cells #[.int .i64 m.g.w, .int .i64 m.g.h, .slice A1 m.br.length c1] 26)).alloc (.cells #[.slice A2 pa.length c2, .slice A3 pb.length c3] 30)).alloc (.cells #[.int .i64 0, .int .i64 0, .slice none 0 0, .slice none 0 0, .slice none 0 0, .slice none 0 0, .slice none 0 0, .slice none 0 0, .slice none 0 0, .slice none 0 0, .int .i64 0] 33)).cell? ⟨w.heap.size + 1, 0, none⟩ = some (.slice A2 pa.length c2) := by rw [← ewa]; exact HXC.out.get 0
 have g4x : (((w.alloc (.cells #[.int .i64 m.g.w, .int .i64 m.g.h, .slice A1 m.br.length c1] 26)).alloc (.cells #[.slice A2 pa.length c2, .slice A3 pb.length c3] 30)).alloc (.cells #[.int .i64 0, .int .i64 0, .slice none 0 0, .slice none 0 0, .slice none 0 0, .slice none 0 0, .slice none 0 0, .slice none 0 0, .slice none 0 0, .slice none 0 0, .int .i64 0] 33)).cell? ⟨w.heap.size + 1, 1, none⟩ = some (.slice A3 pb.length c3) := by rw [← ewa]; exact HXC.out.get 1
 go_enter Try.func9, Try.ntmps9
 go_wp2_with fail
 rw [← ewa]
 clear g0 g1 g2 g3 g4x ewa
 refine (spec_ClassesOk m pa pb A1 A2 A3 c1 c2 c3 _ (Kd.C_below HM.out hwa) hn (Kd.C_below HA.out hwa) ka (Kd.C_below HB.out hwa) kb).mono ?_
 rintro e w2 ⟨rfl, hb2⟩
 have HW2 : Hid (Below w.heap.size w w2) := Lib.hid (bw_then hwa hb2)
 have HXM2 := Lib.hid (HXM.out.below hb2)
 have HXC2 := Lib.hid (HXC.out.below hb2)
 have HZ2 := Lib.hid (HZ.out.below hb2)
 have zw2 := bw_size hb2
 clear hb2 hwa HXM HXC HZ
 cases hk : classesOk m pa pb
 ·have HE : Hid (netNewN m pa pb = zeroN) := Lib.hid (by unfold netNewN; rw [hk]; rfl)
  obtain ⟨⟨ry0, rv0⟩, ⟨ry1, rv1⟩, ⟨ry2, rv2⟩, ⟨ry3, rv3⟩, ⟨ry4, rv4⟩, ⟨ry5, rv5⟩, ⟨ry6, rv6⟩, ⟨ry7, rv7⟩, ⟨ry8, rv8⟩, ⟨ry9, rv9⟩, ⟨ry10, rv10⟩, rz0, rz1, rz2, rz3, rz4, rz5, rz6, rz7, rz8, rz9, rz10⟩ := allBN HZ2.out
  have zl := HZ2.out.lt
  go_wp2
  obtain ⟨W9, e9⟩ : ∃ z, z = putN w2 (w.heap.size + 2) zeroN ZQ := ⟨_, rfl⟩
  have HB9 : Hid (BT W9 (w.heap.size + 2) zeroN ZQ) := Lib.hid (by rw [e9]; exact putN_BT HZ2.out)
  have HL9 : Hid (Below w.heap.size w W9) := Lib.hid (by rw [e9]; exact below_put HW2.out (by omega))
  unfold putN at e9
  simp only [zeroN, ZQ, List.length_nil] at e9
  rw [← e9]
  clear e9
  exact bodyPost_ret (results_cell_row2 Try.results9 _ _ (w.heap.size + 2) 33 _ (0, 0) _ rfl HB9.out Try.underlying33 rfl (by kernel_rfl)) rfl (by rw [HE.out, hk]; exact ⟨⟨_, _, _, _, rfl, NX.zero _ _⟩, HL9.out⟩)
 ·have HE : Hid (netNewN m pa pb = newN m pa pb) := Lib.hid (by unfold netNewN; rw [hk]; rfl)
  have x0 : w2.cell? ⟨w.heap.size, 0, none⟩ = some (.int .i64 m.g.w) := HXM2.out.get 0
  have x1 : w2.cell? ⟨w.heap.size, 1, none⟩ = some (.int .i64 m.g.h) := HXM2.out.get 1
  have xl := HXM2.out.lt
  go_wp2_with fail
  refine (spec_NodeCount m.g _).mono ?_
  rintro e w3 ⟨rfl, hb3⟩
  have hcn := count_nat m.g
  have k16' := count_le m.g
  obtain ⟨K, hK⟩ : ∃ K : Nat, nodeCount m.g = (K : Int) := ⟨(nodeCount m.g).toNat, by omega⟩
  have HKN : Hid ((nodeCount m.g).toNat = K) := Lib.hid (by omega)
  have k16 : K ≤ 16 := by omega
  rw [hK]
  obtain ⟨K10, eK10⟩ : ∃ z, z = 10 * K := ⟨_, rfl⟩
  obtain ⟨K5, eK5⟩ : ∃ z, z = 5 * K := ⟨_, rfl⟩
  have HK10 := Lib.hid eK10
  have HK5 := Lib.hid eK5
  have hw10 : IntKind.i64.wrap (10 * (K : Int)) = (K10 : Int) := by rw [IntWalk.i64_in _ (by omega)]; omega
  have hw5 : IntKind.i64.wrap (5 * (K : Int)) = (K5 : Int) := by rw [IntWalk.i64_in _ (by omega)]; omega
  have MK10 : Hid (∀ W : World, (Instr.makeSlice 31 (.int .i64 (K10 : Int)) (.int .i64 (K10 : Int))).run Try.prog W = .ok (.slice (some ⟨W.heap.size, 0, none⟩) K10 K10) (W.alloc (.cells (madeCells #[.slice none 0 0] K10) 67))) := Lib.hid (fun W => run_make_row' 31 67 (.slice none 0 0) 24 Try.underlying31 info_B rfl .i64 .i64 K10 (by omega) (by omega) W)
  have MK1 : Hid (∀ W : World, (Instr.makeSlice 31 (.int .i64 (K : Int)) (.int .i64 (K : Int))).run Try.prog W = .ok (.slice (some ⟨W.heap.size, 0, none⟩) K K) (W.alloc (.cells (madeCells #[.slice none 0 0] K) 67))) := Lib.hid (fun W => run_make_row' 31 67 (.slice none 0 0) 24 Try.underlying31 info_B rfl .i64 .i64 K (by omega) (by omega) W)
  have MK5 : Hid (∀ W : World, (Instr.makeSlice 24 (.int .i64 (K5 : Int)) (.int .i64 (K5 : Int))).run Try.prog W = .ok (.slice (some ⟨W.heap.size, 0, none⟩) K5 K5) (W.alloc (.cells (madeCells #[.int .i64 0] K5) 3))) := Lib.hid (fun W => run_make_row' 24 3 (.int .i64 0) 8 Try.underlying24 info_int rfl .i64 .i64 K5 (by omega) (by omega) W)
  clear eK10 eK5 hK hcn k16' x0 x1 xl
  have HW3 : Hid (Below w.heap.size w w3) := Lib.hid (bw_then HW2.out hb3)
  have HXM3 := Lib.hid (HXM2.out.below hb3)
  have HXC3 := Lib.hid (HXC2.out.below hb3)
  have HZ3 := Lib.hid (HZ2.out.below hb3)
  have HM3 := Lib.hid (Kd.C_below HM.out HW3.out)
  have HA3 := Lib.hid (Kd.C_below HA.out HW3.out)
  have HB3 := Lib.hid (Kd.C_below HB.out HW3.out)
  have zw3 := bw_size hb3
  have l1 := HXM3.out.lt
  have l2 := HXC3.out.lt
  clear hb3 HXM2 HXC2 HZ2 HM HA HB HW2
  have k10 : K10 ≤ 160 := by have := HK10.out; omega
  go_wp2_with fail
  refine wp_region_tz w3.heap.size (fun i => if i = 6 then .cells (madeCells #[.slice none 0 0] K10) 67 else if i = 9 then .cells (madeCells #[.int .i64 0] K5) 3 else if i = 11 then .cells (madeCells #[.slice none 0 0] K) 67 else if i = 13 then .cells (madeCells #[.slice none 0 0] K) 67 else if i = 15 then .cells #[.int .i64 0, .int .i64 0, .slice none 0 0, .slice none 0 0, .slice none 0 0, .slice none 0 0, .slice none 0 0, .slice none 0 0, .slice none 0 0, .slice none 0 0, .int .i64 0] 33 else .cells #[] 0) (fun i g => if i = 6 then .slice (some ⟨g, 0, none⟩) K10 K10 else if i = 9 then .slice (some ⟨g, 0, none⟩) K5 K5 else if i = 11 then .slice (some ⟨g, 0, none⟩) K K else if i = 13 then .slice (some ⟨g, 0, none⟩) K K else if i = 15 then .pointer (some ⟨g, 0, none⟩) else undef) (fun W => Below w3.heap.size w3 W) 16 [(0, .quiet), (1, .chain), (2, .quiet), (3, .chain), (4, .quiet), (5, .quiet), (6, .lit), (7, .quiet), (8, .quiet), (9, .lit), (10, .quiet), (11, .lit), (12, .quiet), (13, .lit), (14, .quiet), (15, .lit)] (by kernel_rfl) (by kernel_rfl) (by kernel_rfl) (by kernel_rfl) (by kernel_rfl) (by kernel_rfl) (by kernel_rfl) (by kernel_rfl) (bw_drew (bw_refl _)) ⟨fun w o h => bw_alloc o h, fun w h => bw_size h⟩ (fun _ => True) trivial (fun _ _ _ _ _ => trivial) ?_
  refine wpTz_v (some 17) (.agg #[.int .i64 m.g.w, .int .i64 m.g.h, .slice A1 m.br.length c1]) rfl rfl (by rfl) (fun W hC => ?_) ?_
  ·have h0 : W.cell? ⟨w.heap.size, 0, none⟩ = some (.int .i64 m.g.w) := (Box.below HXM3.out hC).get 0
   have h1 : W.cell? ⟨w.heap.size, 1, none⟩ = some (.int .i64 m.g.h) := (Box.below HXM3.out hC).get 1
   have h2 : W.cell? ⟨w.heap.size, 2, none⟩ = some (.slice A1 m.br.length c1) := (Box.below HXM3.out hC).get 2
   clear hC
   go_simp
   try rfl
  try simp only [Act.put, nms]
  refine wpTz_d (some 18) rfl rfl (by rfl) (PX.mk0 none 0 0 0) (fun y => .agg #[.int .i64 m.g.w, .int .i64 m.g.h, .slice y.A m.br.length y.c]) (fun y W => gI w3.heap.size y m.br W) (fun y => (y.lo, y.hi)) (fun W hF hC => ?_) (fun y W W' h hb => h.stp ⟨hb⟩) (fun y1 => ?_)
  ·refine LoOp.enter (by go_simp; first | done | exact ⟨rfl, rfl⟩ | rfl) ?_
   refine (spec_l15Mesh m A1 c1 W (Kd.C_below HM3.out hC) hn).mono ?_
   rintro e W1 ⟨hg1, hb1⟩
   obtain ⟨v, rfl, hO⟩ := hg1
   obtain ⟨A, c, rfl⟩ := Kd.R_slice hO
   exact ⟨_, rfl, PX.mk0 A c W.heap.size W1.heap.size, rfl, bw_then hC hb1, ⟨bw_size hC, bw_size hb1, Nat.le_refl _, RU.of hO (Nat.le_refl _) (Nat.le_refl _)⟩, hb1, Nat.le_refl _, Nat.le_refl _⟩
  obtain ⟨AM, cM, AM2, cM2, vsM, lM, hM⟩ := y1
  dsimp only
  try simp only [Act.put, nms]
  refine wpTz_v (some 19) (.agg #[.slice A2 pa.length c2, .slice A3 pb.length c3]) rfl rfl (by rfl) (fun W hC => ?_) ?_
  ·have h0 : W.cell? ⟨w.heap.size + 1, 0, none⟩ = some (.slice A2 pa.length c2) := (Box.below HXC3.out hC).get 0
   have h1 : W.cell? ⟨w.heap.size + 1, 1, none⟩ = some (.slice A3 pb.length c3) := (Box.below HXC3.out hC).get 1
   clear hC
   go_simp
   try rfl
  try simp only [Act.put, nms]
  refine wpTz_d (some 20) rfl rfl (by rfl) (PX.mk0 none 0 0 0) (fun y => .agg #[.slice y.A pa.length y.c, .slice y.A2 pb.length y.c2]) (fun y W => RawC w3.heap.size ⟨AM, cM, AM2, cM2, vsM, lM, hM⟩ y m pa pb W) (fun y => (y.lo, y.hi)) (fun W hF hC => ?_) (fun y W W' h hb => h.below hb) (fun y2 => ?_)
  ·refine LoOp.enter (by go_simp; first | done | exact ⟨rfl, rfl⟩ | rfl) ?_
   refine (spec_l15Classes pa pb A2 A3 c2 c3 W (Kd.C_below HA3.out hC) ka (Kd.C_below HB3.out hC) kb).mono ?_
   rintro e W1 ⟨hg1, hb1⟩
   obtain ⟨va, vb, rfl, hO1, hO2, hap⟩ := hg1
   obtain ⟨Aa, ca, rfl⟩ := Kd.R_slice hO1
   obtain ⟨Ab, cb, rfl⟩ := Kd.R_slice hO2
   exact ⟨_, rfl, ⟨Aa, ca, Ab, cb, [], W.heap.size, W1.heap.size⟩, rfl, bw_then hC hb1, ⟨hF.stp ⟨hb1⟩, hF.2.2.1, bw_size hb1, Nat.le_refl _, RU.of hO1 (Nat.le_refl _) (Nat.le_refl _), RU.of hO2 (Nat.le_refl _) (Nat.le_refl _), hap⟩, hb1, Nat.le_refl _, Nat.le_refl _⟩
  obtain ⟨AA, cA, AB, cB, vsC, lC, hCC⟩ := y2
  dsimp only
  try simp only [Act.put, nms]
  refine wpTz_v (some 21) (.int .i64 (K : Int)) rfl rfl (by rfl) (fun W hC => ?_) ?_
  ·clear hC
   go_simp
   try rfl
  try simp only [Act.put, nms]
  refine wpTz_v (some 22) (.int .i64 (K10 : Int)) rfl rfl (by rfl) (fun W hC => ?_) ?_
  ·clear hC
   go_simp
   try rfl
  try simp only [Act.put, nms]
  refine wpTz_l (some 23) rfl rfl (by rfl) (fun W => ?_) (fun g4 => ?_)
  ·have hk := MK10.out W
   go_simp
   try rfl
  try simp only [Act.put, nms]
  refine wpTz_v (some 24) (.int .i64 (K : Int)) rfl rfl (by rfl) (fun W hC => ?_) ?_
  ·clear hC
   go_simp
   try rfl
  try simp only [Act.put, nms]
  refine wpTz_v (some 25) (.int .i64 (K5 : Int)) rfl rfl (by rfl) (fun W hC => ?_) ?_
  ·clear hC
   go_simp
   try rfl
  try simp only [Act.put, nms]
  refine wpTz_l (some 26) rfl rfl (by rfl) (fun W => ?_) (fun g6 => ?_)
  ·have hk := MK5.out W
   go_simp
   try rfl
  try simp only [Act.put, nms]
  refine wpTz_v (some 27) (.int .i64 (K : Int)) rfl rfl (by rfl) (fun W hC => ?_) ?_
  ·clear hC
   go_simp
   try rfl
  try simp only [Act.put, nms]
  refine wpTz_l (some 28) rfl rfl (by rfl) (fun W => ?_) (fun g7 => ?_)
  ·have hk := MK1.out W
   go_simp
   try rfl
  try simp only [Act.put, nms]
  refine wpTz_v (some 29) (.int .i64 (K : Int)) rfl rfl (by rfl) (fun W hC => ?_) ?_
  ·clear hC
   go_simp
   try rfl
  try simp only [Act.put, nms]
  refine wpTz_l (some 30) rfl rfl (by rfl) (fun W => ?_) (fun g8 => ?_)
  ·have hk := MK1.out W
   go_simp
   try rfl
  try simp only [Act.put, nms]
  refine wpTz_v (some 31) (.agg #[.int .i64 m.g.w, .int .i64 m.g.h, .slice AM m.br.length cM, .slice AA pa.length cA, .slice AB pb.length cB, .slice (some ⟨g4, 0, none⟩) K10 K10, .slice none 0 0, .slice (some ⟨g6, 0, none⟩) K5 K5, .slice (some ⟨g7, 0, none⟩) K K, .slice (some ⟨g8, 0, none⟩) K K, .int .i64 0]) rfl rfl (by rfl) (fun W hC => ?_) ?_
  ·clear hC
   go_simp
   try rfl
  try simp only [Act.put, nms]
  refine wpTz_l (some 7) rfl rfl (by rfl) (fun W => ?_) (fun gb => ?_)
  ·go_simp
   try rfl
  try simp only [Act.put, nms]
  refine wpTz_z (fun w8 hF hC => ?_)
  obtain ⟨⟨⟨⟨⟨hR, b4, h4, i4⟩, b6, h6, i6⟩, b7, h7, i7⟩, b8, h8, i8⟩, bb, hb, ib⟩ := hF
  have hbn : BN w8 gb := ⟨_, hb, rfl⟩
  obtain ⟨⟨ry0, rv0⟩, ⟨ry1, rv1⟩, ⟨ry2, rv2⟩, ⟨ry3, rv3⟩, ⟨ry4, rv4⟩, ⟨ry5, rv5⟩, ⟨ry6, rv6⟩, ⟨ry7, rv7⟩, ⟨ry8, rv8⟩, ⟨ry9, rv9⟩, ⟨ry10, rv10⟩, rz0, rz1, rz2, rz3, rz4, rz5, rz6, rz7, rz8, rz9, rz10⟩ := allBN hbn
  have hbl := hbn.lt
  refine ⟨_, rfl, by rfl, ?_⟩
  go_simp
  obtain ⟨W9, e9⟩ : ∃ z, z = putN w8 gb { newN m pa pb with owners := [] } ⟨AM, AA, AB, some ⟨g4, 0, none⟩, none, some ⟨g6, 0, none⟩, some ⟨g7, 0, none⟩, some ⟨g8, 0, none⟩, cM, cA, cB, 10 * (nodeCount m.g).toNat, 0, 5 * (nodeCount m.g).toNat, (nodeCount m.g).toNat, (nodeCount m.g).toNat⟩ := ⟨_, rfl⟩
  have HB9 : Hid (BT W9 gb { newN m pa pb with owners := [] } ⟨AM, AA, AB, some ⟨g4, 0, none⟩, none, some ⟨g6, 0, none⟩, some ⟨g7, 0, none⟩, some ⟨g8, 0, none⟩, cM, cA, cB, 10 * (nodeCount m.g).toNat, 0, 5 * (nodeCount m.g).toNat, (nodeCount m.g).toNat, (nodeCount m.g).toNat⟩) := Lib.hid (by rw [e9]; exact putN_BT hbn)
  have HL9 : Hid (Below w3.heap.size w3 W9) := Lib.hid (by rw [e9]; exact below_put hC bb)
  have j4 := i4; have j6 := i6; have j7 := i7; have j8 := i8; have jb := ib
  simp only [List.forall_mem_cons, List.not_mem_nil, false_implies, implies_true, and_true] at j4 j6 j7 j8 jb
  rw [show K10 = 10 * (nodeCount m.g).toNat by rw [HKN.out]; exact HK10.out] at h4
  rw [show K5 = 5 * (nodeCount m.g).toNat by rw [HKN.out]; exact HK5.out] at h6
  rw [show K = (nodeCount m.g).toNat from HKN.out.symm] at h7 h8
  have hNX := NX.raw hR (by rw [HKN.out]; exact k16) h4 h6 h7 h8 b4 b6 b7 b8 (by omega) (by omega) (by omega) (by dsimp only; omega) (by dsimp only; omega)
  have HN9 : Hid (NX W9 w3.heap.size { newN m pa pb with owners := [] } ⟨AM, AA, AB, some ⟨g4, 0, none⟩, none, some ⟨g6, 0, none⟩, some ⟨g7, 0, none⟩, some ⟨g8, 0, none⟩, cM, cA, cB, 10 * (nodeCount m.g).toNat, 0, 5 * (nodeCount m.g).toNat, (nodeCount m.g).toNat, (nodeCount m.g).toNat⟩ (List.replicate (10 * (nodeCount m.g).toNat) (.slice none 0 0)) (List.replicate (nodeCount m.g).toNat (.slice none 0 0)) (List.replicate (nodeCount m.g).toNat (.slice none 0 0))) := Lib.hid (by rw [e9]; exact hNX.put hbn)
  unfold putN at e9
  simp only [newN, List.length_replicate, List.length_nil, HKN.out, HK10.out.symm, HK5.out.symm] at e9
  rw [← e9]
  have HGB := Lib.hid bb
  clear e9 hC hR hb h4 h6 h7 h8 hNX hbn i4 i6 i7 i8 ib
  go_wp2_with fail
  go_loopw [8] (fun i wr => ∃ (k : Nat) (A : Option Addr) (c : Nat), i = .int .i64 k ∧ k ≤ K10 ∧ Hid (NX wr w3.heap.size { newN m pa pb with owners := List.replicate k (-1) } ⟨AM, AA, AB, some ⟨g4, 0, none⟩, A, some ⟨g6, 0, none⟩, some ⟨g7, 0, none⟩, some ⟨g8, 0, none⟩, cM, cA, cB, 10 * (nodeCount m.g).toNat, c, 5 * (nodeCount m.g).toNat, (nodeCount m.g).toNat, (nodeCount m.g).toNat⟩ (List.replicate (10 * (nodeCount m.g).toNat) (.slice none 0 0)) (List.replicate (nodeCount m.g).toNat (.slice none 0 0)) (List.replicate (nodeCount m.g).toNat (.slice none 0 0))) ∧ Hid (OApart { newN m pa pb with owners := List.replicate k (-1) } ⟨AM, AA, AB, some ⟨g4, 0, none⟩, A, some ⟨g6, 0, none⟩, some ⟨g7, 0, none⟩, some ⟨g8, 0, none⟩, cM, cA, cB, 10 * (nodeCount m.g).toNat, c, 5 * (nodeCount m.g).toNat, (nodeCount m.g).toNat, (nodeCount m.g).toNat⟩) ∧ Hid (BT wr gb { newN m pa pb with owners := List.replicate k (-1) } ⟨AM, AA, AB, some ⟨g4, 0, none⟩, A, some ⟨g6, 0, none⟩, some ⟨g7, 0, none⟩, some ⟨g8, 0, none⟩, cM, cA, cB, 10 * (nodeCount m.g).toNat, c, 5 * (nodeCount m.g).toNat, (nodeCount m.g).toNat, (nodeCount m.g).toNat⟩) ∧ Hid (Below w3.heap.size w3 wr)) (fun i _ => K10 - (intOf i).toNat)
  case atStart => exact ⟨0, none, 0, rfl, Nat.zero_le _, Lib.hid HN9.out, Lib.hid (OApart.raw _ _ rfl), Lib.hid HB9.out, Lib.hid HL9.out⟩
  case round =>
   obtain ⟨k, A, c, rfl, hk, HNk, HAk, HBk, HLk⟩ := hrel
   have xb := HBk.out.lt
   by_cases hlt : k < K10
   ·have i0 : (k : Int) < (K10 : Int) := by omega
    have k0 : (0 : Int) ≤ (k : Int) := by omega
    have HO : Hid (Kd.R (Kd.int .i64) 3 wr w3.heap.size (fun _ => True) (.slice A k c) (List.replicate k (-1))) := Lib.hid (by have h := HNk.out.owners; simp only [List.length_replicate] at h; exact h)
    have y6 : wr.cell? ⟨gb, 6, none⟩ = some (.slice A k c) := by
     have h : wr.cell? ⟨gb, 6, none⟩ = some (.slice A (List.replicate k (-1 : Int)).length c) := HBk.out.box.get 6
     rwa [List.length_replicate] at h
    have hz3 := bw_size HLk.out
    go_wp2_with (at_builtin; refine app_intN (B := w3.heap.size) rfl (.tmp 39) (.tmp 40) rfl _ (List.replicate k (-1)) (-1) rfl rfl HO.out hz3 (by simp only [List.length_replicate]; omega) ?_; intro v1 w1 HO1 hg1 ha1; obtain ⟨A1x, c1x, rfl⟩ := Kd.R_slice HO1; have e1 : List.replicate k (-1 : Int) ++ [-1] = List.replicate (k + 1) (-1) := (List.replicate_succ' ..).symm; rw [e1] at HO1 ha1 ⊢; have hBg := HBk.out.grownI (v := .slice A k c) hg1 HO.out; have hst := ownStep HNk.out HAk.out HBk.out (by simp only [List.length_replicate]; exact hg1) HO1 (by simp only [List.length_replicate] at ha1 ⊢; exact ha1); obtain ⟨ry, rv⟩ := hBg.bn.get 6 (by omega); have rz := hBg.bn.frozen 6; have hl1 := hBg.lt; have HLg : Hid (Below w3.heap.size w3 w1) := Lib.hid (HLk.out.grown hg1 hz3 (fun j hj => Kd.R_base HO.out j hj)); have HST := Lib.hid hst; clear hst hBg HO1 ha1 hg1; rw [List.length_replicate])
    obtain ⟨W8, e8⟩ : ∃ z, z = w1.setCell ⟨gb, 6, none⟩ (.slice A1x (List.replicate (k + 1) (-1 : Int)).length c1x) := ⟨_, rfl⟩
    have HS8 := HST.out
    rw [← e8] at HS8
    have HL8 : Hid (Below w3.heap.size w3 W8) := Lib.hid (by rw [e8]; exact bw_set0 HLg.out HGB.out 6 _)
    rw [List.length_replicate] at e8
    try rw [← e8]
    go_roundw
    case rel => exact ⟨k + 1, A1x, c1x, by go_num, by omega, Lib.hid HS8.1, Lib.hid HS8.2.1, Lib.hid HS8.2.2, Lib.hid HL8.out⟩
    case measure => simp [intOf]; omega
   ·obtain rfl : k = K10 := by omega
    have i0 : ¬ (k : Int) < (k : Int) := by omega
    have HZk : Hid (BN wr (w.heap.size + 2)) := Lib.hid (HZ3.out.low HLk.out (by omega))
    have hKK := HK10.out
    obtain ⟨NN, hNN⟩ : ∃ z, z = newN m pa pb := ⟨_, rfl⟩
    have eNN : ({ newN m pa pb with owners := List.replicate k (-1) } : Net) = NN := by rw [hNN, hKK, ← HKN.out]; rfl
    rw [eNN] at HNk HBk
    have HNL : Hid (NN.mesh = m ∧ NN.pa = pa ∧ NN.pb = pb ∧ NN.bufs.length = k ∧ NN.owners.length = k ∧ NN.turns.length = K5 ∧ NN.srcs.length = K ∧ NN.arrs.length = K ∧ NN.time = 0) := Lib.hid (by
     have e5 := HK5.out
     have e1 := HKN.out
     subst hNN
     simp only [newN, List.length_replicate, e1]
     exact ⟨trivial, trivial, trivial, by omega, by omega, by omega, trivial, trivial, trivial⟩)
    have HNN := Lib.hid hNN
    clear hNN
    have box11 : Box wr gb #[.int .i64 NN.mesh.g.w, .int .i64 NN.mesh.g.h, .slice AM NN.mesh.br.length cM, .slice AA NN.pa.length cA, .slice AB NN.pb.length cB, .slice (some ⟨g4, 0, none⟩) NN.bufs.length (10 * (nodeCount m.g).toNat), .slice A NN.owners.length c, .slice (some ⟨g6, 0, none⟩) NN.turns.length (5 * (nodeCount m.g).toNat), .slice (some ⟨g7, 0, none⟩) NN.srcs.length (nodeCount m.g).toNat, .slice (some ⟨g8, 0, none⟩) NN.arrs.length (nodeCount m.g).toNat, .int .i64 NN.time] := HBk.out.box
    obtain ⟨yb0, yb1, yb2, yb3, yb4, yb5, yb6, yb7, yb8, yb9, yb10⟩ := all11 box11
    clear box11
    obtain ⟨⟨rq0, ru0⟩, ⟨rq1, ru1⟩, ⟨rq2, ru2⟩, ⟨rq3, ru3⟩, ⟨rq4, ru4⟩, ⟨rq5, ru5⟩, ⟨rq6, ru6⟩, ⟨rq7, ru7⟩, ⟨rq8, ru8⟩, ⟨rq9, ru9⟩, ⟨rq10, ru10⟩, rt0, rt1, rt2, rt3, rt4, rt5, rt6, rt7, rt8, rt9, rt10⟩ := allBN HZk.out
    have zl := HZk.out.lt
    go_wp2
    obtain ⟨W9, e9⟩ : ∃ z, z = putN wr (w.heap.size + 2) NN ⟨AM, AA, AB, some ⟨g4, 0, none⟩, A, some ⟨g6, 0, none⟩, some ⟨g7, 0, none⟩, some ⟨g8, 0, none⟩, cM, cA, cB, 10 * (nodeCount m.g).toNat, c, 5 * (nodeCount m.g).toNat, (nodeCount m.g).toNat, (nodeCount m.g).toNat⟩ := ⟨_, rfl⟩
    have HBz : Hid (BT W9 (w.heap.size + 2) NN ⟨AM, AA, AB, some ⟨g4, 0, none⟩, A, some ⟨g6, 0, none⟩, some ⟨g7, 0, none⟩, some ⟨g8, 0, none⟩, cM, cA, cB, 10 * (nodeCount m.g).toNat, c, 5 * (nodeCount m.g).toNat, (nodeCount m.g).toNat, (nodeCount m.g).toNat⟩) := Lib.hid (by rw [e9]; exact putN_BT HZk.out)
    have HNz := Lib.hid (show NX W9 _ NN ⟨AM, AA, AB, some ⟨g4, 0, none⟩, A, some ⟨g6, 0, none⟩, some ⟨g7, 0, none⟩, some ⟨g8, 0, none⟩, cM, cA, cB, 10 * (nodeCount m.g).toNat, c, 5 * (nodeCount m.g).toNat, (nodeCount m.g).toNat, (nodeCount m.g).toNat⟩ (List.replicate (10 * (nodeCount m.g).toNat) (.slice none 0 0)) (List.replicate (nodeCount m.g).toNat (.slice none 0 0)) (List.replicate (nodeCount m.g).toNat (.slice none 0 0)) from by rw [e9]; exact HNk.out.put HZk.out)
    have HLz : Hid (Below w.heap.size w W9) := Lib.hid (by rw [e9]; exact below_put (bw_trans HW3.out HLk.out (by omega)) (by omega))
    unfold putN at e9
    try dsimp only at e9
    rw [← e9]
    clear e9
    exact bodyPost_ret (results_cell_row2 Try.results9 _ _ (w.heap.size + 2) 33 _ (0, 0) _ rfl HBz.out Try.underlying33 rfl (by kernel_rfl)) rfl (by rw [HE.out, ← HNN.out]; exact ⟨⟨_, _, _, _, rfl, HNz.out.lower (by omega)⟩, HLz.out⟩)
section
variable {ops : Array Oper} {o : Oper} {a : Act} {Kc : Act → World → Prop} {Q' : Exit → Act → World → Prop}
theorem apps_FS {B : Nat} {W : World} (hw : Region.wanted o (yielded ops a.tmps) = true) (s x : Operand)
    (ho : o.op = .call { callee := .builtin .append, args := #[s, x], argTypes := #[67, 67] })
    (v : Value) (xs ys : List Flit) (A : Option Addr) (c : Nat) (hs : a.eval s = v) (hx : a.eval x = .slice A ys.length c)
    (HO : kF.R 77 W B (fun _ => True) v xs) (HR : kF.C W A ys.length ys) (hB : B ≤ W.heap.size) (hl : xs.length + ys.length ≤ 100000000)
    (h : ∀ v1 w1, kF.R 77 w1 B (fun _ => True) v1 (xs ++ ys) → W.grownBy w1 v.ownBlock → Anew W v1 v → Kc (a.put o.dst v1) w1) :
    if Region.wanted o (yielded ops a.tmps) = true then Oper.wp Try.prog o a W Kc Q' else Kc (a.put o.dst undef) W :=
  Kd.R_append_rows_step kF (w0 := W) B hw s x 67 77 (.agg #[.int .i64 0, .int .i64 0, .int .i64 0, .bool false, .bool false]) 32 ho Try.underlying67 info_F rfl (by decide) (by omega) v xs ys A ys.length c (fun _ => True) (fun _ => False) hs hx HO HR (fun _ _ h => h) (fun _ hk => hk.elim) (fun _ _ => trivial) (Below.refl _ _) hB (by omega) (fun v1 w1 h1 _ h3 h4 => h v1 w1 h1 h3 (.inr h4))
theorem apps_FSd {B : Nat} {W : World} (hw : Region.wanted o (yielded ops a.tmps) = true) (s x : Operand)
    (ho : o.op = .call { callee := .builtin .append, args := #[s, x], argTypes := #[67, 67] })
    (v : Value) (xs ys : List Flit) (A : Option Addr) (c : Nat) (hs : a.eval s = v) (hx : a.eval x = .slice A ys.length c)
    (HO : kF.R 77 W B (fun _ => True) v xs) (HR : kF.C W A ys.length ys) (hB : B ≤ W.heap.size) (hl : xs.length + ys.length ≤ 100000000)
    (h : ∀ v1 w1, kF.R 77 w1 B (fun _ => True) v1 (xs ++ ys) → W.grownBy w1 v.ownBlock → Anew W v1 v → Kc (a.put o.dst v1) w1) :
    if Region.wanted o (yielded ops a.tmps) = true then Oper.wp Try.prog o a W.drew Kc Q' else Kc (a.put o.dst undef) W.drew :=
  apps_FS (W := W.drew) hw s x ho v xs ys A c hs hx (Kd.R_below HO (bw_drew (bw_refl W))) (Kd.C_below HR (bw_drew (bw_refl W))) hB hl (fun v1 w1 h1 h2 h3 => h v1 w1 h1 ⟨h2.os, h2.tape, h2.output, h2.size, h2.block⟩ h3)
end
def GotSndQ (lo bx : Nat) (w' : World) (n : Net) (q : NA) : Prop := ∃ u4 u7 u8, NX w' lo n q u4 u7 u8 ∧ BT w' bx n q
def GotSnd (lo bx : Nat) (w' : World) (n : Net) : Prop := ∃ q' u4 u7 u8, NX w' lo n q' u4 u7 u8 ∧ BT w' bx n q'
set_option maxHeartbeats 16000000 in
set_option maxRecDepth 100000 in
theorem impl_sendQ (n : Net) (p : Packet) (q : NA) (bx lo : Nat) (v4 v7 v8 : List Value) (w : World) (hN : NX w lo n q v4 v7 v8) (hB : BT w bx n q) (nb : NB n) (ok : netOk n = true) (hlo : lo ≤ bx) (hlw : lo ≤ w.heap.size) :
  Calls Try.prog 41 #[.pointer (some ⟨bx, 0, none⟩), .agg #[.int .i64 p.id, .int .i64 p.src, .int .i64 p.dst, .int .i64 p.cls, .int .i64 p.len]] w fun e w' => e = .returned (.bool (sendOk n p)) ∧ GotSndQ lo bx w' (sndN n p) q ∧ Below lo w w' := by
 have HN := Lib.hid hN
 have HB := Lib.hid hB
 obtain ⟨l4, l5, l6, l7, l8⟩ := lens_ok ok
 have hsb := srcs_len ok
 have HSL := Lib.hid hsb.2
 have s16 := hsb.1
 obtain ⟨a1, a2, a3, a4, a5, a6, a7, a8, c1, c2, c3, c4, c5, c6, c7, c8⟩ := q
 obtain ⟨g7, e7, t7, s7⟩ := hN.form7 l7
 dsimp only at e7
 subst e7
 have sb := hB.lt
 obtain ⟨w1, e1⟩ : ∃ z, z = w.alloc (.cells #[.int .i64 p.id, .int .i64 p.src, .int .i64 p.dst, .int .i64 p.cls, .int .i64 p.len] 44) := ⟨_, rfl⟩
 have XP : Hid (Box w1 w.heap.size #[.int .i64 p.id, .int .i64 p.src, .int .i64 p.dst, .int .i64 p.cls, .int .i64 p.len]) := Lib.hid (by rw [e1]; exact Box.new w _ _ _ rfl)
 have hb1 : Below w.heap.size w w1 := by rw [e1]; exact bw_alloc _ (bw_refl w)
 have HN1 := Lib.hid (hN.below hb1)
 have HB1 := Lib.hid (hB.below hb1)
 have HW1 : Hid (Below lo w w1) := Lib.hid (Below.cut hb1 hlw)
 have z1 := bw_size hb1
 have x0 : w1.cell? ⟨bx, 0, none⟩ = some (.int .i64 n.mesh.g.w) := HB1.out.box.get 0
 have x1 : w1.cell? ⟨bx, 1, none⟩ = some (.int .i64 n.mesh.g.h) := HB1.out.box.get 1
 have xl := HB1.out.lt
 have p0 : w1.cell? ⟨w.heap.size, 0, none⟩ = some (.int .i64 p.id) := XP.out.get 0
 have p1 : w1.cell? ⟨w.heap.size, 1, none⟩ = some (.int .i64 p.src) := XP.out.get 1
 have p2 : w1.cell? ⟨w.heap.size, 2, none⟩ = some (.int .i64 p.dst) := XP.out.get 2
 have p3 : w1.cell? ⟨w.heap.size, 3, none⟩ = some (.int .i64 p.cls) := XP.out.get 3
 have p4 : w1.cell? ⟨w.heap.size, 4, none⟩ = some (.int .i64 p.len) := XP.out.get 4
 have pl := XP.out.lt
 obtain ⟨L, hL⟩ : ∃ L, flitsOf n.mesh.g p = L := ⟨_, rfl⟩
 have HCF : Hid (∀ W : World, Calls Try.prog 65 #[.agg #[.int .i64 n.mesh.g.w, .int .i64 n.mesh.g.h], .agg #[.int .i64 p.id, .int .i64 p.src, .int .i64 p.dst, .int .i64 p.cls, .int .i64 p.len]] W fun e w' => GotF W w' L e ∧ Below W.heap.size W w') := Lib.hid (fun W => by rw [← hL]; exact impl_FlitsOf n.mesh.g p W)
 have HL := Lib.hid hL
 clear hN hB hb1 hsb hL
 go_enter Try.func41, Try.ntmps41
 go_wp2_with fail
 rw [← e1]
 clear e1
 go_region_held3 (fun w' => Below (w1).heap.size (w1) w' ∧ ∀ bq oq, bq < (w1).heap.size → w'.cell? ⟨bq, oq, none⟩ = (w1).cell? ⟨bq, oq, none⟩) (first | exact far_of bel) ( first | (go_at_call 65; refine (HCF.out _).mono ?_; rintro e wf ⟨hg1, hb1⟩; obtain ⟨vf, rfl, HF0⟩ := hg1; obtain ⟨Af, cf, rfl⟩ := Kd.R_slice HF0; have HFB := hb1; obtain ⟨hc1, hf1, hz1⟩ := bcell hb1; (try simp only [szs] at hz1); have hb2 := far2; obtain ⟨hc2, hf2, hz2⟩ := bcell hb2; (try simp only [szs] at hz2); try (first | obtain ⟨hy1, hy2, hy3, hy4⟩ := lts4 hz2 | obtain ⟨hy1, hy2, hy3⟩ := lts3 hz2 | obtain ⟨hy1, hy2⟩ := lts2 hz2 | have hy1 := lts1 hz2); have hb9 := hb1))
 have hbf : Below w1.heap.size w1 wf := by first | exact bw_then (bw_drew (bw_refl _)) hb2 | exact hb2
 have HF := Lib.hid (show kF.R 77 wf w1.heap.size (fun _ => True) (.slice Af L.length cf) L from HF0)
 repeat (first | clear hc1 | clear hf1 | clear hz1 | clear hb1 | clear hb9 | clear hc2 | clear hf2 | clear hz2 | clear hb2 | clear hy1 | clear hy2 | clear hy3 | clear hy4)
 obtain ⟨w2, rfl⟩ : ∃ z, z = wf := ⟨_, rfl⟩
 have HN2 := Lib.hid (HN1.out.below hbf)
 have HB2 := Lib.hid (HB1.out.below hbf)
 have XP2 := Lib.hid (XP.out.below hbf)
 have HW2 : Hid (Below lo w w2) := Lib.hid (below_then HW1.out (by omega) hbf)
 have z2 := bw_size hbf
 have hpl : w.heap.size < w2.heap.size := XP2.out.lt
 clear p0 p1 p2 p3 p4 pl x0 x1 xl HN1 HB1 XP HW1 HFB HF0 hbf
 cases hk : packetOk n.mesh.g p
 ·have hL0 : L = [] := by rw [← HL.out]; exact flitsOf_no hk
  have HE : Hid (sendOk n p = false ∧ sndN n p = n) := Lib.hid (by
   have h1 : sendOk n p = false := by simp [sendOk, hk]
   exact ⟨h1, by unfold sndN; rw [h1]; rfl⟩)
  have hL1 : L.length = 0 := by rw [hL0]; rfl
  clear hL0 hk
  go_wp2_with fail
  refine wp_region_far (w2) (by kernel_rfl) (by kernel_rfl) bel ?_
  have hqc := far_cell (w2)
  have hqf := far_frozen (w2)
  repeat (first | go_big_quiet_step (fail) | quiet_step (fail))
  refine wpQuiet_nil ?_
  intro wq hbq
  clear hqc hqf
  obtain ⟨hcq, hfq, hzq⟩ := bcell hbq
  try simp only [szs] at hzq
  go_wp2
  go_ret
  exact ⟨ret_bool HE.out.1.symm, by rw [HE.out.2]; exact ⟨v4, v7, v8, HN2.out.below hbq, HB2.out.below hbq⟩, below_then HW2.out (by omega) hbq⟩
 obtain ⟨nd, _, _, _, n1, n5⟩ := packet_parts hk
 have nd1 := isNode_iff.1 nd
 have hlen : (L.length : Int) = p.len := by rw [← HL.out]; exact flitsOf_len hk
 obtain ⟨k, hkk⟩ : ∃ k : Nat, p.src = (k : Int) := ⟨p.src.toNat, by omega⟩
 have hks : k < n.srcs.length := by have := HSL.out; omega
 have HKS := Lib.hid hks
 have hrow := HN2.out.row7 k hks
 try dsimp only at hrow
 obtain ⟨As, cs, hv⟩ := Kd.R_slice hrow
 rw [hv] at hrow
 obtain ⟨R, hR⟩ : ∃ R, rl n.srcs (k : Int) = R := ⟨_, rfl⟩
 rw [hR] at hrow hv
 have hRl : R.length ≤ 2097152 := by rw [← hR]; exact nb.h10 _ (rl_mem hks)
 obtain ⟨cl1, cl2⟩ := own_facts7 (x := n) HN2.out rfl hks hv
 have y1 : w2.cell? ⟨w.heap.size, 1, none⟩ = some (.int .i64 (k : Int)) := by rw [← hkk]; exact XP2.out.get 1
 have y8 : w2.cell? ⟨bx, 8, none⟩ = some (.slice (some ⟨g7, 0, none⟩) n.srcs.length c7) := HB2.out.box.get 8
 have yx := HB2.out.lt
 have i0 : (0 : Int) ≤ (k : Int) := by omega
 have i1 : (k : Int) < (n.srcs.length : Int) := by omega
 have hLp : 1 ≤ L.length := by omega
 have hL5 : L.length ≤ 5 := by omega
 have HV := Lib.hid hv
 have HRE := Lib.hid hR
 have HSO : Hid (sendOk n p = decide ((R.length : Int) + (L.length : Int) ≤ 60)) := Lib.hid (by
  unfold sendOk
  rw [hk, hkk, hR, ← hlen]
  rfl)
 have HKK := Lib.hid hkk
 have f0 : ((L.length : Int) == 0) = false := beq_eq_false_iff_ne.2 (by omega)
 have g7l : g7 < w2.heap.size := by omega
 clear hk hkk hv hR hks hlen nd nd1 n1 n5 nb
 by_cases h60 : (R.length : Int) + (L.length : Int) ≤ 60
 case neg =>
  have HE : Hid (sendOk n p = false ∧ sndN n p = n) := Lib.hid (by
   have h1 : sendOk n p = false := by rw [HSO.out]; exact decide_eq_false h60
   exact ⟨h1, by unfold sndN; rw [h1]; rfl⟩)
  have h61 : (60 : Int) < (R.length : Int) + (L.length : Int) := by omega
  clear h60 HSO
  go_wp2_with fail
  refine wp_region_far (w2) (by kernel_rfl) (by kernel_rfl) bel ?_
  have hqc := far_cell (w2)
  have hqf := far_frozen (w2)
  repeat (first | go_big_quiet_step (fail) | quiet_step (fail))
  refine wpQuiet_nil ?_
  intro wq hbq
  clear hqc hqf
  obtain ⟨hcq, hfq, hzq⟩ := bcell hbq
  try simp only [szs] at hzq
  go_wp2
  go_ret
  exact ⟨ret_bool HE.out.1.symm, by rw [HE.out.2]; exact ⟨v4, v7, v8, HN2.out.below hbq, HB2.out.below hbq⟩, below_then HW2.out (by omega) hbq⟩
 case pos =>
  have h1 : sendOk n p = true := by rw [HSO.out]; exact decide_eq_true h60
  have HE : Hid (sendOk n p = true) := Lib.hid h1
  have HE2 : Hid (sndN n p = { n with srcs := n.srcs.set k (R ++ L) }) := Lib.hid (by
   unfold sndN sendN
   rw [if_pos h1, HL.out, HKK.out, HRE.out, Int.toNat_natCast])
  clear h1 HSO
  go_wp2_with fail
  refine wp_region_far (w2) (by kernel_rfl) (by kernel_rfl) bel ?_
  have hqc := far_cell (w2)
  have hqf := far_frozen (w2)
  repeat (first | go_big_quiet_step (fail) | quiet_step (fail))
  refine wpQuiet_nil ?_
  intro wq hbq
  clear hqc hqf
  obtain ⟨hcq, hfq, hzq⟩ := bcell hbq
  try simp only [szs] at hzq
  have HN3 := Lib.hid (HN2.out.below hbq)
  have HB3 := Lib.hid (HB2.out.below hbq)
  have HW3 : Hid (Below lo w wq) := Lib.hid (below_then HW2.out (by omega) hbq)
  have HF3 := Lib.hid (Kd.R_below HF.out hbq)
  have HO3 := Lib.hid (Kd.R_below hrow hbq)
  have y1q : wq.cell? ⟨w.heap.size, 1, none⟩ = some (.int .i64 (k : Int)) := (hcq _ _ hpl).trans y1
  have y8q : wq.cell? ⟨bx, 8, none⟩ = some (.slice (some ⟨g7, 0, none⟩) n.srcs.length c7) := (hcq _ _ yx).trans y8
  have zq := bw_size hbq
  obtain ⟨d1, d2⟩ := own_facts7 (x := n) HN3.out rfl HKS.out HV.out
  have CL1 := Lib.hid d1
  have CL2 := Lib.hid d2
  clear hcq hfq hzq hbq y1 y8 HN2 HB2 HW2 HF hrow cl1 cl2 XP2
  obtain ⟨wz, rfl⟩ : ∃ z, z = wq := ⟨_, rfl⟩
  have yxz := HB3.out.lt
  have hplz : w.heap.size < wz.heap.size := by omega
  have HBO : Hid (BlkT wz g7 67) := Lib.hid (own_typed HN3.out.srcs g7 rfl)
  obtain ⟨rb, hrb⟩ : ∃ rb, (Value.slice As R.length cs).ownBlock = rb := ⟨_, rfl⟩
  have nb1 : ¬ some bx = rb := fun e => by obtain ⟨inner, hin⟩ := Kd.R_own HO3.out; exact own_ne hin HB3.out (by decide) (e.trans hrb.symm)
  have nb3 : ¬ some g7 = rb := fun e => by
   obtain ⟨inner, hin⟩ := Kd.R_own HO3.out
   obtain ⟨cc, hc⟩ := HBO.out
   exact own_ne hin hc (by decide) (e.trans hrb.symm)
  have nbp : ¬ some w.heap.size = rb := fun e => by
   have h7 := HN.out.row7 k HKS.out
   try dsimp only at h7
   rw [HV.out] at h7
   have := Kd.R_lt h7 w.heap.size (by rw [hrb]; exact e.symm)
   omega
  have nbo : ¬ bx = g7 := by
   obtain ⟨cc, hc⟩ := HBO.out
   exact blk_ne HB3.out hc (by decide)
  have npo : ¬ w.heap.size = g7 := by omega
  have HRB1 := Lib.hid hrb
  have g7z : g7 < wz.heap.size := by omega
  have lwz : lo ≤ wz.heap.size := by omega
  clear hrb
  go_wp2_with fail
  refine wp_region_tx (fun W => wz.heap.size ≤ W.heap.size ∧ W.cell? ⟨bx, 8, none⟩ = some (.slice (some ⟨g7, 0, none⟩) n.srcs.length c7) ∧ W.cell? ⟨w.heap.size, 1, none⟩ = some (.int .i64 (k : Int)) ∧ W.cell? ⟨g7, k, none⟩ = some (.slice As R.length cs) ∧ W.frozen? ⟨g7, k, none⟩ = false) (fun i => [.pointer (some ⟨bx, 0, none⟩), .pointer (some ⟨bx, 0, none⟩), .pointer (some ⟨bx, 8, none⟩), .slice (some ⟨g7, 0, none⟩) n.srcs.length c7, .pointer (some ⟨w.heap.size, 1, none⟩), .int .i64 (k : Int), .pointer (some ⟨bx, 0, none⟩), .pointer (some ⟨bx, 0, none⟩), .pointer (some ⟨bx, 8, none⟩), .slice (some ⟨g7, 0, none⟩) n.srcs.length c7, .pointer (some ⟨w.heap.size, 1, none⟩), .int .i64 (k : Int), .pointer (some ⟨g7, k, none⟩), .slice As R.length cs, .slice Af L.length cf, undef, .pointer (some ⟨g7, k, none⟩)].getD i undef) 17 [(0, .quiet), (1, .quiet), (2, .quiet), (3, .quiet), (4, .quiet), (5, .quiet), (6, .quiet), (7, .quiet), (8, .quiet), (9, .quiet), (10, .quiet), (11, .quiet), (12, .quiet), (13, .quiet), (14, .quiet), (15, .chain), (16, .quiet)] (by kernel_rfl) (by kernel_rfl) (by kernel_rfl) (by kernel_rfl) (by kernel_rfl) (by kernel_rfl) (by kernel_rfl) (by kernel_rfl) (⟨Nat.le_refl _, y8q, y1q, CL1.out, CL2.out⟩) (fun W => W = wz.drew) (rfl) ?_
  refine wpTx_q (some 31) rfl rfl (by rfl) (fun W hC => ?_) ?_
  ·obtain ⟨_, x1, x2, x3, x4⟩ := hC
   go_simp
   try rfl
  try simp only [Act.put, nms]
  refine wpTx_q (some 32) rfl rfl (by rfl) (fun W hC => ?_) ?_
  ·obtain ⟨_, x1, x2, x3, x4⟩ := hC
   go_simp
   try rfl
  try simp only [Act.put, nms]
  refine wpTx_q (some 33) rfl rfl (by rfl) (fun W hC => ?_) ?_
  ·obtain ⟨_, x1, x2, x3, x4⟩ := hC
   go_simp
   try rfl
  try simp only [Act.put, nms]
  refine wpTx_q (some 34) rfl rfl (by rfl) (fun W hC => ?_) ?_
  ·obtain ⟨_, x1, x2, x3, x4⟩ := hC
   go_simp
   try rfl
  try simp only [Act.put, nms]
  refine wpTx_q (some 35) rfl rfl (by rfl) (fun W hC => ?_) ?_
  ·obtain ⟨_, x1, x2, x3, x4⟩ := hC
   go_simp
   try rfl
  try simp only [Act.put, nms]
  refine wpTx_q (some 36) rfl rfl (by rfl) (fun W hC => ?_) ?_
  ·obtain ⟨_, x1, x2, x3, x4⟩ := hC
   go_simp
   try rfl
  try simp only [Act.put, nms]
  refine wpTx_q (some 37) rfl rfl (by rfl) (fun W hC => ?_) ?_
  ·obtain ⟨_, x1, x2, x3, x4⟩ := hC
   go_simp
   try rfl
  try simp only [Act.put, nms]
  refine wpTx_q (some 38) rfl rfl (by rfl) (fun W hC => ?_) ?_
  ·obtain ⟨_, x1, x2, x3, x4⟩ := hC
   go_simp
   try rfl
  try simp only [Act.put, nms]
  refine wpTx_q (some 39) rfl rfl (by rfl) (fun W hC => ?_) ?_
  ·obtain ⟨_, x1, x2, x3, x4⟩ := hC
   go_simp
   try rfl
  try simp only [Act.put, nms]
  refine wpTx_q (some 40) rfl rfl (by rfl) (fun W hC => ?_) ?_
  ·obtain ⟨_, x1, x2, x3, x4⟩ := hC
   go_simp
   try rfl
  try simp only [Act.put, nms]
  refine wpTx_q (some 41) rfl rfl (by rfl) (fun W hC => ?_) ?_
  ·obtain ⟨_, x1, x2, x3, x4⟩ := hC
   go_simp
   try rfl
  try simp only [Act.put, nms]
  refine wpTx_q (some 42) rfl rfl (by rfl) (fun W hC => ?_) ?_
  ·obtain ⟨_, x1, x2, x3, x4⟩ := hC
   go_simp
   try rfl
  try simp only [Act.put, nms]
  refine wpTx_q (some 43) rfl rfl (by rfl) (fun W hC => ?_) ?_
  ·obtain ⟨_, x1, x2, x3, x4⟩ := hC
   go_simp
   try rfl
  try simp only [Act.put, nms]
  refine wpTx_q (some 44) rfl rfl (by rfl) (fun W hC => ?_) ?_
  ·obtain ⟨_, x1, x2, x3, x4⟩ := hC
   go_simp
   try rfl
  try simp only [Act.put, nms]
  refine wpTx_q (some 45) rfl rfl (by rfl) (fun W hC => ?_) ?_
  ·obtain ⟨_, x1, x2, x3, x4⟩ := hC
   go_simp
   try rfl
  try simp only [Act.put, nms]
  refine wpTx_c (some 46) rfl rfl (by rfl) ((none, 0) : Option Addr × Nat) (fun y => .slice y.1 (R.length + L.length) y.2) (fun y W9 => kF.R 77 W9 lo (fun _ => True) (.slice y.1 (R ++ L).length y.2) (R ++ L) ∧ wz.grownBy W9 (Value.slice As R.length cs).ownBlock ∧ Anew wz (.slice y.1 (R ++ L).length y.2) (.slice As R.length cs)) (fun W hF hC => ?_) (fun y => ?_)
  ·subst hF
   refine LoOp.of_if (ops := #[]) rfl rfl (by simp) (by rfl) (apps_FSd (ops := #[]) (W := wz) (B := lo) (by rfl) (.tmp 44) (.tmp 45) rfl (.slice As R.length cs) R L Af cf rfl rfl HO3.out (Kd.R_rowX HF3.out).2.2 lwz (by omega) ?_)
   intro v9 w9 H9 hg9 ha9
   obtain ⟨A9, d9, rfl⟩ := Kd.R_slice H9
   have hg9r := hg9
   rw [HRB1.out] at hg9r
   refine ⟨(A9, d9), ?_, ⟨hg9r.size, (World.cell?_of_block (a := ⟨bx, 8, none⟩) (hg9r.block bx yxz nb1)).trans y8q, (World.cell?_of_block (a := ⟨w.heap.size, 1, none⟩) (hg9r.block w.heap.size hplz nbp)).trans y1q, (World.cell?_of_block (a := ⟨g7, k, none⟩) (hg9r.block g7 g7z nb3)).trans CL1.out, (World.frozen?_of_block (a := ⟨g7, k, none⟩) (hg9r.block g7 g7z nb3)).trans CL2.out⟩, H9, hg9, ha9⟩
   show Value.slice A9 (R ++ L).length d9 = .slice A9 (R.length + L.length) d9
   rw [List.length_append]
  try simp only [Act.put, nms]
  refine wpTx_q (some 47) rfl rfl (by rfl) (fun W hC => ?_) ?_
  ·obtain ⟨_, x1, x2, x3, x4⟩ := hC
   go_simp
   try rfl
  try simp only [Act.put, nms]
  refine wpTx_z (fun w9 hF hC => ?_)
  obtain ⟨A9, d9⟩ := y
  obtain ⟨H9, hg9, ha9⟩ := hF
  obtain ⟨_, x1, x2, x3, x4⟩ := hC
  dsimp only at H9
  refine ⟨_, rfl, by rfl, ?_⟩
  go_simp
  all_goals
   have hl9 : (R ++ L).length = R.length + L.length := by simp
   have hN9 : NX (w9.setCell ⟨g7, k, none⟩ (.slice A9 (R.length + L.length) d9)) lo { n with srcs := n.srcs.set k (R ++ L) } ⟨a1, a2, a3, a4, a5, a6, some ⟨g7, 0, none⟩, a8, c1, c2, c3, c4, c5, c6, c7, c8⟩ v4 (v7.set k (.slice A9 (R.length + L.length) d9)) v8 := by
    have hh := HN3.out.setSrc (g := g7) (k := k) (u := .slice A9 (R ++ L).length d9) (y := R ++ L) rfl HKS.out (by rw [show vr v7 k = .slice As R.length cs from HV.out]; exact hg9) H9 (by rw [show vr v7 k = .slice As R.length cs from HV.out]; exact ha9)
    rw [hl9] at hh
    exact hh
   have hB9 : BT (w9.setCell ⟨g7, k, none⟩ (.slice A9 (R.length + L.length) d9)) bx n ⟨a1, a2, a3, a4, a5, a6, some ⟨g7, 0, none⟩, a8, c1, c2, c3, c4, c5, c6, c7, c8⟩ := (HB3.out.grown hg9 HO3.out).far (HBO.out.grown hg9 HO3.out) (by decide) _ _
   have hW9 : Below lo w (w9.setCell ⟨g7, k, none⟩ (.slice A9 (R.length + L.length) d9)) := below_setc (Below.grownRow HW3.out hg9 lwz (fun j hj => Kd.R_base HO3.out j hj)) t7 _ _
   go_wp2
   go_ret
   refine ⟨ret_bool HE.out.symm, ?_, ?_⟩
   ·rw [HE2.out]
    first
     | exact ⟨v4, v7.set k (.slice A9 (R.length + L.length) d9), v8, hN9, hB9.eq (by simp [netCells])⟩
     | exact ⟨v4, v7.set k (.slice A9 (R.length + L.length) d9), v8, hN9.below (bw_drew (bw_refl _)), (hB9.below (bw_drew (bw_refl _))).eq (by simp [netCells])⟩
   ·first | exact hW9 | exact below_then hW9 (by have := hW9.size; omega) (bw_drew (bw_refl _))
theorem impl_send (n : Net) (p : Packet) (q : NA) (bx lo : Nat) (v4 v7 v8 : List Value) (w : World) (hN : NX w lo n q v4 v7 v8) (hB : BT w bx n q) (nb : NB n) (ok : netOk n = true) (hlo : lo ≤ bx) (hlw : lo ≤ w.heap.size) :
    Calls Try.prog 41 #[.pointer (some ⟨bx, 0, none⟩), .agg #[.int .i64 p.id, .int .i64 p.src, .int .i64 p.dst, .int .i64 p.cls, .int .i64 p.len]] w fun e w' => e = .returned (.bool (sendOk n p)) ∧ GotSnd lo bx w' (sndN n p) ∧ Below lo w w' :=
  (impl_sendQ n p q bx lo v4 v7 v8 w hN hB nb ok hlo hlw).mono (fun e w' h => ⟨h.1, let ⟨u4, u7, u8, h1, h2⟩ := h.2.1; ⟨q, u4, u7, u8, h1, h2⟩, h.2.2⟩)
theorem sendAll_no1 {n : Net} {l : List Packet} (h : netOk n = false) : sendAllN n l = n ∧ sendAllK n l = -1 := by
  have e : canAll n l = false := by simp [canAll, h]
  exact ⟨by unfold sendAllN; rw [e]; rfl, by unfold sendAllK; rw [e]; rfl⟩
theorem sendAll_no2 {n : Net} {l : List Packet} (h : ¬ l.length ≤ 40) : sendAllN n l = n ∧ sendAllK n l = -1 := by
  have e : canAll n l = false := by simp [canAll, h]
  exact ⟨by unfold sendAllN; rw [e]; rfl, by unfold sendAllK; rw [e]; rfl⟩
theorem sendAll_yes {n : Net} {l : List Packet} (h : netOk n = true) (h2 : l.length ≤ 40) : sendAllN n l = sndTo n l l.length ∧ sendAllK n l = cntTo n l l.length := by
  have e : canAll n l = true := by simp [canAll, h, h2]
  exact ⟨by unfold sendAllN; rw [e]; rfl, by unfold sendAllK; rw [e]; rfl⟩
theorem cnt_yes {n : Net} {l : List Packet} {k : Nat} (h : sendOk (sndTo n l k) (rp l k) = true) : cntTo n l (k + 1) = cntTo n l k + 1 := by simp only [cntTo]; rw [if_pos h]
theorem cnt_no {n : Net} {l : List Packet} {k : Nat} (h : sendOk (sndTo n l k) (rp l k) = false) : cntTo n l (k + 1) = cntTo n l k := by simp only [cntTo]; rw [if_neg (by simp [h])]; omega
set_option maxHeartbeats 16000000 in
set_option maxRecDepth 100000 in
theorem impl_SendAll (n : Net) (l : List Packet) (q : NA) (A : Option Addr) (c : Nat) (w : World) (hr : NetR 77 w n q) (hp : kP.C w A l.length l) (hl : l.length ≤ 2097152) :
  Calls Try.prog 14 #[.agg (netCells n q), .slice A l.length c] w fun e w' => GotNV w w' (sendAllN n l) (.int .i64 (sendAllK n l)) e ∧ Below w.heap.size w w' := by
 have HR := Lib.hid hr
 have NBQ := Lib.hid hr.nb
 have HP := Lib.hid hp
 clear hp
 obtain ⟨a1, a2, a3, a4, a5, a6, a7, a8, c1, c2, c3, c4, c5, c6, c7, c8⟩ := q
 clear hr
 dsimp only [netCells]
 go_enter Try.func14, Try.ntmps14
 go_wp2_with fail

 refine (impl_copyNet n _ _ (HR.out.below bel)).mono ?_
 rintro e w1 ⟨hg1, HBC⟩
 obtain ⟨qq, v4, v7, v8, rfl, HN0⟩ := hg1
 obtain ⟨b1, b2, b3, b4, b5, b6, b7, b8, d1, d2, d3, d4, d5, d6, d7, d8⟩ := qq
 dsimp only [netCells]
 have HN1 := Lib.hid HN0
 clear HN0
 obtain ⟨w0, e0⟩ : ∃ z, z = w1.alloc (.cells #[.int .i64 n.mesh.g.w, .int .i64 n.mesh.g.h, .slice b1 n.mesh.br.length d1, .slice b2 n.pa.length d2, .slice b3 n.pb.length d3, .slice b4 n.bufs.length d4, .slice b5 n.owners.length d5, .slice b6 n.turns.length d6, .slice b7 n.srcs.length d7, .slice b8 n.arrs.length d8, .int .i64 n.time] 33) := ⟨_, rfl⟩
 have hz0 : w0.heap.size = w1.heap.size + 1 := by rw [e0]; simp only [szs]
 have hw01 : Below w1.heap.size w1 w0 := by rw [e0]; exact bw_alloc _ (bw_refl w1)
 obtain ⟨bx, ebx⟩ : ∃ z, z = w1.heap.size := ⟨_, rfl⟩
 have HBT : Hid (BT w0 bx n ⟨b1, b2, b3, b4, b5, b6, b7, b8, d1, d2, d3, d4, d5, d6, d7, d8⟩) := Lib.hid (by rw [e0, ebx]; exact blk_new w1 _)
 obtain ⟨lo, elo⟩ : ∃ z, z = w.heap.size + 2 := ⟨_, rfl⟩
 have HN : Hid (NX w0 lo n ⟨b1, b2, b3, b4, b5, b6, b7, b8, d1, d2, d3, d4, d5, d6, d7, d8⟩ v4 v7 v8) := Lib.hid ((HN1.out.lower (by simp only [szs]; omega)).below hw01)
 have HHB : Hid (Below w.heap.size w w0) := Lib.hid (bw_then (bw_then (bw_alloc _ (bw_alloc _ (bw_refl w))) HBC) hw01)
 have sw : w.heap.size + 2 ≤ w1.heap.size := by have := bw_size HBC; simp only [szs] at this; omega
 have HX0 : Hid (Box w0 w.heap.size #[.int .i64 n.mesh.g.w, .int .i64 n.mesh.g.h, .slice a1 n.mesh.br.length c1, .slice a2 n.pa.length c2, .slice a3 n.pb.length c3, .slice a4 n.bufs.length c4, .slice a5 n.owners.length c5, .slice a6 n.turns.length c6, .slice a7 n.srcs.length c7, .slice a8 n.arrs.length c8, .int .i64 n.time]) := Lib.hid (((((Box.new w w.heap.size #[.int .i64 n.mesh.g.w, .int .i64 n.mesh.g.h, .slice a1 n.mesh.br.length c1, .slice a2 n.pa.length c2, .slice a3 n.pb.length c3, .slice a4 n.bufs.length c4, .slice a5 n.owners.length c5, .slice a6 n.turns.length c6, .slice a7 n.srcs.length c7, .slice a8 n.arrs.length c8, .int .i64 n.time] 33 rfl).alloc _).below HBC)).below hw01)
 have HZB : Hid (BN w0 (w.heap.size + 1)) := Lib.hid (((BT.bn (by have hn := BT.new (w.alloc (.cells #[.int .i64 n.mesh.g.w, .int .i64 n.mesh.g.h, .slice a1 n.mesh.br.length c1, .slice a2 n.pa.length c2, .slice a3 n.pb.length c3, .slice a4 n.bufs.length c4, .slice a5 n.owners.length c5, .slice a6 n.turns.length c6, .slice a7 n.srcs.length c7, .slice a8 n.arrs.length c8, .int .i64 n.time] 33)) ⟨⟨⟨0, 0⟩, []⟩, [], [], [], [], [], [], [], 0⟩ ⟨none, none, none, none, none, none, none, none, 0, 0, 0, 0, 0, 0, 0, 0⟩; rw [World.size_alloc] at hn; exact hn)).below HBC).below hw01)
 have box11 : Box (w1.alloc (.cells #[.int .i64 n.mesh.g.w, .int .i64 n.mesh.g.h, .slice b1 n.mesh.br.length d1, .slice b2 n.pa.length d2, .slice b3 n.pb.length d3, .slice b4 n.bufs.length d4, .slice b5 n.owners.length d5, .slice b6 n.turns.length d6, .slice b7 n.srcs.length d7, .slice b8 n.arrs.length d8, .int .i64 n.time] 33)) w.heap.size #[.int .i64 n.mesh.g.w, .int .i64 n.mesh.g.h, .slice a1 n.mesh.br.length c1, .slice a2 n.pa.length c2, .slice a3 n.pb.length c3, .slice a4 n.bufs.length c4, .slice a5 n.owners.length c5, .slice a6 n.turns.length c6, .slice a7 n.srcs.length c7, .slice a8 n.arrs.length c8, .int .i64 n.time] := by rw [← e0]; exact HX0.out
 obtain ⟨xo0, xo1, xo2, xo3, xo4, xo5, xo6, xo7, xo8, xo9, xo10⟩ := all11 box11
 clear box11
 have xol : w.heap.size < (w1.alloc (.cells #[.int .i64 n.mesh.g.w, .int .i64 n.mesh.g.h, .slice b1 n.mesh.br.length d1, .slice b2 n.pa.length d2, .slice b3 n.pb.length d3, .slice b4 n.bufs.length d4, .slice b5 n.owners.length d5, .slice b6 n.turns.length d6, .slice b7 n.srcs.length d7, .slice b8 n.arrs.length d8, .int .i64 n.time] 33)).heap.size := by rw [← e0]; exact HX0.out.lt
 go_wp2_with fail
 rw [← e0]
 try rw [← ebx]
 repeat (first | clear xo0 | clear xo1 | clear xo2 | clear xo3 | clear xo4 | clear xo5 | clear xo6 | clear xo7 | clear xo8 | clear xo9 | clear xo10)
 clear xol
 have sb1 : bx < w0.heap.size := by omega
 have sb2 : w.heap.size + 2 ≤ bx := by omega
 have sl1 : lo ≤ w.heap.size + 2 := by omega
 have sl2 : w.heap.size + 2 ≤ lo := by omega
 have sl3 : lo ≤ bx := by omega
 have sl4 : lo ≤ w0.heap.size := by omega
 clear e0 ebx elo hz0 sw HN1 HBC hw01

 refine (impl_NetOk n _ _ (HR.out.below HHB.out)).mono ?_

 rintro e w2 ⟨rfl, hb2⟩
 have HN2 := Lib.hid (HN.out.below hb2)
 have HB2 := Lib.hid (HBT.out.below hb2)
 have HZ2 := Lib.hid (HZB.out.below hb2)
 have HX2 := Lib.hid (HX0.out.below hb2)
 have HL2 : Hid (Below lo w0 w2) := Lib.hid (Below.cut hb2 sl4)
 have zz2 := bw_size hb2
 have HWB : Hid (Below w.heap.size w w2) := Lib.hid (bw_then HHB.out hb2)
 clear hb2

 cases hk : netOk n
 ·have HE := Lib.hid (sendAll_no1 (l := l) hk)
  have box11 : Box w2 bx #[.int .i64 n.mesh.g.w, .int .i64 n.mesh.g.h, .slice b1 n.mesh.br.length d1, .slice b2 n.pa.length d2, .slice b3 n.pb.length d3, .slice b4 n.bufs.length d4, .slice b5 n.owners.length d5, .slice b6 n.turns.length d6, .slice b7 n.srcs.length d7, .slice b8 n.arrs.length d8, .int .i64 n.time] := HB2.out.box
  obtain ⟨z0, z1, z2, z3, z4, z5, z6, z7, z8, z9, z10⟩ := all11 box11
  clear box11
  have zx : bx < w2.heap.size := HB2.out.lt

  obtain ⟨⟨ry0, rv0⟩, ⟨ry1, rv1⟩, ⟨ry2, rv2⟩, ⟨ry3, rv3⟩, ⟨ry4, rv4⟩, ⟨ry5, rv5⟩, ⟨ry6, rv6⟩, ⟨ry7, rv7⟩, ⟨ry8, rv8⟩, ⟨ry9, rv9⟩, ⟨ry10, rv10⟩, rz0, rz1, rz2, rz3, rz4, rz5, rz6, rz7, rz8, rz9, rz10⟩ := allBN HZ2.out
  go_wp2
  obtain ⟨W9, e9⟩ : ∃ z, z = putN w2 (w.heap.size + 1) n ⟨b1, b2, b3, b4, b5, b6, b7, b8, d1, d2, d3, d4, d5, d6, d7, d8⟩ := ⟨_, rfl⟩
  have HB9 : Hid (BT W9 (w.heap.size + 1) n ⟨b1, b2, b3, b4, b5, b6, b7, b8, d1, d2, d3, d4, d5, d6, d7, d8⟩) := Lib.hid (by rw [e9]; exact putN_BT HZ2.out)
  have HN9 := Lib.hid (show NX W9 _ n ⟨b1, b2, b3, b4, b5, b6, b7, b8, d1, d2, d3, d4, d5, d6, d7, d8⟩ v4 v7 v8 from by rw [e9]; exact HN2.out.put HZ2.out)
  have HL9 : Hid (Below w.heap.size w W9) := Lib.hid (by rw [e9]; exact below_put HWB.out (by omega))
  unfold putN at e9
  try dsimp only at e9
  rw [← e9]
  clear e9
  exact bodyPost_ret (results_cell_row2 Try.results14 _ _ ((w.heap.size + 1)) 33 _ (0, 0) _ rfl HB9.out Try.underlying33 rfl (by kernel_rfl)) rfl (by dsimp only; rw [HE.out.1, HE.out.2]; exact ⟨⟨_, _, _, _, rfl, HN9.out.lower (by omega)⟩, HL9.out⟩)
 by_cases h40 : l.length ≤ 40
 case neg =>
  have HE := Lib.hid (sendAll_no2 (n := n) h40)
  have h41 : (40 : Int) < (l.length : Int) := by omega
  clear h40
  have box11 : Box w2 bx #[.int .i64 n.mesh.g.w, .int .i64 n.mesh.g.h, .slice b1 n.mesh.br.length d1, .slice b2 n.pa.length d2, .slice b3 n.pb.length d3, .slice b4 n.bufs.length d4, .slice b5 n.owners.length d5, .slice b6 n.turns.length d6, .slice b7 n.srcs.length d7, .slice b8 n.arrs.length d8, .int .i64 n.time] := HB2.out.box
  obtain ⟨z0, z1, z2, z3, z4, z5, z6, z7, z8, z9, z10⟩ := all11 box11
  clear box11
  have zx : bx < w2.heap.size := HB2.out.lt

  obtain ⟨⟨ry0, rv0⟩, ⟨ry1, rv1⟩, ⟨ry2, rv2⟩, ⟨ry3, rv3⟩, ⟨ry4, rv4⟩, ⟨ry5, rv5⟩, ⟨ry6, rv6⟩, ⟨ry7, rv7⟩, ⟨ry8, rv8⟩, ⟨ry9, rv9⟩, ⟨ry10, rv10⟩, rz0, rz1, rz2, rz3, rz4, rz5, rz6, rz7, rz8, rz9, rz10⟩ := allBN HZ2.out
  go_wp2
  obtain ⟨W9, e9⟩ : ∃ z, z = putN w2 (w.heap.size + 1) n ⟨b1, b2, b3, b4, b5, b6, b7, b8, d1, d2, d3, d4, d5, d6, d7, d8⟩ := ⟨_, rfl⟩
  have HB9 : Hid (BT W9 (w.heap.size + 1) n ⟨b1, b2, b3, b4, b5, b6, b7, b8, d1, d2, d3, d4, d5, d6, d7, d8⟩) := Lib.hid (by rw [e9]; exact putN_BT HZ2.out)
  have HN9 := Lib.hid (show NX W9 _ n ⟨b1, b2, b3, b4, b5, b6, b7, b8, d1, d2, d3, d4, d5, d6, d7, d8⟩ v4 v7 v8 from by rw [e9]; exact HN2.out.put HZ2.out)
  have HL9 : Hid (Below w.heap.size w W9) := Lib.hid (by rw [e9]; exact below_put HWB.out (by omega))
  unfold putN at e9
  try dsimp only at e9
  rw [← e9]
  clear e9
  exact bodyPost_ret (results_cell_row2 Try.results14 _ _ ((w.heap.size + 1)) 33 _ (0, 0) _ rfl HB9.out Try.underlying33 rfl (by kernel_rfl)) rfl (by dsimp only; rw [HE.out.1, HE.out.2]; exact ⟨⟨_, _, _, _, rfl, HN9.out.lower (by omega)⟩, HL9.out⟩)
 case pos =>
  have HE := Lib.hid (sendAll_yes hk h40)
  have HOK : Hid (∀ k : Nat, netOk (sndTo n l k) = true) := Lib.hid (sndTo_ok hk l)
  have HNB : Hid (∀ k : Nat, NB (sndTo n l k)) := Lib.hid (sndTo_nb NBQ.out hk l)
  have h41 : ¬ (40 : Int) < (l.length : Int) := by omega
  clear hk
  go_wp2_with fail
  go_loopw [7, 23] (fun v i wr => ∃ (k : Nat) (q' : NA) (u4 u7 u8 : List Value), i = .int .i64 k ∧ v = .int .i64 (cntTo n l k) ∧ k ≤ l.length ∧ Hid (NX wr lo (sndTo n l k) q' u4 u7 u8) ∧ Hid (BT wr bx (sndTo n l k) q') ∧ Hid (Below lo w0 wr)) (fun _ i _ => l.length - (intOf i).toNat)
  case atStart => exact ⟨0, _, v4, v7, v8, rfl, rfl, Nat.zero_le _, Lib.hid HN2.out, Lib.hid HB2.out, Lib.hid HL2.out⟩
  case round =>
   clear HN2 HB2 HL2 HZ2 HX2 HWB
   obtain ⟨k, q', u4, u7, u8, rfl, rfl, hk, HNk, HBk, HLk⟩ := hrel
   obtain ⟨wk, ewk⟩ : ∃ z, z = wr := ⟨_, rfl⟩
   subst ewk
   have hcr := cntTo_range n l k
   by_cases hlt : k < l.length
   ·have HWBk : Hid (Below w.heap.size w wk) := Lib.hid (bw_trans HHB.out HLk.out (by omega))
    have hpk := Kd.C_below HP.out HWBk.out
    obtain ⟨pb, po, eA, hpb, p0, p1, p2, p3, p4⟩ := rdP_at hpk k hlt
    subst eA
    have zzk := HLk.out.size
    have i0 : (k : Int) < (l.length : Int) := by omega
    have k0 : (0 : Int) ≤ (k : Int) := by omega
    obtain ⟨P, hP⟩ : ∃ P, rp l k = P := ⟨_, rfl⟩
    rw [hP] at p0 p1 p2 p3 p4
    have HP9 := Lib.hid hP
    obtain ⟨w5, e5⟩ : ∃ z, z = wk.alloc (.cells #[.int .i64 P.id, .int .i64 P.src, .int .i64 P.dst, .int .i64 P.cls, .int .i64 P.len] 44) := ⟨_, rfl⟩
    have hb5 : Below wk.heap.size wk w5 := by rw [e5]; exact bw_alloc _ (bw_refl wk)
    have HN5 := Lib.hid (HNk.out.below hb5)
    have HB5 := Lib.hid (HBk.out.below hb5)
    have HL5 : Hid (Below lo w0 w5) := Lib.hid (below_then HLk.out (by omega) hb5)
    have z5 := bw_size hb5
    clear hpk hP hb5
    go_wp2_with fail
    rw [← e5]
    clear e5
    refine (impl_send (sndTo n l k) P q' bx lo u4 u7 u8 _ HN5.out HB5.out (HNB.out k) (HOK.out k) sl3 (by omega)).mono ?_
    rintro e w3 ⟨rfl, ⟨q3, y4, y7, y8, hn3, hb3⟩, hl3⟩
    have HN3 := Lib.hid hn3
    have HB3 := Lib.hid hb3
    have HL3 : Hid (Below lo w0 w3) := Lib.hid (bw_trans HL5.out hl3 (Nat.le_refl _))
    have HS3 : Hid (sndTo n l (k + 1) = sndN (sndTo n l k) P) := Lib.hid (by rw [← HP9.out]; rfl)
    have HC1 : Hid (sendOk (sndTo n l k) P = true → cntTo n l (k + 1) = cntTo n l k + 1) := Lib.hid (fun h => cnt_yes (by rw [HP9.out]; exact h))
    have HC2 : Hid (sendOk (sndTo n l k) P = false → cntTo n l (k + 1) = cntTo n l k) := Lib.hid (fun h => cnt_no (by rw [HP9.out]; exact h))
    clear hn3 hb3 hl3 p0 p1 p2 p3 p4
    cases hs : sendOk (sndTo n l k) P
    ·have HC := Lib.hid (HC2.out hs)
     go_wp2
     go_roundw
     case rel => exact ⟨k + 1, q3, y4, y7, y8, by go_num, by rw [HC.out], by omega, Lib.hid (by rw [HS3.out]; exact HN3.out), Lib.hid (by rw [HS3.out]; exact HB3.out), Lib.hid HL3.out⟩
     case measure => simp [intOf]; omega
    ·have HC := Lib.hid (HC1.out hs)
     go_wp2
     go_roundw
     case rel => exact ⟨k + 1, q3, y4, y7, y8, by go_num, by rw [HC.out], by omega, Lib.hid (by rw [HS3.out]; exact HN3.out), Lib.hid (by rw [HS3.out]; exact HB3.out), Lib.hid HL3.out⟩
     case measure => simp [intOf]; omega
   ·obtain rfl : k = l.length := by omega
    obtain ⟨p1, p2, p3, p4, p5, p6, p7, p8, r1, r2, r3, r4, r5, r6, r7, r8⟩ := q'
    have HZk : Hid (BN wk (w.heap.size + 1)) := Lib.hid (HZB.out.low HLk.out (by omega))
    have HWBk : Hid (Below w.heap.size w wk) := Lib.hid (bw_trans HHB.out HLk.out (by omega))
    have zzk := HLk.out.size
    obtain ⟨X, hX⟩ : ∃ X, sndTo n l l.length = X := ⟨_, rfl⟩
    obtain ⟨K, hK⟩ : ∃ K, cntTo n l l.length = K := ⟨_, rfl⟩
    rw [hX] at HNk HBk HE
    rw [hK] at HE
    try rw [hK]
    clear hX hK hcr
    have box11 : Box wk bx #[.int .i64 X.mesh.g.w, .int .i64 X.mesh.g.h, .slice p1 X.mesh.br.length r1, .slice p2 X.pa.length r2, .slice p3 X.pb.length r3, .slice p4 X.bufs.length r4, .slice p5 X.owners.length r5, .slice p6 X.turns.length r6, .slice p7 X.srcs.length r7, .slice p8 X.arrs.length r8, .int .i64 X.time] := HBk.out.box
    obtain ⟨z0, z1, z2, z3, z4, z5, z6, z7, z8, z9, z10⟩ := all11 box11
    clear box11
    have zx : bx < wk.heap.size := HBk.out.lt

    obtain ⟨⟨ry0, rv0⟩, ⟨ry1, rv1⟩, ⟨ry2, rv2⟩, ⟨ry3, rv3⟩, ⟨ry4, rv4⟩, ⟨ry5, rv5⟩, ⟨ry6, rv6⟩, ⟨ry7, rv7⟩, ⟨ry8, rv8⟩, ⟨ry9, rv9⟩, ⟨ry10, rv10⟩, rz0, rz1, rz2, rz3, rz4, rz5, rz6, rz7, rz8, rz9, rz10⟩ := allBN HZk.out
    go_wp2
    obtain ⟨W9, e9⟩ : ∃ z, z = putN wk (w.heap.size + 1) X ⟨p1, p2, p3, p4, p5, p6, p7, p8, r1, r2, r3, r4, r5, r6, r7, r8⟩ := ⟨_, rfl⟩
    have HB9 : Hid (BT W9 (w.heap.size + 1) X ⟨p1, p2, p3, p4, p5, p6, p7, p8, r1, r2, r3, r4, r5, r6, r7, r8⟩) := Lib.hid (by rw [e9]; exact putN_BT HZk.out)
    have HN9 := Lib.hid (show NX W9 _ X ⟨p1, p2, p3, p4, p5, p6, p7, p8, r1, r2, r3, r4, r5, r6, r7, r8⟩ u4 u7 u8 from by rw [e9]; exact HNk.out.put HZk.out)
    have HL9 : Hid (Below w.heap.size w W9) := Lib.hid (by rw [e9]; exact below_put HWBk.out (by omega))
    unfold putN at e9
    try dsimp only at e9
    rw [← e9]
    clear e9
    exact bodyPost_ret (results_cell_row2 Try.results14 _ _ ((w.heap.size + 1)) 33 _ (0, 0) _ rfl HB9.out Try.underlying33 rfl (by kernel_rfl)) rfl (by dsimp only; rw [HE.out.1, HE.out.2]; exact ⟨⟨_, _, _, _, rfl, HN9.out.lower (by omega)⟩, HL9.out⟩)
def FBx (w : World) (b : Nat) (f : Flit) : Prop := w.heap[b]? = some (.cells #[.int .i64 f.pk, .int .i64 f.dst, .int .i64 f.cls, .bool f.head, .bool f.tail] 77 (0, 0))
theorem FBx.below {w w1 : World} {b : Nat} {g : Flit} (h : FBx w b g) (hb : Below w.heap.size w w1) : FBx w1 b g := blk_below h hb
theorem FBx.far {w : World} {b c t : Nat} {g : Flit} (h : FBx w b g) (hb : BlkT w c t) (ht : 77 ≠ t) (j : Nat) (u : Value) : FBx (w.setCell ⟨c, j, none⟩ u) b g := by
  obtain ⟨cs, hc⟩ := hb
  exact blk_far (p := ⟨c, j, none⟩) h (blk_ne h hc ht) u
theorem FBx.grown {w w1 : World} {b : Nat} {g : Flit} {v : Value} (h : FBx w b g) (hg : w.grownBy w1 v.ownBlock) (hne : ¬ some b = v.ownBlock) : FBx w1 b g := blk_grown h hg hne
theorem FBx.cells {w : World} {b : Nat} {f : Flit} (h : FBx w b f) : w.cell? ⟨b, 0, none⟩ = some (.int .i64 f.pk) ∧ w.cell? ⟨b, 1, none⟩ = some (.int .i64 f.dst) ∧ w.cell? ⟨b, 2, none⟩ = some (.int .i64 f.cls) ∧ w.cell? ⟨b, 3, none⟩ = some (.bool f.head) ∧ w.cell? ⟨b, 4, none⟩ = some (.bool f.tail) ∧ b < w.heap.size := ⟨blk_cell h 0, blk_cell h 1, blk_cell h 2, blk_cell h 3, blk_cell h 4, blk_lt h⟩
set_option maxHeartbeats 16000000 in
set_option maxRecDepth 100000 in
theorem spec_l16Send (n : Net) (p : Packet) (q : NA) (w : World) (hr : NetR 77 w n q) (ok : netOk n = true) (hs : sendOk n p = true) :
  Calls Try.prog 56 #[.agg (netCells n q), .agg #[.int .i64 p.id, .int .i64 p.src, .int .i64 p.dst, .int .i64 p.cls, .int .i64 p.len]] w fun e w' => GotNX w w' (sendN n p) e ∧ Below w.heap.size w w' := by
 have HR := Lib.hid hr
 have NBQ := Lib.hid hr.nb
 obtain ⟨l4, l5, l6, l7, l8⟩ := lens_ok ok
 have hsb := srcs_len ok
 have HSL := Lib.hid hsb.2
 have hk : packetOk n.mesh.g p = true := by
  simp only [sendOk, Bool.and_eq_true] at hs
  exact hs.1
 obtain ⟨a1, a2, a3, a4, a5, a6, a7, a8, c1, c2, c3, c4, c5, c6, c7, c8⟩ := q
 clear hr
 dsimp only [netCells]

 go_enter Try.func56, Try.ntmps56
 go_wp2_with fail
 refine (spec_l15Copy n _ _ (HR.out.below bel)).mono ?_
 rintro e w1 ⟨hg1, HBC⟩
 obtain ⟨qq, v4, v7, v8, rfl, HN0⟩ := hg1
 obtain ⟨b1, b2, b3, b4, b5, b6, b7, b8, d1, d2, d3, d4, d5, d6, d7, d8⟩ := qq
 dsimp only [netCells]
 obtain ⟨w0, e0⟩ : ∃ z, z = w1.alloc (.cells #[.int .i64 n.mesh.g.w, .int .i64 n.mesh.g.h, .slice b1 n.mesh.br.length d1, .slice b2 n.pa.length d2, .slice b3 n.pb.length d3, .slice b4 n.bufs.length d4, .slice b5 n.owners.length d5, .slice b6 n.turns.length d6, .slice b7 n.srcs.length d7, .slice b8 n.arrs.length d8, .int .i64 n.time] 33) := ⟨_, rfl⟩
 have hz0 : w0.heap.size = w1.heap.size + 1 := by rw [e0]; simp only [szs]
 have hw01 : Below w1.heap.size w1 w0 := by rw [e0]; exact bw_alloc _ (bw_refl w1)
 obtain ⟨bx, ebx⟩ : ∃ z, z = w1.heap.size := ⟨_, rfl⟩
 have HBT : Hid (BT w0 bx n ⟨b1, b2, b3, b4, b5, b6, b7, b8, d1, d2, d3, d4, d5, d6, d7, d8⟩) := Lib.hid (by rw [e0, ebx]; exact blk_new w1 _)
 obtain ⟨lo, elo⟩ : ∃ z, z = w.heap.size + 3 := ⟨_, rfl⟩
 have HN : Hid (NX w0 lo n ⟨b1, b2, b3, b4, b5, b6, b7, b8, d1, d2, d3, d4, d5, d6, d7, d8⟩ v4 v7 v8) := Lib.hid ((HN0.lower (by simp only [szs]; omega)).below hw01)
 have HHB : Hid (Below w.heap.size w w0) := Lib.hid (bw_then (bw_then (bw_alloc _ (bw_alloc _ (bw_alloc _ (bw_refl w)))) HBC) hw01)
 have sw : w.heap.size + 3 ≤ w1.heap.size := by have := bw_size HBC; simp only [szs] at this; omega
 have HX0 : Hid (Box w0 w.heap.size #[.int .i64 n.mesh.g.w, .int .i64 n.mesh.g.h, .slice a1 n.mesh.br.length c1, .slice a2 n.pa.length c2, .slice a3 n.pb.length c3, .slice a4 n.bufs.length c4, .slice a5 n.owners.length c5, .slice a6 n.turns.length c6, .slice a7 n.srcs.length c7, .slice a8 n.arrs.length c8, .int .i64 n.time]) := Lib.hid ((((((Box.new w w.heap.size #[.int .i64 n.mesh.g.w, .int .i64 n.mesh.g.h, .slice a1 n.mesh.br.length c1, .slice a2 n.pa.length c2, .slice a3 n.pb.length c3, .slice a4 n.bufs.length c4, .slice a5 n.owners.length c5, .slice a6 n.turns.length c6, .slice a7 n.srcs.length c7, .slice a8 n.arrs.length c8, .int .i64 n.time] 33 rfl).alloc _).alloc _).below HBC)).below hw01)
 have HP0 : Hid (Box w0 (w.heap.size + 1) #[.int .i64 p.id, .int .i64 p.src, .int .i64 p.dst, .int .i64 p.cls, .int .i64 p.len]) := Lib.hid (((((Box.new (w.alloc (.cells #[.int .i64 n.mesh.g.w, .int .i64 n.mesh.g.h, .slice a1 n.mesh.br.length c1, .slice a2 n.pa.length c2, .slice a3 n.pb.length c3, .slice a4 n.bufs.length c4, .slice a5 n.owners.length c5, .slice a6 n.turns.length c6, .slice a7 n.srcs.length c7, .slice a8 n.arrs.length c8, .int .i64 n.time] 33)) (w.heap.size + 1) #[.int .i64 p.id, .int .i64 p.src, .int .i64 p.dst, .int .i64 p.cls, .int .i64 p.len] 44 (by simp only [szs])).alloc _).below HBC)).below hw01)
 have HZB : Hid (BN w0 (w.heap.size + 2)) := Lib.hid (((BT.bn (by have hn := BT.new ((w.alloc (.cells #[.int .i64 n.mesh.g.w, .int .i64 n.mesh.g.h, .slice a1 n.mesh.br.length c1, .slice a2 n.pa.length c2, .slice a3 n.pb.length c3, .slice a4 n.bufs.length c4, .slice a5 n.owners.length c5, .slice a6 n.turns.length c6, .slice a7 n.srcs.length c7, .slice a8 n.arrs.length c8, .int .i64 n.time] 33)).alloc (.cells #[.int .i64 p.id, .int .i64 p.src, .int .i64 p.dst, .int .i64 p.cls, .int .i64 p.len] 44)) ⟨⟨⟨0, 0⟩, []⟩, [], [], [], [], [], [], [], 0⟩ ⟨none, none, none, none, none, none, none, none, 0, 0, 0, 0, 0, 0, 0, 0⟩; simp only [szs] at hn; exact hn)).below HBC).below hw01)
 have sb1 : bx < w0.heap.size := by omega
 have sb2 : w.heap.size + 3 ≤ bx := by omega
 have sl1 : lo ≤ w.heap.size + 3 := by omega
 have sl2 : w.heap.size + 3 ≤ lo := by omega
 have sl4 : lo ≤ w0.heap.size := by omega
 -- the row that grows
 obtain ⟨g7, eg7, t7, s7⟩ := HN.out.form7 l7
 dsimp only at eg7
 subst eg7
 obtain ⟨nd, _, _, _, n1, n5⟩ := packet_parts hk
 have nd1 := isNode_iff.1 nd
 obtain ⟨k, hkt⟩ : ∃ k : Nat, p.src.toNat = k := ⟨_, rfl⟩
 have hkk : p.src = (k : Int) := by omega
 have hks : k < n.srcs.length := by have := HSL.out; omega
 have HKS := Lib.hid hks
 have hrow := HN.out.row7 k hks
 try dsimp only at hrow
 obtain ⟨As, cs, hv⟩ := Kd.R_slice hrow
 rw [hv] at hrow
 obtain ⟨R, hR⟩ : ∃ R, rl n.srcs (k : Int) = R := ⟨_, rfl⟩
 rw [hR] at hrow hv
 have hRl : R.length ≤ 2097152 := by rw [← hR]; exact NBQ.out.h10 _ (rl_mem hks)
 obtain ⟨L, hL⟩ : ∃ L, flitsOf n.mesh.g p = L := ⟨_, rfl⟩
 have HCF : Hid (∀ W : World, Calls Try.prog 70 #[.agg #[.int .i64 n.mesh.g.w, .int .i64 n.mesh.g.h], .agg #[.int .i64 p.id, .int .i64 p.src, .int .i64 p.dst, .int .i64 p.cls, .int .i64 p.len]] W fun e w' => GotF W w' L e ∧ Below W.heap.size W w') := Lib.hid (fun W => by rw [← hL]; exact spec_FlitsOf n.mesh.g p W)
 have hL5 : L.length ≤ 5 := by have := flitsOf_len hk; rw [hL] at this; omega
 have HE : Hid (sendN n p = { n with srcs := n.srcs.set k (R ++ L) }) := Lib.hid (by unfold sendN; rw [hL, hkk, hR, Int.toNat_natCast])
 obtain ⟨cl1, cl2⟩ := own_facts7 (x := n) HN.out rfl hks hv
 have CL1 := Lib.hid cl1
 have CL2 := Lib.hid cl2
 have HV := Lib.hid hv
 have HRow := Lib.hid hrow
 obtain ⟨rb, hrb⟩ : ∃ rb, (Value.slice As R.length cs).ownBlock = rb := ⟨_, rfl⟩
 have hbo : BlkT w0 g7 67 := own_typed HN.out.srcs g7 rfl
 have nb1 : ¬ some bx = rb := fun e => by obtain ⟨inner, hin⟩ := Kd.R_own hrow; exact own_ne hin HBT.out (by decide) (e.trans hrb.symm)
 have nb3 : ¬ some g7 = rb := fun e => by
  obtain ⟨inner, hin⟩ := Kd.R_own hrow
  obtain ⟨cc, hc⟩ := hbo
  exact own_ne hin hc (by decide) (e.trans hrb.symm)
 have low : ∀ j, (Value.slice As R.length cs).ownBlock = some j → lo ≤ j := fun j hj => Kd.R_base hrow j hj
 have nbn : ¬ some w.heap.size = rb := fun e => by have := low _ (hrb.trans e.symm); omega
 have nbp : ¬ some (w.heap.size + 1) = rb := fun e => by have := low _ (hrb.trans e.symm); omega
 have nbo : ¬ bx = g7 := by
  obtain ⟨cc, hc⟩ := hbo
  exact blk_ne HBT.out hc (by decide)
 have nno : ¬ w.heap.size = g7 := by omega
 have npo : ¬ w.heap.size + 1 = g7 := by omega
 have HRB1 := Lib.hid hrb
 have HBO := Lib.hid hbo
 have i0 : (0 : Int) ≤ p.src := by omega
 have i1 : p.src < (n.srcs.length : Int) := by omega
 have x0 : w0.cell? ⟨w.heap.size, 0, none⟩ = some (.int .i64 n.mesh.g.w) := HX0.out.get 0
 have x1 : w0.cell? ⟨w.heap.size, 1, none⟩ = some (.int .i64 n.mesh.g.h) := HX0.out.get 1
 have p0 : w0.cell? ⟨w.heap.size + 1, 0, none⟩ = some (.int .i64 p.id) := HP0.out.get 0
 have p1 : w0.cell? ⟨w.heap.size + 1, 1, none⟩ = some (.int .i64 p.src) := HP0.out.get 1
 have p2 : w0.cell? ⟨w.heap.size + 1, 2, none⟩ = some (.int .i64 p.dst) := HP0.out.get 2
 have p3 : w0.cell? ⟨w.heap.size + 1, 3, none⟩ = some (.int .i64 p.cls) := HP0.out.get 3
 have p4 : w0.cell? ⟨w.heap.size + 1, 4, none⟩ = some (.int .i64 p.len) := HP0.out.get 4
 have z8 : w0.cell? ⟨bx, 8, none⟩ = some (.slice (some ⟨g7, 0, none⟩) n.srcs.length d7) := HBT.out.box.get 8
 have g7z : g7 < w0.heap.size := s7
 have q1 : w.heap.size < w0.heap.size := by omega
 have q2 : w.heap.size + 1 < w0.heap.size := by omega
 clear hkk hz0 sw HBC hw01 HN0 elo hk hs hsb nd nd1 n1 n5 hks hv hR hL hrow hbo hrb low
 go_wp2_with fail
 rw [← ebx]
 rw [← e0]
 clear e0 ebx
 refine wp_region_tx (CK w0 rb) (fun i => [.pointer (some ⟨bx, 8, none⟩), .slice (some ⟨g7, 0, none⟩) n.srcs.length d7, .pointer (some ⟨w.heap.size + 1, 1, none⟩), .int .i64 p.src, .pointer (some ⟨bx, 8, none⟩), .slice (some ⟨g7, 0, none⟩) n.srcs.length d7, .pointer (some ⟨w.heap.size + 1, 1, none⟩), .int .i64 p.src, .pointer (some ⟨g7, k, none⟩), .slice As R.length cs, .pointer (some ⟨w.heap.size, 0, none⟩), .pointer (some ⟨w.heap.size, 0, none⟩), .agg #[.int .i64 n.mesh.g.w, .int .i64 n.mesh.g.h], .agg #[.int .i64 p.id, .int .i64 p.src, .int .i64 p.dst, .int .i64 p.cls, .int .i64 p.len], undef, undef, .pointer (some ⟨g7, k, none⟩)].getD i undef) 17 [(0, .quiet), (1, .quiet), (2, .quiet), (3, .quiet), (4, .quiet), (5, .quiet), (6, .quiet), (7, .quiet), (8, .quiet), (9, .quiet), (10, .quiet), (11, .quiet), (12, .quiet), (13, .quiet), (14, .chain), (15, .chain), (16, .quiet)] (by kernel_rfl) (by kernel_rfl) (by kernel_rfl) (by kernel_rfl) (by kernel_rfl) (by kernel_rfl) (by kernel_rfl) (by kernel_rfl) CK.drew (fun W => W = w0.drew) rfl ?_
 refine wpTx_q (some 8) rfl rfl (by rfl) (fun W hC => ?_) ?_
 ·clear hC
  go_simp
  try rfl
 try simp only [Act.put, nms]
 refine wpTx_q (some 9) rfl rfl (by rfl) (fun W hC => ?_) ?_
 ·have := hC.cell sb1 nb1 z8
  clear hC
  go_simp
  try rfl
 try simp only [Act.put, nms]
 refine wpTx_q (some 10) rfl rfl (by rfl) (fun W hC => ?_) ?_
 ·clear hC
  go_simp
  try rfl
 try simp only [Act.put, nms]
 refine wpTx_q (some 11) rfl rfl (by rfl) (fun W hC => ?_) ?_
 ·have := hC.cell q2 nbp p1
  clear hC
  go_simp
  try rfl
 try simp only [Act.put, nms]
 refine wpTx_q (some 12) rfl rfl (by rfl) (fun W hC => ?_) ?_
 ·clear hC
  go_simp
  try rfl
 try simp only [Act.put, nms]
 refine wpTx_q (some 13) rfl rfl (by rfl) (fun W hC => ?_) ?_
 ·have := hC.cell sb1 nb1 z8
  clear hC
  go_simp
  try rfl
 try simp only [Act.put, nms]
 refine wpTx_q (some 14) rfl rfl (by rfl) (fun W hC => ?_) ?_
 ·clear hC
  go_simp
  try rfl
 try simp only [Act.put, nms]
 refine wpTx_q (some 15) rfl rfl (by rfl) (fun W hC => ?_) ?_
 ·have := hC.cell q2 nbp p1
  clear hC
  go_simp
  try rfl
 try simp only [Act.put, nms]
 refine wpTx_q (some 16) rfl rfl (by rfl) (fun W hC => ?_) ?_
 ·clear hC
  go_simp
  try rfl
 try simp only [Act.put, nms]
 refine wpTx_q (some 17) rfl rfl (by rfl) (fun W hC => ?_) ?_
 ·have := hC.cell g7z nb3 CL1.out
  clear hC
  go_simp
  try rfl
 try simp only [Act.put, nms]
 refine wpTx_q (some 18) rfl rfl (by rfl) (fun W hC => ?_) ?_
 ·clear hC
  go_simp
  try rfl
 try simp only [Act.put, nms]
 refine wpTx_q (some 19) rfl rfl (by rfl) (fun W hC => ?_) ?_
 ·clear hC
  go_simp
  try rfl
 try simp only [Act.put, nms]
 refine wpTx_q (some 20) rfl rfl (by rfl) (fun W hC => ?_) ?_
 ·have := hC.cell q1 nbn x0
  have := hC.cell q1 nbn x1
  clear hC
  go_simp
  try rfl
 try simp only [Act.put, nms]
 refine wpTx_q (some 21) rfl rfl (by rfl) (fun W hC => ?_) ?_
 ·have := hC.cell q2 nbp p0
  have := hC.cell q2 nbp p1
  have := hC.cell q2 nbp p2
  have := hC.cell q2 nbp p3
  have := hC.cell q2 nbp p4
  clear hC
  go_simp
  try rfl
 try simp only [Act.put, nms]
 refine wpTx_c (some 22) rfl rfl (by rfl) ((none, 0) : Option Addr × Nat) (fun y => .slice y.1 L.length y.2) (fun y W => kF.R 77 W w0.heap.size (fun _ => True) (.slice y.1 L.length y.2) L ∧ Below w0.heap.size w0 W) (fun W hF hC => ?_) (fun yc => ?_)
 ·subst hF
  refine LoOp.enter (by go_simp; first | done | exact ⟨rfl, rfl⟩ | rfl) ?_
  refine (HCF.out _).mono ?_
  rintro e W1 ⟨hg1, hb1⟩
  obtain ⟨v, rfl, hO⟩ := hg1
  obtain ⟨A, c, rfl⟩ := Kd.R_slice hO
  exact ⟨_, rfl, (A, c), rfl, hC.below hb1, hO, bw_then (bw_drew (bw_refl _)) hb1⟩
 try simp only [Act.put, nms]
 refine wpTx_c (some 23) rfl rfl (by rfl) ((none, 0) : Option Addr × Nat) (fun y => .slice y.1 (R.length + L.length) y.2) (fun y W9 => ∃ wf, Below w0.heap.size w0 wf ∧ kF.R 77 W9 lo (fun _ => True) (.slice y.1 (R ++ L).length y.2) (R ++ L) ∧ wf.grownBy W9 (Value.slice As R.length cs).ownBlock ∧ Anew wf (.slice y.1 (R ++ L).length y.2) (.slice As R.length cs)) (fun W hF hC => ?_) (fun yv => ?_)
 ·obtain ⟨Af, cf⟩ := yc
  obtain ⟨HF0, hbf⟩ := hF
  refine LoOp.of_if (ops := #[]) rfl rfl (by simp) (by rfl) (apps_FS (ops := #[]) (W := W) (B := lo) (by rfl) (.tmp 17) (.tmp 22) rfl (.slice As R.length cs) R L Af cf rfl rfl (Kd.R_below HRow.out hbf) (Kd.R_rowX HF0).2.2 (Nat.le_trans sl4 (bw_size hbf)) (by omega) ?_)
  intro v9 w9 H9 hg9 ha9
  obtain ⟨A9, d9, rfl⟩ := Kd.R_slice H9
  have hg9r := hg9
  rw [HRB1.out] at hg9r
  refine ⟨(A9, d9), ?_, hC.grown hg9r, W, hbf, H9, hg9, ha9⟩
  show Value.slice A9 (R ++ L).length d9 = .slice A9 (R.length + L.length) d9
  rw [List.length_append]
 try simp only [Act.put, nms]
 refine wpTx_q (some 24) rfl rfl (by rfl) (fun W hC => ?_) ?_
 ·clear hC
  go_simp
  try rfl
 try simp only [Act.put, nms]
 refine wpTx_z (fun w9 hF hC => ?_)
 obtain ⟨A9, d9⟩ := yv
 obtain ⟨wf, hbff, H9, hg9, ha9⟩ := hF
 dsimp only at H9 ha9
 have k1 := hC.cell g7z nb3 CL1.out
 have k2 := hC.frozen g7z nb3 CL2.out
 clear hC
 refine ⟨_, rfl, by rfl, ?_⟩
 go_simp
 have hl9 : (R ++ L).length = R.length + L.length := by simp
 obtain ⟨W10, e10⟩ : ∃ z, z = w9.setCell ⟨g7, k, none⟩ (.slice A9 (R.length + L.length) d9) := ⟨_, rfl⟩
 have HNf := HN.out.below hbff
 have HROf := Kd.R_below HRow.out hbff
 obtain ⟨Y, eY⟩ : ∃ Y : Net, Y = { n with srcs := n.srcs.set k (R ++ L) } := ⟨_, rfl⟩
 have HN9 : Hid (NX W10 lo Y ⟨b1, b2, b3, b4, b5, b6, some ⟨g7, 0, none⟩, b8, d1, d2, d3, d4, d5, d6, d7, d8⟩ v4 (v7.set k (.slice A9 (R.length + L.length) d9)) v8) := Lib.hid (by
  have hh := HNf.setSrc (g := g7) (k := k) (u := .slice A9 (R ++ L).length d9) (y := R ++ L) rfl HKS.out (by rw [show vr v7 k = .slice As R.length cs from HV.out]; exact hg9) H9 (by rw [show vr v7 k = .slice As R.length cs from HV.out]; exact ha9)
  rw [hl9] at hh
  rw [e10, eY]
  exact hh)
 have HB9 : Hid (BT W10 bx Y ⟨b1, b2, b3, b4, b5, b6, some ⟨g7, 0, none⟩, b8, d1, d2, d3, d4, d5, d6, d7, d8⟩) := Lib.hid (by
  rw [e10, eY]
  exact (((HBT.out.below hbff).grown hg9 HROf).far ((HBO.out.below hbff).grown hg9 HROf) (by decide) _ _).eq (by simp [netCells]))
 have HW9 : Hid (Below lo w0 W10) := Lib.hid (by
  rw [e10]
  exact below_setc (Below.grownRow (Below.cut hbff sl4) hg9 (Nat.le_trans sl4 (bw_size hbff)) (fun j hj => Kd.R_base HROf j hj)) t7 _ _)
 have HE9 : Hid (sendN n p = Y) := Lib.hid (by rw [eY]; exact HE.out)
 have HZ9 : Hid (BN W10 (w.heap.size + 2)) := Lib.hid (HZB.out.low HW9.out (by omega))
 rw [← e10]
 clear e10 k1 k2 hg9 H9 ha9 HNf HROf eY hbff x0 x1 p0 p1 p2 p3 p4 z8 q1 q2 cl1 cl2 hL5 hRl HE hkt i0 i1 hl9
 have bl := HB9.out.lt
 have b0x : W10.cell? ⟨bx, 0, none⟩ = some (.int .i64 Y.mesh.g.w) := HB9.out.box.get 0
 have b1x : W10.cell? ⟨bx, 1, none⟩ = some (.int .i64 Y.mesh.g.h) := HB9.out.box.get 1
 have b2x : W10.cell? ⟨bx, 2, none⟩ = some (.slice b1 Y.mesh.br.length d1) := HB9.out.box.get 2
 have b3x : W10.cell? ⟨bx, 3, none⟩ = some (.slice b2 Y.pa.length d2) := HB9.out.box.get 3
 have b4x : W10.cell? ⟨bx, 4, none⟩ = some (.slice b3 Y.pb.length d3) := HB9.out.box.get 4
 have b5x : W10.cell? ⟨bx, 5, none⟩ = some (.slice b4 Y.bufs.length d4) := HB9.out.box.get 5
 have b6x : W10.cell? ⟨bx, 6, none⟩ = some (.slice b5 Y.owners.length d5) := HB9.out.box.get 6
 have b7x : W10.cell? ⟨bx, 7, none⟩ = some (.slice b6 Y.turns.length d6) := HB9.out.box.get 7
 have b8x : W10.cell? ⟨bx, 8, none⟩ = some (.slice (some ⟨g7, 0, none⟩) Y.srcs.length d7) := HB9.out.box.get 8
 have b9x : W10.cell? ⟨bx, 9, none⟩ = some (.slice b8 Y.arrs.length d8) := HB9.out.box.get 9
 have b10x : W10.cell? ⟨bx, 10, none⟩ = some (.int .i64 Y.time) := HB9.out.box.get 10
 obtain ⟨⟨ry0, rv0⟩, ⟨ry1, rv1⟩, ⟨ry2, rv2⟩, ⟨ry3, rv3⟩, ⟨ry4, rv4⟩, ⟨ry5, rv5⟩, ⟨ry6, rv6⟩, ⟨ry7, rv7⟩, ⟨ry8, rv8⟩, ⟨ry9, rv9⟩, ⟨ry10, rv10⟩, rz0, rz1, rz2, rz3, rz4, rz5, rz6, rz7, rz8, rz9, rz10⟩ := allBN HZ9.out
 have nz : ¬ w.heap.size + 2 = bx := by omega
 have nz' : ¬ bx = w.heap.size + 2 := by omega
 go_wp2
 obtain ⟨W11, e11⟩ : ∃ z, z = putN W10 (w.heap.size + 2) Y ⟨b1, b2, b3, b4, b5, b6, some ⟨g7, 0, none⟩, b8, d1, d2, d3, d4, d5, d6, d7, d8⟩ := ⟨_, rfl⟩
 have HB11 : Hid (BT W11 (w.heap.size + 2) Y ⟨b1, b2, b3, b4, b5, b6, some ⟨g7, 0, none⟩, b8, d1, d2, d3, d4, d5, d6, d7, d8⟩) := Lib.hid (by rw [e11]; exact putN_BT HZ9.out)
 have HN11 : Hid (NX W11 lo Y ⟨b1, b2, b3, b4, b5, b6, some ⟨g7, 0, none⟩, b8, d1, d2, d3, d4, d5, d6, d7, d8⟩ v4 (v7.set k (.slice A9 (R.length + L.length) d9)) v8) := Lib.hid (by rw [e11]; exact HN9.out.put HZ9.out)
 have HL11 : Hid (Below w.heap.size w W11) := Lib.hid (by
  have h1 : Below w.heap.size w W10 := bw_trans HHB.out HW9.out (by omega)
  rw [e11]
  exact below_put h1 (by omega))
 unfold putN at e11
 try dsimp only at e11
 rw [← e11]
 clear e11
 exact bodyPost_ret (results_cell_row Try.results56 _ _ (w.heap.size + 2) 33 _ (0, 0) _ rfl HB11.out Try.underlying33 rfl (by kernel_rfl)) rfl (by rw [HE9.out]; exact ⟨⟨_, _, _, _, rfl, HN11.out.lower (by omega)⟩, HL11.out⟩)
end Go.Proofs.Ytmkbmddgkdoaiaa
