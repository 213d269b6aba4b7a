/- Lemmas for laws of this seat, for all inputs: DrW Load FlOk Cp CpL CpN. -/
import Derived.Test.YtodbglncccgdbaaQ6
import Derived.Test.YtodbglncccgdbaaQ1
import Derived.Test.YtodbglncccgdbaaQ3
import Derived.Test.YtodbglncccgdbaaQ4
set_option linter.unusedVariables false
set_option linter.unusedSimpArgs false
namespace Go.Proofs.Ytodbglncccgdbaa
open Go.RowKit Go.Proofs.YtodbglncccgdbaaW.PrintWords
open NoC
set_option maxHeartbeats 8000000 in
set_option maxRecDepth 100000 in
theorem spec_DrawSafeTraffic (A : Option Addr) (N c : Nat) (w : World) (HX : Byt w A N) : Calls Try.prog 21 #[.slice A N c] w fun e w' => (∃ (g : Grid) (r s : Int) (l : List Packet) (A2 A3 D : Option Addr) (c2 c3 d : Nat), e = .returned (.tuple #[.agg #[.int .i64 g.w, .int .i64 g.h, .slice none 0 0], .agg #[.slice A2 (makeT g r).length c2, .slice A3 (makeT g s).length c3], .slice D l.length d]) ∧ (1 ≤ g.w ∧ g.w ≤ 4 ∧ 1 ≤ g.h ∧ g.h ≤ 4 ∧ 2 ≤ nodeCount g) ∧ (1 ≤ r ∧ r ≤ 3 ∧ 1 ≤ s ∧ s ≤ 3) ∧ Drawn g l ∧ Kd.C (Kd.int .i64) w' A2 (makeT g r).length (makeT g r) ∧ Kd.C (Kd.int .i64) w' A3 (makeT g s).length (makeT g s) ∧ kP.C w' D l.length l) ∧ Below w.heap.size w w' := by
 obtain ⟨wa, ewa⟩ : ∃ z, z = (w.alloc (.cells #[.int .i64 0, .int .i64 0, .slice none 0 0] 28)).alloc (.cells #[.slice none 0 0, .slice none 0 0] 32) := ⟨_, rfl⟩
 have hwa : Below w.heap.size w wa := by rw [ewa]; exact bw_alloc _ (bw_alloc _ (bw_refl w))
 have zwa : wa.heap.size = w.heap.size + 2 := by rw [ewa]; simp only [szs]
 have HMa : Arr wa w.heap.size 28 #[.int .i64 0, .int .i64 0, .slice none 0 0] := by rw [ewa]; exact (Arr.new w _ _ _ rfl).below (bw_alloc _ (bw_refl _))
 have HCa : Arr wa (w.heap.size + 1) 32 #[.slice none 0 0, .slice none 0 0] := by rw [ewa]; exact Arr.new _ _ _ _ (by simp only [szs])
 have hxa := HX.below hwa
 go_enter Try.func21, Try.ntmps21
 go_wp2_with fail
 rw [← ewa]
 clear ewa
 refine (spec_l01New A N c _ hxa).mono ?_
 rintro e w1 ⟨b, rfl, hb, HC1, hb1⟩
 have hbl := HC1.lt
 have HM1 := HMa.below hb1
 have HK1 := HCa.below hb1
 have HB1 := bw_then hwa hb1
 have z1 := bw_size hb1
 clear hxa hb1 HMa HCa hwa
 go_wp2_with fail
 refine (spec_l14Grid b _ _ HC1).mono ?_
 rintro e w2 ⟨g, rfl, g1, g2, g3, g4, gn, HC2, hg2⟩
 have HM2 := arr_gt HM1 hg2 (by omega)
 have HK2 := arr_gt HK1 hg2 (by omega)
 have HB2 : Below w.heap.size w w2 := bw_cur HB1 hg2 (by omega)
 have z2 := hg2.size
 clear hg2 HM1 HK1 HB1 HC1
 obtain ⟨w3, e3⟩ : ∃ z, z = w2.alloc (.cells #[.int .i64 g.w, .int .i64 g.h] 25) := ⟨_, rfl⟩
 have hw3 : Below w2.heap.size w2 w3 := by rw [e3]; exact bw_alloc _ (bw_refl w2)
 have HT3 : Hid (Arr w3 w2.heap.size 25 #[.int .i64 g.w, .int .i64 g.h]) := Lib.hid (by rw [e3]; exact Arr.new w2 _ _ _ rfl)
 have HM3 := Lib.hid (HM2.below hw3)
 have HK3 := Lib.hid (HK2.below hw3)
 have HB3 := Lib.hid (bw_then HB2 hw3)
 have HC3 := Lib.hid (HC2.below hw3)
 have z3 : w3.heap.size = w2.heap.size + 1 := by rw [e3]; simp only [szs]
 clear hw3 HM2 HK2 HB2 HC2
 go_wp2_with fail
 rw [← e3]
 clear e3
 refine wp_region_tz w3.heap.size (fun i => if i = 11 then .cells #[.slice none 0 0, .slice none 0 0] 32 else .cells #[] 0) (fun i g => if i = 11 then .pointer (some ⟨g, 0, none⟩) else undef) (fun W => w3.grownBy W (some b)) 12 [(0, .quiet), (1, .quiet), (2, .chain), (3, .quiet), (4, .chain), (5, .quiet), (6, .quiet), (7, .chain), (8, .quiet), (9, .chain), (10, .quiet), (11, .lit)] (by kernel_rfl) (by kernel_rfl) (by kernel_rfl) (by kernel_rfl) (by kernel_rfl) (by kernel_rfl) (by kernel_rfl) (by kernel_rfl) (gt_drew (World.grownBy.refl _ _)) ⟨fun W o h => gt_alloc _ h, fun W h => h.size⟩ (fun W => Cur W b wa.heap.size) (HC3.out.below (bw_drew (bw_refl _))) (fun _ W W' h hb => h.below hb) ?_
 refine wpTz_v (some 12) (.agg #[.int .i64 g.w, .int .i64 g.h]) rfl rfl (by rfl) (fun W hC => ?_) ?_
 ·have hg := arr_gt HT3.out hC (by omega)
  have h0 : W.cell? ⟨w2.heap.size, 0, none⟩ = some (.int .i64 g.w) := hg.cell 0
  have h1 : W.cell? ⟨w2.heap.size, 1, none⟩ = some (.int .i64 g.h) := hg.cell 1
  have hl := hg.lt
  clear hg
  clear hC
  go_simp
  try rfl
 try simp only [Act.put, nms]
 refine wpTz_v (some 13) (.pointer (some ⟨b, 0, none⟩)) rfl rfl (by rfl) (fun W hC => ?_) ?_
 ·clear hC
  go_simp
  try rfl
 try simp only [Act.put, nms]
 refine wpTz_e (some 14) rfl rfl (by rfl) ((0, 0) : Fin 3 × Nat) (fun y => .int .i64 ((y.1.val : Nat) : Int)) (fun y W => Cur W b wa.heap.size) (fun y => (y.2, y.2)) (fun W hF hC => ?_) (fun y W W' h hb => h.below hb) (fun xy => ?_)
 ·refine LoOp.enter (by go_simp; first | done | exact ⟨rfl, rfl⟩ | rfl) ?_
  refine (spec_l01Below b _ 3 W hF (by omega) (by omega)).mono ?_
  rintro e W1 ⟨x', rfl, x0, x1, HC1, hg1⟩
  obtain ⟨k', rfl⟩ : ∃ k' : Nat, x' = k' := ⟨x'.toNat, by omega⟩
  exact ⟨_, rfl, (⟨k', by omega⟩, W.heap.size), rfl, grown_trans hC hg1, HC1, ⟨hg1.size, fun i hi hlt => hg1.block i hlt (fun e => by have := Option.some.inj e; omega)⟩, Nat.le_refl _, hg1.size⟩
 obtain ⟨⟨x, hx⟩, nx⟩ := xy
 dsimp only
 try simp only [Act.put, nms]
 refine wpTz_v (some 15) (.int .i64 (1 + (x : Int))) rfl rfl (by rfl) (fun W hC => ?_) ?_
 ·have hwx : IntKind.i64.wrap (1 + (x : Int)) = 1 + (x : Int) := IntWalk.i64_in _ (by omega)
  clear hC
  go_simp
  try rfl
 try simp only [Act.put, nms]
 refine wpTz_d (some 16) rfl rfl (by rfl) (⟨none, 0, 0, 0⟩ : TX) (fun y => .agg #[.slice y.A (makeT g (1 + (x : Int))).length y.c]) (fun y W => gT w3.heap.size y (makeT g (1 + (x : Int))) W ∧ Cur W b wa.heap.size) (fun y => (y.lo, y.hi)) (fun W hF hC => ?_) (fun y W W' h hb => ⟨h.1.below hb, h.2.below hb⟩) (fun yy => ?_)
 ·refine LoOp.enter (by go_simp; first | done | exact ⟨rfl, rfl⟩ | rfl) ?_
  refine (spec_l05Make g (1 + (x : Int)) W g1 g2 g3 g4 (by omega) (by omega)).mono ?_
  rintro e W1 ⟨hg1, hb1⟩
  obtain ⟨y, rfl, hy, h1, h2⟩ := gT.of hg1 hb1 hC.size
  exact ⟨_, rfl, y, rfl, grown_trans hC (grown_below _ hb1), ⟨hy, hF.below hb1⟩, hb1, h1, h2⟩
 obtain ⟨AP, cP, lP, hP⟩ := yy
 dsimp only
 try simp only [Act.put, nms]
 refine wpTz_v (some 17) (.agg #[.int .i64 g.w, .int .i64 g.h]) rfl rfl (by rfl) (fun W hC => ?_) ?_
 ·have hg := arr_gt HT3.out hC (by omega)
  have h0 : W.cell? ⟨w2.heap.size, 0, none⟩ = some (.int .i64 g.w) := hg.cell 0
  have h1 : W.cell? ⟨w2.heap.size, 1, none⟩ = some (.int .i64 g.h) := hg.cell 1
  have hl := hg.lt
  clear hg
  clear hC
  go_simp
  try rfl
 try simp only [Act.put, nms]
 refine wpTz_v (some 18) (.pointer (some ⟨b, 0, none⟩)) rfl rfl (by rfl) (fun W hC => ?_) ?_
 ·clear hC
  go_simp
  try rfl
 try simp only [Act.put, nms]
 refine wpTz_e (some 19) rfl rfl (by rfl) ((0, 0) : Fin 3 × Nat) (fun y => .int .i64 ((y.1.val : Nat) : Int)) (fun y W => gT w3.heap.size ⟨AP, cP, lP, hP⟩ (makeT g (1 + (x : Int))) W ∧ Cur W b wa.heap.size) (fun y => (y.2, y.2)) (fun W hF hC => ?_) (fun y W W' h hb => ⟨h.1.below hb, h.2.below hb⟩) (fun xy => ?_)
 ·refine LoOp.enter (by go_simp; first | done | exact ⟨rfl, rfl⟩ | rfl) ?_
  refine (spec_l01Below b _ 3 W hF.2 (by omega) (by omega)).mono ?_
  rintro e W1 ⟨x', rfl, x0, x1, HC1, hg1⟩
  obtain ⟨k', rfl⟩ : ∃ k' : Nat, x' = k' := ⟨x'.toNat, by omega⟩
  exact ⟨_, rfl, (⟨k', by omega⟩, W.heap.size), rfl, grown_trans hC hg1, ⟨hF.1.grown hg1 (by omega), HC1⟩, ⟨hg1.size, fun i hi hlt => hg1.block i hlt (fun e => by have := Option.some.inj e; omega)⟩, Nat.le_refl _, hg1.size⟩
 obtain ⟨⟨u, hu⟩, nu⟩ := xy
 dsimp only
 try simp only [Act.put, nms]
 refine wpTz_v (some 20) (.int .i64 (1 + (u : Int))) rfl rfl (by rfl) (fun W hC => ?_) ?_
 ·have hwx : IntKind.i64.wrap (1 + (u : Int)) = 1 + (u : Int) := IntWalk.i64_in _ (by omega)
  clear hC
  go_simp
  try rfl
 try simp only [Act.put, nms]
 refine wpTz_d (some 21) rfl rfl (by rfl) (⟨none, 0, 0, 0⟩ : TX) (fun y => .agg #[.slice y.A (makeT g (1 + (u : Int))).length y.c]) (fun y W => gT w3.heap.size y (makeT g (1 + (u : Int))) W ∧ gT w3.heap.size ⟨AP, cP, lP, hP⟩ (makeT g (1 + (x : Int))) W ∧ Cur W b wa.heap.size) (fun y => (y.lo, y.hi)) (fun W hF hC => ?_) (fun y W W' h hb => ⟨h.1.below hb, h.2.1.below hb, h.2.2.below hb⟩) (fun yy => ?_)
 ·refine LoOp.enter (by go_simp; first | done | exact ⟨rfl, rfl⟩ | rfl) ?_
  refine (spec_l05Make g (1 + (u : Int)) W g1 g2 g3 g4 (by omega) (by omega)).mono ?_
  rintro e W1 ⟨hg1, hb1⟩
  obtain ⟨y, rfl, hy, h1, h2⟩ := gT.of hg1 hb1 hC.size
  exact ⟨_, rfl, y, rfl, grown_trans hC (grown_below _ hb1), ⟨hy, hF.1.below hb1, hF.2.below hb1⟩, hb1, h1, h2⟩
 obtain ⟨AQ, cQ, lQ, hQ⟩ := yy
 dsimp only
 try simp only [Act.put, nms]
 refine wpTz_v (some 22) (.agg #[.slice AP (makeT g (1 + (x : Int))).length cP, .slice AQ (makeT g (1 + (u : Int))).length cQ]) rfl rfl (by rfl) (fun W hC => ?_) ?_
 ·clear hC
  go_simp
  try rfl
 try simp only [Act.put, nms]
 refine wpTz_l (some 7) rfl rfl (by rfl) (fun W => ?_) (fun gb => ?_)
 ·go_simp
  try rfl
 try simp only [Act.put, nms]
 refine wpTz_z (fun w8 hF hC => ?_)
 obtain ⟨⟨hT2, hT1, HC8⟩, bg, hgb, ig⟩ := hF
 simp only [List.forall_mem_cons, List.not_mem_nil, false_implies, implies_true, and_true] at ig
 have ha8 : Arr w8 gb 32 #[.slice none 0 0, .slice none 0 0] := hgb
 have r0 : w8.cell? ⟨gb, 0, none⟩ = some (.slice none 0 0) := ha8.cell 0
 have r1 : w8.cell? ⟨gb, 1, none⟩ = some (.slice none 0 0) := ha8.cell 1
 have f0 := ha8.frozen 0
 have f1 := ha8.frozen 1
 have rl := ha8.lt
 have HB8 := bw_cur HB3.out hC (by omega)
 have HM8 := arr_gt HM3.out hC (by omega)
 have HK8 := arr_gt HK3.out hC (by omega)
 have HT8 := arr_gt HT3.out hC (by omega)
 have z8 := hC.size
 obtain ⟨w9, e9⟩ : ∃ z, z = (w8.setCell ⟨gb, 0, none⟩ (.slice AP (makeT g (1 + (x : Int))).length cP)).setCell ⟨gb, 1, none⟩ (.slice AQ (makeT g (1 + (u : Int))).length cQ) := ⟨_, rfl⟩
 have HG9 : Hid (Arr w9 gb 32 #[.slice AP (makeT g (1 + (x : Int))).length cP, .slice AQ (makeT g (1 + (u : Int))).length cQ]) := Lib.hid (by rw [e9]; exact (ha8.set 0 _).set 1 _)
 have HM9 := Lib.hid (show Arr w9 w.heap.size 28 _ from by rw [e9]; exact (HM8.other gb 0 _ (by omega)).other gb 1 _ (by omega))
 have HK9 := Lib.hid (show Arr w9 (w.heap.size + 1) 32 _ from by rw [e9]; exact (HK8.other gb 0 _ (by omega)).other gb 1 _ (by omega))
 have HT9 := Lib.hid (show Arr w9 w2.heap.size 25 _ from by rw [e9]; exact (HT8.other gb 0 _ (by omega)).other gb 1 _ (by omega))
 have HB9 : Hid (Below w.heap.size w w9) := Lib.hid (by rw [e9]; exact low_set (low_set HB8 (by omega) 0 _) (by omega) 1 _)
 have HC9 : Hid (Cur w9 b wa.heap.size) := Lib.hid (by rw [e9]; exact Cur.far _ _ (Cur.far _ _ HC8 (by omega)) (by omega))
 have z9 : w9.heap.size = w8.heap.size := by rw [e9]; simp only [szs]
 have hP1 := hT1.2.2.2
 have hQ1 := hT2.2.2.2
 have lP1 := hT1.1
 have lQ1 := hT2.1
 have lP3 := hT1.2.2.1
 have lQ3 := hT2.2.2.1
 dsimp only at hP1 hQ1 lP1 lQ1 lP3 lQ3
 have cg8 : Chg gb (gb + 1) w8 w9 := ⟨by rw [e9]; rfl, by rw [e9]; rfl, by rw [e9]; rfl, by omega, fun i hi hn => by
  rw [e9]
  exact (Below.heap_setCell _ ⟨gb, 1, none⟩ _ i (fun e => by have e2 : i = gb := e; omega)).trans (Below.heap_setCell _ ⟨gb, 0, none⟩ _ i (fun e => by have e2 : i = gb := e; omega))⟩
 have HP9 := Lib.hid (hP1.chg cg8 (by omega))
 have HQ9 := Lib.hid (hQ1.chg cg8 (by omega))
 clear hP1 hQ1 hT1 hT2 cg8
 refine ⟨_, rfl, by rfl, ?_⟩
 go_simp
 rw [← e9]
 clear e9 HB8 HM8 HK8 HT8 HC8 hC r0 r1 f0 f1 rl ha8 hgb
 have gl := HG9.out.lt
 go_wp2_with fail
 refine wp_region_tz 0 (fun _ => .cells #[] 0) (fun _ _ => undef) (fun W => Arr W w2.heap.size 25 #[.int .i64 g.w, .int .i64 g.h] ∧ Arr W gb 32 #[.slice AP (makeT g (1 + (x : Int))).length cP, .slice AQ (makeT g (1 + (u : Int))).length cQ]) 8 [(0, .quiet), (1, .quiet), (2, .quiet), (3, .quiet), (4, .quiet), (5, .chain), (6, .chain), (7, .chain)] (by kernel_rfl) (by kernel_rfl) (by kernel_rfl) (by kernel_rfl) (by kernel_rfl) (by kernel_rfl) (by kernel_rfl) (by kernel_rfl) ⟨HT9.out, HG9.out⟩ ⟨fun W o h => ⟨h.1.below (bw_alloc _ (bw_refl _)), h.2.below (bw_alloc _ (bw_refl _))⟩, fun W h => Nat.zero_le _⟩ (fun W => W = w9.drew) rfl (fun e => by cases e) ?_
 refine wpTz_v (some 23) (.agg #[.int .i64 g.w, .int .i64 g.h]) rfl rfl (by rfl) (fun W hC => ?_) ?_
 ·have h0 : W.cell? ⟨w2.heap.size, 0, none⟩ = some (.int .i64 g.w) := hC.1.cell 0
  have h1 : W.cell? ⟨w2.heap.size, 1, none⟩ = some (.int .i64 g.h) := hC.1.cell 1
  have hl := hC.1.lt
  clear hC
  go_simp
  try rfl
 try simp only [Act.put, nms]
 refine wpTz_v (some 24) (.agg #[.int .i64 g.w, .int .i64 g.h, .slice none 0 0]) rfl rfl (by rfl) (fun W hC => ?_) ?_
 ·clear hC
  go_simp
  try rfl
 try simp only [Act.put, nms]
 refine wpTz_v (some 25) (.agg #[.slice AP (makeT g (1 + (x : Int))).length cP, .slice AQ (makeT g (1 + (u : Int))).length cQ]) rfl rfl (by rfl) (fun W hC => ?_) ?_
 ·have h0 : W.cell? ⟨gb, 0, none⟩ = some (.slice AP (makeT g (1 + (x : Int))).length cP) := hC.2.cell 0
  have h1 : W.cell? ⟨gb, 1, none⟩ = some (.slice AQ (makeT g (1 + (u : Int))).length cQ) := hC.2.cell 1
  have hl := hC.2.lt
  clear hC
  go_simp
  try rfl
 try simp only [Act.put, nms]
 refine wpTz_v (some 26) (.pointer (some ⟨b, 0, none⟩)) rfl rfl (by rfl) (fun W hC => ?_) ?_
 ·clear hC
  go_simp
  try rfl
 try simp only [Act.put, nms]
 refine wpTz_v (some 27) (.agg #[.int .i64 g.w, .int .i64 g.h]) rfl rfl (by rfl) (fun W hC => ?_) ?_
 ·have h0 : W.cell? ⟨w2.heap.size, 0, none⟩ = some (.int .i64 g.w) := hC.1.cell 0
  have h1 : W.cell? ⟨w2.heap.size, 1, none⟩ = some (.int .i64 g.h) := hC.1.cell 1
  have hl := hC.1.lt
  clear hC
  go_simp
  try rfl
 try simp only [Act.put, nms]
 refine wpTz_c (some 28) rfl rfl (by rfl) ((w9, [], none, 0) : World × List Packet × Option Addr × Nat) (fun y => .slice y.2.2.1 y.2.1.length y.2.2.2) (fun y W => W = y.1 ∧ Drawn g y.2.1 ∧ kP.R 48 y.1 w9.heap.size (fun _ => True) (.slice y.2.2.1 y.2.1.length y.2.2.2) y.2.1 ∧ w9.grownBy y.1 (some b)) (fun W hF hC => ?_) (fun yy => ?_)
 ·subst hF
  refine LoOp.enter (by go_simp; first | done | exact ⟨rfl, rfl⟩ | rfl) ?_
  refine (spec_l16Packets b _ g _ (HC9.out.below (bw_drew (bw_refl _))) g1 g2 g3 g4 gn).mono ?_
  rintro e W1 ⟨l, v, rfl, hd, hr, _, hg1⟩
  obtain ⟨A', c', rfl⟩ := Kd.R_slice hr
  have hg2 : w9.grownBy W1 (some b) := ⟨hg1.os, hg1.tape, hg1.output, hg1.size, hg1.block⟩
  exact ⟨_, rfl, (W1, l, A', c'), rfl, ⟨arr_gt HT9.out hg2 (by omega), arr_gt HG9.out hg2 (by omega)⟩, rfl, hd, hr, hg2⟩
 obtain ⟨wy, l, D, d⟩ := yy
 dsimp only
 try simp only [Act.put, nms]
 refine wpTz_c none rfl rfl (by rfl) () (fun _ => undef) (fun _ W => W = (((wy.setCell ⟨w.heap.size, 0, none⟩ (.int .i64 g.w)).setCell ⟨w.heap.size, 1, none⟩ (.int .i64 g.h)).setCell ⟨w.heap.size, 2, none⟩ (.slice none 0 0)) ∧ Drawn g l ∧ kP.R 48 wy w9.heap.size (fun _ => True) (.slice D l.length d) l ∧ w9.grownBy wy (some b)) (fun W hF hC => ?_) (fun _ => ?_)
 ·obtain ⟨rfl, hd, hr, hg⟩ := hF
  have hM := arr_gt HM9.out hg (by omega)
  have m0 : W.cell? ⟨w.heap.size, 0, none⟩ = some (.int .i64 0) := hM.cell 0
  have m1 : W.cell? ⟨w.heap.size, 1, none⟩ = some (.int .i64 0) := hM.cell 1
  have m2 : W.cell? ⟨w.heap.size, 2, none⟩ = some (.slice none 0 0) := hM.cell 2
  have n0 := hM.frozen 0
  have n1 := hM.frozen 1
  have n2 := hM.frozen 2
  have ml := hM.lt
  refine LoOp.skip rfl (w1 := (((W.setCell ⟨w.heap.size, 0, none⟩ (.int .i64 g.w)).setCell ⟨w.heap.size, 1, none⟩ (.int .i64 g.h)).setCell ⟨w.heap.size, 2, none⟩ (.slice none 0 0))) ?_ ⟨(), rfl, ⟨((hC.1.other w.heap.size 0 _ (by omega)).other w.heap.size 1 _ (by omega)).other w.heap.size 2 _ (by omega), ((hC.2.other w.heap.size 0 _ (by omega)).other w.heap.size 1 _ (by omega)).other w.heap.size 2 _ (by omega)⟩, rfl, hd, hr, hg⟩
  clear hC hr hg hd hM
  go_simp
  try rfl
 try simp only [Act.put, nms]
 refine wpTz_c none rfl rfl (by rfl) () (fun _ => undef) (fun _ W => W = ((((wy.setCell ⟨w.heap.size, 0, none⟩ (.int .i64 g.w)).setCell ⟨w.heap.size, 1, none⟩ (.int .i64 g.h)).setCell ⟨w.heap.size, 2, none⟩ (.slice none 0 0)).setCell ⟨w.heap.size + 1, 0, none⟩ (.slice AP (makeT g (1 + (x : Int))).length cP)).setCell ⟨w.heap.size + 1, 1, none⟩ (.slice AQ (makeT g (1 + (u : Int))).length cQ) ∧ Drawn g l ∧ kP.R 48 wy w9.heap.size (fun _ => True) (.slice D l.length d) l ∧ w9.grownBy wy (some b)) (fun W hF hC => ?_) (fun _ => ?_)
 ·obtain ⟨rfl, hd, hr, hg⟩ := hF
  have hK := ((((arr_gt HK9.out hg (by omega)).other w.heap.size 0 (.int .i64 g.w) (by omega)).other w.heap.size 1 (.int .i64 g.h) (by omega)).other w.heap.size 2 (.slice none 0 0) (by omega))
  obtain ⟨wz, ez⟩ : ∃ z, z = (((wy.setCell ⟨w.heap.size, 0, none⟩ (.int .i64 g.w)).setCell ⟨w.heap.size, 1, none⟩ (.int .i64 g.h)).setCell ⟨w.heap.size, 2, none⟩ (.slice none 0 0)) := ⟨_, rfl⟩
  rw [← ez] at hK hC ⊢
  have m0 : wz.cell? ⟨w.heap.size + 1, 0, none⟩ = some (.slice none 0 0) := hK.cell 0
  have m1 : wz.cell? ⟨w.heap.size + 1, 1, none⟩ = some (.slice none 0 0) := hK.cell 1
  have n0 := hK.frozen 0
  have n1 := hK.frozen 1
  have ml := hK.lt
  refine LoOp.skip rfl (w1 := (wz.setCell ⟨w.heap.size + 1, 0, none⟩ (.slice AP (makeT g (1 + (x : Int))).length cP)).setCell ⟨w.heap.size + 1, 1, none⟩ (.slice AQ (makeT g (1 + (u : Int))).length cQ)) ?_ ⟨(), rfl, ⟨(hC.1.other (w.heap.size + 1) 0 _ (by omega)).other (w.heap.size + 1) 1 _ (by omega), (hC.2.other (w.heap.size + 1) 0 _ (by omega)).other (w.heap.size + 1) 1 _ (by omega)⟩, by rw [ez], hd, hr, hg⟩
  clear hC hr hg hd hK ez
  go_simp
  try rfl
 try simp only [Act.put, nms]
 refine wpTz_z (fun wf hF hC => ?_)
 obtain ⟨ef, hd, hr, hg⟩ := hF
 clear hC
 have hMz := (((((arr_gt HM9.out hg (by omega)).set 0 (.int .i64 g.w)).set 1 (.int .i64 g.h)).set 2 (.slice none 0 0)).other (w.heap.size + 1) 0 (.slice AP (makeT g (1 + (x : Int))).length cP) (by omega)).other (w.heap.size + 1) 1 (.slice AQ (makeT g (1 + (u : Int))).length cQ) (by omega)
 have hKz := ((((((arr_gt HK9.out hg (by omega)).other w.heap.size 0 (.int .i64 g.w) (by omega)).other w.heap.size 1 (.int .i64 g.h) (by omega)).other w.heap.size 2 (.slice none 0 0) (by omega)).set 0 (.slice AP (makeT g (1 + (x : Int))).length cP)).set 1 (.slice AQ (makeT g (1 + (u : Int))).length cQ))
 rw [← ef] at hMz hKz
 have hBy : Below w.heap.size w wy := bw_cur HB9.out hg (by omega)
 have HBf : Hid (Below w.heap.size w wf) := Lib.hid (by rw [ef]; exact low_set (low_set (low_set (low_set (low_set hBy (Nat.le_refl _) 0 _) (Nat.le_refl _) 1 _) (Nat.le_refl _) 2 _) (by omega) 0 _) (by omega) 1 _)
 have cgf : Chg w.heap.size (w.heap.size + 2) wy wf := ⟨by rw [ef]; rfl, by rw [ef]; rfl, by rw [ef]; rfl, by rw [ef]; simp only [szs]; omega, fun i hi hn => by
  rw [ef]
  have hs : ∀ (W : World) (o j : Nat) (v : Value), i ≠ o → (W.setCell ⟨o, j, none⟩ v).heap[i]? = W.heap[i]? := fun W o j v h => Below.heap_setCell W ⟨o, j, none⟩ v i h
  rw [hs _ _ _ _ (by omega), hs _ _ _ _ (by omega), hs _ _ _ _ (by omega), hs _ _ _ _ (by omega), hs _ _ _ _ (by omega)]⟩
 have cgb : Chg b (b + 1) w9 wy := ⟨hg.os, hg.tape, hg.output, hg.size, fun i hi hn => hg.block i hi (fun e => by have := Option.some.inj e; omega)⟩
 have HPf := Lib.hid ((HP9.out.chg cgb (by omega)).chg cgf (by omega)).reads.2.2
 have HQf := Lib.hid ((HQ9.out.chg cgb (by omega)).chg cgf (by omega)).reads.2.2
 have HRf := Lib.hid ((RU.of hr (Nat.le_refl _) (Nat.le_refl _)).chg cgf (by omega)).reads.2.2
 have HMz := Lib.hid hMz; have HKz := Lib.hid hKz; have HD := Lib.hid hd
 clear hMz hKz hd hr hg hBy cgf cgb ef
 refine ⟨_, rfl, by rfl, ?_⟩
 go_simp
 go_wp2
 exact bodyPost_ret (results_cells2 Try.results21 _ _ w.heap.size (w.heap.size + 1) 28 32 _ _ (0, 0) (0, 0) _ _ rfl rfl HMz.out HKz.out Try.underlying28 Try.underlying32 rfl rfl (by kernel_rfl) (by kernel_rfl)) rfl ⟨⟨g, 1 + (x : Int), 1 + (u : Int), l, AP, AQ, D, cP, cQ, d, rfl, ⟨g1, g2, g3, g4, gn⟩, ⟨by omega, by omega, by omega, by omega⟩, HD.out, HPf.out, HQf.out, HRf.out⟩, HBf.out⟩
theorem impl_PacketOk (g : Grid) (p : Packet) (w : World) : Calls Try.prog 41 #[.agg #[.int .i64 g.w, .int .i64 g.h], .agg #[.int .i64 p.id, .int .i64 p.src, .int .i64 p.dst, .int .i64 p.cls, .int .i64 p.len]] w fun e w' => e = .returned (.bool (packetOk g p)) ∧ Below w.heap.size w w' := by
  go_enter Try.func41, Try.ntmps41
  cases h1 : inside p.id 1 9999
  · go_wp2_with (first | (go_at_call 63; refine (impl_inside _ _ _ _).mono ?_; rintro e w' ⟨rfl, rfl⟩) | (go_at_call 72; refine (impl_isNode g _ _).mono ?_; rintro e w1 ⟨rfl, hb1⟩; obtain ⟨hc1, hf1, hz1⟩ := bcell hb1; (try simp only [szs] at hz1); have hb2 := far2; obtain ⟨hc2, hf2, hz2⟩ := bcell hb2; (try simp only [szs] at hz2); try (first | obtain ⟨hy1, hy2, hy3, hy4⟩ := lts4 hz2 | obtain ⟨hy1, hy2, hy3⟩ := lts3 hz2 | obtain ⟨hy1, hy2⟩ := lts2 hz2 | have hy1 := lts1 hz2); have hb9 := hb1))
    go_ret
    exact ⟨ret_bool (by simp [packetOk, h1]), bel⟩
  cases h2 : isNode g p.src
  · go_wp2_with (first | (go_at_call 63; refine (impl_inside _ _ _ _).mono ?_; rintro e w' ⟨rfl, rfl⟩) | (go_at_call 72; refine (impl_isNode g _ _).mono ?_; rintro e w1 ⟨rfl, hb1⟩; obtain ⟨hc1, hf1, hz1⟩ := bcell hb1; (try simp only [szs] at hz1); have hb2 := far2; obtain ⟨hc2, hf2, hz2⟩ := bcell hb2; (try simp only [szs] at hz2); try (first | obtain ⟨hy1, hy2, hy3, hy4⟩ := lts4 hz2 | obtain ⟨hy1, hy2, hy3⟩ := lts3 hz2 | obtain ⟨hy1, hy2⟩ := lts2 hz2 | have hy1 := lts1 hz2); have hb9 := hb1))
    go_ret
    exact ⟨ret_bool (by simp [packetOk, h2]), bel⟩
  cases h3 : isNode g p.dst
  · go_wp2_with (first | (go_at_call 63; refine (impl_inside _ _ _ _).mono ?_; rintro e w' ⟨rfl, rfl⟩) | (go_at_call 72; refine (impl_isNode g _ _).mono ?_; rintro e w1 ⟨rfl, hb1⟩; obtain ⟨hc1, hf1, hz1⟩ := bcell hb1; (try simp only [szs] at hz1); have hb2 := far2; obtain ⟨hc2, hf2, hz2⟩ := bcell hb2; (try simp only [szs] at hz2); try (first | obtain ⟨hy1, hy2, hy3, hy4⟩ := lts4 hz2 | obtain ⟨hy1, hy2, hy3⟩ := lts3 hz2 | obtain ⟨hy1, hy2⟩ := lts2 hz2 | have hy1 := lts1 hz2); have hb9 := hb1))
    go_ret
    exact ⟨ret_bool (by simp [packetOk, h3]), bel⟩
  by_cases h4 : p.src = p.dst
  · have e4 : (p.src != p.dst) = false := bne_eq_false_iff_eq.2 h4
    have H4 := Lib.hid h4
    clear h4
    go_wp2_with (first | (go_at_call 63; refine (impl_inside _ _ _ _).mono ?_; rintro e w' ⟨rfl, rfl⟩) | (go_at_call 72; refine (impl_isNode g _ _).mono ?_; rintro e w1 ⟨rfl, hb1⟩; obtain ⟨hc1, hf1, hz1⟩ := bcell hb1; (try simp only [szs] at hz1); have hb2 := far2; obtain ⟨hc2, hf2, hz2⟩ := bcell hb2; (try simp only [szs] at hz2); try (first | obtain ⟨hy1, hy2, hy3, hy4⟩ := lts4 hz2 | obtain ⟨hy1, hy2, hy3⟩ := lts3 hz2 | obtain ⟨hy1, hy2⟩ := lts2 hz2 | have hy1 := lts1 hz2); have hb9 := hb1))
    go_ret
    exact ⟨ret_bool (by simp [packetOk, H4.out]), bel⟩
  have e4 : (p.src != p.dst) = true := bne_iff_ne.2 h4
  have H4 := Lib.hid h4
  clear h4
  cases h5 : inside p.cls 0 1
  · go_wp2_with (first | (go_at_call 63; refine (impl_inside _ _ _ _).mono ?_; rintro e w' ⟨rfl, rfl⟩) | (go_at_call 72; refine (impl_isNode g _ _).mono ?_; rintro e w1 ⟨rfl, hb1⟩; obtain ⟨hc1, hf1, hz1⟩ := bcell hb1; (try simp only [szs] at hz1); have hb2 := far2; obtain ⟨hc2, hf2, hz2⟩ := bcell hb2; (try simp only [szs] at hz2); try (first | obtain ⟨hy1, hy2, hy3, hy4⟩ := lts4 hz2 | obtain ⟨hy1, hy2, hy3⟩ := lts3 hz2 | obtain ⟨hy1, hy2⟩ := lts2 hz2 | have hy1 := lts1 hz2); have hb9 := hb1))
    go_ret
    exact ⟨ret_bool (by simp [packetOk, h5]), bel⟩
  · go_wp2_with (first | (go_at_call 63; refine (impl_inside _ _ _ _).mono ?_; rintro e w' ⟨rfl, rfl⟩) | (go_at_call 72; refine (impl_isNode g _ _).mono ?_; rintro e w1 ⟨rfl, hb1⟩; obtain ⟨hc1, hf1, hz1⟩ := bcell hb1; (try simp only [szs] at hz1); have hb2 := far2; obtain ⟨hc2, hf2, hz2⟩ := bcell hb2; (try simp only [szs] at hz2); try (first | obtain ⟨hy1, hy2, hy3, hy4⟩ := lts4 hz2 | obtain ⟨hy1, hy2, hy3⟩ := lts3 hz2 | obtain ⟨hy1, hy2⟩ := lts2 hz2 | have hy1 := lts1 hz2); have hb9 := hb1))
    go_ret
    exact ⟨ret_bool (by simp [packetOk, h1, h2, h3, H4.out, h5]), bel⟩

theorem impl_ClassesOk (m : Mesh) (pa pb : List Int) (A B C : Option Addr) (c d k : Nat) (w : World) (hr : Kd.C (Kd.int .i64) w A m.br.length m.br) (hn : m.br.length ≤ 2097152) (ha : Kd.C (Kd.int .i64) w B pa.length pa) (hka : pa.length ≤ 2097152) (hb : Kd.C (Kd.int .i64) w C pb.length pb) (hkb : pb.length ≤ 2097152) :
    Calls Try.prog 28 #[.agg #[.int .i64 m.g.w, .int .i64 m.g.h, .slice A m.br.length c], .agg #[.slice B pa.length d, .slice C pb.length k]] w fun e w' => e = .returned (.bool (classesOk m pa pb)) ∧ Below w.heap.size w w' := by
  go_enter Try.func28, Try.ntmps28
  cases h1 : tableOk m pa
  · go_wp2_with (first | (go_at_call 56; refine (impl_TableOk m pa A B _ _ _ (by exact Kd.C_below hr bel) hn (by exact Kd.C_below ha bel) hka).mono ?_; rintro e w1 ⟨rfl, hb1⟩; obtain ⟨hc1, hf1, hz1⟩ := bcell hb1; (try simp only [szs] at hz1); have hb2 := far2; obtain ⟨hc2, hf2, hz2⟩ := bcell hb2; (try simp only [szs] at hz2); try (first | obtain ⟨hy1, hy2, hy3, hy4⟩ := lts4 hz2 | obtain ⟨hy1, hy2, hy3⟩ := lts3 hz2 | obtain ⟨hy1, hy2⟩ := lts2 hz2 | have hy1 := lts1 hz2); have hb9 := hb1))
    go_ret
    exact ⟨ret_bool (by simp [classesOk, h1]), bel⟩
  · go_wp2_with (first | (go_at_call_of 56 pa; refine (impl_TableOk m pa A B _ _ _ (by exact Kd.C_below hr bel) hn (by exact Kd.C_below ha bel) hka).mono ?_; rintro e w1 ⟨rfl, hb1⟩; obtain ⟨hc1, hf1, hz1⟩ := bcell hb1; (try simp only [szs] at hz1); have hb2 := far2; obtain ⟨hc2, hf2, hz2⟩ := bcell hb2; (try simp only [szs] at hz2); try (first | obtain ⟨hy1, hy2, hy3, hy4⟩ := lts4 hz2 | obtain ⟨hy1, hy2, hy3⟩ := lts3 hz2 | obtain ⟨hy1, hy2⟩ := lts2 hz2 | have hy1 := lts1 hz2); have hb9 := hb1) | (go_at_call_of 56 pb; refine (impl_TableOk m pb A C _ _ _ (by exact Kd.C_below hr bel) hn (by exact Kd.C_below hb bel) hkb).mono ?_; rintro e w1 ⟨rfl, hb1⟩; obtain ⟨hc1, hf1, hz1⟩ := bcell hb1; (try simp only [szs] at hz1); have hb2 := far2; obtain ⟨hc2, hf2, hz2⟩ := bcell hb2; (try simp only [szs] at hz2); try (first | obtain ⟨hy1, hy2, hy3, hy4⟩ := lts4 hz2 | obtain ⟨hy1, hy2, hy3⟩ := lts3 hz2 | obtain ⟨hy1, hy2⟩ := lts2 hz2 | have hy1 := lts1 hz2); have hb9 := hb1))
    go_ret
    exact ⟨ret_bool (by simp [classesOk, h1]), bel⟩
theorem impl_tableFor_b (pa pb : List Int) (B C : Option Addr) (d k : Nat) (cl : Int) (hc : (cl == 1) = true) (w : World) :
    Calls Try.prog 43 #[.agg #[.slice B pa.length d, .slice C pb.length k], .int .i64 cl] w fun e w' => e = .returned (.agg #[.slice C pb.length k]) ∧ Below w.heap.size w w' := by
  go_enter Try.func43, Try.ntmps43
  go_wp2
  exact bodyPost_ret (v := .agg #[.slice C pb.length k]) (by simp [results, Try.results43, go_sem]) rfl ⟨rfl, bel⟩
theorem impl_tableFor_a (pa pb : List Int) (B C : Option Addr) (d k : Nat) (cl : Int) (hc : (cl == 1) = false) (w : World) :
    Calls Try.prog 43 #[.agg #[.slice B pa.length d, .slice C pb.length k], .int .i64 cl] w fun e w' => e = .returned (.agg #[.slice B pa.length d]) ∧ Below w.heap.size w w' := by
  go_enter Try.func43, Try.ntmps43
  go_wp2
  exact bodyPost_ret (v := .agg #[.slice B pa.length d]) (by simp [results, Try.results43, go_sem]) rfl ⟨rfl, bel⟩

theorem impl_areInside (l : List Int) (lo hi : Int) (A : Option Addr) (c : Nat) (w : World) (hr : Kd.C (Kd.int .i64) w A l.length l) (hn : l.length ≤ 2097152) :
    Calls Try.prog 62 #[.slice A l.length c, .int .i64 lo, .int .i64 hi] w fun e w' => e = .returned (.bool (allI l.length (fun i => inside (ri l i) lo hi))) ∧ w = w' := by
  go_enter Try.func62, Try.ntmps62
  go_wp2
  go_loop [11] (fun i => ∃ k : Nat, i = .int .i64 k ∧ k ≤ l.length ∧ Hid (∀ j : Nat, j < k → inside (ri l j) lo hi = true)) (fun i => l.length - (intOf i).toNat)
  case atStart => exact ⟨0, rfl, Nat.zero_le _, Lib.hid fun j h => absurd h (Nat.not_lt_zero _)⟩
  case round =>
    obtain ⟨k, rfl, hk, HA⟩ := hrel
    by_cases hlt : k < l.length
    · obtain ⟨b, off, rfl, hb, hx⟩ := rdI_at hr k hlt
      have hxk := hx k hlt
      clear hx
      cases h1 : inside (ri l k) lo hi
      · have H1 := Lib.hid h1
        go_wp2_with (go_at_call 63; refine (impl_inside _ _ _ _).mono ?_; rintro e w' ⟨rfl, rfl⟩)
        go_ret
        exact ⟨ret_bool (allI_false k hlt H1.out).symm, rfl⟩
      · have H1 := Lib.hid h1
        go_wp2_with (go_at_call 63; refine (impl_inside _ _ _ _).mono ?_; rintro e w' ⟨rfl, rfl⟩)
        go_round
        case rel => exact ⟨k + 1, by go_num, by omega, Lib.hid (upto HA.out H1.out)⟩
        case measure => simp [intOf]; omega
    · go_wp2
      go_ret
      exact ⟨ret_bool (allI_true (fun j hj => HA.out j (by omega))).symm, rfl⟩
theorem flitOk_1 {g : Grid} {f : Flit} (h : isNode g f.dst = false) : flitOk g f = false := by simp [flitOk, h]
theorem flitOk_2 {g : Grid} {f : Flit} (h : inside f.cls 0 1 = false) : flitOk g f = false := by simp [flitOk, h]
theorem flitOk_3 {g : Grid} {f : Flit} (h1 : isNode g f.dst = true) (h2 : inside f.cls 0 1 = true) : flitOk g f = true := by simp [flitOk, h1, h2]

set_option maxHeartbeats 1000000 in
theorem impl_areFlits (g : Grid) (l : List Flit) (A : Option Addr) (c : Nat) (w : World) (hr : kF.C w A l.length l) (hn : l.length ≤ 2097152) :
    Calls Try.prog 61 #[.agg #[.int .i64 g.w, .int .i64 g.h], .slice A l.length c] w fun e w' => e = .returned (.bool (areFl g l)) ∧ Below w.heap.size w w' := by
  go_enter Try.func61, Try.ntmps61
  go_wp2
  go_loopw [9] (fun i wr => ∃ k : Nat, i = .int .i64 k ∧ k ≤ l.length ∧ Hid (∀ j : Nat, j < k → flitOk g (rf l j) = true) ∧ Below (w.alloc (.cells #[.int .i64 g.w, .int .i64 g.h] 25)).heap.size (w.alloc (.cells #[.int .i64 g.w, .int .i64 g.h] 25)) wr) (fun i _ => l.length - (intOf i).toNat)
  case atStart => exact ⟨0, rfl, Nat.zero_le _, Lib.hid fun j h => absurd h (Nat.not_lt_zero _), bel⟩
  case round =>
    obtain ⟨k, rfl, hk, HA, HB⟩ := hrel
    obtain ⟨hc0, hf0, hz0⟩ := bcell HB
    simp only [szs] at hz0
    have yy1 := lts1 hz0
    by_cases hlt : k < l.length
    · obtain ⟨b, off, rfl, hb, p0, p1, p2, p3, p4⟩ := rdFl_at hr k hlt
      obtain ⟨z1, z2, z3, z4, z5, z6⟩ := more hb
      have i0 : (0 : Int) ≤ (k : Int) := by omega
      have i1 : (k : Int) < (l.length : Int) := by omega
      cases h1 : isNode g (rf l k).dst
      · have H1 := Lib.hid h1
        go_wp2_with (first | (go_at_call 72; refine (impl_isNode g _ _).mono ?_; rintro e w1 ⟨rfl, hb1⟩; obtain ⟨hc1, hf1, hz1⟩ := bcell hb1; (try simp only [szs] at hz1); have hb2 := far2; obtain ⟨hc2, hf2, hz2⟩ := bcell hb2; (try simp only [szs] at hz2); try (first | obtain ⟨hy1, hy2, hy3, hy4⟩ := lts4 hz2 | obtain ⟨hy1, hy2, hy3⟩ := lts3 hz2 | obtain ⟨hy1, hy2⟩ := lts2 hz2 | have hy1 := lts1 hz2); have hb9 := hb1) | (go_at_call 63; refine (impl_inside _ _ _ _).mono ?_; rintro e w' ⟨rfl, rfl⟩))
        go_ret
        exact ⟨ret_bool (areFl_no k hlt (flitOk_1 H1.out)).symm, bel⟩
      cases h2 : inside (rf l k).cls 0 1
      · have H1 := Lib.hid h1
        have H2 := Lib.hid h2
        go_wp2_with (first | (go_at_call 72; refine (impl_isNode g _ _).mono ?_; rintro e w1 ⟨rfl, hb1⟩; obtain ⟨hc1, hf1, hz1⟩ := bcell hb1; (try simp only [szs] at hz1); have hb2 := far2; obtain ⟨hc2, hf2, hz2⟩ := bcell hb2; (try simp only [szs] at hz2); try (first | obtain ⟨hy1, hy2, hy3, hy4⟩ := lts4 hz2 | obtain ⟨hy1, hy2, hy3⟩ := lts3 hz2 | obtain ⟨hy1, hy2⟩ := lts2 hz2 | have hy1 := lts1 hz2); have hb9 := hb1) | (go_at_call 63; refine (impl_inside _ _ _ _).mono ?_; rintro e w' ⟨rfl, rfl⟩))
        go_ret
        exact ⟨ret_bool (areFl_no k hlt (flitOk_2 H2.out)).symm, bel⟩
      · have H1 := Lib.hid h1
        have H2 := Lib.hid h2
        go_wp2_with (first | (go_at_call 72; refine (impl_isNode g _ _).mono ?_; rintro e w1 ⟨rfl, hb1⟩; obtain ⟨hc1, hf1, hz1⟩ := bcell hb1; (try simp only [szs] at hz1); have hb2 := far2; obtain ⟨hc2, hf2, hz2⟩ := bcell hb2; (try simp only [szs] at hz2); try (first | obtain ⟨hy1, hy2, hy3, hy4⟩ := lts4 hz2 | obtain ⟨hy1, hy2, hy3⟩ := lts3 hz2 | obtain ⟨hy1, hy2⟩ := lts2 hz2 | have hy1 := lts1 hz2); have hb9 := hb1) | (go_at_call 63; refine (impl_inside _ _ _ _).mono ?_; rintro e w' ⟨rfl, rfl⟩))
        go_roundw
        case rel => exact ⟨k + 1, by go_num, by omega, Lib.hid (upto HA.out (flitOk_3 H1.out H2.out)), bel⟩
        case measure => simp [intOf]; omega
    · go_wp2
      go_ret
      exact ⟨ret_bool (areFl_yes (fun j hj => HA.out j (by omega))).symm, bel⟩
section
variable {ops : Array Oper} {rest : List Oper} {o : Oper} {a : Act} {Q : Exit → Act → World → Prop}
theorem app_F {W0 W : World} (hgd : o.guard = none) (s x : Operand)
    (ho : o.op = .call { callee := .builtin .append, args := #[s, x], argTypes := #[87, 87] })
    (v : Value) (xs : List Flit) (q : Flit) (hs : a.eval s = v) (hx : a.eval x = .slice (some ⟨W.heap.size, 0, none⟩) 1 1)
    (HO : kF.R 102 W W0.heap.size (fun _ => True) v xs) (HB : Below W0.heap.size W0 W) (hl : xs.length ≤ 100000000)
    (h : ∀ v1 w1, kF.R 102 w1 W0.heap.size (fun _ => True) v1 (xs ++ [q]) → Below W0.heap.size W0 w1 → wpList Try.prog ops Q rest (a.put o.dst v1) w1) :
    wpList Try.prog ops Q (o :: rest) a (W.alloc (.cells #[.int .i64 q.pk, .int .i64 q.dst, .int .i64 q.cls, .bool q.head, .bool q.tail] 102)) :=
  app_own kF hgd s x 87 102 (.agg #[.int .i64 0, .int .i64 0, .int .i64 0, .bool false, .bool false]) 32 ho Try.underlying87 info_F rfl (by decide) (by omega) v xs q (fCells q) hs hx rfl HO HB (by omega) h
end
theorem clsOnly_take_len (l : List Flit) (c : Int) (k : Nat) : (clsOnly (l.take k) c).length ≤ k :=
  Nat.le_trans (List.length_filter_le _ _) (by rw [List.length_take]; omega)
theorem clsOnly_yes {l : List Flit} {c : Int} (k : Nat) (hk : k < l.length) (h : (rf l k).cls = c) : clsOnly (l.take (k + 1)) c = clsOnly (l.take k) c ++ [rf l k] := by
  rw [clsOnly_take k hk, if_pos (by simp [h])]
theorem clsOnly_no {l : List Flit} {c : Int} (k : Nat) (hk : k < l.length) (h : ¬ (rf l k).cls = c) : clsOnly (l.take (k + 1)) c = clsOnly (l.take k) c := by
  rw [clsOnly_take k hk, if_neg (by simp [h])]
set_option maxHeartbeats 1000000 in
theorem impl_ClassOnly (l : List Flit) (x : Int) (A : Option Addr) (c : Nat) (w : World) (hr : kF.C w A l.length l) (hn : l.length ≤ 2097152) :
    Calls Try.prog 60 #[.slice A l.length c, .int .i64 x] w fun e w' => GotF w w' (clsOnly l x) e ∧ Below w.heap.size w w' := by
  go_enter Try.func60, Try.ntmps60
  go_wp2
  go_loopw [5, 11] (fun v i wr => ∃ j : Nat, i = .int .i64 j ∧ j ≤ l.length ∧ kF.R 102 wr w.heap.size (fun _ => True) v (clsOnly (l.take j) x) ∧ Below w.heap.size w wr) (fun _ i _ => l.length - (intOf i).toNat)
  case atStart => exact ⟨0, rfl, Nat.zero_le _, R_empty (W0 := w) _ _ (bw_size bel), bel⟩
  case round =>
    obtain ⟨j, rfl, hj, HO, HB⟩ := hrel
    obtain ⟨Ao, co, rfl⟩ := Kd.R_slice HO
    have hlen := clsOnly_take_len l x j
    obtain ⟨hc0, hf0, hz0⟩ := bcell HB
    by_cases hlt : j < l.length
    · obtain ⟨b, off, rfl, hbl, p0, p1, p2, p3, p4⟩ := rdFl_at hr j hlt
      by_cases e1 : (rf l j).cls = x
      · have f1 : ((rf l j).cls == x) = true := beq_iff_eq.2 e1
        have HS := Lib.hid (clsOnly_yes j hlt e1)
        clear e1
        go_wp2_with (at_builtin; refine app_F (W0 := w) rfl (.tmp 19) (.tmp 21) rfl _ (clsOnly (l.take j) x) (rf l j) rfl (by first | rfl | exact congrArg (fun z => Value.slice (some ⟨z, 0, none⟩) 1 1) (World.size_alloc _ _).symm) (by exact Kd.R_below HO bel) bel (by omega) ?_; intro v1 w1 HO1 HB1; obtain ⟨hc1, hf1, hz1⟩ := bcell HB1; (try simp only [szs] at hz1); have hb2 := HB1; have hb9 := HB1)
        go_roundw
        case rel => exact ⟨j + 1, by go_num, by omega, by rw [HS.out]; exact (by exact Kd.R_below HO1 bel), bel⟩
        case measure => simp [intOf]; omega
      · have f1 : ((rf l j).cls == x) = false := beq_eq_false_iff_ne.2 e1
        have HS := Lib.hid (clsOnly_no j hlt e1)
        clear e1
        go_wp2
        go_roundw
        case rel => exact ⟨j + 1, by go_num, by omega, by rw [HS.out]; exact (by exact Kd.R_below HO bel), bel⟩
        case measure => simp [intOf]; omega
    · go_wp2
      go_ret
      have E : clsOnly (l.take j) x = clsOnly l x := by rw [List.take_of_length_le (by omega)]
      exact ⟨(by rw [← E]; exact ⟨_, rfl, (by exact Kd.R_below HO bel)⟩), bel⟩
theorem stp_refl (w : World) : Stp w w := ⟨Below.refl _ _⟩
theorem stp_drew {w W : World} (h : Stp w W) : Stp w W.drew := ⟨bw_drew h.h⟩
theorem stp_then {w W W' : World} (h : Stp w W) (k : Stp W W') : Stp w W' := ⟨bw_then h.h k.h⟩
theorem GotTab.at {w w' : World} {t : List Int} {e : Ending} (h : GotTab w w' t e) : ∃ A c, e = .returned (.agg #[.slice A t.length c]) ∧ Kd.R (Kd.int .i64) 3 w' w.heap.size (fun _ => True) (.slice A t.length c) t := by
  obtain ⟨v, rfl, hr⟩ := h
  obtain ⟨A, c, rfl⟩ := Kd.R_slice hr
  exact ⟨A, c, rfl, hr⟩
set_option maxHeartbeats 1000000 in
theorem impl_copyTable (t : List Int) (A : Option Addr) (c : Nat) (w : World) (hr : Kd.C (Kd.int .i64) w A t.length t) (hn : t.length ≤ 2097152) :
    Calls Try.prog 58 #[.agg #[.slice A t.length c]] w fun e w' => GotTab w w' t e ∧ Below w.heap.size w w' := by
  have R := Lib.hid hr
  clear hr
  go_enter Try.func58, Try.ntmps58
  go_wp2_with (at_builtin; (refine copy_int (B := ((w.alloc (.cells #[.slice A t.length c] 30)).alloc (.cells #[.slice none 0 0] 30)).heap.size) rfl (.tmp 3) (.tmp 5) rfl _ t A c rfl rfl (by with_reducible repeat (first | assumption | (refine lit_new ?_; first | done | rfl | (simp only [World.size_alloc, World.size_drew, World.size_setCell]; done)) | exact lit_new (by simp only [World.size_alloc, World.size_drew, World.size_setCell]) | refine lit_stp (by assumption) ?_ | refine lit_alloc _ ?_ | refine lit_drew ?_)) (by simp only [szs]; omega) (by exact Kd.C_below R.out bel) (by simp only [szs]; omega) (by omega) ?_; intro v1 w1 HO1 hb1 ht1; obtain ⟨A1, c1, rfl⟩ := Kd.R_slice HO1; obtain ⟨hc1, hf1, hz1⟩ := bcell hb1; (try simp only [szs] at hz1); have hb2 := far2; obtain ⟨hc2, hf2, hz2⟩ := bcell hb2; (try simp only [szs] at hz2); try (first | obtain ⟨hy1, hy2, hy3, hy4⟩ := lts4 hz2 | obtain ⟨hy1, hy2, hy3⟩ := lts3 hz2 | obtain ⟨hy1, hy2⟩ := lts2 hz2 | have hy1 := lts1 hz2); have hb9 := hb1))
  exact bodyPost_ret (v := .agg #[.slice A1 t.length c1]) (by simp [results, Try.results58, go_sem, *]) rfl ⟨⟨_, rfl, (by apply Kd.R_lower; (with_reducible repeat (first | exact HO1 | apply R_off | (apply R_belowC; assumption))); all_goals (first | omega | (simp only [szs]; omega)))⟩, bel⟩
set_option maxHeartbeats 2000000 in
theorem impl_copyMesh (m : Mesh) (A : Option Addr) (c : Nat) (w : World) (hr : Kd.C (Kd.int .i64) w A m.br.length m.br) (hn : m.br.length ≤ 2097152) :
    Calls Try.prog 30 #[.agg #[.int .i64 m.g.w, .int .i64 m.g.h, .slice A m.br.length c]] w fun e w' => GotMesh w w' m e ∧ Below w.heap.size w w' := by
  have R := Lib.hid hr
  clear hr
  have xx := (Box.new w w.heap.size #[.int .i64 m.g.w, .int .i64 m.g.h, .slice A m.br.length c] 28 rfl)
  have g0 : (w.alloc (.cells #[.int .i64 m.g.w, .int .i64 m.g.h, .slice A m.br.length c] 28)).cell? ⟨w.heap.size, 0, none⟩ = some (.int .i64 m.g.w) := xx.get 0
  have g1 : (w.alloc (.cells #[.int .i64 m.g.w, .int .i64 m.g.h, .slice A m.br.length c] 28)).cell? ⟨w.heap.size, 1, none⟩ = some (.int .i64 m.g.h) := xx.get 1
  have g2 : (w.alloc (.cells #[.int .i64 m.g.w, .int .i64 m.g.h, .slice A m.br.length c] 28)).cell? ⟨w.heap.size, 2, none⟩ = some (.slice A m.br.length c) := xx.get 2
  clear xx
  go_enter Try.func30, Try.ntmps30
  go_wp2_with fail
  go_region_held3 (fun w' => Below ((w.alloc (.cells #[.int .i64 m.g.w, .int .i64 m.g.h, .slice A m.br.length c] 28))).heap.size ((w.alloc (.cells #[.int .i64 m.g.w, .int .i64 m.g.h, .slice A m.br.length c] 28))) w' ∧ ∀ bq oq, bq < ((w.alloc (.cells #[.int .i64 m.g.w, .int .i64 m.g.h, .slice A m.br.length c] 28))).heap.size → w'.cell? ⟨bq, oq, none⟩ = ((w.alloc (.cells #[.int .i64 m.g.w, .int .i64 m.g.h, .slice A m.br.length c] 28))).cell? ⟨bq, oq, none⟩) (first | exact far_of bel) ( first | (refine copyS_int (B := ((w.alloc (.cells #[.int .i64 m.g.w, .int .i64 m.g.h, .slice A m.br.length c] 28)).alloc (.cells #[.int .i64 0, .int .i64 0, .slice none 0 0] 28)).heap.size) (by rfl) (.tmp 5) (.tmp 7) rfl _ m.br A c rfl rfl (by with_reducible repeat (first | assumption | (refine lit_new ?_; first | done | rfl | (simp only [World.size_alloc, World.size_drew, World.size_setCell]; done)) | exact lit_new (by simp only [World.size_alloc, World.size_drew, World.size_setCell]) | refine lit_stp (by assumption) ?_ | refine lit_alloc _ ?_ | refine lit_drew ?_)) (by simp only [szs]; omega) (by exact Kd.C_below R.out bel) (by simp only [szs]; omega) (by omega) ?_; intro v1 w1 HO1 hb1 ht1; obtain ⟨A1, c1, rfl⟩ := Kd.R_slice HO1; obtain ⟨hc1, hf1, hz1⟩ := bcell hb1; (try simp only [szs] at hz1); have hb2 := far2; obtain ⟨hc2, hf2, hz2⟩ := bcell hb2; (try simp only [szs] at hz2); try (first | obtain ⟨hy1, hy2, hy3, hy4⟩ := lts4 hz2 | obtain ⟨hy1, hy2, hy3⟩ := lts3 hz2 | obtain ⟨hy1, hy2⟩ := lts2 hz2 | have hy1 := lts1 hz2); have hb9 := hb1))
  all_goals go_wp2
  all_goals exact bodyPost_ret (v := .agg #[.int .i64 m.g.w, .int .i64 m.g.h, .slice A1 m.br.length c1]) (by simp [results, Try.results30, go_sem, *]) rfl ⟨⟨_, rfl, (by apply Kd.R_lower; (with_reducible repeat (first | exact HO1 | apply R_off | (apply R_belowC; assumption))); all_goals (first | omega | (simp only [szs]; omega)))⟩, bel⟩
set_option maxHeartbeats 2000000 in
theorem impl_copyClasses (pa pb : List Int) (A B : Option Addr) (c d : Nat) (w : World) (hr : Kd.C (Kd.int .i64) w A pa.length pa) (hn : pa.length ≤ 2097152) (hs : Kd.C (Kd.int .i64) w B pb.length pb) (hm : pb.length ≤ 2097152) :
    Calls Try.prog 31 #[.agg #[.slice A pa.length c, .slice B pb.length d]] w fun e w' => GotCls w w' pa pb e ∧ Below w.heap.size w w' := by
  have R := Lib.hid hr
  have S := Lib.hid hs
  clear hr hs
  have xx := (Box.new w w.heap.size #[.slice A pa.length c, .slice B pb.length d] 32 rfl)
  have g0 : (w.alloc (.cells #[.slice A pa.length c, .slice B pb.length d] 32)).cell? ⟨w.heap.size, 0, none⟩ = some (.slice A pa.length c) := xx.get 0
  have g1 : (w.alloc (.cells #[.slice A pa.length c, .slice B pb.length d] 32)).cell? ⟨w.heap.size, 1, none⟩ = some (.slice B pb.length d) := xx.get 1
  clear xx
  go_enter Try.func31, Try.ntmps31
  go_wp2_with fail
  go_region_held3 (fun w' => Below ((w.alloc (.cells #[.slice A pa.length c, .slice B pb.length d] 32))).heap.size ((w.alloc (.cells #[.slice A pa.length c, .slice B pb.length d] 32))) w' ∧ ∀ bq oq, bq < ((w.alloc (.cells #[.slice A pa.length c, .slice B pb.length d] 32))).heap.size → w'.cell? ⟨bq, oq, none⟩ = ((w.alloc (.cells #[.slice A pa.length c, .slice B pb.length d] 32))).cell? ⟨bq, oq, none⟩) (first | exact far_of bel) ( first | (go_at_call_of 58 pa; refine (impl_copyTable pa A c _ (by exact Kd.C_below R.out bel) hn).mono ?_; rintro e wa ⟨hg1, hba⟩; obtain ⟨Aa, ca, rfl, HOA⟩ := hg1.at; have sa := bw_size hba; (try simp only [szs] at sa); have hb1 := hba; obtain ⟨hc1, hf1, hz1⟩ := bcell hb1; (try simp only [szs] at hz1); have hb2 := far2; obtain ⟨hc2, hf2, hz2⟩ := bcell hb2; (try simp only [szs] at hz2); try (first | obtain ⟨hy1, hy2, hy3, hy4⟩ := lts4 hz2 | obtain ⟨hy1, hy2, hy3⟩ := lts3 hz2 | obtain ⟨hy1, hy2⟩ := lts2 hz2 | have hy1 := lts1 hz2); have hb9 := hb1) | (go_at_call_of 58 pb; refine (impl_copyTable pb B d _ (by exact Kd.C_below S.out bel) hm).mono ?_; rintro e wb ⟨hg1, hbb⟩; obtain ⟨Ab, cb, rfl, HOB⟩ := hg1.at; have sb := bw_size hbb; (try simp only [szs] at sb); have hb1 := hbb; obtain ⟨hc1, hf1, hz1⟩ := bcell hb1; (try simp only [szs] at hz1); have hb2 := far2; obtain ⟨hc2, hf2, hz2⟩ := bcell hb2; (try simp only [szs] at hz2); try (first | obtain ⟨hy1, hy2, hy3, hy4⟩ := lts4 hz2 | obtain ⟨hy1, hy2, hy3⟩ := lts3 hz2 | obtain ⟨hy1, hy2⟩ := lts2 hz2 | have hy1 := lts1 hz2); have hb9 := hb1))
  all_goals go_wp2
  all_goals exact bodyPost_ret (v := .agg #[.slice Aa pa.length ca, .slice Ab pb.length cb]) (by simp [results, Try.results31, go_sem, *]) rfl ⟨⟨_, _, rfl, (by apply Kd.R_lower; (with_reducible repeat (first | exact HOA | apply R_off | (apply R_belowC; assumption))); all_goals (first | omega | (simp only [szs]; omega))), (by apply Kd.R_lower; (with_reducible repeat (first | exact HOB | apply R_off | (apply R_belowC; assumption))); all_goals (first | omega | (simp only [szs]; omega))), R_apart HOA HOB (by first | omega | (simp only [szs]; omega))⟩, bel⟩
theorem own_lit0 {e g B sz : Nat} {w : World} (h : Lit e w g) (hB : B ≤ g) : w.ownsRow B e sz (.slice (some ⟨g, 0, none⟩) 0 0) 0 [] :=
  ⟨by simp, .inr ⟨g, 0, #[], rfl, hB, h, Nat.le_refl _, Nat.zero_le _, by simp, by simp⟩⟩
theorem FR.nil (w : World) (lo : Nat) : FR w lo [] [] := ⟨rfl, fun i h => absurd h (Nat.not_lt_zero _), fun i j _ h => absurd h (Nat.not_lt_zero _)⟩
theorem FR.snoc {w : World} {lo : Nat} {vs : List Value} {l : List (List Flit)} {u : Value} {y : List Flit} (h : FR w lo vs l) (hu : kF.R 102 w lo (fun _ => True) u y) (ha : ∀ i : Nat, i < l.length → Apart (vr vs i) u) : FR w lo (vs ++ [u]) (l ++ [y]) := by
  have hl := h.len
  have e1 : ∀ i : Nat, i < l.length → vr (vs ++ [u]) i = vr vs i := fun i hi => vr_left (by omega)
  have e2 : vr (vs ++ [u]) l.length = u := by
    have := vr_right (a := vs) (b := [u]) (i := 0)
    rw [Nat.add_zero, hl] at this
    exact this
  refine ⟨by simp [hl], fun i hi => ?_, fun i j hij hj => ?_⟩
  · rw [List.length_append, List.length_singleton] at hi
    by_cases e : i < l.length
    · rw [e1 i e, rl_left e]
      exact h.row i e
    · obtain rfl : i = l.length := by omega
      rw [e2]
      have := rl_right (a := l) (b := [y]) (i := 0)
      rw [Nat.add_zero] at this
      rw [this]
      exact hu
  · rw [List.length_append, List.length_singleton] at hj
    by_cases e : j < l.length
    · rw [e1 i (by omega), e1 j e]
      exact h.ap i j hij e
    · obtain rfl : j = l.length := by omega
      rw [e2, e1 i hij]
      exact ha i hij
theorem FR.other {w w1 : World} {lo base n : Nat} {vs us : List Value} {l : List (List Flit)} {v : Value} (h : FR w lo vs l) (ho : w.ownsRow base 87 1 v n us) (hg : w.grownBy w1 v.ownBlock) : FR w1 lo vs l :=
  ⟨h.len, fun i hi => by obtain ⟨inner, hin⟩ := Kd.R_own (h.row i hi); exact R_grownF (h.row i hi) hg (own_type_ne hin ho (by decide)), h.ap⟩
theorem RF_other {w w1 : World} {lo base n : Nat} {us : List Value} {u : Value} {y : List Flit} {v : Value} (h : kF.R 102 w lo (fun _ => True) u y) (ho : w.ownsRow base 87 1 v n us) (hg : w.grownBy w1 v.ownBlock) : kF.R 102 w1 lo (fun _ => True) u y := by
  obtain ⟨inner, hin⟩ := Kd.R_own h
  exact R_grownF h hg (own_type_ne hin ho (by decide))
def GotOX (w w' : World) (l : List (List Flit)) (e : Ending) : Prop := ∃ A c vs, e = .returned (.slice A l.length c) ∧ w'.ownsRow w.heap.size 87 1 (.slice A l.length c) l.length vs ∧ FR w' w.heap.size vs l
theorem take_snocB (l : List (List Flit)) (k : Nat) (hk : k < l.length) : l.take (k + 1) = l.take k ++ [rl l k] := by
  have : rl l (k : Int) = l[k] := by simp [rl, List.getD_eq_getElem?_getD, hk]
  rw [this, List.take_succ_eq_append_getElem hk]
section
variable {ops : Array Oper} {rest : List Oper} {o : Oper} {a : Act} {Q : Exit → Act → World → Prop}
theorem app_row {B : Nat} {W0 W : World} (hgd : o.guard = none) (s x : Operand)
    (ho : o.op = .call { callee := .builtin .append, args := #[s, x], argTypes := #[36, 36] })
    (v u : Value) (vs : List Value) (l : List (List Flit)) (y : List Flit) (hs : a.eval s = v) (hx : a.eval x = .slice (some ⟨W.heap.size, 0, none⟩) 1 1) (h1 : u.oneCell' = true)
    (HO : W.ownsRow B 87 1 v vs.length vs) (HF : FR W B vs l) (HU : kF.R 102 W B (fun _ => True) u y) (ha : ∀ i : Nat, i < l.length → Apart (vr vs i) u)
    (HB : Below B W0 W) (hB : B ≤ W.heap.size) (hl : vs.length ≤ 10000000)
    (h : ∀ v1 w1, w1.ownsRow B 87 1 v1 (vs ++ [u]).length (vs ++ [u]) → FR w1 B (vs ++ [u]) (l ++ [y]) → Below B W0 w1 → wpList Try.prog ops Q rest (a.put o.dst v1) w1) : wpList Try.prog ops Q (o :: rest) a (W.alloc (.cells #[u] 87)) := by
  refine print_append (P := Try.prog) (w0 := W0) B hgd s x 36 87 (.slice none 0 0) 24 ho Try.underlying36 info_B rfl (by omega) v vs u hs hx h1 HO HB hB (by omega) ?_
  intro v1 w1 hown hb hg hat
  exact h v1 w1 hown ((HF.other HO hg).snoc (RF_other HU HO hg) ha) hb
end
set_option maxHeartbeats 2000000 in
set_option maxRecDepth 100000 in
theorem impl_copyLists (l : List (List Flit)) (A : Option Addr) (c : Nat) (w : World) (hr : (kB 102).C w A l.length l) (hn : l.length ≤ 2097152) (hm : Hid (∀ x ∈ l, x.length ≤ 2097152)) :
    Calls Try.prog 59 #[.slice A l.length c] w fun e w' => GotOX w w' l e ∧ Below w.heap.size w w' := by
  go_enter Try.func59, Try.ntmps59
  go_wp2
  go_loopw [3, 9] (fun v i wr => ∃ vs : List Value, i = .int .i64 vs.length ∧ vs.length ≤ l.length ∧ Hid (wr.ownsRow w.heap.size 87 1 v vs.length vs) ∧ Hid (FR wr w.heap.size vs (l.take vs.length)) ∧ Below w.heap.size w wr) (fun _ i _ => l.length - (intOf i).toNat)
  case atStart => exact ⟨[], rfl, Nat.zero_le _, Lib.hid (own_lit0 (lit_new rfl) (Nat.le_refl _)), Lib.hid (FR.nil _ _), bel⟩
  case round =>
    obtain ⟨vs, rfl, hk, HO, HF, HB⟩ := hrel
    obtain ⟨Ao, co, rfl⟩ := own_slice HO.out
    have hzr := bw_size HB
    by_cases hlt : vs.length < l.length
    · have i0 : (vs.length : Int) < (l.length : Int) := by omega
      have k0 : (0 : Int) ≤ (vs.length : Int) := by omega
      obtain ⟨b, off, rfl, hb, Ai, ci, p0, hle, hCi⟩ := rdB_at (Kd.C_below hr HB) vs.length hlt
      have hki := hm.out _ (rl_mem hlt)
      have HT := Lib.hid (take_snocB l vs.length hlt)
      have HW : Hid (∀ i : Nat, i < (l.take vs.length).length → Within (vr vs i) w.heap.size wr.heap.size) := Lib.hid (fun i hi => within_R (HF.out.row i hi))
      go_wp2_with (first | (at_builtin; refine copy_F (B := w.heap.size) rfl (.tmp 14) (.tmp 15) rfl _ (rl l vs.length) Ai ci rfl rfl (by with_reducible repeat (first | assumption | (refine lit_new ?_; first | done | rfl | (simp only [World.size_alloc, World.size_drew, World.size_setCell]; done)) | exact lit_new (by simp only [World.size_alloc, World.size_drew, World.size_setCell]) | refine lit_stp (by assumption) ?_ | refine lit_alloc _ ?_ | refine lit_drew ?_)) (by first | omega | (simp only [szs]; omega)) (by exact Kd.C_below hCi bel) (by first | omega | (simp only [szs]; omega)) (by omega) ?_; intro v1 w1 HO1 hb1 ht1; obtain ⟨A1, c1, rfl⟩ := Kd.R_slice HO1; have hz1 := bw_size hb1; (try simp only [szs] at hz1); have HT1 := Lib.hid ht1; clear ht1) | (at_builtin; refine app_row (W0 := w) rfl (.tmp 13) (.tmp 17) rfl _ _ vs (l.take vs.length) (rl l vs.length) rfl (by first | rfl | exact congrArg (fun z => Value.slice (some ⟨z, 0, none⟩) 1 1) (World.size_alloc _ _).symm) rfl (by exact pw_own_below HO.out bel) (by exact HF.out.below bel) HO1 (fun i hi => apart_of (HW.out i hi) HT1.out (fun k => by (try simp only [szs]); omega)) bel (by first | omega | (simp only [szs]; omega)) (by omega) ?_; intro v2 w2 HO2 HF2 HB2))
      go_roundw
      case rel => exact ⟨vs ++ [.slice A1 (rl l vs.length).length c1], by rw [List.length_append, List.length_singleton]; go_num, by simp; omega, Lib.hid HO2, Lib.hid (by rw [List.length_append, List.length_singleton, HT.out]; exact HF2), HB2⟩
      case measure => simp [intOf]; omega
    · have e : vs.length = l.length := by omega
      have HE := Lib.hid e
      have i0 : ¬ (vs.length : Int) < (l.length : Int) := by omega
      clear e
      go_wp2
      have hF := HF.out
      have hO := HO.out
      rw [HE.out, List.take_length] at hF
      go_ret
      refine ⟨⟨Ao, co, vs, by rw [HE.out]; rfl, by rw [HE.out] at hO; exact hO, hF⟩, HB⟩
def GotNX (w w' : World) (n : Net) (e : Ending) : Prop := ∃ q v4 v7 v8, e = .returned (.agg (netCells n q)) ∧ NX w' w.heap.size n q v4 v7 v8
theorem own_within {w : World} {base e sz n : Nat} {v : Value} {xs : List Value} (h : w.ownsRow base e sz v n xs) : Within v base w.heap.size := fun k hk => ⟨own_base h k hk, own_lt h k hk⟩
theorem FR.append {w : World} {lo : Nat} {vs us : List Value} {l m : List (List Flit)} (h : FR w lo vs l) (k : FR w lo us m) (ha : ∀ i j : Nat, i < l.length → j < m.length → Apart (vr vs i) (vr us j)) : FR w lo (vs ++ us) (l ++ m) := by
  have hl := h.len
  have e1 : ∀ i : Nat, i < l.length → vr (vs ++ us) i = vr vs i := fun i hi => vr_left (by omega)
  have e2 : ∀ i : Nat, vr (vs ++ us) (l.length + i) = vr us i := fun i => by rw [← hl]; exact vr_right
  refine ⟨by simp [hl, k.len], fun i hi => ?_, fun i j hij hj => ?_⟩
  · rw [List.length_append] at hi
    by_cases e : i < l.length
    · rw [e1 i e, rl_left e]
      exact h.row i e
    · obtain ⟨d, rfl⟩ : ∃ d, i = l.length + d := ⟨i - l.length, by omega⟩
      rw [e2, rl_right]
      exact k.row d (by omega)
  · rw [List.length_append] at hj
    by_cases e : j < l.length
    · rw [e1 i (by omega), e1 j e]
      exact h.ap i j hij e
    · obtain ⟨d, rfl⟩ : ∃ d, j = l.length + d := ⟨j - l.length, by omega⟩
      rw [e2]
      by_cases e3 : i < l.length
      · rw [e1 i e3]
        exact ha i d e3 (by omega)
      · obtain ⟨c, rfl⟩ : ∃ c, i = l.length + c := ⟨i - l.length, by omega⟩
        rw [e2]
        exact k.ap c d (by omega) (by omega)
theorem FR.set {w : World} {lo : Nat} {vs : List Value} {l : List (List Flit)} (h : FR w lo vs l) {g : Nat} (hg : g < lo) (j : Nat) (u : Value) : FR (w.setCell ⟨g, j, none⟩ u) lo vs l :=
  ⟨h.len, fun i hi => R_off (h.row i hi) hg j u, h.ap⟩
theorem all5 {v0 v1 v2 v3 v4 : Value} (h01 : Ap0 v0 v1) (h02 : Ap0 v0 v2) (h03 : Ap0 v0 v3) (h04 : Ap0 v0 v4) (h12 : Ap0 v1 v2) (h13 : Ap0 v1 v3) (h14 : Ap0 v1 v4) (h23 : Ap0 v2 v3) (h24 : Ap0 v2 v4) (h34 : Ap0 v3 v4) : AllAp0 5 [v0, v1, v2, v3, v4] := by
  intro i j hij hj
  rcases (by omega : j = 1 ∨ j = 2 ∨ j = 3 ∨ j = 4) with rfl | rfl | rfl | rfl
  · obtain rfl : i = 0 := by omega
    exact h01
  · rcases (by omega : i = 0 ∨ i = 1) with rfl | rfl
    · exact h02
    · exact h12
  · rcases (by omega : i = 0 ∨ i = 1 ∨ i = 2) with rfl | rfl | rfl
    · exact h03
    · exact h13
    · exact h23
  · rcases (by omega : i = 0 ∨ i = 1 ∨ i = 2 ∨ i = 3) with rfl | rfl | rfl | rfl
    · exact h04
    · exact h14
    · exact h24
    · exact h34
theorem all3 {v0 v1 v2 : Value} (h01 : Apart v0 v1) (h02 : Apart v0 v2) (h12 : Apart v1 v2) : AllAp 3 [v0, v1, v2] := by
  intro i j hij hj
  rcases (by omega : j = 1 ∨ j = 2) with rfl | rfl
  · obtain rfl : i = 0 := by omega
    exact h01
  · rcases (by omega : i = 0 ∨ i = 1) with rfl | rfl
    · exact h02
    · exact h12
theorem NX.off {w : World} {lo : Nat} {n : Net} {q : NA} {v4 v7 v8 : List Value} (h : NX w lo n q v4 v7 v8) {g : Nat} (hg : g < lo) (j : Nat) (u : Value) : NX (w.setCell ⟨g, j, none⟩ u) lo n q v4 v7 v8 := by
  have ne : ∀ {e m : Nat} {v : Value} {xs : List Value}, w.ownsRow lo e 1 v m xs → some g ≠ v.ownBlock := fun ho e => by
    have := own_base ho g e.symm
    omega
  exact ⟨R_off h.br hg j u, R_off h.pa hg j u, R_off h.pb hg j u, R_off h.owners hg j u, R_off h.turns hg j u, own_setCell h.bufs (p := ⟨g, j, none⟩) (ne h.bufs) u, own_setCell h.srcs (p := ⟨g, j, none⟩) (ne h.srcs) u, own_setCell h.arrs (p := ⟨g, j, none⟩) (ne h.arrs) u, h.rows.set hg j u, h.apI, h.apO⟩
structure OXU (w : World) (lo hi : Nat) (v : Value) (l : List (List Flit)) (vs : List Value) : Prop where
  own : w.ownsRow lo 87 1 v l.length vs
  top : Within v lo hi
  rows : FR w lo vs l
  wit : ∀ i : Nat, i < l.length → Within (vr vs i) lo hi
theorem OXU.stp {w w1 : World} {lo hi : Nat} {v : Value} {l : List (List Flit)} {vs : List Value} (h : OXU w lo hi v l vs) (hs : Stp w w1) : OXU w1 lo hi v l vs := ⟨pw_own_below h.own hs.h, h.top, h.rows.below hs.h, h.wit⟩
structure PX where
  A : Option Addr
  c : Nat
  A2 : Option Addr
  c2 : Nat
  vs : List Value
  lo : Nat
  hi : Nat
def PX.mk0 (A : Option Addr) (c lo hi : Nat) : PX := ⟨A, c, none, 0, [], lo, hi⟩
def gI (p : Nat) (y : PX) (xs : List Int) (w : World) : Prop := p ≤ y.lo ∧ y.lo ≤ y.hi ∧ y.hi ≤ w.heap.size ∧ RU (Kd.int .i64) 3 w y.lo y.hi (.slice y.A xs.length y.c) xs
def gC (p : Nat) (y : PX) (xs ys : List Int) (w : World) : Prop := p ≤ y.lo ∧ y.lo ≤ y.hi ∧ y.hi ≤ w.heap.size ∧ RU (Kd.int .i64) 3 w y.lo y.hi (.slice y.A xs.length y.c) xs ∧ RU (Kd.int .i64) 3 w y.lo y.hi (.slice y.A2 ys.length y.c2) ys ∧ Apart (.slice y.A xs.length y.c) (.slice y.A2 ys.length y.c2)
def gL (p : Nat) (y : PX) (l : List (List Flit)) (w : World) : Prop := p ≤ y.lo ∧ y.lo ≤ y.hi ∧ y.hi ≤ w.heap.size ∧ OXU w y.lo y.hi (.slice y.A l.length y.c) l y.vs
def gA (B p : Nat) (y : PX) (xs : List Int) (w : World) : Prop := p ≤ y.lo ∧ y.lo ≤ y.hi ∧ y.hi ≤ w.heap.size ∧ Kd.R (Kd.int .i64) 3 w B (fun _ => True) (.slice y.A xs.length y.c) xs ∧ (xs.length = 0 ∨ Within (.slice y.A xs.length y.c) y.lo y.hi)
theorem gI.stp {p : Nat} {y : PX} {xs : List Int} {w w1 : World} (h : gI p y xs w) (hs : Stp w w1) : gI p y xs w1 := ⟨h.1, h.2.1, Nat.le_trans h.2.2.1 hs.h.size, h.2.2.2.below hs.h⟩
theorem gC.stp {p : Nat} {y : PX} {xs ys : List Int} {w w1 : World} (h : gC p y xs ys w) (hs : Stp w w1) : gC p y xs ys w1 := ⟨h.1, h.2.1, Nat.le_trans h.2.2.1 hs.h.size, h.2.2.2.1.below hs.h, h.2.2.2.2.1.below hs.h, h.2.2.2.2.2⟩
theorem gL.stp {p : Nat} {y : PX} {l : List (List Flit)} {w w1 : World} (h : gL p y l w) (hs : Stp w w1) : gL p y l w1 := ⟨h.1, h.2.1, Nat.le_trans h.2.2.1 hs.h.size, h.2.2.2.stp hs⟩
theorem gA.stp {B p : Nat} {y : PX} {xs : List Int} {w w1 : World} (h : gA B p y xs w) (hs : Stp w w1) : gA B p y xs w1 := ⟨h.1, h.2.1, Nat.le_trans h.2.2.1 hs.h.size, Kd.R_below h.2.2.2.1 hs.h, h.2.2.2.2⟩
theorem ap0_of {u v : Value} (h : Apart u v) : Ap0 u v := .inr (.inr h)
theorem NX.parts {w : World} {B : Nat} {n : Net} {ym yc yb yo yt ys ya : PX} (hm : gI B ym n.mesh.br w) (hc : gC ym.hi yc n.pa n.pb w) (hb : gL yc.hi yb n.bufs w) (ho : gA B yb.hi yo n.owners w) (ht : gA B yo.hi yt n.turns w) (hs : gL yt.hi ys n.srcs w) (ha : gL ys.hi ya n.arrs w) :
    NX w B n ⟨ym.A, yc.A, yc.A2, yb.A, yo.A, yt.A, ys.A, ya.A, ym.c, yc.c, yc.c2, yb.c, yo.c, yt.c, ys.c, ya.c⟩ yb.vs ys.vs ya.vs := by
  obtain ⟨m1, m2, m3, m4⟩ := hm
  obtain ⟨c1, c2, c3, c4, c5, c6⟩ := hc
  obtain ⟨b1, b2, b3, b4⟩ := hb
  obtain ⟨o1, o2, o3, o4, o5⟩ := ho
  obtain ⟨t1, t2, t3, t4, t5⟩ := ht
  obtain ⟨s1, s2, s3, s4⟩ := hs
  obtain ⟨a1, a2, a3, a4⟩ := ha
  have hW : ∀ {v : Value} {p q r s : Nat} {u : Value} {k : Nat}, Within u p q → (k = 0 ∨ Within v r s) → q ≤ r → vlen v = k → Ap0 u v := fun h1 h2 h3 h4 => by
    rcases h2 with h2 | h2
    · exact .inr (.inl (h4.trans h2))
    · exact .inr (.inr (apart_lt h1 h2 h3))
  refine ⟨Kd.R_lower m4.row m1, Kd.R_lower c4.row (by omega), Kd.R_lower c5.row (by omega), o4, t4, own_weaken b4.own (by omega), own_weaken s4.own (by omega), own_weaken a4.own (by omega), ?_, ?_, ?_⟩
  · refine (b4.rows.lower (by omega)).append ((s4.rows.lower (by omega)).append (a4.rows.lower (by omega)) (fun i j hi hj => apart_lt (s4.wit i hi) (a4.wit j hj) a1)) (fun i j hi hj => ?_)
    rw [List.length_append] at hj
    by_cases e : j < n.srcs.length
    · rw [vr_left (by rw [s4.rows.len]; exact e)]
      exact apart_lt (b4.wit i hi) (s4.wit j e) (by omega)
    · obtain ⟨d, rfl⟩ : ∃ d, j = n.srcs.length + d := ⟨j - n.srcs.length, by omega⟩
      rw [← s4.rows.len, vr_right]
      exact apart_lt (b4.wit i hi) (a4.wit d (by omega)) (by omega)
  · refine all5 (ap0_of (apart_lt m4.within c4.within c1)) (ap0_of (apart_lt m4.within c5.within c1)) (hW m4.within o5 (by omega) rfl) (hW m4.within t5 (by omega) rfl) (ap0_of c6) (hW c4.within o5 (by omega) rfl) (hW c4.within t5 (by omega) rfl) (hW c5.within o5 (by omega) rfl) (hW c5.within t5 (by omega) rfl) ?_
    rcases o5 with o5 | o5
    · exact .inl o5
    · exact hW o5 t5 (by omega) rfl
  · exact all3 (apart_lt b4.top s4.top (by omega)) (apart_lt b4.top a4.top (by omega)) (apart_lt s4.top a4.top (by omega))
theorem gA.of {B p g : Nat} {w w1 : World} {v1 : Value} {A : Option Addr} {c : Nat} {xs : List Int} (hp : p ≤ w.heap.size) (hr : Kd.R (Kd.int .i64) 3 w1 B (fun _ => True) v1 xs) (hv : v1 = .slice A xs.length c) (hb : Below w.heap.size w w1) (ha : At2 g w.heap.size w1.heap.size v1) (hg : g < w.heap.size) (hL : Lit 3 w g) : gA B p (PX.mk0 A c w.heap.size w1.heap.size) xs w1 := by
  subst hv
  refine ⟨hp, hb.size, Nat.le_refl _, hr, ?_⟩
  by_cases h0 : xs.length = 0
  · exact .inl h0
  · right
    intro k hk
    rcases ha k hk with e | e
    · exfalso
      subst e
      obtain ⟨inner, hin⟩ := Kd.R_own hr
      obtain ⟨g', cap, e1, h1, h2⟩ := hin.form (by omega)
      have hk2 : (Value.slice A xs.length c).ownBlock = some k := hk
      rw [e1] at hk2
      have e2 : g' = k := Option.some.inj hk2
      subst e2
      rcases hin.2 with ⟨_, e3⟩ | ⟨g'', cap', cur, e3, h4, h5, h6, h7, h8, h9⟩
      · omega
      · rw [e1] at e3
        injection e3 with e4 e5 e6
        injection e4 with e4
        injection e4 with e4
        subst e4
        have hc2 := hb.block g' hg
        rw [h5] at hc2
        unfold Lit at hL
        rw [hL] at hc2
        have hc3 := Obj.cells.inj (Option.some.inj hc2)
        rw [hc3.1] at h8
        have h11 : (0 : Nat) = cap' * 1 := h8
        omega
    · exact e
set_option maxHeartbeats 8000000 in
set_option maxRecDepth 100000 in
theorem impl_copyNet (n : Net) (q : NA) (w : World) (hr : NetR 102 w n q) : Calls Try.prog 32 #[.agg (netCells n q)] w fun e w' => GotNX w w' n e ∧ Below w.heap.size w w' := by
 have R := Lib.hid hr
 clear hr
 obtain ⟨a1, a2, a3, a4, a5, a6, a7, a8, c1, c2, c3, c4, c5, c6, c7, c8⟩ := q
 dsimp only [netCells]
 have hX : ∀ W, Stp ((w.alloc (.cells #[.int .i64 n.mesh.g.w, .int .i64 n.mesh.g.h, .slice a1 n.mesh.br.length c1, .slice a2 n.pa.length c2, .slice a3 n.pb.length c3, .slice a4 n.bufs.length c4, .slice a5 n.owners.length c5, .slice a6 n.turns.length c6, .slice a7 n.srcs.length c7, .slice a8 n.arrs.length c8, .int .i64 n.time] 38)).alloc (.cells #[.int .i64 0, .int .i64 0, .slice none 0 0, .slice none 0 0, .slice none 0 0, .slice none 0 0, .slice none 0 0, .slice none 0 0, .slice none 0 0, .slice none 0 0, .int .i64 0] 38)) W → W.cell? ⟨w.heap.size, 0, none⟩ = some (.int .i64 n.mesh.g.w) ∧ W.cell? ⟨w.heap.size, 1, none⟩ = some (.int .i64 n.mesh.g.h) ∧ W.cell? ⟨w.heap.size, 2, none⟩ = some (.slice a1 n.mesh.br.length c1) ∧ W.cell? ⟨w.heap.size, 3, none⟩ = some (.slice a2 n.pa.length c2) ∧ W.cell? ⟨w.heap.size, 4, none⟩ = some (.slice a3 n.pb.length c3) ∧ W.cell? ⟨w.heap.size, 5, none⟩ = some (.slice a4 n.bufs.length c4) ∧ W.cell? ⟨w.heap.size, 6, none⟩ = some (.slice a5 n.owners.length c5) ∧ W.cell? ⟨w.heap.size, 7, none⟩ = some (.slice a6 n.turns.length c6) ∧ W.cell? ⟨w.heap.size, 8, none⟩ = some (.slice a7 n.srcs.length c7) ∧ W.cell? ⟨w.heap.size, 9, none⟩ = some (.slice a8 n.arrs.length c8) ∧ W.cell? ⟨w.heap.size, 10, none⟩ = some (.int .i64 n.time) := by
  intro W hW
  have hb := ((Box.new w w.heap.size #[.int .i64 n.mesh.g.w, .int .i64 n.mesh.g.h, .slice a1 n.mesh.br.length c1, .slice a2 n.pa.length c2, .slice a3 n.pb.length c3, .slice a4 n.bufs.length c4, .slice a5 n.owners.length c5, .slice a6 n.turns.length c6, .slice a7 n.srcs.length c7, .slice a8 n.arrs.length c8, .int .i64 n.time] 38 rfl).alloc (.cells #[.int .i64 0, .int .i64 0, .slice none 0 0, .slice none 0 0, .slice none 0 0, .slice none 0 0, .slice none 0 0, .slice none 0 0, .slice none 0 0, .slice none 0 0, .int .i64 0] 38)).below hW.h
  exact ⟨hb.get 0, hb.get 1, hb.get 2, hb.get 3, hb.get 4, hb.get 5, hb.get 6, hb.get 7, hb.get 8, hb.get 9, hb.get 10⟩
 have hRW : ∀ W, Stp ((w.alloc (.cells #[.int .i64 n.mesh.g.w, .int .i64 n.mesh.g.h, .slice a1 n.mesh.br.length c1, .slice a2 n.pa.length c2, .slice a3 n.pb.length c3, .slice a4 n.bufs.length c4, .slice a5 n.owners.length c5, .slice a6 n.turns.length c6, .slice a7 n.srcs.length c7, .slice a8 n.arrs.length c8, .int .i64 n.time] 38)).alloc (.cells #[.int .i64 0, .int .i64 0, .slice none 0 0, .slice none 0 0, .slice none 0 0, .slice none 0 0, .slice none 0 0, .slice none 0 0, .slice none 0 0, .slice none 0 0, .int .i64 0] 38)) W → NetR 102 W n ⟨a1, a2, a3, a4, a5, a6, a7, a8, c1, c2, c3, c4, c5, c6, c7, c8⟩ := fun W hW => R.out.below (bw_then (bw_alloc _ (bw_alloc _ (bw_refl w))) hW.h)
 have HX := Lib.hid hX
 have HR := Lib.hid hRW
 clear hX hRW
 go_enter Try.func32, Try.ntmps32
 go_wp2_with fail
 refine wp_region_lo (((w.alloc (.cells #[.int .i64 n.mesh.g.w, .int .i64 n.mesh.g.h, .slice a1 n.mesh.br.length c1, .slice a2 n.pa.length c2, .slice a3 n.pb.length c3, .slice a4 n.bufs.length c4, .slice a5 n.owners.length c5, .slice a6 n.turns.length c6, .slice a7 n.srcs.length c7, .slice a8 n.arrs.length c8, .int .i64 n.time] 38)).alloc (.cells #[.int .i64 0, .int .i64 0, .slice none 0 0, .slice none 0 0, .slice none 0 0, .slice none 0 0, .slice none 0 0, .slice none 0 0, .slice none 0 0, .slice none 0 0, .int .i64 0] 38))).heap.size (Stp (((w.alloc (.cells #[.int .i64 n.mesh.g.w, .int .i64 n.mesh.g.h, .slice a1 n.mesh.br.length c1, .slice a2 n.pa.length c2, .slice a3 n.pb.length c3, .slice a4 n.bufs.length c4, .slice a5 n.owners.length c5, .slice a6 n.turns.length c6, .slice a7 n.srcs.length c7, .slice a8 n.arrs.length c8, .int .i64 n.time] 38)).alloc (.cells #[.int .i64 0, .int .i64 0, .slice none 0 0, .slice none 0 0, .slice none 0 0, .slice none 0 0, .slice none 0 0, .slice none 0 0, .slice none 0 0, .slice none 0 0, .int .i64 0] 38)))) (fun _ => 3) (fun i => [.pointer (some ⟨w.heap.size, 0, none⟩), .agg #[.int .i64 n.mesh.g.w, .int .i64 n.mesh.g.h, .slice a1 n.mesh.br.length c1], .int .i64 0, .pointer (some ⟨w.heap.size, 3, none⟩), .agg #[.slice a2 n.pa.length c2, .slice a3 n.pb.length c3], .int .i64 0, .pointer (some ⟨w.heap.size, 5, none⟩), .slice a4 n.bufs.length c4, .int .i64 0, .int .i64 0, .pointer (some ⟨w.heap.size, 6, none⟩), .slice a5 n.owners.length c5, .int .i64 0, .int .i64 0, .pointer (some ⟨w.heap.size, 7, none⟩), .slice a6 n.turns.length c6, .int .i64 0, .pointer (some ⟨w.heap.size, 8, none⟩), .slice a7 n.srcs.length c7, .int .i64 0, .pointer (some ⟨w.heap.size, 9, none⟩), .slice a8 n.arrs.length c8, .int .i64 0, .pointer (some ⟨w.heap.size, 10, none⟩), .int .i64 n.time, .int .i64 0].getD i undef) 26 [(0, .quiet), (1, .quiet), (2, .chain), (3, .quiet), (4, .quiet), (5, .chain), (6, .quiet), (7, .quiet), (8, .chain), (9, .lit), (10, .quiet), (11, .quiet), (12, .chain), (13, .lit), (14, .quiet), (15, .quiet), (16, .chain), (17, .quiet), (18, .quiet), (19, .chain), (20, .quiet), (21, .quiet), (22, .chain), (23, .quiet), (24, .quiet), (25, .chain)] (by kernel_rfl) (by kernel_rfl) (by kernel_rfl) (by kernel_rfl) (by kernel_rfl) (by kernel_rfl) (by kernel_rfl) (by kernel_rfl) (fun W h => h.h.size) (fun W W' h h' => stp_then h h') (stp_drew (stp_refl _)) ?_
 refine wpLo_q (some 3) rfl rfl (by rfl) (fun W hC => ?_) ?_
 ·obtain ⟨x0, x1, x2, x3, x4, x5, x6, x7, x8, x9, x10⟩ := HX.out W hC
  go_simp
  try rfl
 try simp only [Act.put, nms]
 refine wpLo_q (some 4) rfl rfl (by rfl) (fun W hC => ?_) ?_
 ·obtain ⟨x0, x1, x2, x3, x4, x5, x6, x7, x8, x9, x10⟩ := HX.out W hC
  go_simp
  try rfl
 try simp only [Act.put, nms]
 refine wpLo_c (some 5) rfl rfl (by rfl) (PX.mk0 none 0 0 0) (fun y => .agg #[.int .i64 n.mesh.g.w, .int .i64 n.mesh.g.h, .slice y.A n.mesh.br.length y.c]) (fun y W => gI (((w.alloc (.cells #[.int .i64 n.mesh.g.w, .int .i64 n.mesh.g.h, .slice a1 n.mesh.br.length c1, .slice a2 n.pa.length c2, .slice a3 n.pb.length c3, .slice a4 n.bufs.length c4, .slice a5 n.owners.length c5, .slice a6 n.turns.length c6, .slice a7 n.srcs.length c7, .slice a8 n.arrs.length c8, .int .i64 n.time] 38)).alloc (.cells #[.int .i64 0, .int .i64 0, .slice none 0 0, .slice none 0 0, .slice none 0 0, .slice none 0 0, .slice none 0 0, .slice none 0 0, .slice none 0 0, .slice none 0 0, .int .i64 0] 38))).heap.size y n.mesh.br W) (fun y W W' h h' => h.stp h') (fun W hF hC => ?_) (fun ym => ?_)
 ·refine LoOp.enter (by go_simp; first | done | exact ⟨rfl, rfl⟩ | rfl) ?_
  refine (impl_copyMesh n.mesh a1 c1 W (HR.out W hC).br (HR.out W hC).h1).mono ?_
  rintro e W1 ⟨hg1, hb1⟩
  obtain ⟨v, rfl, hO⟩ := hg1
  obtain ⟨A, c, rfl⟩ := Kd.R_slice hO
  exact ⟨_, rfl, PX.mk0 A c W.heap.size W1.heap.size, rfl, ⟨hb1⟩, hC.h.size, hb1.size, Nat.le_refl _, RU.of hO (Nat.le_refl _) (Nat.le_refl _)⟩
 try simp only [Act.put, nms]
 refine wpLo_q (some 6) rfl rfl (by rfl) (fun W hC => ?_) ?_
 ·obtain ⟨x0, x1, x2, x3, x4, x5, x6, x7, x8, x9, x10⟩ := HX.out W hC
  go_simp
  try rfl
 try simp only [Act.put, nms]
 refine wpLo_q (some 7) rfl rfl (by rfl) (fun W hC => ?_) ?_
 ·obtain ⟨x0, x1, x2, x3, x4, x5, x6, x7, x8, x9, x10⟩ := HX.out W hC
  go_simp
  try rfl
 try simp only [Act.put, nms]
 refine wpLo_c (some 8) rfl rfl (by rfl) (PX.mk0 none 0 0 0) (fun y => .agg #[.slice y.A n.pa.length y.c, .slice y.A2 n.pb.length y.c2]) (fun y W => gC ym.hi y n.pa n.pb W) (fun y W W' h h' => h.stp h') (fun W hF hC => ?_) (fun yc => ?_)
 ·refine LoOp.enter (by go_simp; first | done | exact ⟨rfl, rfl⟩ | rfl) ?_
  refine (impl_copyClasses n.pa n.pb a2 a3 c2 c3 W (HR.out W hC).pa (HR.out W hC).h2 (HR.out W hC).pb (HR.out W hC).h3).mono ?_
  rintro e W1 ⟨hg1, hb1⟩
  obtain ⟨va, vb, rfl, hO, hP, hap⟩ := hg1
  obtain ⟨A, c, rfl⟩ := Kd.R_slice hO
  obtain ⟨A2, c2, rfl⟩ := Kd.R_slice hP
  exact ⟨_, rfl, ⟨A, c, A2, c2, [], W.heap.size, W1.heap.size⟩, rfl, ⟨hb1⟩, hF.2.2.2.1, hb1.size, Nat.le_refl _, RU.of hO (Nat.le_refl _) (Nat.le_refl _), RU.of hP (Nat.le_refl _) (Nat.le_refl _), hap⟩
 try simp only [Act.put, nms]
 refine wpLo_q (some 9) rfl rfl (by rfl) (fun W hC => ?_) ?_
 ·obtain ⟨x0, x1, x2, x3, x4, x5, x6, x7, x8, x9, x10⟩ := HX.out W hC
  go_simp
  try rfl
 try simp only [Act.put, nms]
 refine wpLo_q (some 10) rfl rfl (by rfl) (fun W hC => ?_) ?_
 ·obtain ⟨x0, x1, x2, x3, x4, x5, x6, x7, x8, x9, x10⟩ := HX.out W hC
  go_simp
  try rfl
 try simp only [Act.put, nms]
 refine wpLo_c (some 11) rfl rfl (by rfl) (PX.mk0 none 0 0 0) (fun y => .slice y.A n.bufs.length y.c) (fun y W => gL yc.hi y n.bufs W) (fun y W W' h h' => h.stp h') (fun W hF hC => ?_) (fun yb => ?_)
 ·refine LoOp.enter (by go_simp; first | done | exact ⟨rfl, rfl⟩ | rfl) ?_
  refine (impl_copyLists n.bufs a4 c4 W (HR.out W hC).bufs (HR.out W hC).h4 (Lib.hid (HR.out W hC).h9)).mono ?_
  rintro e W1 ⟨hg1, hb1⟩
  obtain ⟨A, c, vs, rfl, hO, hP⟩ := hg1
  exact ⟨_, rfl, ⟨A, c, none, 0, vs, W.heap.size, W1.heap.size⟩, rfl, ⟨hb1⟩, hF.2.2.2.1, hb1.size, Nat.le_refl _, hO, own_within hO, hP, fun i hi => within_R (hP.row i hi)⟩
 try simp only [Act.put, nms]
 refine wpLo_l (some 12) rfl rfl (by rfl) (fun W => (by go_simp; first | done | rfl)) (fun g9 hg9 => ?_)
 try simp only [Act.put, nms]
 refine wpLo_q (some 13) rfl rfl (by rfl) (fun W hC => ?_) ?_
 ·obtain ⟨x0, x1, x2, x3, x4, x5, x6, x7, x8, x9, x10⟩ := HX.out W hC
  go_simp
  try rfl
 try simp only [Act.put, nms]
 refine wpLo_q (some 14) rfl rfl (by rfl) (fun W hC => ?_) ?_
 ·obtain ⟨x0, x1, x2, x3, x4, x5, x6, x7, x8, x9, x10⟩ := HX.out W hC
  go_simp
  try rfl
 try simp only [Act.put, nms]
 refine wpLo_c (some 15) rfl rfl (by rfl) (PX.mk0 none 0 0 0) (fun y => .slice y.A n.owners.length y.c) (fun y W => gA (((w.alloc (.cells #[.int .i64 n.mesh.g.w, .int .i64 n.mesh.g.h, .slice a1 n.mesh.br.length c1, .slice a2 n.pa.length c2, .slice a3 n.pb.length c3, .slice a4 n.bufs.length c4, .slice a5 n.owners.length c5, .slice a6 n.turns.length c6, .slice a7 n.srcs.length c7, .slice a8 n.arrs.length c8, .int .i64 n.time] 38)).alloc (.cells #[.int .i64 0, .int .i64 0, .slice none 0 0, .slice none 0 0, .slice none 0 0, .slice none 0 0, .slice none 0 0, .slice none 0 0, .slice none 0 0, .slice none 0 0, .int .i64 0] 38))).heap.size yb.hi y n.owners W) (fun y W W' h h' => h.stp h') (fun W hF hC => ?_) (fun yo => ?_)
 ·have hL := hF.2
  have hgW : g9 < W.heap.size := blk_lt hL
  obtain ⟨v1, W1, hr1, hR1, hb1, ha1⟩ := run_copy (Kd.int .i64) 26 26 3 (.int .i64 0) 8 Try.underlying26 info_int rfl (by decide) (by omega) KM_int K1_int g9 n.owners a5 n.owners.length c5 hL hg9 (HR.out W hC).owners hC.h.size (by have := (HR.out W hC).h5; omega)
  obtain ⟨A, c, rfl⟩ := Kd.R_slice hR1
  refine LoOp.val (v := .slice A n.owners.length c) (w1 := W1) (run_append_op rfl rfl rfl hr1) ?_
  exact ⟨PX.mk0 A c W.heap.size W1.heap.size, rfl, ⟨hb1⟩, gA.of hF.1.2.2.2.1 hR1 rfl hb1 ha1 hgW hL⟩
 try simp only [Act.put, nms]
 refine wpLo_l (some 16) rfl rfl (by rfl) (fun W => (by go_simp; first | done | rfl)) (fun g13 hg13 => ?_)
 try simp only [Act.put, nms]
 refine wpLo_q (some 17) rfl rfl (by rfl) (fun W hC => ?_) ?_
 ·obtain ⟨x0, x1, x2, x3, x4, x5, x6, x7, x8, x9, x10⟩ := HX.out W hC
  go_simp
  try rfl
 try simp only [Act.put, nms]
 refine wpLo_q (some 18) rfl rfl (by rfl) (fun W hC => ?_) ?_
 ·obtain ⟨x0, x1, x2, x3, x4, x5, x6, x7, x8, x9, x10⟩ := HX.out W hC
  go_simp
  try rfl
 try simp only [Act.put, nms]
 refine wpLo_c (some 19) rfl rfl (by rfl) (PX.mk0 none 0 0 0) (fun y => .slice y.A n.turns.length y.c) (fun y W => gA (((w.alloc (.cells #[.int .i64 n.mesh.g.w, .int .i64 n.mesh.g.h, .slice a1 n.mesh.br.length c1, .slice a2 n.pa.length c2, .slice a3 n.pb.length c3, .slice a4 n.bufs.length c4, .slice a5 n.owners.length c5, .slice a6 n.turns.length c6, .slice a7 n.srcs.length c7, .slice a8 n.arrs.length c8, .int .i64 n.time] 38)).alloc (.cells #[.int .i64 0, .int .i64 0, .slice none 0 0, .slice none 0 0, .slice none 0 0, .slice none 0 0, .slice none 0 0, .slice none 0 0, .slice none 0 0, .slice none 0 0, .int .i64 0] 38))).heap.size yo.hi y n.turns W) (fun y W W' h h' => h.stp h') (fun W hF hC => ?_) (fun yt => ?_)
 ·have hL := hF.2
  have hgW : g13 < W.heap.size := blk_lt hL
  obtain ⟨v1, W1, hr1, hR1, hb1, ha1⟩ := run_copy (Kd.int .i64) 26 26 3 (.int .i64 0) 8 Try.underlying26 info_int rfl (by decide) (by omega) KM_int K1_int g13 n.turns a6 n.turns.length c6 hL hg13 (HR.out W hC).turns hC.h.size (by have := (HR.out W hC).h6; omega)
  obtain ⟨A, c, rfl⟩ := Kd.R_slice hR1
  refine LoOp.val (v := .slice A n.turns.length c) (w1 := W1) (run_append_op rfl rfl rfl hr1) ?_
  exact ⟨PX.mk0 A c W.heap.size W1.heap.size, rfl, ⟨hb1⟩, gA.of hF.1.2.2.2.1 hR1 rfl hb1 ha1 hgW hL⟩
 try simp only [Act.put, nms]
 refine wpLo_q (some 20) rfl rfl (by rfl) (fun W hC => ?_) ?_
 ·obtain ⟨x0, x1, x2, x3, x4, x5, x6, x7, x8, x9, x10⟩ := HX.out W hC
  go_simp
  try rfl
 try simp only [Act.put, nms]
 refine wpLo_q (some 21) rfl rfl (by rfl) (fun W hC => ?_) ?_
 ·obtain ⟨x0, x1, x2, x3, x4, x5, x6, x7, x8, x9, x10⟩ := HX.out W hC
  go_simp
  try rfl
 try simp only [Act.put, nms]
 refine wpLo_c (some 22) rfl rfl (by rfl) (PX.mk0 none 0 0 0) (fun y => .slice y.A n.srcs.length y.c) (fun y W => gL yt.hi y n.srcs W) (fun y W W' h h' => h.stp h') (fun W hF hC => ?_) (fun ys => ?_)
 ·refine LoOp.enter (by go_simp; first | done | exact ⟨rfl, rfl⟩ | rfl) ?_
  refine (impl_copyLists n.srcs a7 c7 W (HR.out W hC).srcs (HR.out W hC).h7 (Lib.hid (HR.out W hC).h10)).mono ?_
  rintro e W1 ⟨hg1, hb1⟩
  obtain ⟨A, c, vs, rfl, hO, hP⟩ := hg1
  exact ⟨_, rfl, ⟨A, c, none, 0, vs, W.heap.size, W1.heap.size⟩, rfl, ⟨hb1⟩, hF.2.2.2.1, hb1.size, Nat.le_refl _, hO, own_within hO, hP, fun i hi => within_R (hP.row i hi)⟩
 try simp only [Act.put, nms]
 refine wpLo_q (some 23) rfl rfl (by rfl) (fun W hC => ?_) ?_
 ·obtain ⟨x0, x1, x2, x3, x4, x5, x6, x7, x8, x9, x10⟩ := HX.out W hC
  go_simp
  try rfl
 try simp only [Act.put, nms]
 refine wpLo_q (some 24) rfl rfl (by rfl) (fun W hC => ?_) ?_
 ·obtain ⟨x0, x1, x2, x3, x4, x5, x6, x7, x8, x9, x10⟩ := HX.out W hC
  go_simp
  try rfl
 try simp only [Act.put, nms]
 refine wpLo_c (some 25) rfl rfl (by rfl) (PX.mk0 none 0 0 0) (fun y => .slice y.A n.arrs.length y.c) (fun y W => gL ys.hi y n.arrs W) (fun y W W' h h' => h.stp h') (fun W hF hC => ?_) (fun ya => ?_)
 ·refine LoOp.enter (by go_simp; first | done | exact ⟨rfl, rfl⟩ | rfl) ?_
  refine (impl_copyLists n.arrs a8 c8 W (HR.out W hC).arrs (HR.out W hC).h8 (Lib.hid (HR.out W hC).h11)).mono ?_
  rintro e W1 ⟨hg1, hb1⟩
  obtain ⟨A, c, vs, rfl, hO, hP⟩ := hg1
  exact ⟨_, rfl, ⟨A, c, none, 0, vs, W.heap.size, W1.heap.size⟩, rfl, ⟨hb1⟩, hF.2.2.2.1, hb1.size, Nat.le_refl _, hO, own_within hO, hP, fun i hi => within_R (hP.row i hi)⟩
 try simp only [Act.put, nms]
 refine wpLo_q (some 26) rfl rfl (by rfl) (fun W hC => ?_) ?_
 ·obtain ⟨x0, x1, x2, x3, x4, x5, x6, x7, x8, x9, x10⟩ := HX.out W hC
  go_simp
  try rfl
 try simp only [Act.put, nms]
 refine wpLo_q (some 27) rfl rfl (by rfl) (fun W hC => ?_) ?_
 ·obtain ⟨x0, x1, x2, x3, x4, x5, x6, x7, x8, x9, x10⟩ := HX.out W hC
  go_simp
  try rfl
 try simp only [Act.put, nms]
 refine wpLo_c (some 28) rfl rfl (by rfl) () (fun _ => .agg (netCells n ⟨ym.A, yc.A, yc.A2, yb.A, yo.A, yt.A, ys.A, ya.A, ym.c, yc.c, yc.c2, yb.c, yo.c, yt.c, ys.c, ya.c⟩)) (fun _ _ => True) (fun _ _ _ _ _ => trivial) (fun W hF hC => LoOp.val (w1 := W) (by go_simp; try rfl) ⟨(), rfl, stp_refl _, trivial⟩) (fun _ => ?_)
 try simp only [Act.put, nms]
 refine wpLo_z ?_
 intro W hF hC
 obtain ⟨⟨⟨⟨⟨⟨⟨⟨⟨⟨_, hm⟩, hc⟩, hb⟩, _⟩, ho⟩, _⟩, ht⟩, hs⟩, ha⟩, _⟩ := hF
 have hN := Lib.hid (NX.parts hm hc hb ho ht hs ha)
 clear hm hc hb ho ht hs ha
 have hb1 := hC.h
 have hb2 : W.heap[w.heap.size + 1]? = some (.cells #[.int .i64 0, .int .i64 0, .slice none 0 0, .slice none 0 0, .slice none 0 0, .slice none 0 0, .slice none 0 0, .slice none 0 0, .slice none 0 0, .slice none 0 0, .int .i64 0] 38 (0, 0)) := by
  have h1 := blk_new (w.alloc (.cells #[.int .i64 n.mesh.g.w, .int .i64 n.mesh.g.h, .slice a1 n.mesh.br.length c1, .slice a2 n.pa.length c2, .slice a3 n.pb.length c3, .slice a4 n.bufs.length c4, .slice a5 n.owners.length c5, .slice a6 n.turns.length c6, .slice a7 n.srcs.length c7, .slice a8 n.arrs.length c8, .int .i64 n.time] 38)) (.cells #[.int .i64 0, .int .i64 0, .slice none 0 0, .slice none 0 0, .slice none 0 0, .slice none 0 0, .slice none 0 0, .slice none 0 0, .slice none 0 0, .slice none 0 0, .int .i64 0] 38)
  rw [World.size_alloc] at h1
  exact blk_below h1 hC.h
 have y0 : W.cell? ⟨w.heap.size + 1, 0, none⟩ = some (.int .i64 0) := blk_cell hb2 0
 have f0 : W.frozen? ⟨w.heap.size + 1, 0, none⟩ = false := blk_frozen hb2 0
 have y1 : W.cell? ⟨w.heap.size + 1, 1, none⟩ = some (.int .i64 0) := blk_cell hb2 1
 have f1 : W.frozen? ⟨w.heap.size + 1, 1, none⟩ = false := blk_frozen hb2 1
 have y2 : W.cell? ⟨w.heap.size + 1, 2, none⟩ = some (.slice none 0 0) := blk_cell hb2 2
 have f2 : W.frozen? ⟨w.heap.size + 1, 2, none⟩ = false := blk_frozen hb2 2
 have y3 : W.cell? ⟨w.heap.size + 1, 3, none⟩ = some (.slice none 0 0) := blk_cell hb2 3
 have f3 : W.frozen? ⟨w.heap.size + 1, 3, none⟩ = false := blk_frozen hb2 3
 have y4 : W.cell? ⟨w.heap.size + 1, 4, none⟩ = some (.slice none 0 0) := blk_cell hb2 4
 have f4 : W.frozen? ⟨w.heap.size + 1, 4, none⟩ = false := blk_frozen hb2 4
 have y5 : W.cell? ⟨w.heap.size + 1, 5, none⟩ = some (.slice none 0 0) := blk_cell hb2 5
 have f5 : W.frozen? ⟨w.heap.size + 1, 5, none⟩ = false := blk_frozen hb2 5
 have y6 : W.cell? ⟨w.heap.size + 1, 6, none⟩ = some (.slice none 0 0) := blk_cell hb2 6
 have f6 : W.frozen? ⟨w.heap.size + 1, 6, none⟩ = false := blk_frozen hb2 6
 have y7 : W.cell? ⟨w.heap.size + 1, 7, none⟩ = some (.slice none 0 0) := blk_cell hb2 7
 have f7 : W.frozen? ⟨w.heap.size + 1, 7, none⟩ = false := blk_frozen hb2 7
 have y8 : W.cell? ⟨w.heap.size + 1, 8, none⟩ = some (.slice none 0 0) := blk_cell hb2 8
 have f8 : W.frozen? ⟨w.heap.size + 1, 8, none⟩ = false := blk_frozen hb2 8
 have y9 : W.cell? ⟨w.heap.size + 1, 9, none⟩ = some (.slice none 0 0) := blk_cell hb2 9
 have f9 : W.frozen? ⟨w.heap.size + 1, 9, none⟩ = false := blk_frozen hb2 9
 have y10 : W.cell? ⟨w.heap.size + 1, 10, none⟩ = some (.int .i64 0) := blk_cell hb2 10
 have f10 : W.frozen? ⟨w.heap.size + 1, 10, none⟩ = false := blk_frozen hb2 10
 clear hb2
 have hz1 := bw_size hb1
 simp only [szs] at hz1
 refine ⟨_, rfl, by rfl, ?_⟩
 dsimp only [netCells]
 go_simp
 go_wp2
 exact bodyPost_ret (v := .agg (netCells n ⟨ym.A, yc.A, yc.A2, yb.A, yo.A, yt.A, ys.A, ya.A, ym.c, yc.c, yc.c2, yb.c, yo.c, yt.c, ys.c, ya.c⟩)) (by simp [results, Try.results32, go_sem, netCells, *]) rfl ⟨⟨_, yb.vs, ys.vs, ya.vs, rfl, (by refine NX.lower (lo := (((w.alloc (.cells #[.int .i64 n.mesh.g.w, .int .i64 n.mesh.g.h, .slice a1 n.mesh.br.length c1, .slice a2 n.pa.length c2, .slice a3 n.pb.length c3, .slice a4 n.bufs.length c4, .slice a5 n.owners.length c5, .slice a6 n.turns.length c6, .slice a7 n.srcs.length c7, .slice a8 n.arrs.length c8, .int .i64 n.time] 38)).alloc (.cells #[.int .i64 0, .int .i64 0, .slice none 0 0, .slice none 0 0, .slice none 0 0, .slice none 0 0, .slice none 0 0, .slice none 0 0, .slice none 0 0, .slice none 0 0, .int .i64 0] 38))).heap.size) ?_ (by simp only [szs]; omega); (repeat (refine NX.off ?_ (by simp only [szs]; omega) _ _)); exact hN.out)⟩, bel⟩
end Go.Proofs.Ytodbglncccgdbaa
