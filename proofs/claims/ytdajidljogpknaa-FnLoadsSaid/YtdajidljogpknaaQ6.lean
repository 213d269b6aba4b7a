/- Lemmas for laws of this seat, for all inputs: DrV. -/
import Derived.Test.YtdajidljogpknaaQ5
set_option linter.unusedVariables false
set_option linter.unusedSimpArgs false
namespace Go.Proofs.Ytdajidljogpknaa
open Go.RowKit Go.Proofs.YtdajidljogpknaaW.PrintWords
open NoC
structure TX where
  A : Option Addr
  c : Nat
  lo : Nat
  hi : Nat
def gT (B : Nat) (y : TX) (xs : List Int) (W : World) : Prop := B ≤ y.lo ∧ y.lo ≤ y.hi ∧ y.hi ≤ W.heap.size ∧ RU (Kd.int .i64) 3 W y.lo y.hi (.slice y.A xs.length y.c) xs
theorem gT.below {B : Nat} {y : TX} {xs : List Int} {W W1 : World} (h : gT B y xs W) (hb : Below W.heap.size W W1) : gT B y xs W1 := ⟨h.1, h.2.1, Nat.le_trans h.2.2.1 hb.size, h.2.2.2.below hb⟩
theorem gT.grown {B b : Nat} {y : TX} {xs : List Int} {W W1 : World} (h : gT B y xs W) (hg : W.grownBy W1 (some b)) (hb : b < B) : gT B y xs W1 :=
  ⟨h.1, h.2.1, Nat.le_trans h.2.2.1 hg.size, h.2.2.2.step (fun k h1 _ h3 => hg.block k h3 (fun e => by
    have := h.1
    have := Option.some.inj e
    omega))⟩
theorem gT.of {B : Nat} {xs : List Int} {W W1 : World} {e : Ending} (h : GotTab W W1 xs e) (hb : Below W.heap.size W W1) (hB : B ≤ W.heap.size) : ∃ y : TX, e = .returned (.agg #[.slice y.A xs.length y.c]) ∧ gT B y xs W1 ∧ W.heap.size ≤ y.lo ∧ y.hi ≤ W1.heap.size := by
  obtain ⟨v, rfl, hr⟩ := h
  obtain ⟨A, c, rfl⟩ := Kd.R_slice hr
  exact ⟨⟨A, c, W.heap.size, W1.heap.size⟩, rfl, ⟨hB, hb.size, Nat.le_refl _, RU.of hr (Nat.le_refl _) (Nat.le_refl _)⟩, Nat.le_refl _, Nat.le_refl _⟩
theorem results_cells2 {P : Program} {fn : Func} {p p2 u : Tmp} {ty ty2 : TypeId} (h : fn.results = #[.cell p ty, .cell p2 ty2, .tmp u]) (tmps : Array Value) (w : World) (g g2 : Nat) (t t2 : TypeId) (cs cs2 : Array Value) (fr fr2 : Nat × Nat) (d d2 : TypeDesc)
    (hp : tmps.getD p undef = .pointer (some ⟨g, 0, none⟩)) (hp2 : tmps.getD p2 undef = .pointer (some ⟨g2, 0, none⟩)) (hg : w.heap[g]? = some (.cells cs t fr)) (hg2 : w.heap[g2]? = some (.cells cs2 t2 fr2))
    (hu : P.underlying ty = some d) (hu2 : P.underlying ty2 = some d2) (hd : (match d with | .struct _ | .array _ _ => true | _ => false) = true) (hd2 : (match d2 with | .struct _ | .array _ _ => true | _ => false) = true) (hi : (P.info? ty).map (·.size) = some cs.size) (hi2 : (P.info? ty2).map (·.size) = some cs2.size) :
    (results fn tmps).run P w = .ok (.tuple #[.agg cs, .agg cs2, tmps.getD u undef]) w := by
  have hp' : tmps[p]?.getD undef = .pointer (some ⟨g, 0, none⟩) := by simpa using hp
  have hp2' : tmps[p2]?.getD undef = .pointer (some ⟨g2, 0, none⟩) := by simpa using hp2
  unfold results
  rw [h]
  simp [hp', hp2', asAddr, Result.andThen, run_loadVar_row w g t ty cs fr d hg hu hd hi, run_loadVar_row w g2 t2 ty2 cs2 fr2 d2 hg2 hu2 hd2 hi2]
set_option maxHeartbeats 8000000 in
set_option maxRecDepth 100000 in
theorem spec_DrawTraffic (A : Option Addr) (N c : Nat) (w : World) (HX : Byt w A N) : Calls Try.prog 6 #[.slice A N c] w fun e w' => (∃ (g : Grid) (r s : Int) (l : List Packet) (A2 A3 D : Option Addr) (c2 c3 d : Nat), e = .returned (.tuple #[.agg #[.int .i64 g.w, .int .i64 g.h, .slice none 0 0], .agg #[.slice A2 (makeT g r).length c2, .slice A3 (makeT g s).length c3], .slice D l.length d]) ∧ (1 ≤ g.w ∧ g.w ≤ 4 ∧ 1 ≤ g.h ∧ g.h ≤ 4 ∧ 2 ≤ nodeCount g) ∧ (1 ≤ r ∧ r ≤ 4 ∧ 1 ≤ s ∧ s ≤ 4) ∧ Drawn g l ∧ Kd.C (Kd.int .i64) w' A2 (makeT g r).length (makeT g r) ∧ Kd.C (Kd.int .i64) w' A3 (makeT g s).length (makeT g s) ∧ kP.C w' D l.length l) ∧ Below w.heap.size w w' := by
 obtain ⟨wa, ewa⟩ : ∃ z, z = (w.alloc (.cells #[.int .i64 0, .int .i64 0, .slice none 0 0] 28)).alloc (.cells #[.slice none 0 0, .slice none 0 0] 32) := ⟨_, rfl⟩
 have hwa : Below w.heap.size w wa := by rw [ewa]; exact bw_alloc _ (bw_alloc _ (bw_refl w))
 have zwa : wa.heap.size = w.heap.size + 2 := by rw [ewa]; simp only [szs]
 have HMa : Arr wa w.heap.size 28 #[.int .i64 0, .int .i64 0, .slice none 0 0] := by rw [ewa]; exact (Arr.new w _ _ _ rfl).below (bw_alloc _ (bw_refl _))
 have HCa : Arr wa (w.heap.size + 1) 32 #[.slice none 0 0, .slice none 0 0] := by rw [ewa]; exact Arr.new _ _ _ _ (by simp only [szs])
 have hxa := HX.below hwa
 go_enter Try.func6, Try.ntmps6
 go_wp2_with fail
 rw [← ewa]
 clear ewa
 refine (spec_l01New A N c _ hxa).mono ?_
 rintro e w1 ⟨b, rfl, hb, HC1, hb1⟩
 have hbl := HC1.lt
 have HM1 := HMa.below hb1
 have HK1 := HCa.below hb1
 have HB1 := bw_then hwa hb1
 have z1 := bw_size hb1
 clear hxa hb1 HMa HCa hwa
 go_wp2_with fail
 refine (spec_l14Grid b _ _ HC1).mono ?_
 rintro e w2 ⟨g, rfl, g1, g2, g3, g4, gn, HC2, hg2⟩
 have HM2 := arr_gt HM1 hg2 (by omega)
 have HK2 := arr_gt HK1 hg2 (by omega)
 have HB2 : Below w.heap.size w w2 := bw_cur HB1 hg2 (by omega)
 have z2 := hg2.size
 clear hg2 HM1 HK1 HB1 HC1
 obtain ⟨w3, e3⟩ : ∃ z, z = w2.alloc (.cells #[.int .i64 g.w, .int .i64 g.h] 25) := ⟨_, rfl⟩
 have hw3 : Below w2.heap.size w2 w3 := by rw [e3]; exact bw_alloc _ (bw_refl w2)
 have HT3 : Hid (Arr w3 w2.heap.size 25 #[.int .i64 g.w, .int .i64 g.h]) := Lib.hid (by rw [e3]; exact Arr.new w2 _ _ _ rfl)
 have HM3 := Lib.hid (HM2.below hw3)
 have HK3 := Lib.hid (HK2.below hw3)
 have HB3 := Lib.hid (bw_then HB2 hw3)
 have HC3 := Lib.hid (HC2.below hw3)
 have z3 : w3.heap.size = w2.heap.size + 1 := by rw [e3]; simp only [szs]
 clear hw3 HM2 HK2 HB2 HC2
 go_wp2_with fail
 rw [← e3]
 clear e3
 refine wp_region_tz w3.heap.size (fun i => if i = 11 then .cells #[.slice none 0 0, .slice none 0 0] 32 else .cells #[] 0) (fun i g => if i = 11 then .pointer (some ⟨g, 0, none⟩) else undef) (fun W => w3.grownBy W (some b)) 12 [(0, .quiet), (1, .quiet), (2, .chain), (3, .quiet), (4, .chain), (5, .quiet), (6, .quiet), (7, .chain), (8, .quiet), (9, .chain), (10, .quiet), (11, .lit)] (by kernel_rfl) (by kernel_rfl) (by kernel_rfl) (by kernel_rfl) (by kernel_rfl) (by kernel_rfl) (by kernel_rfl) (by kernel_rfl) (gt_drew (World.grownBy.refl _ _)) ⟨fun W o h => gt_alloc _ h, fun W h => h.size⟩ (fun W => Cur W b wa.heap.size) (HC3.out.below (bw_drew (bw_refl _))) (fun _ W W' h hb => h.below hb) ?_
 refine wpTz_v (some 12) (.agg #[.int .i64 g.w, .int .i64 g.h]) rfl rfl (by rfl) (fun W hC => ?_) ?_
 ·have hg := arr_gt HT3.out hC (by omega)
  have h0 : W.cell? ⟨w2.heap.size, 0, none⟩ = some (.int .i64 g.w) := hg.cell 0
  have h1 : W.cell? ⟨w2.heap.size, 1, none⟩ = some (.int .i64 g.h) := hg.cell 1
  have hl := hg.lt
  clear hg
  clear hC
  go_simp
  try rfl
 try simp only [Act.put, nms]
 refine wpTz_v (some 13) (.pointer (some ⟨b, 0, none⟩)) rfl rfl (by rfl) (fun W hC => ?_) ?_
 ·clear hC
  go_simp
  try rfl
 try simp only [Act.put, nms]
 refine wpTz_e (some 14) rfl rfl (by rfl) ((0, 0) : Fin 4 × Nat) (fun y => .int .i64 ((y.1.val : Nat) : Int)) (fun y W => Cur W b wa.heap.size) (fun y => (y.2, y.2)) (fun W hF hC => ?_) (fun y W W' h hb => h.below hb) (fun xy => ?_)
 ·refine LoOp.enter (by go_simp; first | done | exact ⟨rfl, rfl⟩ | rfl) ?_
  refine (spec_l01Below b _ 4 W hF (by omega) (by omega)).mono ?_
  rintro e W1 ⟨x', rfl, x0, x1, HC1, hg1⟩
  obtain ⟨k', rfl⟩ : ∃ k' : Nat, x' = k' := ⟨x'.toNat, by omega⟩
  exact ⟨_, rfl, (⟨k', by omega⟩, W.heap.size), rfl, grown_trans hC hg1, HC1, ⟨hg1.size, fun i hi hlt => hg1.block i hlt (fun e => by have := Option.some.inj e; omega)⟩, Nat.le_refl _, hg1.size⟩
 obtain ⟨⟨x, hx⟩, nx⟩ := xy
 dsimp only
 try simp only [Act.put, nms]
 refine wpTz_v (some 15) (.int .i64 (1 + (x : Int))) rfl rfl (by rfl) (fun W hC => ?_) ?_
 ·have hwx : IntKind.i64.wrap (1 + (x : Int)) = 1 + (x : Int) := IntWalk.i64_in _ (by omega)
  clear hC
  go_simp
  try rfl
 try simp only [Act.put, nms]
 refine wpTz_d (some 16) rfl rfl (by rfl) (⟨none, 0, 0, 0⟩ : TX) (fun y => .agg #[.slice y.A (makeT g (1 + (x : Int))).length y.c]) (fun y W => gT w3.heap.size y (makeT g (1 + (x : Int))) W ∧ Cur W b wa.heap.size) (fun y => (y.lo, y.hi)) (fun W hF hC => ?_) (fun y W W' h hb => ⟨h.1.below hb, h.2.below hb⟩) (fun yy => ?_)
 ·refine LoOp.enter (by go_simp; first | done | exact ⟨rfl, rfl⟩ | rfl) ?_
  refine (spec_l05Make g (1 + (x : Int)) W g1 g2 g3 g4 (by omega) (by omega)).mono ?_
  rintro e W1 ⟨hg1, hb1⟩
  obtain ⟨y, rfl, hy, h1, h2⟩ := gT.of hg1 hb1 hC.size
  exact ⟨_, rfl, y, rfl, grown_trans hC (grown_below _ hb1), ⟨hy, hF.below hb1⟩, hb1, h1, h2⟩
 obtain ⟨AP, cP, lP, hP⟩ := yy
 dsimp only
 try simp only [Act.put, nms]
 refine wpTz_v (some 17) (.agg #[.int .i64 g.w, .int .i64 g.h]) rfl rfl (by rfl) (fun W hC => ?_) ?_
 ·have hg := arr_gt HT3.out hC (by omega)
  have h0 : W.cell? ⟨w2.heap.size, 0, none⟩ = some (.int .i64 g.w) := hg.cell 0
  have h1 : W.cell? ⟨w2.heap.size, 1, none⟩ = some (.int .i64 g.h) := hg.cell 1
  have hl := hg.lt
  clear hg
  clear hC
  go_simp
  try rfl
 try simp only [Act.put, nms]
 refine wpTz_v (some 18) (.pointer (some ⟨b, 0, none⟩)) rfl rfl (by rfl) (fun W hC => ?_) ?_
 ·clear hC
  go_simp
  try rfl
 try simp only [Act.put, nms]
 refine wpTz_e (some 19) rfl rfl (by rfl) ((0, 0) : Fin 4 × Nat) (fun y => .int .i64 ((y.1.val : Nat) : Int)) (fun y W => gT w3.heap.size ⟨AP, cP, lP, hP⟩ (makeT g (1 + (x : Int))) W ∧ Cur W b wa.heap.size) (fun y => (y.2, y.2)) (fun W hF hC => ?_) (fun y W W' h hb => ⟨h.1.below hb, h.2.below hb⟩) (fun xy => ?_)
 ·refine LoOp.enter (by go_simp; first | done | exact ⟨rfl, rfl⟩ | rfl) ?_
  refine (spec_l01Below b _ 4 W hF.2 (by omega) (by omega)).mono ?_
  rintro e W1 ⟨x', rfl, x0, x1, HC1, hg1⟩
  obtain ⟨k', rfl⟩ : ∃ k' : Nat, x' = k' := ⟨x'.toNat, by omega⟩
  exact ⟨_, rfl, (⟨k', by omega⟩, W.heap.size), rfl, grown_trans hC hg1, ⟨hF.1.grown hg1 (by omega), HC1⟩, ⟨hg1.size, fun i hi hlt => hg1.block i hlt (fun e => by have := Option.some.inj e; omega)⟩, Nat.le_refl _, hg1.size⟩
 obtain ⟨⟨u, hu⟩, nu⟩ := xy
 dsimp only
 try simp only [Act.put, nms]
 refine wpTz_v (some 20) (.int .i64 (1 + (u : Int))) rfl rfl (by rfl) (fun W hC => ?_) ?_
 ·have hwx : IntKind.i64.wrap (1 + (u : Int)) = 1 + (u : Int) := IntWalk.i64_in _ (by omega)
  clear hC
  go_simp
  try rfl
 try simp only [Act.put, nms]
 refine wpTz_d (some 21) rfl rfl (by rfl) (⟨none, 0, 0, 0⟩ : TX) (fun y => .agg #[.slice y.A (makeT g (1 + (u : Int))).length y.c]) (fun y W => gT w3.heap.size y (makeT g (1 + (u : Int))) W ∧ gT w3.heap.size ⟨AP, cP, lP, hP⟩ (makeT g (1 + (x : Int))) W ∧ Cur W b wa.heap.size) (fun y => (y.lo, y.hi)) (fun W hF hC => ?_) (fun y W W' h hb => ⟨h.1.below hb, h.2.1.below hb, h.2.2.below hb⟩) (fun yy => ?_)
 ·refine LoOp.enter (by go_simp; first | done | exact ⟨rfl, rfl⟩ | rfl) ?_
  refine (spec_l05Make g (1 + (u : Int)) W g1 g2 g3 g4 (by omega) (by omega)).mono ?_
  rintro e W1 ⟨hg1, hb1⟩
  obtain ⟨y, rfl, hy, h1, h2⟩ := gT.of hg1 hb1 hC.size
  exact ⟨_, rfl, y, rfl, grown_trans hC (grown_below _ hb1), ⟨hy, hF.1.below hb1, hF.2.below hb1⟩, hb1, h1, h2⟩
 obtain ⟨AQ, cQ, lQ, hQ⟩ := yy
 dsimp only
 try simp only [Act.put, nms]
 refine wpTz_v (some 22) (.agg #[.slice AP (makeT g (1 + (x : Int))).length cP, .slice AQ (makeT g (1 + (u : Int))).length cQ]) rfl rfl (by rfl) (fun W hC => ?_) ?_
 ·clear hC
  go_simp
  try rfl
 try simp only [Act.put, nms]
 refine wpTz_l (some 7) rfl rfl (by rfl) (fun W => ?_) (fun gb => ?_)
 ·go_simp
  try rfl
 try simp only [Act.put, nms]
 refine wpTz_z (fun w8 hF hC => ?_)
 obtain ⟨⟨hT2, hT1, HC8⟩, bg, hgb, ig⟩ := hF
 simp only [List.forall_mem_cons, List.not_mem_nil, false_implies, implies_true, and_true] at ig
 have ha8 : Arr w8 gb 32 #[.slice none 0 0, .slice none 0 0] := hgb
 have r0 : w8.cell? ⟨gb, 0, none⟩ = some (.slice none 0 0) := ha8.cell 0
 have r1 : w8.cell? ⟨gb, 1, none⟩ = some (.slice none 0 0) := ha8.cell 1
 have f0 := ha8.frozen 0
 have f1 := ha8.frozen 1
 have rl := ha8.lt
 have HB8 := bw_cur HB3.out hC (by omega)
 have HM8 := arr_gt HM3.out hC (by omega)
 have HK8 := arr_gt HK3.out hC (by omega)
 have HT8 := arr_gt HT3.out hC (by omega)
 have z8 := hC.size
 obtain ⟨w9, e9⟩ : ∃ z, z = (w8.setCell ⟨gb, 0, none⟩ (.slice AP (makeT g (1 + (x : Int))).length cP)).setCell ⟨gb, 1, none⟩ (.slice AQ (makeT g (1 + (u : Int))).length cQ) := ⟨_, rfl⟩
 have HG9 : Hid (Arr w9 gb 32 #[.slice AP (makeT g (1 + (x : Int))).length cP, .slice AQ (makeT g (1 + (u : Int))).length cQ]) := Lib.hid (by rw [e9]; exact (ha8.set 0 _).set 1 _)
 have HM9 := Lib.hid (show Arr w9 w.heap.size 28 _ from by rw [e9]; exact (HM8.other gb 0 _ (by omega)).other gb 1 _ (by omega))
 have HK9 := Lib.hid (show Arr w9 (w.heap.size + 1) 32 _ from by rw [e9]; exact (HK8.other gb 0 _ (by omega)).other gb 1 _ (by omega))
 have HT9 := Lib.hid (show Arr w9 w2.heap.size 25 _ from by rw [e9]; exact (HT8.other gb 0 _ (by omega)).other gb 1 _ (by omega))
 have HB9 : Hid (Below w.heap.size w w9) := Lib.hid (by rw [e9]; exact low_set (low_set HB8 (by omega) 0 _) (by omega) 1 _)
 have HC9 : Hid (Cur w9 b wa.heap.size) := Lib.hid (by rw [e9]; exact Cur.far _ _ (Cur.far _ _ HC8 (by omega)) (by omega))
 have z9 : w9.heap.size = w8.heap.size := by rw [e9]; simp only [szs]
 have hP1 := hT1.2.2.2
 have hQ1 := hT2.2.2.2
 have lP1 := hT1.1
 have lQ1 := hT2.1
 have lP3 := hT1.2.2.1
 have lQ3 := hT2.2.2.1
 dsimp only at hP1 hQ1 lP1 lQ1 lP3 lQ3
 have cg8 : Chg gb (gb + 1) w8 w9 := ⟨by rw [e9]; rfl, by rw [e9]; rfl, by rw [e9]; rfl, by omega, fun i hi hn => by
  rw [e9]
  exact (Below.heap_setCell _ ⟨gb, 1, none⟩ _ i (fun e => by have e2 : i = gb := e; omega)).trans (Below.heap_setCell _ ⟨gb, 0, none⟩ _ i (fun e => by have e2 : i = gb := e; omega))⟩
 have HP9 := Lib.hid (hP1.chg cg8 (by omega))
 have HQ9 := Lib.hid (hQ1.chg cg8 (by omega))
 clear hP1 hQ1 hT1 hT2 cg8
 refine ⟨_, rfl, by rfl, ?_⟩
 go_simp
 rw [← e9]
 clear e9 HB8 HM8 HK8 HT8 HC8 hC r0 r1 f0 f1 rl ha8 hgb
 have gl := HG9.out.lt
 go_wp2_with fail
 refine wp_region_tz 0 (fun _ => .cells #[] 0) (fun _ _ => undef) (fun W => Arr W w2.heap.size 25 #[.int .i64 g.w, .int .i64 g.h] ∧ Arr W gb 32 #[.slice AP (makeT g (1 + (x : Int))).length cP, .slice AQ (makeT g (1 + (u : Int))).length cQ]) 8 [(0, .quiet), (1, .quiet), (2, .quiet), (3, .quiet), (4, .quiet), (5, .chain), (6, .chain), (7, .chain)] (by kernel_rfl) (by kernel_rfl) (by kernel_rfl) (by kernel_rfl) (by kernel_rfl) (by kernel_rfl) (by kernel_rfl) (by kernel_rfl) ⟨HT9.out, HG9.out⟩ ⟨fun W o h => ⟨h.1.below (bw_alloc _ (bw_refl _)), h.2.below (bw_alloc _ (bw_refl _))⟩, fun W h => Nat.zero_le _⟩ (fun W => W = w9.drew) rfl (fun e => by cases e) ?_
 refine wpTz_v (some 23) (.agg #[.int .i64 g.w, .int .i64 g.h]) rfl rfl (by rfl) (fun W hC => ?_) ?_
 ·have h0 : W.cell? ⟨w2.heap.size, 0, none⟩ = some (.int .i64 g.w) := hC.1.cell 0
  have h1 : W.cell? ⟨w2.heap.size, 1, none⟩ = some (.int .i64 g.h) := hC.1.cell 1
  have hl := hC.1.lt
  clear hC
  go_simp
  try rfl
 try simp only [Act.put, nms]
 refine wpTz_v (some 24) (.agg #[.int .i64 g.w, .int .i64 g.h, .slice none 0 0]) rfl rfl (by rfl) (fun W hC => ?_) ?_
 ·clear hC
  go_simp
  try rfl
 try simp only [Act.put, nms]
 refine wpTz_v (some 25) (.agg #[.slice AP (makeT g (1 + (x : Int))).length cP, .slice AQ (makeT g (1 + (u : Int))).length cQ]) rfl rfl (by rfl) (fun W hC => ?_) ?_
 ·have h0 : W.cell? ⟨gb, 0, none⟩ = some (.slice AP (makeT g (1 + (x : Int))).length cP) := hC.2.cell 0
  have h1 : W.cell? ⟨gb, 1, none⟩ = some (.slice AQ (makeT g (1 + (u : Int))).length cQ) := hC.2.cell 1
  have hl := hC.2.lt
  clear hC
  go_simp
  try rfl
 try simp only [Act.put, nms]
 refine wpTz_v (some 26) (.pointer (some ⟨b, 0, none⟩)) rfl rfl (by rfl) (fun W hC => ?_) ?_
 ·clear hC
  go_simp
  try rfl
 try simp only [Act.put, nms]
 refine wpTz_v (some 27) (.agg #[.int .i64 g.w, .int .i64 g.h]) rfl rfl (by rfl) (fun W hC => ?_) ?_
 ·have h0 : W.cell? ⟨w2.heap.size, 0, none⟩ = some (.int .i64 g.w) := hC.1.cell 0
  have h1 : W.cell? ⟨w2.heap.size, 1, none⟩ = some (.int .i64 g.h) := hC.1.cell 1
  have hl := hC.1.lt
  clear hC
  go_simp
  try rfl
 try simp only [Act.put, nms]
 refine wpTz_c (some 28) rfl rfl (by rfl) ((w9, [], none, 0) : World × List Packet × Option Addr × Nat) (fun y => .slice y.2.2.1 y.2.1.length y.2.2.2) (fun y W => W = y.1 ∧ Drawn g y.2.1 ∧ kP.R 57 y.1 w9.heap.size (fun _ => True) (.slice y.2.2.1 y.2.1.length y.2.2.2) y.2.1 ∧ w9.grownBy y.1 (some b)) (fun W hF hC => ?_) (fun yy => ?_)
 ·subst hF
  refine LoOp.enter (by go_simp; first | done | exact ⟨rfl, rfl⟩ | rfl) ?_
  refine (spec_l16Packets b _ g _ (HC9.out.below (bw_drew (bw_refl _))) g1 g2 g3 g4 gn).mono ?_
  rintro e W1 ⟨l, v, rfl, hd, hr, _, hg1⟩
  obtain ⟨A', c', rfl⟩ := Kd.R_slice hr
  have hg2 : w9.grownBy W1 (some b) := ⟨hg1.os, hg1.tape, hg1.output, hg1.size, hg1.block⟩
  exact ⟨_, rfl, (W1, l, A', c'), rfl, ⟨arr_gt HT9.out hg2 (by omega), arr_gt HG9.out hg2 (by omega)⟩, rfl, hd, hr, hg2⟩
 obtain ⟨wy, l, D, d⟩ := yy
 dsimp only
 try simp only [Act.put, nms]
 refine wpTz_c none rfl rfl (by rfl) () (fun _ => undef) (fun _ W => W = (((wy.setCell ⟨w.heap.size, 0, none⟩ (.int .i64 g.w)).setCell ⟨w.heap.size, 1, none⟩ (.int .i64 g.h)).setCell ⟨w.heap.size, 2, none⟩ (.slice none 0 0)) ∧ Drawn g l ∧ kP.R 57 wy w9.heap.size (fun _ => True) (.slice D l.length d) l ∧ w9.grownBy wy (some b)) (fun W hF hC => ?_) (fun _ => ?_)
 ·obtain ⟨rfl, hd, hr, hg⟩ := hF
  have hM := arr_gt HM9.out hg (by omega)
  have m0 : W.cell? ⟨w.heap.size, 0, none⟩ = some (.int .i64 0) := hM.cell 0
  have m1 : W.cell? ⟨w.heap.size, 1, none⟩ = some (.int .i64 0) := hM.cell 1
  have m2 : W.cell? ⟨w.heap.size, 2, none⟩ = some (.slice none 0 0) := hM.cell 2
  have n0 := hM.frozen 0
  have n1 := hM.frozen 1
  have n2 := hM.frozen 2
  have ml := hM.lt
  refine LoOp.skip rfl (w1 := (((W.setCell ⟨w.heap.size, 0, none⟩ (.int .i64 g.w)).setCell ⟨w.heap.size, 1, none⟩ (.int .i64 g.h)).setCell ⟨w.heap.size, 2, none⟩ (.slice none 0 0))) ?_ ⟨(), rfl, ⟨((hC.1.other w.heap.size 0 _ (by omega)).other w.heap.size 1 _ (by omega)).other w.heap.size 2 _ (by omega), ((hC.2.other w.heap.size 0 _ (by omega)).other w.heap.size 1 _ (by omega)).other w.heap.size 2 _ (by omega)⟩, rfl, hd, hr, hg⟩
  clear hC hr hg hd hM
  go_simp
  try rfl
 try simp only [Act.put, nms]
 refine wpTz_c none rfl rfl (by rfl) () (fun _ => undef) (fun _ W => W = ((((wy.setCell ⟨w.heap.size, 0, none⟩ (.int .i64 g.w)).setCell ⟨w.heap.size, 1, none⟩ (.int .i64 g.h)).setCell ⟨w.heap.size, 2, none⟩ (.slice none 0 0)).setCell ⟨w.heap.size + 1, 0, none⟩ (.slice AP (makeT g (1 + (x : Int))).length cP)).setCell ⟨w.heap.size + 1, 1, none⟩ (.slice AQ (makeT g (1 + (u : Int))).length cQ) ∧ Drawn g l ∧ kP.R 57 wy w9.heap.size (fun _ => True) (.slice D l.length d) l ∧ w9.grownBy wy (some b)) (fun W hF hC => ?_) (fun _ => ?_)
 ·obtain ⟨rfl, hd, hr, hg⟩ := hF
  have hK := ((((arr_gt HK9.out hg (by omega)).other w.heap.size 0 (.int .i64 g.w) (by omega)).other w.heap.size 1 (.int .i64 g.h) (by omega)).other w.heap.size 2 (.slice none 0 0) (by omega))
  obtain ⟨wz, ez⟩ : ∃ z, z = (((wy.setCell ⟨w.heap.size, 0, none⟩ (.int .i64 g.w)).setCell ⟨w.heap.size, 1, none⟩ (.int .i64 g.h)).setCell ⟨w.heap.size, 2, none⟩ (.slice none 0 0)) := ⟨_, rfl⟩
  rw [← ez] at hK hC ⊢
  have m0 : wz.cell? ⟨w.heap.size + 1, 0, none⟩ = some (.slice none 0 0) := hK.cell 0
  have m1 : wz.cell? ⟨w.heap.size + 1, 1, none⟩ = some (.slice none 0 0) := hK.cell 1
  have n0 := hK.frozen 0
  have n1 := hK.frozen 1
  have ml := hK.lt
  refine LoOp.skip rfl (w1 := (wz.setCell ⟨w.heap.size + 1, 0, none⟩ (.slice AP (makeT g (1 + (x : Int))).length cP)).setCell ⟨w.heap.size + 1, 1, none⟩ (.slice AQ (makeT g (1 + (u : Int))).length cQ)) ?_ ⟨(), rfl, ⟨(hC.1.other (w.heap.size + 1) 0 _ (by omega)).other (w.heap.size + 1) 1 _ (by omega), (hC.2.other (w.heap.size + 1) 0 _ (by omega)).other (w.heap.size + 1) 1 _ (by omega)⟩, by rw [ez], hd, hr, hg⟩
  clear hC hr hg hd hK ez
  go_simp
  try rfl
 try simp only [Act.put, nms]
 refine wpTz_z (fun wf hF hC => ?_)
 obtain ⟨ef, hd, hr, hg⟩ := hF
 clear hC
 have hMz := (((((arr_gt HM9.out hg (by omega)).set 0 (.int .i64 g.w)).set 1 (.int .i64 g.h)).set 2 (.slice none 0 0)).other (w.heap.size + 1) 0 (.slice AP (makeT g (1 + (x : Int))).length cP) (by omega)).other (w.heap.size + 1) 1 (.slice AQ (makeT g (1 + (u : Int))).length cQ) (by omega)
 have hKz := ((((((arr_gt HK9.out hg (by omega)).other w.heap.size 0 (.int .i64 g.w) (by omega)).other w.heap.size 1 (.int .i64 g.h) (by omega)).other w.heap.size 2 (.slice none 0 0) (by omega)).set 0 (.slice AP (makeT g (1 + (x : Int))).length cP)).set 1 (.slice AQ (makeT g (1 + (u : Int))).length cQ))
 rw [← ef] at hMz hKz
 have hBy : Below w.heap.size w wy := bw_cur HB9.out hg (by omega)
 have HBf : Hid (Below w.heap.size w wf) := Lib.hid (by rw [ef]; exact low_set (low_set (low_set (low_set (low_set hBy (Nat.le_refl _) 0 _) (Nat.le_refl _) 1 _) (Nat.le_refl _) 2 _) (by omega) 0 _) (by omega) 1 _)
 have cgf : Chg w.heap.size (w.heap.size + 2) wy wf := ⟨by rw [ef]; rfl, by rw [ef]; rfl, by rw [ef]; rfl, by rw [ef]; simp only [szs]; omega, fun i hi hn => by
  rw [ef]
  have hs : ∀ (W : World) (o j : Nat) (v : Value), i ≠ o → (W.setCell ⟨o, j, none⟩ v).heap[i]? = W.heap[i]? := fun W o j v h => Below.heap_setCell W ⟨o, j, none⟩ v i h
  rw [hs _ _ _ _ (by omega), hs _ _ _ _ (by omega), hs _ _ _ _ (by omega), hs _ _ _ _ (by omega), hs _ _ _ _ (by omega)]⟩
 have cgb : Chg b (b + 1) w9 wy := ⟨hg.os, hg.tape, hg.output, hg.size, fun i hi hn => hg.block i hi (fun e => by have := Option.some.inj e; omega)⟩
 have HPf := Lib.hid ((HP9.out.chg cgb (by omega)).chg cgf (by omega)).reads.2.2
 have HQf := Lib.hid ((HQ9.out.chg cgb (by omega)).chg cgf (by omega)).reads.2.2
 have HRf := Lib.hid ((RU.of hr (Nat.le_refl _) (Nat.le_refl _)).chg cgf (by omega)).reads.2.2
 have HMz := Lib.hid hMz; have HKz := Lib.hid hKz; have HD := Lib.hid hd
 clear hMz hKz hd hr hg hBy cgf cgb ef
 refine ⟨_, rfl, by rfl, ?_⟩
 go_simp
 go_wp2
 exact bodyPost_ret (results_cells2 Try.results6 _ _ w.heap.size (w.heap.size + 1) 28 32 _ _ (0, 0) (0, 0) _ _ rfl rfl HMz.out HKz.out Try.underlying28 Try.underlying32 rfl rfl (by kernel_rfl) (by kernel_rfl)) rfl ⟨⟨g, 1 + (x : Int), 1 + (u : Int), l, AP, AQ, D, cP, cQ, d, rfl, ⟨g1, g2, g3, g4, gn⟩, ⟨by omega, by omega, by omega, by omega⟩, HD.out, HPf.out, HQf.out, HRf.out⟩, HBf.out⟩
end Go.Proofs.Ytdajidljogpknaa
