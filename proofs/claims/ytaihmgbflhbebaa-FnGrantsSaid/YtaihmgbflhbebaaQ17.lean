/- Lemmas for laws of this seat, for all inputs: DrN Len Cr Rot Wh Si Geo Wh2 Wh3 DrP. -/
import Derived.Test.YtaihmgbflhbebaaQ7
import Derived.Test.YtaihmgbflhbebaaQ14
import Derived.Test.YtaihmgbflhbebaaQ16
import Derived.Test.YtaihmgbflhbebaaQ5
import Derived.Test.YtaihmgbflhbebaaQ11
import Derived.Test.YtaihmgbflhbebaaQ8
import Derived.Test.YtaihmgbflhbebaaQ12
import Derived.Test.YtaihmgbflhbebaaQ6
set_option linter.unusedVariables false
set_option linter.unusedSimpArgs false
namespace Go.Proofs.Ytaihmgbflhbebaa
open Go.RowKit Go.Proofs.YtaihmgbflhbebaaW.PrintWords
open NoC
theorem NX.cur {w w1 : World} {lo b : Nat} {n : Net} {q : NA} {v4 v7 v8 : List Value} (h : NX w lo n q v4 v7 v8) (hg : w.grownBy w1 (some b)) (hb : b < lo) : NX w1 lo n q v4 v7 v8 := by
  have ne : ∀ {v : Value}, (∀ k, v.ownBlock = some k → lo ≤ k) → v.ownBlock = none ∨ v.ownBlock ≠ some b := fun {v} hv => by
    cases e : v.ownBlock with
    | none => exact .inl rfl
    | some k => exact .inr (fun e2 => by have := hv k e; have := Option.some.inj e2; omega)
  exact ⟨R_grownI h.br hg (ne (Kd.R_base h.br)), R_grownI h.pa hg (ne (Kd.R_base h.pa)), R_grownI h.pb hg (ne (Kd.R_base h.pb)), R_grownI h.owners hg (ne (Kd.R_base h.owners)), R_grownI h.turns hg (ne (Kd.R_base h.turns)), own_other h.bufs hg (ne (own_base h.bufs)), own_other h.srcs hg (ne (own_base h.srcs)), own_other h.arrs hg (ne (own_base h.arrs)), ⟨h.rows.len, fun i hi => R_grownF (h.rows.row i hi) hg (ne (Kd.R_base (h.rows.row i hi))), h.rows.ap⟩, h.apI, h.apO⟩
theorem BN.cur {w w1 : World} {c b : Nat} (h : BN w c) (hg : w.grownBy w1 (some b)) (hne : c ≠ b) : BN w1 c := by
  have hl := h.lt
  obtain ⟨cs, h1, h2⟩ := h
  exact ⟨cs, (hg.block c hl (fun e => hne (Option.some.inj e))).trans h1, h2⟩
theorem BT.cur {w w1 : World} {c b : Nat} {n : Net} {q : NA} (h : BT w c n q) (hg : w.grownBy w1 (some b)) (hne : c ≠ b) : BT w1 c n q :=
  (hg.block c h.lt (fun e => hne (Option.some.inj e))).trans h
theorem cur_put {w : World} {b B0 c : Nat} {n : Net} {q : NA} (h : Cur w b B0) (h1 : b < c) : Cur (putN w c n q) b B0 := by
  unfold putN
  refine Cur.far _ _ ?_ h1
  refine Cur.far _ _ ?_ h1
  refine Cur.far _ _ ?_ h1
  refine Cur.far _ _ ?_ h1
  refine Cur.far _ _ ?_ h1
  refine Cur.far _ _ ?_ h1
  refine Cur.far _ _ ?_ h1
  refine Cur.far _ _ ?_ h1
  refine Cur.far _ _ ?_ h1
  refine Cur.far _ _ ?_ h1
  refine Cur.far _ _ ?_ h1
  exact h
theorem bn_off {w : World} {b c : Nat} {n : Net} {q : NA} (h : BN w c) (hne : c ≠ b) : BN (putN w b n q) c := by
  obtain ⟨cs, h1, h2⟩ := h
  exact ⟨cs, by rw [blk_put hne]; exact h1, h2⟩
def DrN (n : Net) : Prop := ∃ (g : Grid) (r s : Int) (l : List Packet) (k : Nat), (1 ≤ g.w ∧ g.w ≤ 4 ∧ 1 ≤ g.h ∧ g.h ≤ 4 ∧ 2 ≤ nodeCount g) ∧ (1 ≤ r ∧ r ≤ 4 ∧ 1 ≤ s ∧ s ≤ 4) ∧ Drawn g l ∧ k < 12 ∧ n = runN (sendAllN (newN ⟨g, []⟩ (makeT g r) (makeT g s)) l) k
theorem makeT_le {g : Grid} {r : Int} : (makeT g r).length ≤ 256 := by
  have := count_le g
  unfold makeT
  rw [makeTo_len]
  have h : (nodeCount g).toNat ≤ 16 := by omega
  exact Nat.mul_le_mul h h
theorem std_classes {g : Grid} {r s : Int} (hg : 1 ≤ g.w ∧ g.w ≤ 4 ∧ 1 ≤ g.h ∧ g.h ≤ 4) (h : 1 ≤ r ∧ r ≤ 4 ∧ 1 ≤ s ∧ s ≤ 4) : classesOk ⟨g, []⟩ (makeT g r) (makeT g s) = true := by
  unfold classesOk
  rw [make_ok hg.1 hg.2.1 hg.2.2.1 hg.2.2.2 h.1 h.2.1, make_ok hg.1 hg.2.1 hg.2.2.1 hg.2.2.2 h.2.2.1 h.2.2.2]
  rfl
theorem sendAll_ok {n : Net} (ok : netOk n = true) (l : List Packet) : netOk (sendAllN n l) = true := by
  unfold sendAllN
  split
  · exact sndTo_ok ok l _
  · exact ok
theorem sndTo_rest (n : Net) (l : List Packet) : ∀ k, (sndTo n l k).time = n.time ∧ (sndTo n l k).arrs = n.arrs ∧ (sndTo n l k).mesh = n.mesh ∧ (sndTo n l k).pa = n.pa ∧ (sndTo n l k).pb = n.pb ∧ (sndTo n l k).bufs = n.bufs := by
  intro k
  induction k with
  | zero => exact ⟨rfl, rfl, rfl, rfl, rfl, rfl⟩
  | succ k ih =>
    have h : ∀ x : Net, ∀ p, (sndN x p).time = x.time ∧ (sndN x p).arrs = x.arrs ∧ (sndN x p).mesh = x.mesh ∧ (sndN x p).pa = x.pa ∧ (sndN x p).pb = x.pb ∧ (sndN x p).bufs = x.bufs := fun x p => by unfold sndN sendN; split <;> exact ⟨rfl, rfl, rfl, rfl, rfl, rfl⟩
    obtain ⟨a1, a2, a3, a4, a5, a6⟩ := h (sndTo n l k) (rp l (k : Int))
    obtain ⟨b1, b2, b3, b4, b5, b6⟩ := ih
    exact ⟨a1.trans b1, a2.trans b2, a3.trans b3, a4.trans b4, a5.trans b5, a6.trans b6⟩
theorem sendAll_rest (n : Net) (l : List Packet) : (sendAllN n l).time = n.time ∧ (sendAllN n l).arrs = n.arrs ∧ (sendAllN n l).mesh = n.mesh ∧ (sendAllN n l).pa = n.pa ∧ (sendAllN n l).pb = n.pb ∧ (sendAllN n l).bufs = n.bufs := by
  unfold sendAllN
  split
  · exact sndTo_rest n l _
  · exact ⟨rfl, rfl, rfl, rfl, rfl, rfl⟩
theorem new_arrs (m : Mesh) (pa pb : List Int) : ∀ x ∈ (newN m pa pb).arrs, x = [] := by
  intro x hx
  exact List.eq_of_mem_replicate hx
set_option maxHeartbeats 16000000 in
set_option maxRecDepth 100000 in
theorem spec_l20Net (b B0 : Nat) (w0 w : World) (HC : Cur w b B0) (hB0 : Below w0.heap.size w0 w) (hb0 : w0.heap.size ≤ b) : Calls Try.prog 11 #[.pointer (some ⟨b, 0, none⟩)] w fun e w' => (∃ (n : Net) (q : NA) (lo : Nat) (v4 v7 v8 : List Value), e = .returned (.agg (netCells n q)) ∧ DrN n ∧ NB n ∧ NX w' lo n q v4 v7 v8) ∧ Below w0.heap.size w0 w' := by
 have hbl := HC.lt
 have hbB := HC.1
 obtain ⟨wa, ewa⟩ : ∃ z, z = w.alloc (.cells #[.int .i64 0, .int .i64 0, .slice none 0 0, .slice none 0 0, .slice none 0 0, .slice none 0 0, .slice none 0 0, .slice none 0 0, .slice none 0 0, .slice none 0 0, .int .i64 0] 35) := ⟨_, rfl⟩
 have hwa : Below w.heap.size w wa := by rw [ewa]; exact bw_alloc _ (bw_refl w)
 have zwa : wa.heap.size = w.heap.size + 1 := by rw [ewa]; simp only [szs]
 have HZa : BN wa w.heap.size := by rw [ewa]; exact (BT.new w zeroN ZQ).bn
 have HCa := HC.below hwa
 have HBa := bw_then hB0 hwa
 go_enter Try.func11, Try.ntmps11
 go_wp2_with fail
 rw [← ewa]
 clear ewa
 refine (spec_l14Grid b _ _ HCa).mono ?_
 rintro e w2 ⟨g, rfl, g1, g2, g3, g4, gn, HC2, hg2⟩
 have HZ2 := HZa.cur hg2 (by omega)
 have HB2 : Below w0.heap.size w0 w2 := bw_cur HBa hg2 hb0
 have z2 := hg2.size
 clear hg2 HZa HBa HCa hwa HC hB0
 obtain ⟨w3, e3⟩ : ∃ z, z = w2.alloc (.cells #[.int .i64 g.w, .int .i64 g.h] 25) := ⟨_, rfl⟩
 have hw3 : Below w2.heap.size w2 w3 := by rw [e3]; exact bw_alloc _ (bw_refl w2)
 have HT3 : Hid (Arr w3 w2.heap.size 25 #[.int .i64 g.w, .int .i64 g.h]) := Lib.hid (by rw [e3]; exact Arr.new w2 _ _ _ rfl)
 have HZ3 := Lib.hid (HZ2.below hw3)
 have HB3 := Lib.hid (bw_then HB2 hw3)
 have HC3 := Lib.hid (HC2.below hw3)
 have z3 : w3.heap.size = w2.heap.size + 1 := by rw [e3]; simp only [szs]
 clear hw3 HZ2 HB2 HC2
 go_wp2_with fail
 rw [← e3]
 clear e3
 refine wp_region_tz w3.heap.size (fun i => if i = 11 then .cells #[.slice none 0 0, .slice none 0 0] 32 else .cells #[] 0) (fun i g => if i = 11 then .pointer (some ⟨g, 0, none⟩) else undef) (fun W => w3.grownBy W (some b)) 12 [(0, .quiet), (1, .quiet), (2, .chain), (3, .quiet), (4, .chain), (5, .quiet), (6, .quiet), (7, .chain), (8, .quiet), (9, .chain), (10, .quiet), (11, .lit)] (by kernel_rfl) (by kernel_rfl) (by kernel_rfl) (by kernel_rfl) (by kernel_rfl) (by kernel_rfl) (by kernel_rfl) (by kernel_rfl) (gt_drew (World.grownBy.refl _ _)) ⟨fun W o h => gt_alloc _ h, fun W h => h.size⟩ (fun W => Cur W b B0) (HC3.out.below (bw_drew (bw_refl _))) (fun _ W W' h hb => h.below hb) ?_
 refine wpTz_v (some 9) (.agg #[.int .i64 g.w, .int .i64 g.h]) rfl rfl (by rfl) (fun W hC => ?_) ?_
 ·have hg := arr_gt HT3.out hC (by omega)
  have h0 : W.cell? ⟨w2.heap.size, 0, none⟩ = some (.int .i64 g.w) := hg.cell 0
  have h1 : W.cell? ⟨w2.heap.size, 1, none⟩ = some (.int .i64 g.h) := hg.cell 1
  have hl := hg.lt
  clear hg
  clear hC
  go_simp
  try rfl
 try simp only [Act.put, nms]
 refine wpTz_v (some 10) (.pointer (some ⟨b, 0, none⟩)) rfl rfl (by rfl) (fun W hC => ?_) ?_
 ·clear hC
  go_simp
  try rfl
 try simp only [Act.put, nms]
 refine wpTz_e (some 11) rfl rfl (by rfl) ((0, 0) : Fin 4 × Nat) (fun y => .int .i64 ((y.1.val : Nat) : Int)) (fun y W => Cur W b B0) (fun y => (y.2, y.2)) (fun W hF hC => ?_) (fun y W W' h hb => h.below hb) (fun xy => ?_)
 ·refine LoOp.enter (by go_simp; first | done | exact ⟨rfl, rfl⟩ | rfl) ?_
  refine (spec_l01Below b _ 4 W hF (by omega) (by omega)).mono ?_
  rintro e W1 ⟨x', rfl, x0, x1, HC1, hg1⟩
  obtain ⟨k', rfl⟩ : ∃ k' : Nat, x' = k' := ⟨x'.toNat, by omega⟩
  exact ⟨_, rfl, (⟨k', by omega⟩, W.heap.size), rfl, grown_trans hC hg1, HC1, ⟨hg1.size, fun i hi hlt => hg1.block i hlt (fun e => by have := Option.some.inj e; omega)⟩, Nat.le_refl _, hg1.size⟩
 obtain ⟨⟨x, hx⟩, nx⟩ := xy
 dsimp only
 try simp only [Act.put, nms]
 refine wpTz_v (some 12) (.int .i64 (1 + (x : Int))) rfl rfl (by rfl) (fun W hC => ?_) ?_
 ·have hwx : IntKind.i64.wrap (1 + (x : Int)) = 1 + (x : Int) := IntWalk.i64_in _ (by omega)
  clear hC
  go_simp
  try rfl
 try simp only [Act.put, nms]
 refine wpTz_d (some 13) rfl rfl (by rfl) (⟨none, 0, 0, 0⟩ : TX) (fun y => .agg #[.slice y.A (makeT g (1 + (x : Int))).length y.c]) (fun y W => gT w3.heap.size y (makeT g (1 + (x : Int))) W ∧ Cur W b B0) (fun y => (y.lo, y.hi)) (fun W hF hC => ?_) (fun y W W' h hb => ⟨h.1.below hb, h.2.below hb⟩) (fun yy => ?_)
 ·refine LoOp.enter (by go_simp; first | done | exact ⟨rfl, rfl⟩ | rfl) ?_
  refine (spec_l05Make g (1 + (x : Int)) W g1 g2 g3 g4 (by omega) (by omega)).mono ?_
  rintro e W1 ⟨hg1, hb1⟩
  obtain ⟨y, rfl, hy, h1, h2⟩ := gT.of hg1 hb1 hC.size
  exact ⟨_, rfl, y, rfl, grown_trans hC (grown_below _ hb1), ⟨hy, hF.below hb1⟩, hb1, h1, h2⟩
 obtain ⟨AP, cP, lP, hP⟩ := yy
 dsimp only
 try simp only [Act.put, nms]
 refine wpTz_v (some 14) (.agg #[.int .i64 g.w, .int .i64 g.h]) rfl rfl (by rfl) (fun W hC => ?_) ?_
 ·have hg := arr_gt HT3.out hC (by omega)
  have h0 : W.cell? ⟨w2.heap.size, 0, none⟩ = some (.int .i64 g.w) := hg.cell 0
  have h1 : W.cell? ⟨w2.heap.size, 1, none⟩ = some (.int .i64 g.h) := hg.cell 1
  have hl := hg.lt
  clear hg
  clear hC
  go_simp
  try rfl
 try simp only [Act.put, nms]
 refine wpTz_v (some 15) (.pointer (some ⟨b, 0, none⟩)) rfl rfl (by rfl) (fun W hC => ?_) ?_
 ·clear hC
  go_simp
  try rfl
 try simp only [Act.put, nms]
 refine wpTz_e (some 16) rfl rfl (by rfl) ((0, 0) : Fin 4 × Nat) (fun y => .int .i64 ((y.1.val : Nat) : Int)) (fun y W => gT w3.heap.size ⟨AP, cP, lP, hP⟩ (makeT g (1 + (x : Int))) W ∧ Cur W b B0) (fun y => (y.2, y.2)) (fun W hF hC => ?_) (fun y W W' h hb => ⟨h.1.below hb, h.2.below hb⟩) (fun xy => ?_)
 ·refine LoOp.enter (by go_simp; first | done | exact ⟨rfl, rfl⟩ | rfl) ?_
  refine (spec_l01Below b _ 4 W hF.2 (by omega) (by omega)).mono ?_
  rintro e W1 ⟨x', rfl, x0, x1, HC1, hg1⟩
  obtain ⟨k', rfl⟩ : ∃ k' : Nat, x' = k' := ⟨x'.toNat, by omega⟩
  exact ⟨_, rfl, (⟨k', by omega⟩, W.heap.size), rfl, grown_trans hC hg1, ⟨hF.1.grown hg1 (by omega), HC1⟩, ⟨hg1.size, fun i hi hlt => hg1.block i hlt (fun e => by have := Option.some.inj e; omega)⟩, Nat.le_refl _, hg1.size⟩
 obtain ⟨⟨u, hu⟩, nu⟩ := xy
 dsimp only
 try simp only [Act.put, nms]
 refine wpTz_v (some 17) (.int .i64 (1 + (u : Int))) rfl rfl (by rfl) (fun W hC => ?_) ?_
 ·have hwx : IntKind.i64.wrap (1 + (u : Int)) = 1 + (u : Int) := IntWalk.i64_in _ (by omega)
  clear hC
  go_simp
  try rfl
 try simp only [Act.put, nms]
 refine wpTz_d (some 18) rfl rfl (by rfl) (⟨none, 0, 0, 0⟩ : TX) (fun y => .agg #[.slice y.A (makeT g (1 + (u : Int))).length y.c]) (fun y W => gT w3.heap.size y (makeT g (1 + (u : Int))) W ∧ gT w3.heap.size ⟨AP, cP, lP, hP⟩ (makeT g (1 + (x : Int))) W ∧ Cur W b B0) (fun y => (y.lo, y.hi)) (fun W hF hC => ?_) (fun y W W' h hb => ⟨h.1.below hb, h.2.1.below hb, h.2.2.below hb⟩) (fun yy => ?_)
 ·refine LoOp.enter (by go_simp; first | done | exact ⟨rfl, rfl⟩ | rfl) ?_
  refine (spec_l05Make g (1 + (u : Int)) W g1 g2 g3 g4 (by omega) (by omega)).mono ?_
  rintro e W1 ⟨hg1, hb1⟩
  obtain ⟨y, rfl, hy, h1, h2⟩ := gT.of hg1 hb1 hC.size
  exact ⟨_, rfl, y, rfl, grown_trans hC (grown_below _ hb1), ⟨hy, hF.1.below hb1, hF.2.below hb1⟩, hb1, h1, h2⟩
 obtain ⟨AQ, cQ, lQ, hQ⟩ := yy
 dsimp only
 try simp only [Act.put, nms]
 refine wpTz_v (some 19) (.agg #[.slice AP (makeT g (1 + (x : Int))).length cP, .slice AQ (makeT g (1 + (u : Int))).length cQ]) rfl rfl (by rfl) (fun W hC => ?_) ?_
 ·clear hC
  go_simp
  try rfl
 try simp only [Act.put, nms]
 refine wpTz_l (some 4) rfl rfl (by rfl) (fun W => ?_) (fun gb => ?_)
 ·go_simp
  try rfl
 try simp only [Act.put, nms]
 refine wpTz_z (fun w8 hF hC => ?_)
 obtain ⟨⟨hT2, hT1, HC8⟩, bg, hgb, ig⟩ := hF
 simp only [List.forall_mem_cons, List.not_mem_nil, false_implies, implies_true, and_true] at ig
 have ha8 : Arr w8 gb 32 #[.slice none 0 0, .slice none 0 0] := hgb
 have r0 : w8.cell? ⟨gb, 0, none⟩ = some (.slice none 0 0) := ha8.cell 0
 have r1 : w8.cell? ⟨gb, 1, none⟩ = some (.slice none 0 0) := ha8.cell 1
 have f0 := ha8.frozen 0
 have f1 := ha8.frozen 1
 have rl := ha8.lt
 have HB8 := bw_cur HB3.out hC hb0
 have HZ8 := HZ3.out.cur hC (by omega)
 have HT8 := arr_gt HT3.out hC (by omega)
 have z8 := hC.size
 obtain ⟨w9, e9⟩ : ∃ z, z = (w8.setCell ⟨gb, 0, none⟩ (.slice AP (makeT g (1 + (x : Int))).length cP)).setCell ⟨gb, 1, none⟩ (.slice AQ (makeT g (1 + (u : Int))).length cQ) := ⟨_, rfl⟩
 have HG9 : Hid (Arr w9 gb 32 #[.slice AP (makeT g (1 + (x : Int))).length cP, .slice AQ (makeT g (1 + (u : Int))).length cQ]) := Lib.hid (by rw [e9]; exact (ha8.set 0 _).set 1 _)
 have HZ9 := Lib.hid (show BN w9 w.heap.size from by rw [e9]; exact (HZ8.off (by omega) 0 _).off (by omega) 1 _)
 have HT9 := Lib.hid (show Arr w9 w2.heap.size 25 _ from by rw [e9]; exact (HT8.other gb 0 _ (by omega)).other gb 1 _ (by omega))
 have HB9 : Hid (Below w0.heap.size w0 w9) := Lib.hid (by rw [e9]; exact low_set (low_set HB8 (by omega) 0 _) (by omega) 1 _)
 have HC9 : Hid (Cur w9 b B0) := Lib.hid (by rw [e9]; exact Cur.far _ _ (Cur.far _ _ HC8 (by omega)) (by omega))
 have z9 : w9.heap.size = w8.heap.size := by rw [e9]; simp only [szs]
 have hP1 := hT1.2.2.2
 have hQ1 := hT2.2.2.2
 have lP1 := hT1.1
 have lQ1 := hT2.1
 have lP3 := hT1.2.2.1
 have lQ3 := hT2.2.2.1
 dsimp only at hP1 hQ1 lP1 lQ1 lP3 lQ3
 have cg8 : Chg gb (gb + 1) w8 w9 := ⟨by rw [e9]; rfl, by rw [e9]; rfl, by rw [e9]; rfl, by omega, fun i hi hn => by
  rw [e9]
  exact (Below.heap_setCell _ ⟨gb, 1, none⟩ _ i (fun e => by have e2 : i = gb := e; omega)).trans (Below.heap_setCell _ ⟨gb, 0, none⟩ _ i (fun e => by have e2 : i = gb := e; omega))⟩
 have HP9 := Lib.hid (hP1.chg cg8 (by omega)).reads.2.2
 have HQ9 := Lib.hid (hQ1.chg cg8 (by omega)).reads.2.2
 clear hP1 hQ1 hT1 hT2 cg8
 refine ⟨_, rfl, by rfl, ?_⟩
 go_simp
 rw [← e9]
 clear e9 HB8 HZ8 HT8 HC8 hC r0 r1 f0 f1 rl ha8 hgb
 have gl := HG9.out.lt
 have hCL : Hid (classesOk ⟨g, []⟩ (makeT g (1 + (x : Int))) (makeT g (1 + (u : Int))) = true) := Lib.hid (std_classes ⟨g1, g2, g3, g4⟩ ⟨by omega, by omega, by omega, by omega⟩)
 have hpl := makeT_le (g := g) (r := 1 + (x : Int))
 have hql := makeT_le (g := g) (r := 1 + (u : Int))
 obtain ⟨pa, hpa⟩ : ∃ z, (makeT g (1 + (x : Int))) = z := ⟨_, rfl⟩
 obtain ⟨pb, hpb⟩ : ∃ z, (makeT g (1 + (u : Int))) = z := ⟨_, rfl⟩
 rw [hpa] at hpl HP9 HG9 hCL ⊢
 rw [hpb] at hql HQ9 HG9 hCL ⊢
 have HPA := Lib.hid hpa
 have HPBB := Lib.hid hpb
 clear hpa hpb
 have a0 : w9.cell? ⟨w2.heap.size, 0, none⟩ = some (.int .i64 g.w) := HT9.out.cell 0
 have a1 : w9.cell? ⟨w2.heap.size, 1, none⟩ = some (.int .i64 g.h) := HT9.out.cell 1
 have a2 := HT9.out.lt
 have a3 : w9.cell? ⟨gb, 0, none⟩ = some (.slice AP pa.length cP) := HG9.out.cell 0
 have a4 : w9.cell? ⟨gb, 1, none⟩ = some (.slice AQ pb.length cQ) := HG9.out.cell 1
 go_wp2_with fail
 clear a0 a1 a2 a3 a4
 refine (spec_NetNew ⟨g, []⟩ pa pb none AP AQ 0 cP cQ _ (Kd.R_rowX (Kd.R_nil (Kd.int .i64) 3 _ 0 (fun _ => True))).2.2 (by simp) HP9.out (by omega) HQ9.out (by omega)).mono ?_
 rintro e w10 ⟨hg, hb10⟩
 obtain ⟨uq, uu4, uu7, uu8, rfl, HNu⟩ := hg
 have e0 : netNewN ⟨g, []⟩ pa pb = newN ⟨g, []⟩ pa pb := by unfold netNewN; rw [if_pos hCL.out]
 rw [e0] at HNu ⊢
 clear e0
 have HOK0 : Hid (netOk (newN ⟨g, []⟩ pa pb) = true) := Lib.hid (newN_ok hCL.out)
 have HNB0 : Hid (NB (newN ⟨g, []⟩ pa pb)) := Lib.hid (newN_nb (by simp) (by omega) (by omega))
 obtain ⟨N0, hN0⟩ : ∃ z, newN ⟨g, []⟩ pa pb = z := ⟨_, rfl⟩
 rw [hN0] at HNu HNB0 HOK0 ⊢
 have HE0 := Lib.hid hN0
 clear hN0
 obtain ⟨u1, u2, u3, u4, u5, u6, u7, u8, v1, v2, v3, v4, v5, v6, v7, v8⟩ := uq
 dsimp only [netCells]
 have hw11 : Below w10.heap.size w10 (w10.alloc (.cells #[.int .i64 N0.mesh.g.w, .int .i64 N0.mesh.g.h, .slice u1 N0.mesh.br.length v1, .slice u2 N0.pa.length v2, .slice u3 N0.pb.length v3, .slice u4 N0.bufs.length v4, .slice u5 N0.owners.length v5, .slice u6 N0.turns.length v6, .slice u7 N0.srcs.length v7, .slice u8 N0.arrs.length v8, .int .i64 N0.time] 35)) := bw_alloc _ (bw_refl w10)
 have HBT : Hid (BT (w10.alloc (.cells #[.int .i64 N0.mesh.g.w, .int .i64 N0.mesh.g.h, .slice u1 N0.mesh.br.length v1, .slice u2 N0.pa.length v2, .slice u3 N0.pb.length v3, .slice u4 N0.bufs.length v4, .slice u5 N0.owners.length v5, .slice u6 N0.turns.length v6, .slice u7 N0.srcs.length v7, .slice u8 N0.arrs.length v8, .int .i64 N0.time] 35)) w10.heap.size N0 ⟨u1, u2, u3, u4, u5, u6, u7, u8, v1, v2, v3, v4, v5, v6, v7, v8⟩) := Lib.hid (blk_new w10 _)
 have HN11 : Hid (NX (w10.alloc (.cells #[.int .i64 N0.mesh.g.w, .int .i64 N0.mesh.g.h, .slice u1 N0.mesh.br.length v1, .slice u2 N0.pa.length v2, .slice u3 N0.pb.length v3, .slice u4 N0.bufs.length v4, .slice u5 N0.owners.length v5, .slice u6 N0.turns.length v6, .slice u7 N0.srcs.length v7, .slice u8 N0.arrs.length v8, .int .i64 N0.time] 35)) w9.heap.size N0 ⟨u1, u2, u3, u4, u5, u6, u7, u8, v1, v2, v3, v4, v5, v6, v7, v8⟩ uu4 uu7 uu8) := Lib.hid (HNu.below hw11)
 have HZ11 := Lib.hid (show BN (w10.alloc (.cells #[.int .i64 N0.mesh.g.w, .int .i64 N0.mesh.g.h, .slice u1 N0.mesh.br.length v1, .slice u2 N0.pa.length v2, .slice u3 N0.pb.length v3, .slice u4 N0.bufs.length v4, .slice u5 N0.owners.length v5, .slice u6 N0.turns.length v6, .slice u7 N0.srcs.length v7, .slice u8 N0.arrs.length v8, .int .i64 N0.time] 35)) w.heap.size from (HZ9.out.below hb10).below hw11)
 have HT11 := Lib.hid (show Arr (w10.alloc (.cells #[.int .i64 N0.mesh.g.w, .int .i64 N0.mesh.g.h, .slice u1 N0.mesh.br.length v1, .slice u2 N0.pa.length v2, .slice u3 N0.pb.length v3, .slice u4 N0.bufs.length v4, .slice u5 N0.owners.length v5, .slice u6 N0.turns.length v6, .slice u7 N0.srcs.length v7, .slice u8 N0.arrs.length v8, .int .i64 N0.time] 35)) w2.heap.size 25 _ from (HT9.out.below hb10).below hw11)
 have HB11 := Lib.hid (show Below w0.heap.size w0 (w10.alloc (.cells #[.int .i64 N0.mesh.g.w, .int .i64 N0.mesh.g.h, .slice u1 N0.mesh.br.length v1, .slice u2 N0.pa.length v2, .slice u3 N0.pb.length v3, .slice u4 N0.bufs.length v4, .slice u5 N0.owners.length v5, .slice u6 N0.turns.length v6, .slice u7 N0.srcs.length v7, .slice u8 N0.arrs.length v8, .int .i64 N0.time] 35)) from bw_then (bw_then HB9.out hb10) hw11)
 have HC11 := Lib.hid (show Cur (w10.alloc (.cells #[.int .i64 N0.mesh.g.w, .int .i64 N0.mesh.g.h, .slice u1 N0.mesh.br.length v1, .slice u2 N0.pa.length v2, .slice u3 N0.pb.length v3, .slice u4 N0.bufs.length v4, .slice u5 N0.owners.length v5, .slice u6 N0.turns.length v6, .slice u7 N0.srcs.length v7, .slice u8 N0.arrs.length v8, .int .i64 N0.time] 35)) b B0 from (HC9.out.below hb10).below hw11)
 have z10 := bw_size hb10
 clear HNu hb10 hw11 HZ9 HT9 HB9 HC9 HP9 HQ9 HG9
 go_wp2_with fail
 obtain ⟨w11, e11⟩ : ∃ z, z = (w10.alloc (.cells #[.int .i64 N0.mesh.g.w, .int .i64 N0.mesh.g.h, .slice u1 N0.mesh.br.length v1, .slice u2 N0.pa.length v2, .slice u3 N0.pb.length v3, .slice u4 N0.bufs.length v4, .slice u5 N0.owners.length v5, .slice u6 N0.turns.length v6, .slice u7 N0.srcs.length v7, .slice u8 N0.arrs.length v8, .int .i64 N0.time] 35)) := ⟨_, rfl⟩
 rw [← e11] at HBT HN11 HZ11 HT11 HB11 HC11 ⊢
 have z11 : w11.heap.size = w10.heap.size + 1 := by rw [e11]; simp only [szs]
 clear e11
 refine wp_region_tzd 0 (fun _ => .cells #[] 0) (fun _ _ => undef) (fun W => w11.grownBy W (some b)) 8 [(0, .quiet), (1, .quiet), (2, .quiet), (3, .chain), (4, .chain), (5, .quiet), (6, .quiet), (7, .quiet)] (by kernel_rfl) (by kernel_rfl) (by kernel_rfl) (by kernel_rfl) 7 (by omega) (by kernel_rfl) (by kernel_rfl) (by kernel_rfl) (by kernel_rfl) (gt_drew (World.grownBy.refl _ _)) ⟨fun W o h => gt_alloc _ h, fun W h => Nat.zero_le _⟩ (fun W => Cur W b B0) (HC11.out.below (bw_drew (bw_refl _))) (fun e => by cases e) (by kernel_rfl) (fun od om h1 h2 => by
  obtain rfl := Option.some.inj h1
  obtain rfl := Option.some.inj h2
  exact ⟨by kernel_rfl, fun a v w w2 h => extract_any rfl a v w w2 h⟩) ?_
 refine wpTz_v (some 28) (.agg #[.int .i64 N0.mesh.g.w, .int .i64 N0.mesh.g.h, .slice u1 N0.mesh.br.length v1, .slice u2 N0.pa.length v2, .slice u3 N0.pb.length v3, .slice u4 N0.bufs.length v4, .slice u5 N0.owners.length v5, .slice u6 N0.turns.length v6, .slice u7 N0.srcs.length v7, .slice u8 N0.arrs.length v8, .int .i64 N0.time]) rfl rfl (by rfl) (fun W hC => ?_) ?_
 ·have hx := HBT.out.cur hC (by omega)
  have box11 : Box W w10.heap.size #[.int .i64 N0.mesh.g.w, .int .i64 N0.mesh.g.h, .slice u1 N0.mesh.br.length v1, .slice u2 N0.pa.length v2, .slice u3 N0.pb.length v3, .slice u4 N0.bufs.length v4, .slice u5 N0.owners.length v5, .slice u6 N0.turns.length v6, .slice u7 N0.srcs.length v7, .slice u8 N0.arrs.length v8, .int .i64 N0.time] := hx.box
  obtain ⟨h0, h1, h2, h3, h4, h5, h6, h7, h8, h9, h10⟩ := all11 box11
  clear box11
  have hl := hx.lt
  clear hx
  clear hC
  go_simp
  try rfl
 try simp only [Act.put, nms]
 refine wpTz_v (some 29) (.pointer (some ⟨b, 0, none⟩)) rfl rfl (by rfl) (fun W hC => ?_) ?_
 ·clear hC
  go_simp
  try rfl
 try simp only [Act.put, nms]
 refine wpTz_v (some 30) (.agg #[.int .i64 g.w, .int .i64 g.h]) rfl rfl (by rfl) (fun W hC => ?_) ?_
 ·have hx := arr_gt HT11.out hC (by omega)
  have h0 : W.cell? ⟨w2.heap.size, 0, none⟩ = some (.int .i64 g.w) := hx.cell 0
  have h1 : W.cell? ⟨w2.heap.size, 1, none⟩ = some (.int .i64 g.h) := hx.cell 1
  have hl := hx.lt
  clear hx
  clear hC
  go_simp
  try rfl
 try simp only [Act.put, nms]
 refine wpTz_c (some 31) rfl rfl (by rfl) ((w11, [], none, 0) : World × List Packet × Option Addr × Nat) (fun y => .slice y.2.2.1 y.2.1.length y.2.2.2) (fun y W => Cur W b B0 ∧ Drawn g y.2.1 ∧ kP.C W y.2.2.1 y.2.1.length y.2.1) (fun W hF hC => ?_) (fun yy => ?_)
 ·refine LoOp.enter (by go_simp; first | done | exact ⟨rfl, rfl⟩ | rfl) ?_
  refine (spec_l16Packets b _ g _ hF g1 g2 g3 g4 gn).mono ?_
  rintro e W1 ⟨l, v, rfl, hd, hr, hc1, hg1⟩
  obtain ⟨A', c', rfl, _, hR⟩ := Kd.R_reads hr
  exact ⟨_, rfl, (W1, l, A', c'), rfl, grown_trans hC hg1, hc1, hd, hR⟩
 obtain ⟨wy, l, D, d⟩ := yy
 dsimp only
 try simp only [Act.put, nms]
 refine wpTz_c (some 32) rfl rfl (by rfl) (NAV.zero) (fun y => .tuple #[.agg (netCells (sendAllN N0 l) y.q), .int .i64 (sendAllK N0 l)]) (fun y W => Cur W b B0 ∧ Drawn g l ∧ GX w11.heap.size (sendAllN N0 l) y W) (fun W hF hC => ?_) (fun ny => ?_)
 ·obtain ⟨hcu, hd, hR⟩ := hF
  refine LoOp.enter (by go_simp; first | done | exact ⟨rfl, rfl⟩ | rfl) ?_
  have hl6 := hd.1
  refine (spec_SendAll N0 l ⟨u1, u2, u3, u4, u5, u6, u7, u8, v1, v2, v3, v4, v5, v6, v7, v8⟩ D d W ((HN11.out.cur hC (by omega)).reads HNB0.out) hR (by omega)).mono ?_
  rintro e W1 ⟨hg, hb1⟩
  obtain ⟨y, rfl, hy, h1, h2⟩ := GX.of hg hb1 hC.size
  exact ⟨_, rfl, y, rfl, grown_trans hC (grown_below _ hb1), hcu.below hb1, hd, hy⟩
 obtain ⟨sq, ss4, ss7, ss8, slo, shi⟩ := ny
 obtain ⟨s1, s2, s3, s4, s5, s6, s7, s8, t1, t2, t3, t4, t5, t6, t7, t8⟩ := sq
 have HNB1 : Hid (NB (sendAllN N0 l)) := Lib.hid (sendAll_nb HNB0.out)
 have HOK1 : Hid (netOk (sendAllN N0 l) = true) := Lib.hid (sendAll_ok HOK0.out l)
 have HR1 := Lib.hid (sendAll_rest N0 l)
 obtain ⟨N1, hN1⟩ : ∃ z, sendAllN N0 l = z := ⟨_, rfl⟩
 obtain ⟨K1, hK1⟩ : ∃ z, sendAllK N0 l = z := ⟨_, rfl⟩
 rw [hN1] at HNB1 HOK1 HR1 ⊢
 rw [hK1]
 have HE1 := Lib.hid hN1
 clear hN1 hK1
 dsimp only [netCells]
 try simp only [Act.put, nms]
 refine wpTz_v (some 27) (.tuple #[.agg #[.int .i64 N1.mesh.g.w, .int .i64 N1.mesh.g.h, .slice s1 N1.mesh.br.length t1, .slice s2 N1.pa.length t2, .slice s3 N1.pb.length t3, .slice s4 N1.bufs.length t4, .slice s5 N1.owners.length t5, .slice s6 N1.turns.length t6, .slice s7 N1.srcs.length t7, .slice s8 N1.arrs.length t8, .int .i64 N1.time], .int .i64 K1]) rfl rfl (by rfl) (fun W hC => ?_) ?_
 ·clear hC
  go_simp
  try rfl
 try simp only [Act.put, nms]
 refine wpTz_v (some 33) (.agg #[.int .i64 N1.mesh.g.w, .int .i64 N1.mesh.g.h, .slice s1 N1.mesh.br.length t1, .slice s2 N1.pa.length t2, .slice s3 N1.pb.length t3, .slice s4 N1.bufs.length t4, .slice s5 N1.owners.length t5, .slice s6 N1.turns.length t6, .slice s7 N1.srcs.length t7, .slice s8 N1.arrs.length t8, .int .i64 N1.time]) rfl rfl (by rfl) (fun W hC => ?_) ?_
 ·clear hC
  go_simp
  try rfl
 try simp only [Act.put, nms]
 refine wpTz_v (some 34) (.int .i64 K1) rfl rfl (by rfl) (fun W hC => ?_) ?_
 ·clear hC
  go_simp
  try rfl
 try simp only [Act.put, nms]
 refine wpTz_z (fun w12 hF hC => ?_)
 obtain ⟨HC12, hd, hgx⟩ := hF
 try dsimp only at hgx
 have HD := Lib.hid hd
 have HB12 : BN w12 w10.heap.size := (HBT.out.cur hC (by omega)).bn
 have HZ12 := HZ11.out.cur hC (by omega)
 have HW12 := bw_cur HB11.out hC hb0
 have z12 := hC.size
 have hgl := hgx.2.2.1
 have hgh := hgx.2.2.2.1
 have hgs := hgx.2.2.2.2
 try dsimp only at hgl hgh hgs
 obtain ⟨⟨ry0, rv0⟩, ⟨ry1, rv1⟩, ⟨ry2, rv2⟩, ⟨ry3, rv3⟩, ⟨ry4, rv4⟩, ⟨ry5, rv5⟩, ⟨ry6, rv6⟩, ⟨ry7, rv7⟩, ⟨ry8, rv8⟩, ⟨ry9, rv9⟩, ⟨ry10, rv10⟩, rz0, rz1, rz2, rz3, rz4, rz5, rz6, rz7, rz8, rz9, rz10⟩ := allBN HB12
 have zl := HB12.lt
 obtain ⟨w13, e13⟩ : ∃ z, z = putN w12 w10.heap.size N1 ⟨s1, s2, s3, s4, s5, s6, s7, s8, t1, t2, t3, t4, t5, t6, t7, t8⟩ := ⟨_, rfl⟩
 have s13 : w13.heap.size = w12.heap.size := by rw [e13]; unfold putN; simp only [szs]
 have HBT13 : Hid (BT w13 w10.heap.size N1 ⟨s1, s2, s3, s4, s5, s6, s7, s8, t1, t2, t3, t4, t5, t6, t7, t8⟩) := Lib.hid (by rw [e13]; exact putN_BT HB12)
 have HN13 := Lib.hid (show NX w13 slo N1 ⟨s1, s2, s3, s4, s5, s6, s7, s8, t1, t2, t3, t4, t5, t6, t7, t8⟩ ss4 ss7 ss8 from by rw [e13]; exact hgx.1.put HB12)
 have HZ13 := Lib.hid (show BN w13 w.heap.size from by rw [e13]; exact bn_off HZ12 (by omega))
 have HB13 := Lib.hid (show Below w0.heap.size w0 w13 from by rw [e13]; exact below_put HW12 (by omega))
 have HC13 := Lib.hid (show Cur w13 b B0 from by rw [e13]; exact cur_put HC12 (by omega))
 clear HB12 HZ12 HW12 HC12 hgx hd
 clear hC
 refine ⟨_, rfl, by rfl, LoOp.skip rfl (w1 := w13) ?_ ?_⟩
 ·unfold putN at e13
  try dsimp only at e13
  rw [e13]
  go_simp
  try rfl
 try simp only [Act.put, nms]
 clear e13 rv0 rz0 rv1 rz1 rv2 rz2 rv3 rz3 rv4 rz4 rv5 rz5 rv6 rz6 rv7 rz7 rv8 rz8 rv9 rz9 rv10 rz10 zl HBT HN11 HZ11 HT11 HB11 HC11
 have gl2 := HBT13.out.lt
 go_wp2_with fail
 refine wp_region_tz 0 (fun _ => .cells #[] 0) (fun _ _ => undef) (fun W => w13.grownBy W (some b)) 4 [(0, .quiet), (1, .quiet), (2, .chain), (3, .chain)] (by kernel_rfl) (by kernel_rfl) (by kernel_rfl) (by kernel_rfl) (by kernel_rfl) (by kernel_rfl) (by kernel_rfl) (by kernel_rfl) (gt_drew (World.grownBy.refl _ _)) ⟨fun W o h => gt_alloc _ h, fun W h => Nat.zero_le _⟩ (fun W => Cur W b B0) (HC13.out.below (bw_drew (bw_refl _))) (fun e => by cases e) ?_
 refine wpTz_v (some 35) (.agg #[.int .i64 N1.mesh.g.w, .int .i64 N1.mesh.g.h, .slice s1 N1.mesh.br.length t1, .slice s2 N1.pa.length t2, .slice s3 N1.pb.length t3, .slice s4 N1.bufs.length t4, .slice s5 N1.owners.length t5, .slice s6 N1.turns.length t6, .slice s7 N1.srcs.length t7, .slice s8 N1.arrs.length t8, .int .i64 N1.time]) rfl rfl (by rfl) (fun W hC => ?_) ?_
 ·have hx := HBT13.out.cur hC (by omega)
  have box11 : Box W w10.heap.size #[.int .i64 N1.mesh.g.w, .int .i64 N1.mesh.g.h, .slice s1 N1.mesh.br.length t1, .slice s2 N1.pa.length t2, .slice s3 N1.pb.length t3, .slice s4 N1.bufs.length t4, .slice s5 N1.owners.length t5, .slice s6 N1.turns.length t6, .slice s7 N1.srcs.length t7, .slice s8 N1.arrs.length t8, .int .i64 N1.time] := hx.box
  obtain ⟨h0, h1, h2, h3, h4, h5, h6, h7, h8, h9, h10⟩ := all11 box11
  clear box11
  have hl := hx.lt
  clear hx
  clear hC
  go_simp
  try rfl
 try simp only [Act.put, nms]
 refine wpTz_v (some 36) (.pointer (some ⟨b, 0, none⟩)) rfl rfl (by rfl) (fun W hC => ?_) ?_
 ·clear hC
  go_simp
  try rfl
 try simp only [Act.put, nms]
 refine wpTz_c (some 37) rfl rfl (by rfl) (0 : Fin 12) (fun y => .int .i64 ((y.val : Nat) : Int)) (fun y W => Cur W b B0) (fun W hF hC => ?_) (fun xy => ?_)
 ·refine LoOp.enter (by go_simp; first | done | exact ⟨rfl, rfl⟩ | rfl) ?_
  refine (spec_l01Below b _ 12 W hF (by omega) (by omega)).mono ?_
  rintro e W1 ⟨x', rfl, x0, x1, HC1, hg1⟩
  obtain ⟨k', rfl⟩ : ∃ k' : Nat, x' = k' := ⟨x'.toNat, by omega⟩
  exact ⟨_, rfl, ⟨k', by omega⟩, rfl, grown_trans hC hg1, HC1⟩
 obtain ⟨kk, hkk⟩ := xy
 dsimp only
 try simp only [Act.put, nms]
 refine wpTz_c (some 38) rfl rfl (by rfl) (NAV.zero) (fun y => .agg (netCells (runN N1 kk) y.q)) (fun y W => ∃ W0, w13.grownBy W0 (some b) ∧ Below W0.heap.size W0 W ∧ NX W slo (runN N1 kk) y.q y.v4 y.v7 y.v8) (fun W hF hC => ?_) (fun ny => ?_)
 ·refine LoOp.enter (by go_simp; first | done | exact ⟨rfl, rfl⟩ | rfl) ?_
  have ht : N1.time = 0 := by rw [HR1.out.1, ← HE0.out]; rfl
  have hA : ∀ x ∈ N1.arrs, x.length ≤ 1048576 := fun x hx => by
   rw [HR1.out.2.1, ← HE0.out] at hx
   rw [new_arrs _ _ _ x hx]
   simp
  refine (spec_l20Run N1 kk ⟨s1, s2, s3, s4, s5, s6, s7, s8, t1, t2, t3, t4, t5, t6, t7, t8⟩ ss4 ss7 ss8 slo W (HN13.out.cur hC (by omega)) HNB1.out hA HOK1.out (by omega) (by omega) (by have := hC.size; omega)).mono ?_
  rintro e W1 ⟨hg, hb1⟩
  obtain ⟨q9, v4, v7, v8, rfl, hN⟩ := hg
  exact ⟨_, rfl, ⟨q9, v4, v7, v8, 0, 0⟩, rfl, grown_trans hC (grown_below _ hb1), ⟨W, hC, hb1, hN⟩⟩
 obtain ⟨rq, r4, r7, r8, rlo, rhi⟩ := ny
 obtain ⟨x1, x2, x3, x4, x5, x6, x7, x8, y1, y2, y3, y4, y5, y6, y7, y8⟩ := rq
 have ht : N1.time = 0 := by rw [HR1.out.1, ← HE0.out]; rfl
 have hA : ∀ x ∈ N1.arrs, x.length ≤ 1048576 := fun x hx => by
  rw [HR1.out.2.1, ← HE0.out] at hx
  rw [new_arrs _ _ _ x hx]
  simp
 have HDR : Hid (Drawn g l → DrN (runN N1 kk)) := Lib.hid (fun hd => ⟨g, 1 + (x : Int), 1 + (u : Int), l, kk, ⟨g1, g2, g3, g4, gn⟩, ⟨by omega, by omega, by omega, by omega⟩, hd, hkk, by rw [HPA.out, HPBB.out, HE0.out, HE1.out]⟩)
 have HNBX : Hid (NB (runN N1 kk)) := Lib.hid (run_nb HNB1.out hA kk (by omega) (runN_ok HOK1.out kk (by omega)))
 obtain ⟨X, hX⟩ : ∃ z, runN N1 kk = z := ⟨_, rfl⟩
 rw [hX] at HDR HNBX ⊢
 clear hX hA ht
 dsimp only [netCells]
 try simp only [Act.put, nms]
 refine wpTz_z (fun w14 hF hC => ?_)
 obtain ⟨W0, hW0, hbW, hNX⟩ := hF
 try dsimp only at hNX
 have HZ14 : BN w14 w.heap.size := HZ13.out.cur hC (by omega)
 have HW14 := bw_cur HB13.out hC hb0
 obtain ⟨⟨ry0, rv0⟩, ⟨ry1, rv1⟩, ⟨ry2, rv2⟩, ⟨ry3, rv3⟩, ⟨ry4, rv4⟩, ⟨ry5, rv5⟩, ⟨ry6, rv6⟩, ⟨ry7, rv7⟩, ⟨ry8, rv8⟩, ⟨ry9, rv9⟩, ⟨ry10, rv10⟩, rz0, rz1, rz2, rz3, rz4, rz5, rz6, rz7, rz8, rz9, rz10⟩ := allBN HZ14
 have zl := HZ14.lt
 obtain ⟨W9, e9⟩ : ∃ z, z = putN w14 w.heap.size X ⟨x1, x2, x3, x4, x5, x6, x7, x8, y1, y2, y3, y4, y5, y6, y7, y8⟩ := ⟨_, rfl⟩
 have HB9 : Hid (BT W9 w.heap.size X ⟨x1, x2, x3, x4, x5, x6, x7, x8, y1, y2, y3, y4, y5, y6, y7, y8⟩) := Lib.hid (by rw [e9]; exact putN_BT HZ14)
 have HN9 := Lib.hid (show NX W9 slo X ⟨x1, x2, x3, x4, x5, x6, x7, x8, y1, y2, y3, y4, y5, y6, y7, y8⟩ r4 r7 r8 from by rw [e9]; exact hNX.put HZ14)
 have HL9 := Lib.hid (show Below w0.heap.size w0 W9 from by rw [e9]; exact below_put HW14 (by omega))
 clear HZ14 HW14 hNX hbW hW0
 clear hC
 refine ⟨_, rfl, by rfl, ?_⟩
 go_simp
 unfold putN at e9
 try dsimp only at e9
 rw [← e9]
 clear e9
 go_wp2
 exact bodyPost_ret (results_cell_row Try.results11 _ _ w.heap.size 35 _ (0, 0) _ rfl HB9.out Try.underlying35 rfl (by kernel_rfl)) rfl ⟨⟨X, ⟨x1, x2, x3, x4, x5, x6, x7, x8, y1, y2, y3, y4, y5, y6, y7, y8⟩, slo, r4, r7, r8, rfl, HDR.out HD.out, HNBX.out, HN9.out⟩, HL9.out⟩
set_option maxHeartbeats 8000000 in
set_option maxRecDepth 100000 in
theorem spec_DrawNet (A : Option Addr) (N c : Nat) (w : World) (HX : Byt w A N) : Calls Try.prog 5 #[.slice A N c] w fun e w' => (∃ (n : Net) (q : NA), e = .returned (.agg (netCells n q)) ∧ DrN n ∧ NetR 77 w' n q) ∧ Below w.heap.size w w' := by
  obtain ⟨wa, ewa⟩ : ∃ z, z = w.alloc (.cells #[.int .i64 0, .int .i64 0, .slice none 0 0, .slice none 0 0, .slice none 0 0, .slice none 0 0, .slice none 0 0, .slice none 0 0, .slice none 0 0, .slice none 0 0, .int .i64 0] 35) := ⟨_, rfl⟩
  have hwa : Below w.heap.size w wa := by rw [ewa]; exact bw_alloc _ (bw_refl w)
  have zwa : wa.heap.size = w.heap.size + 1 := by rw [ewa]; simp only [szs]
  have HZa : BN wa w.heap.size := by rw [ewa]; exact (BT.new w zeroN ZQ).bn
  have hxa := HX.below hwa
  go_enter Try.func5, Try.ntmps5
  go_wp2_with fail
  rw [← ewa]
  clear ewa
  refine (spec_l01New A N c _ hxa).mono ?_
  rintro e w1 ⟨b, rfl, hb, HC1, hb1⟩
  have hbl := HC1.lt
  have z1 := bw_size hb1
  go_wp2_with fail
  refine (spec_l20Net b _ wa w1 HC1 hb1 (by omega)).mono ?_
  rintro e w2 ⟨⟨X, rq, nlo, r4, r7, r8, rfl, HDR, HNB, HNR⟩, hb2⟩
  obtain ⟨x1, x2, x3, x4, x5, x6, x7, x8, y1, y2, y3, y4, y5, y6, y7, y8⟩ := rq
  dsimp only [netCells]
  have HZ14 : BN w2 w.heap.size := HZa.below hb2
  have HW14 : Below w.heap.size w w2 := bw_then hwa hb2
  have HNR2 := Lib.hid HNR
  have HNB2 := Lib.hid HNB
  have HDR2 := Lib.hid HDR
  clear HNR HDR HNB hb2 hb1 HC1 HZa hxa
  obtain ⟨⟨ry0, rv0⟩, ⟨ry1, rv1⟩, ⟨ry2, rv2⟩, ⟨ry3, rv3⟩, ⟨ry4, rv4⟩, ⟨ry5, rv5⟩, ⟨ry6, rv6⟩, ⟨ry7, rv7⟩, ⟨ry8, rv8⟩, ⟨ry9, rv9⟩, ⟨ry10, rv10⟩, rz0, rz1, rz2, rz3, rz4, rz5, rz6, rz7, rz8, rz9, rz10⟩ := allBN HZ14
  have zl := HZ14.lt
  go_wp2
  obtain ⟨W9, e9⟩ : ∃ z, z = putN w2 w.heap.size X ⟨x1, x2, x3, x4, x5, x6, x7, x8, y1, y2, y3, y4, y5, y6, y7, y8⟩ := ⟨_, rfl⟩
  have HB9 : Hid (BT W9 w.heap.size X ⟨x1, x2, x3, x4, x5, x6, x7, x8, y1, y2, y3, y4, y5, y6, y7, y8⟩) := Lib.hid (by rw [e9]; exact putN_BT HZ14)
  have HN9 := Lib.hid (show NetR 77 W9 X ⟨x1, x2, x3, x4, x5, x6, x7, x8, y1, y2, y3, y4, y5, y6, y7, y8⟩ from by rw [e9]; exact (HNR2.out.put HZ14).reads HNB2.out)
  have HL9 := Lib.hid (show Below w.heap.size w W9 from by rw [e9]; exact below_put HW14 (by omega))
  unfold putN at e9
  try dsimp only at e9
  rw [← e9]
  clear e9
  exact bodyPost_ret (results_cell_row Try.results5 _ _ w.heap.size 35 _ (0, 0) _ rfl HB9.out Try.underlying35 rfl (by kernel_rfl)) rfl ⟨⟨X, ⟨x1, x2, x3, x4, x5, x6, x7, x8, y1, y2, y3, y4, y5, y6, y7, y8⟩, rfl, HDR2.out, HN9.out⟩, HL9.out⟩
end Go.Proofs.Ytaihmgbflhbebaa
namespace NoC
theorem enter_in {n : Net} (ok : netOk n = true) : ∀ a ∈ enteringN n, ∃ i : Nat, a = (i : Int) ∧ i < n.srcs.length ∧ 0 < (rl n.srcs a).length ∧ 10 * (i : Int) + 8 ≤ eTo n a ∧ eTo n a ≤ 10 * (i : Int) + 9 ∧ eTo n a < (n.bufs.length : Int) := by
  intro a ha
  obtain ⟨i, rfl, hi, he⟩ := (enterTo_spec n n.srcs.length).1 a ha
  simp only [enters, Bool.and_eq_true, decide_eq_true_eq] at he
  obtain ⟨_, _, _, hcl⟩ := src_buf ok i hi
  obtain ⟨d0, d1, d2⟩ := hcl he.1
  refine ⟨i, rfl, hi, he.1, ?_, ?_, ?_⟩ <;> unfold eTo <;> omega
theorem afterPop_len (n : Net) : (afterPop n).bufs.length = n.bufs.length := popL_len _ _
theorem afterPush_len (n : Net) : (afterPush n).bufs.length = n.bufs.length := by unfold afterPush; rw [(push_lens n _ _).1]; exact afterPop_len n
theorem ri_setI {l : List Int} {k : Int} {v : Int} (k0 : 0 ≤ k) (hk : k < (l.length : Int)) (j : Int) (hj : 0 ≤ j) : ri (l.set k.toNat v) j = if j = k then v else ri l j := by
  by_cases e : j = k
  · subst e
    have h : j.toNat < l.length := by omega
    simp [ri, List.getD_eq_getElem?_getD, h]
  · have h : ¬ k.toNat = j.toNat := by omega
    simp [ri, List.getD_eq_getElem?_getD, e, h]
end NoC
namespace NoC
open Go.Proofs.Ytaihmgbflhbebaa (totTo)
theorem pushG_arrs (n x : Net) (g : Grant) : (pushG n x g).arrs = if g.port = 4 then x.arrs.set g.node.toNat (rl x.arrs g.node ++ [mvF n g]) else x.arrs := by unfold pushG; split <;> rfl
end NoC
namespace NoC
abbrev FS := Option (Int × Int × Int)
def fid (f : Flit) : Int × Int × Int := (f.pk, f.dst, f.cls)
def aft (f : Flit) : FS := if f.tail = true then none else some (fid f)
def nx (s : FS) (f : Flit) : Option FS :=
  match s with
  | none => if f.head = true then some (aft f) else none
  | some t => if f.head = false ∧ fid f = t then some (aft f) else none
def runF (s : FS) : List Flit → Option FS
  | [] => some s
  | f :: l => match nx s f with
    | some s' => runF s' l
    | none => none
theorem nx_aft {s s' : FS} {f : Flit} (h : nx s f = some s') : s' = aft f := by
  unfold nx at h
  split at h <;> split at h <;> simp_all
theorem nx_head {s s' : FS} {f : Flit} (h : nx s f = some s') (hh : f.head = true) : s = none := by
  cases s with
  | none => rfl
  | some t =>
    unfold nx at h
    simp [hh] at h
theorem nx_body {s s' : FS} {f : Flit} (h : nx s f = some s') (hh : f.head = false) : s = some (fid f) := by
  cases s with
  | none =>
    unfold nx at h
    simp [hh] at h
  | some t =>
    unfold nx at h
    simp only [hh, true_and] at h
    split at h
    · rename_i e; rw [e]
    · cases h
theorem nx_of {s : FS} {f : Flit} (h1 : f.head = true → s = none) (h2 : f.head = false → s = some (fid f)) : nx s f = some (aft f) := by
  cases hh : f.head
  · rw [h2 hh]; simp [nx, hh]
  · rw [h1 hh]; simp [nx, hh]
theorem run_cons {s t : FS} {f : Flit} {l : List Flit} (h : runF s (f :: l) = some t) : nx s f = some (aft f) ∧ runF (aft f) l = some t := by
  unfold runF at h
  split at h
  · rename_i s' e
    have := nx_aft e
    subst this
    exact ⟨e, h⟩
  · cases h
theorem run_snoc (f : Flit) : ∀ (l : List Flit) (s s' : FS), runF s l = some s' → runF s (l ++ [f]) = nx s' f := by
  intro l
  induction l with
  | nil =>
    intro s s' h
    simp only [runF, Option.some.injEq] at h
    subst h
    simp only [List.nil_append, runF]
    cases nx s f <;> rfl
  | cons g l ih =>
    intro s s' h
    obtain ⟨h1, h2⟩ := run_cons h
    simp only [List.cons_append, runF, h1]
    exact ih _ _ h2
theorem run_app : ∀ (l r : List Flit) (s s' : FS), runF s l = some s' → runF s (l ++ r) = runF s' r := by
  intro l
  induction l with
  | nil =>
    intro r s s' h
    simp only [runF, Option.some.injEq] at h
    subst h
    rfl
  | cons g l ih =>
    intro r s s' h
    obtain ⟨h1, h2⟩ := run_cons h
    simp only [List.cons_append, runF, h1]
    exact ih r _ _ h2
def dn (m : Mesh) (si : Int → FS) (sa : Int → Int → FS) (a p c : Int) : FS := if p = 4 then sa a c else si (10 * nextNode m.g a p + 2 * opposite p + c)
def opens (m : Mesh) (a p : Int) : Prop := isNode m.g a = true ∧ 0 ≤ p ∧ p ≤ 4 ∧ (p = 4 ∨ live m (4 * a + p) = true)
def lcl (s : FS) (c : Int) : FS := match s with
  | some t => if t.2.2 = c then some t else none
  | none => none
structure WI (n : Net) (so si : Int → FS) (ss : Int → FS) (sa : Int → Int → FS) : Prop where
  buf : ∀ b : Int, 0 ≤ b → b < (n.bufs.length : Int) → runF (so b) (rl n.bufs b) = some (si b)
  src : ∀ a : Int, 0 ≤ a → a < (n.srcs.length : Int) → runF (ss a) (rl n.srcs a) = some none
  arr : ∀ a c : Int, 0 ≤ a → a < (n.arrs.length : Int) → runF none (clsOnly (rl n.arrs a) c) = some (sa a c)
  loc : ∀ a c : Int, 0 ≤ a → 0 ≤ c → c ≤ 1 → si (10 * a + 8 + c) = lcl (ss a) c
  own : ∀ a p c : Int, opens n.mesh a p → 0 ≤ c → c ≤ 1 → (ownAt n a p c = -1 ∧ dn n.mesh si sa a p c = none) ∨ (∃ s, dn n.mesh si sa a p c = some s ∧ 0 ≤ ownAt n a p c ∧ so (10 * a + 2 * ownAt n a p c + c) = some s)
  uniq : ∀ a p p' c : Int, opens n.mesh a p → opens n.mesh a p' → 0 ≤ c → c ≤ 1 → 0 ≤ ownAt n a p c → ownAt n a p c = ownAt n a p' c → p = p'
theorem behind_inj {m : Mesh} (hm : meshOk m = true) {a p c a' p' c' : Int} (h : opens m a p) (h' : opens m a' p') (p4 : ¬ p = 4) (p4' : ¬ p' = 4) (c0 : 0 ≤ c) (c1 : c ≤ 1) (c0' : 0 ≤ c') (c1' : c' ≤ 1)
    (e : 10 * nextNode m.g a p + 2 * opposite p + c = 10 * nextNode m.g a' p' + 2 * opposite p' + c') : a = a' ∧ p = p' ∧ c = c' := by
  obtain ⟨n1, q0, q4, hl⟩ := h
  obtain ⟨n1', q0', q4', hl'⟩ := h'
  have hl1 : live m (4 * a + p) = true := hl.resolve_left p4
  have hl1' : live m (4 * a' + p') = true := hl'.resolve_left p4'
  have o := opp_eq (p := p) q0 (by omega)
  have o' := opp_eq (p := p') q0' (by omega)
  have i1 := isNode_iff.1 (next_live q0 (by omega) hm hl1)
  have i1' := isNode_iff.1 (next_live q0' (by omega) hm hl1')
  have e1 : p = p' := by omega
  subst e1
  exact ⟨next_inj q0 (by omega) n1 n1' i1.1 (by omega), rfl, by omega⟩
theorem own_move {m : Mesh} {so : Int → FS} {D D' : Int → Int → Int → FS} {ow ow' : Int → Int → Int → Int} {N P c0 j : Int} {f : Flit}
  (hP : opens m N P) (c00 : 0 ≤ c0) (c01 : c0 ≤ 1) (j0 : 0 ≤ j) (j4 : j ≤ 4)
  (hr : ∀ a p c, ow a p c ≤ 4)
  (own : ∀ a p c : Int, opens m a p → 0 ≤ c → c ≤ 1 → (ow a p c = -1 ∧ D a p c = none) ∨ (∃ s, D a p c = some s ∧ 0 ≤ ow a p c ∧ so (10 * a + 2 * ow a p c + c) = some s))
  (uniq : ∀ a p p' c : Int, opens m a p → opens m a p' → 0 ≤ c → c ≤ 1 → 0 ≤ ow a p c → ow a p c = ow a p' c → p = p')
  (hso : nx (so (10 * N + 2 * j + c0)) f = some (aft f))
  (hreq : (f.head = true ∧ ow N P c0 = -1) ∨ (f.head = false ∧ ow N P c0 = j))
  (hD : ∀ a p c : Int, opens m a p → 0 ≤ c → c ≤ 1 → D' a p c = if a = N ∧ p = P ∧ c = c0 then aft f else D a p c)
  (how : ∀ a p c : Int, opens m a p → 0 ≤ c → c ≤ 1 → ow' a p c = if a = N ∧ p = P ∧ c = c0 then (if f.tail = true then -1 else j) else ow a p c) :
  (∀ a p c : Int, opens m a p → 0 ≤ c → c ≤ 1 → (ow' a p c = -1 ∧ D' a p c = none) ∨ (∃ s, D' a p c = some s ∧ 0 ≤ ow' a p c ∧ (if 10 * a + 2 * ow' a p c + c = 10 * N + 2 * j + c0 then aft f else so (10 * a + 2 * ow' a p c + c)) = some s)) ∧
  (∀ a p p' c : Int, opens m a p → opens m a p' → 0 ≤ c → c ≤ 1 → 0 ≤ ow' a p c → ow' a p c = ow' a p' c → p = p') := by
 have key : ∀ p c : Int, opens m N p → c = c0 → ow N p c = j → p = P := by
  intro p c hp hc hj
  subst hc
  rcases hreq with ⟨hh, _⟩ | ⟨hh, ho⟩
  ·have h0 := nx_head hso hh
   rcases own N p c hp c00 c01 with ⟨h1, _⟩ | ⟨s, _, _, h3⟩
   ·omega
   ·rw [hj, h0] at h3
    cases h3
  ·exact uniq N p P c hp hP c00 c01 (by omega) (by omega)
 constructor
 ·intro a p c hp h0 h1
  rw [how a p c hp h0 h1, hD a p c hp h0 h1]
  by_cases e : a = N ∧ p = P ∧ c = c0
  ·rw [if_pos e, if_pos e]
   obtain ⟨rfl, rfl, rfl⟩ := e
   cases ht : f.tail
   ·right
    refine ⟨fid f, by simp [aft, ht], by simpa using j0, ?_⟩
    simp [aft, ht]
   ·left
    simp [aft, ht]
  ·rw [if_neg e, if_neg e]
   rcases own a p c hp h0 h1 with h | ⟨s, h2, h3, h4⟩
   ·exact .inl h
   ·right
    refine ⟨s, h2, h3, ?_⟩
    rw [if_neg ?_]
    ·exact h4
    ·intro e2
     have h5 := hr a p c
     have e3 : a = N := by omega
     have e4 : c = c0 := by omega
     have e5 : ow a p c = j := by omega
     subst e3
     exact e ⟨rfl, key p c hp e4 e5, e4⟩
 ·intro a p p' c hp hp' h0 h1 h2 h3
  rw [how a p c hp h0 h1] at h2 h3
  rw [how a p' c hp' h0 h1] at h3
  by_cases e : a = N ∧ p = P ∧ c = c0
  ·by_cases e' : a = N ∧ p' = P ∧ c = c0
   ·rw [e.2.1, e'.2.1]
   ·rw [if_pos e] at h2 h3
    rw [if_neg e'] at h3
    obtain ⟨rfl, rfl, rfl⟩ := e
    cases ht : f.tail
    ·rw [ht] at h3
     simp only [Bool.false_eq_true, if_false] at h3
     exact (key p' c hp' rfl h3.symm).symm
    ·rw [ht] at h2
     simp at h2
  ·by_cases e' : a = N ∧ p' = P ∧ c = c0
   ·rw [if_neg e] at h2 h3
    rw [if_pos e'] at h3
    obtain ⟨rfl, rfl, rfl⟩ := e'
    cases ht : f.tail
    ·rw [ht] at h3
     simp only [Bool.false_eq_true, if_false] at h3
     exact key p c hp rfl h3
    ·rw [ht] at h3
     simp at h3
     omega
   ·rw [if_neg e] at h2 h3
    rw [if_neg e'] at h3
    exact uniq a p p' c hp hp' h0 h1 h2 h3
theorem clsOnly_snoc (l : List Flit) (f : Flit) (c : Int) : clsOnly (l ++ [f]) c = if f.cls = c then clsOnly l c ++ [f] else clsOnly l c := by
  unfold clsOnly
  rw [List.filter_append]
  by_cases e : f.cls = c
  · simp [e]
  · simp [e]
theorem ownAt_set {x : Net} {g : Grant} {v : Int} {a p c : Int} (g0 : 0 ≤ gAt g) (g1 : gAt g < (x.owners.length : Int)) (a0 : 0 ≤ a) (p0 : 0 ≤ p) (p4 : p ≤ 4) (c0 : 0 ≤ c) (c1 : c ≤ 1) (q0 : 0 ≤ g.port) (q4 : g.port ≤ 4) :
    ri (x.owners.set (gAt g).toNat v) (10 * a + 2 * p + c) = if a = g.node ∧ p = g.port ∧ c = g.input % 2 then v else ownAt x a p c := by
  rw [ri_setI g0 g1 _ (by omega)]
  unfold ownAt
  by_cases e : a = g.node ∧ p = g.port ∧ c = g.input % 2
  · rw [if_pos e, if_pos (by unfold gAt; omega)]
  · rw [if_neg e, if_neg (by unfold gAt; omega)]
def soM (so : Int → FS) (g : Grant) (f : Flit) : Int → FS := fun b => if b = gIdx g then aft f else so b
def siM (n : Net) (si : Int → FS) (g : Grant) (f : Flit) : Int → FS := fun b => if g.port ≠ 4 ∧ b = gTo n g then aft f else si b
def saM (sa : Int → Int → FS) (g : Grant) (f : Flit) : Int → Int → FS := fun a c => if g.port = 4 ∧ a = g.node ∧ c = g.input % 2 then aft f else sa a c
theorem dn_M {n x : Net} {si : Int → FS} {sa : Int → Int → FS} {g : Grant} {f : Flit} (hm : meshOk x.mesh = true) (hmn : n.mesh = x.mesh) (ho : opens x.mesh g.node g.port) (i0 : 0 ≤ g.input) {a p c : Int} (hp : opens x.mesh a p) (c0 : 0 ≤ c) (c1 : c ≤ 1) :
    dn x.mesh (siM n si g f) (saM sa g f) a p c = if a = g.node ∧ p = g.port ∧ c = g.input % 2 then aft f else dn x.mesh si sa a p c := by
  have eT : gTo n g = 10 * nextNode x.mesh.g g.node g.port + 2 * opposite g.port + g.input % 2 := by unfold gTo behindI; rw [hmn]
  unfold dn siM saM
  by_cases e4 : p = 4
  · rw [if_pos e4, if_pos e4]
    by_cases e : g.port = 4 ∧ a = g.node ∧ c = g.input % 2
    · rw [if_pos e, if_pos ⟨e.2.1, by omega, e.2.2⟩]
    · rw [if_neg e, if_neg (fun e2 => e ⟨by omega, e2.1, e2.2.2⟩)]
  · rw [if_neg e4, if_neg e4]
    by_cases e : a = g.node ∧ p = g.port ∧ c = g.input % 2
    · rw [if_pos e, if_pos ⟨by omega, by rw [e.1, e.2.1, e.2.2]; exact eT.symm⟩]
    · rw [if_neg e, if_neg (fun e2 => e (behind_inj hm hp ho e4 e2.1 c0 c1 (by omega) (by omega) (by rw [e2.2, eT])))]
theorem WI_move {n x : Net} {so si : Int → FS} {ss : Int → FS} {sa : Int → Int → FS} (h : WI x so si ss sa) (hm : meshOk x.mesh = true) (hmn : n.mesh = x.mesh) {g : Grant} {f : Flit} {rest : List Flit}
  (ho : opens x.mesh g.node g.port) (i0 : 0 ≤ g.input) (i9 : g.input ≤ 9) (hb1 : gIdx g < (x.bufs.length : Int)) (ho1 : gAt g < (x.owners.length : Int)) (ha : g.node < (x.arrs.length : Int))
  (ht : ¬ g.port = 4 → 0 ≤ gTo n g ∧ gTo n g < (x.bufs.length : Int)) (hor : ∀ k : Int, ri x.owners k ≤ 4)
  (hf : rl x.bufs (gIdx g) = f :: rest) (hmv : mvF n g = f)
  (hreq : (f.head = true ∧ ownAt x g.node g.port (g.input % 2) = -1) ∨ (f.head = false ∧ ownAt x g.node g.port (g.input % 2) = g.input / 2))
  (hcls : f.cls = g.input % 2) : WI (pushG n (popN x g) g) (soM so g f) (siM n si g f) ss (saM sa g f) := by
 obtain ⟨nd, q0, q4, hl⟩ := id ho
 have nd' := isNode_iff.1 nd
 have b0 : 0 ≤ gIdx g := by unfold gIdx; omega
 have eb : 10 * g.node + 2 * (g.input / 2) + g.input % 2 = gIdx g := by unfold gIdx; omega
 obtain ⟨r1, r2⟩ := run_cons (by rw [← hf]; exact h.buf (gIdx g) b0 hb1)
 have hso : nx (so (10 * g.node + 2 * (g.input / 2) + g.input % 2)) f = some (aft f) := by rw [eb]; exact r1
 have hDn : nx (dn x.mesh si sa g.node g.port (g.input % 2)) f = some (aft f) := by
  rcases h.own g.node g.port (g.input % 2) ho (by omega) (by omega) with ⟨o1, o2⟩ | ⟨s, o1, o2, o3⟩
  ·rw [o2]
   exact nx_of (fun _ => rfl) (fun hh => by
    rcases hreq with ⟨hh', _⟩ | ⟨_, hj⟩
    ·rw [hh] at hh'; cases hh'
    ·omega)
  ·rcases hreq with ⟨_, hj⟩ | ⟨hh, hj⟩
   ·omega
   ·have h3 := nx_body r1 hh
    rw [hj, eb, h3] at o3
    rw [o1, ← o3]
    exact nx_of (fun h' => by rw [hh] at h'; cases h') (fun _ => rfl)
 have hpop : ∀ b : Int, 0 ≤ b → rl (popB x.bufs g) b = if b = gIdx g then rest else rl x.bufs b := by
  intro b hb
  unfold popB
  rw [rl_setI b0 hb1 b hb, hf]
  rfl
 have hrun : ∀ b : Int, 0 ≤ b → b < (x.bufs.length : Int) → runF (if b = gIdx g then aft f else so b) (rl (popB x.bufs g) b) = some (si b) := by
  intro b hb hb2
  rw [hpop b hb]
  by_cases e : b = gIdx g
  ·rw [if_pos e, if_pos e, e]; exact r2
  ·rw [if_neg e, if_neg e]; exact h.buf b hb hb2
 have g0 : 0 ≤ gAt g := by unfold gAt; omega
 have hown : (pushG n (popN x g) g).owners = x.owners.set (gAt g).toNat (gOwn n g) := by unfold pushG popN; split <;> rfl
 have hgo : gOwn n g = if f.tail = true then -1 else g.input / 2 := by unfold gOwn; rw [hmv]
 have hmesh : (pushG n (popN x g) g).mesh = x.mesh := by unfold pushG popN; split <;> rfl
 have hsrc : (pushG n (popN x g) g).srcs = x.srcs := by unfold pushG popN; split <;> rfl
 have how : ∀ a p c : Int, opens x.mesh a p → 0 ≤ c → c ≤ 1 → ownAt (pushG n (popN x g) g) a p c = if a = g.node ∧ p = g.port ∧ c = g.input % 2 then (if f.tail = true then -1 else g.input / 2) else ownAt x a p c := by
  intro a p c hp c0 c1
  have := isNode_iff.1 hp.1
  show ri (pushG n (popN x g) g).owners _ = _
  rw [hown, hgo]
  exact ownAt_set g0 ho1 this.1 hp.2.1 hp.2.2.1 c0 c1 q0 q4
 by_cases h4 : g.port = 4
 ·have eb1 : (pushG n (popN x g) g).bufs = popB x.bufs g := by rw [pushG_bufs, if_pos h4]; rfl
  have ea1 : (pushG n (popN x g) g).arrs = x.arrs.set g.node.toNat (rl x.arrs g.node ++ [f]) := by rw [pushG_arrs, if_pos h4, hmv]; rfl
  have hdn4 : dn x.mesh si sa g.node g.port (g.input % 2) = sa g.node (g.input % 2) := by unfold dn; rw [if_pos h4]
  have e1 : siM n si g f = si := by funext b; simp [siM, h4]
  have e2 : saM sa g f = fun a c => if a = g.node ∧ c = g.input % 2 then aft f else sa a c := by funext a c; simp [saM, h4]
  have hD : ∀ a p c : Int, opens x.mesh a p → 0 ≤ c → c ≤ 1 → dn x.mesh si (fun a c => if a = g.node ∧ c = g.input % 2 then aft f else sa a c) a p c = if a = g.node ∧ p = g.port ∧ c = g.input % 2 then aft f else dn x.mesh si sa a p c := by
   intro a p c hp c0 c1
   have := dn_M (n := n) (si := si) (sa := sa) (f := f) hm hmn ho i0 hp c0 c1
   rwa [e1, e2] at this
  rw [e1, e2]
  unfold soM
  obtain ⟨w1, w2⟩ := own_move (m := x.mesh) ho (by omega) (by omega) (by omega) (by omega) (fun a p c => hor _) h.own h.uniq hso hreq hD how
  refine ⟨fun b hb hb2 => ?_, fun a a0 a1 => ?_, fun a c a0 a1 => ?_, h.loc, ?_, ?_⟩
  ·rw [eb1] at hb2 ⊢
   rw [popB_len] at hb2
   exact hrun b hb hb2
  ·rw [hsrc] at a1 ⊢
   exact h.src a a0 a1
  ·rw [ea1] at a1 ⊢
   rw [List.length_set] at a1
   rw [rl_setI nd'.1 ha a a0]
   by_cases e : a = g.node
   ·rw [if_pos e, clsOnly_snoc, hcls, ← e]
    by_cases ec : g.input % 2 = c
    ·rw [if_pos ec, if_pos ⟨rfl, ec.symm⟩, run_snoc f _ _ _ (h.arr a c a0 a1)]
     rw [hdn4, ← e, ec] at hDn
     exact hDn
    ·rw [if_neg ec, if_neg (fun e2 => ec e2.2.symm)]
     exact h.arr a c a0 a1
   ·rw [if_neg e, if_neg (fun e2 => e e2.1)]
    exact h.arr a c a0 a1
  ·rw [hmesh]
   intro a p c hp c0 c1
   have := w1 a p c hp c0 c1
   rwa [eb] at this
  ·rw [hmesh]
   exact w2
 ·obtain ⟨t0, t1⟩ := ht h4
  have eT : gTo n g = 10 * nextNode x.mesh.g g.node g.port + 2 * opposite g.port + g.input % 2 := by unfold gTo behindI; rw [hmn]
  have eb1 : (pushG n (popN x g) g).bufs = addB (popB x.bufs g) (gTo n g) f := by rw [pushG_bufs, if_neg h4, hmv]; rfl
  have ea1 : (pushG n (popN x g) g).arrs = x.arrs := by rw [pushG_arrs, if_neg h4]; rfl
  have hdn4 : dn x.mesh si sa g.node g.port (g.input % 2) = si (gTo n g) := by unfold dn; rw [if_neg h4, eT]
  have hopp := opp_eq (p := g.port) q0 (by omega)
  have e1 : siM n si g f = fun b => if b = gTo n g then aft f else si b := by funext b; simp [siM, h4]
  have e2 : saM sa g f = sa := by funext a c; simp [saM, h4]
  have hD : ∀ a p c : Int, opens x.mesh a p → 0 ≤ c → c ≤ 1 → dn x.mesh (fun b => if b = gTo n g then aft f else si b) sa a p c = if a = g.node ∧ p = g.port ∧ c = g.input % 2 then aft f else dn x.mesh si sa a p c := by
   intro a p c hp c0 c1
   have := dn_M (n := n) (si := si) (sa := sa) (f := f) hm hmn ho i0 hp c0 c1
   rwa [e1, e2] at this
  rw [e1, e2]
  unfold soM
  obtain ⟨w1, w2⟩ := own_move (m := x.mesh) ho (by omega) (by omega) (by omega) (by omega) (fun a p c => hor _) h.own h.uniq hso hreq hD how
  refine ⟨fun b hb hb2 => ?_, fun a a0 a1 => ?_, fun a c a0 a1 => ?_, fun a c a0 c0 c1 => ?_, ?_, ?_⟩
  ·rw [eb1] at hb2 ⊢
   rw [addB_len, popB_len] at hb2
   have h5 := hrun b hb hb2
   unfold addB
   rw [rl_setI t0 (by rw [popB_len]; exact t1) b hb]
   by_cases e : b = gTo n g
   ·rw [if_pos e, if_pos e]
    rw [e] at h5 ⊢
    rw [run_snoc f _ _ _ h5]
    rw [hdn4] at hDn
    exact hDn
   ·rw [if_neg e, if_neg e]
    exact h5
  ·rw [hsrc] at a1 ⊢
   exact h.src a a0 a1
  ·rw [ea1] at a1 ⊢
   exact h.arr a c a0 a1
  ·rw [if_neg (by omega)]
   exact h.loc a c a0 c0 c1
  ·rw [hmesh]
   intro a p c hp c0 c1
   have := w1 a p c hp c0 c1
   rwa [eb] at this
  ·rw [hmesh]
   exact w2
theorem gAt_ne {g h : Grant} (hg : GLt g h) (g1 : 0 ≤ g.port ∧ g.port ≤ 4) (h1 : 0 ≤ h.port ∧ h.port ≤ 4) : gAt h ≠ gAt g := by
  unfold gAt
  rcases hg with h2 | ⟨h2, h3, _⟩ <;> omega
structure Mv (n x : Net) (g : Grant) (rest : List Flit) : Prop where
  ok : netOk n = true
  mem : g ∈ allGrants n
  mesh : x.mesh = n.mesh
  pa : x.pa = n.pa
  pb : x.pb = n.pb
  lb : x.bufs.length = n.bufs.length
  lo : x.owners.length = n.owners.length
  la : x.arrs.length = n.arrs.length
  srcs : x.srcs = n.srcs
  hor : ∀ k : Int, ri x.owners k ≤ 4
  hf : rl x.bufs (gIdx g) = mvF n g :: rest
  own : ownAt x g.node g.port (g.input % 2) = ownAt n g.node g.port (g.input % 2)
structure En (n x : Net) (a : Int) (rest : List Flit) : Prop where
  ok : netOk n = true
  mem : a ∈ enteringN n
  mesh : x.mesh = n.mesh
  pa : x.pa = n.pa
  pb : x.pb = n.pb
  lb : x.bufs.length = n.bufs.length
  ls : x.srcs.length = n.srcs.length
  a0 : 0 ≤ a
  a1 : a < (n.srcs.length : Int)
  hf : rl x.srcs a = rf (rl n.srcs a) 0 :: rest
  hn : 0 < (rl n.srcs a).length
  c0 : 0 ≤ (rf (rl n.srcs a) 0).cls
  c1 : (rf (rl n.srcs a) 0).cls ≤ 1
  t1 : eTo n a < (n.bufs.length : Int)
theorem Mv.one {n x : Net} {g : Grant} {rest : List Flit} (h : Mv n x g rest) : GOne n g := grants_one h.mem
theorem Mv.idx {n x : Net} {g : Grant} {rest : List Flit} (h : Mv n x g rest) : 0 ≤ gIdx g ∧ gIdx g < (n.bufs.length : Int) ∧ 0 ≤ g.node ∧ g.node < (n.arrs.length : Int) ∧ 0 ≤ gAt g ∧ gAt g < (n.owners.length : Int) := by
  have h1 := (h.one.at h.ok).idx
  have h2 := h.one.p0
  have h3 := h.one.p4
  have h4 := h.one.i0
  have h5 := h.one.i9
  unfold gIdx gAt
  omega
theorem Mv.to {n x : Net} {g : Grant} {rest : List Flit} (h : Mv n x g rest) (h4 : ¬ g.port = 4) : 0 ≤ gTo n g ∧ gTo n g < (n.bufs.length : Int) := by
  have := h.one.to h.ok h4
  exact ⟨this.1, this.2.1⟩
theorem specG_bufs {n x : Net} {g : Grant} {rest : List Flit} (h : Mv n x g rest) (b : Int) (hb : 0 ≤ b) : rl (specG n x g).bufs b = (if b = gIdx g then rest else rl x.bufs b) ++ (if g.port ≠ 4 ∧ b = gTo n g then [mvF n g] else []) := by
  obtain ⟨b0, b1, _⟩ := h.idx
  have hpop : rl (popB x.bufs g) b = if b = gIdx g then rest else rl x.bufs b := by
    unfold popB
    rw [rl_setI b0 (by rw [h.lb]; exact b1) b hb, h.hf]
    rfl
  unfold specG
  rw [pushG_bufs]
  by_cases h4 : g.port = 4
  · rw [if_pos h4, if_neg (show ¬ (g.port ≠ 4 ∧ b = gTo n g) from fun e => e.1 h4), List.append_nil]
    exact hpop
  · rw [if_neg h4]
    obtain ⟨t0, t1⟩ := h.to h4
    unfold addB
    show rl ((popB x.bufs g).set _ (rl (popB x.bufs g) _ ++ [_])) _ = _
    rw [rl_setI t0 (by rw [popB_len, h.lb]; exact t1) b hb]
    by_cases e : b = gTo n g
    · rw [if_pos e, if_pos (show g.port ≠ 4 ∧ b = gTo n g from ⟨h4, e⟩), ← e, hpop]
    · rw [if_neg e, if_neg (show ¬ (g.port ≠ 4 ∧ b = gTo n g) from fun e2 => e e2.2), List.append_nil]
      exact hpop
theorem specG_rest (n x : Net) (g : Grant) : (specG n x g).mesh = x.mesh ∧ (specG n x g).pa = x.pa ∧ (specG n x g).pb = x.pb ∧ (specG n x g).srcs = x.srcs ∧ (specG n x g).bufs.length = x.bufs.length ∧ (specG n x g).arrs.length = x.arrs.length ∧ (specG n x g).owners = x.owners.set (gAt g).toNat (gOwn n g) := by
  unfold specG
  refine ⟨?_, ?_, ?_, ?_, ?_, ?_, ?_⟩
  · unfold pushG popN; split <;> rfl
  · unfold pushG popN; split <;> rfl
  · unfold pushG popN; split <;> rfl
  · unfold pushG popN; split <;> rfl
  · rw [pushG_len]; exact popB_len _ _
  · rw [pushG_arrs]; split
    · rw [List.length_set]; rfl
    · rfl
  · unfold pushG popN; split <;> rfl
theorem enterB_src {n x : Net} {a : Int} {rest : List Flit} (h : En n x a rest) (y : Int) (hy : 0 ≤ y) : rl (enterB n x a).srcs y = if y = a then rest else rl x.srcs y := by
  show rl (x.srcs.set a.toNat ((rl x.srcs a).drop 1)) y = _
  rw [rl_setI h.a0 (by rw [h.ls]; exact h.a1) y hy, h.hf]
  rfl
theorem grants_go {n : Net} (ok : netOk n = true) (P : List Grant → Net → Prop)
    (hs : ∀ gs g x rest, (∃ r, allGrants n = gs ++ g :: r) → Mv n x g rest → P gs x → P (gs ++ [g]) (specG n x g)) :
    ∀ (gs pre : List Grant) (x : Net), allGrants n = pre ++ gs → P pre x → x.mesh = n.mesh → x.pa = n.pa → x.pb = n.pb → x.bufs.length = n.bufs.length → x.owners.length = n.owners.length → x.arrs.length = n.arrs.length → x.srcs = n.srcs → (∀ k : Int, ri x.owners k ≤ 4) →
    gs.Pairwise GLt → (gs.map gIdx).Nodup → (∀ g ∈ gs, (∃ rest, rl x.bufs (gIdx g) = mvF n g :: rest) ∧ ownAt x g.node g.port (g.input % 2) = ownAt n g.node g.port (g.input % 2)) → P (allGrants n) (specL n x gs) := by
  intro gs
  induction gs with
  | nil =>
    intro pre x e h _ _ _ _ _ _ _ _ _ _ _
    rw [List.append_nil] at e
    rw [e]
    exact h
  | cons g gs ih =>
    intro pre x e h hm hpa hpb hb ho ha hsr hor hp hn hx
    obtain ⟨⟨rest, hf⟩, hown⟩ := hx g (by simp)
    have M : Mv n x g rest := ⟨ok, by rw [e]; simp, hm, hpa, hpb, hb, ho, ha, hsr, hor, hf, hown⟩
    obtain ⟨r1, r2, r3, r4, r5, r6, r7⟩ := specG_rest n x g
    obtain ⟨b0, b1, n0, n1, g0, g1⟩ := M.idx
    have hp' := List.pairwise_cons.1 hp
    simp only [List.map_cons, List.nodup_cons] at hn
    have one := M.one
    have hgo : gOwn n g ≤ 4 := by have := one.i9; unfold gOwn; split <;> omega
    have go : gAt g < (x.owners.length : Int) := by rw [ho]; exact g1
    show P (allGrants n) (specL n (specG n x g) gs)
    refine ih (pre ++ [g]) _ (by rw [e]; simp) (hs pre g x rest ⟨gs, e⟩ M h) (r1.trans hm) (r2.trans hpa) (r3.trans hpb) (r5.trans hb) (by rw [r7, List.length_set]; exact ho) (r6.trans ha) (r4.trans hsr) (fun k => ?_) hp'.2 hn.2 (fun y hy => ?_)
    · rw [r7]
      by_cases hk : 0 ≤ k
      · rw [ri_setI g0 go k hk]
        split
        · exact hgo
        · exact hor k
      · have e : ∀ l : List Int, ri l k = ri l 0 := fun l => by unfold ri; rw [show k.toNat = (0 : Int).toNat by omega]
        rw [e, ri_setI g0 go 0 (by omega)]
        split
        · exact hgo
        · exact hor 0
    · have y1 : GOne n y := grants_one (by rw [e]; simp [hy])
      obtain ⟨⟨r2, hr2⟩, ho2⟩ := hx y (by simp [hy])
      have hne : gIdx y ≠ gIdx g := fun e => hn.1 (by rw [← e]; exact List.mem_map_of_mem hy)
      have y0 : 0 ≤ gIdx y := by have := (y1.at ok).idx; unfold gIdx; exact this.2.2.1
      constructor
      · rw [specG_bufs M _ y0, if_neg hne, hr2]
        exact ⟨_, List.cons_append ..⟩
      · rw [← ho2]
        unfold ownAt
        rw [r7, ri_setI g0 go _ (by have := isNode_iff.1 y1.nd; have := y1.p0; have := y1.i0; omega), if_neg]
        exact gAt_ne (hp'.1 y hy) ⟨one.p0, one.p4⟩ ⟨y1.p0, y1.p4⟩
theorem grants_ind {n : Net} (ok : netOk n = true) (P : List Grant → Net → Prop) (h0 : P [] n)
    (hs : ∀ gs g x rest, (∃ r, allGrants n = gs ++ g :: r) → Mv n x g rest → P gs x → P (gs ++ [g]) (specG n x g)) : P (allGrants n) (afterPush n) := by
  have hok := grants_GsOk ok
  obtain ⟨_, _, _, _, _, _, _, _, hw, _⟩ := netOk_parts ok
  have h1 := grants_go ok P hs (allGrants n) [] n rfl h0 rfl rfl rfl rfl rfl rfl rfl (fun k => by
    by_cases hk : k.toNat < n.owners.length
    · have := inside_iff.1 (hw k.toNat hk)
      have e : ri n.owners k = ri n.owners ((k.toNat : Nat) : Int) := by unfold ri; rw [Int.toNat_natCast]
      rw [e]; exact this.2
    · have e : ri n.owners k = 0 := by simp [ri, List.getD_eq_getElem?_getD, hk]
      rw [e]; omega) (grants_pw n) hok.nodup (fun g hg => ⟨by
        have := hok.full g hg
        cases hl : rl n.bufs (gIdx g) with
        | nil => exact absurd hl this
        | cons f r => exact ⟨r, by unfold mvF; rw [hl]; rfl⟩, rfl⟩)
  rw [specStep ok] at h1
  exact h1
theorem enters_go {n : Net} (ok : netOk n = true) (Q : List Int → Net → Prop)
    (hs : ∀ ks a x rest, (∃ r, enteringN n = ks ++ a :: r) → En n x a rest → Q ks x → Q (ks ++ [a]) (enterB n x a)) :
    ∀ (ks pre : List Int) (x : Net), enteringN n = pre ++ ks → Q pre x → x.mesh = n.mesh → x.pa = n.pa → x.pb = n.pb → x.bufs.length = n.bufs.length → x.srcs.length = n.srcs.length → ks.Pairwise (· < ·) →
    (∀ a ∈ ks, ∃ rest, rl x.srcs a = rf (rl n.srcs a) 0 :: rest) → Q (enteringN n) (enterL n x ks) := by
  intro ks
  induction ks with
  | nil =>
    intro pre x e h _ _ _ _ _ _ _
    rw [List.append_nil] at e
    rw [e]
    exact h
  | cons a ks ih =>
    intro pre x e h hm hpa hpb hb hsl hp hx
    obtain ⟨rest, hf⟩ := hx a (by simp)
    obtain ⟨i, hai, hi, hl, e1, e2, e3⟩ := enter_in ok a (by rw [e]; simp)
    have hc : 0 ≤ (rf (rl n.srcs a) 0).cls ∧ (rf (rl n.srcs a) 0).cls ≤ 1 := by unfold eTo at e1 e2; omega
    have E : En n x a rest := ⟨ok, by rw [e]; simp, hm, hpa, hpb, hb, hsl, by omega, by omega, hf, hl, hc.1, hc.2, e3⟩
    rw [List.pairwise_cons] at hp
    show Q (enteringN n) (enterL n (enterB n x a) ks)
    refine ih (pre ++ [a]) _ (by rw [e]; simp) (hs pre a x rest ⟨ks, e⟩ E h) hm hpa hpb (by show (x.bufs.set _ _).length = _; rw [List.length_set]; exact hb) (by show (x.srcs.set _ _).length = _; rw [List.length_set]; exact hsl) hp.2 (fun y hy => ?_)
    obtain ⟨j, hyj, _⟩ := enter_in ok y (by rw [e]; simp [hy])
    obtain ⟨r, hr⟩ := hx y (by simp [hy])
    have hlt := hp.1 y hy
    rw [enterB_src E y (by omega), if_neg (by omega)]
    exact ⟨r, hr⟩
theorem enters_ind {n : Net} (ok : netOk n = true) (Q : List Int → Net → Prop) (h0 : Q [] (afterPush n))
    (hs : ∀ ks a x rest, (∃ r, enteringN n = ks ++ a :: r) → En n x a rest → Q ks x → Q (ks ++ [a]) (enterB n x a)) : Q (enteringN n) (enterL n (afterPush n) (enteringN n)) := by
  have h2 := pushL_same n (allGrants n) (afterPop n)
  have hsr : (afterPush n).srcs = n.srcs := pushL_srcs (allGrants n) (afterPop n)
  refine enters_go ok Q hs (enteringN n) [] _ rfl h0 h2.2.1 h2.2.2.1 h2.2.2.2 (afterPush_len n) (by rw [hsr]) (enterTo_spec n n.srcs.length).2 (fun a ha => ?_)
  obtain ⟨i, rfl, hi, hl, _⟩ := enter_in ok a ha
  rw [hsr]
  cases hl2 : rl n.srcs (i : Int) with
  | nil => rw [hl2] at hl; simp at hl
  | cons f r => exact ⟨r, rfl⟩
theorem step_ind {n : Net} (ok : netOk n = true) (P : Net → Prop) (h0 : P n) (hg : ∀ g x rest, Mv n x g rest → P x → P (specG n x g)) (he : ∀ a x rest, En n x a rest → P x → P (enterB n x a)) (ht : ∀ (x : Net) (t : Int), P x → P { x with time := t }) : P (stepN n) := by
  have h1 : P (afterPush n) := grants_ind ok (fun _ x => P x) h0 (fun gs g x rest _ M h => hg g x rest M h)
  have h2 : P (enterL n (afterPush n) (enteringN n)) := enters_ind ok (fun _ x => P x) h1 (fun ks a x rest _ E h => he a x rest E h)
  exact ht _ _ h2
theorem grid_cases {g : Grid} (h : gridOk g = true) : ∃ w h : Nat, w < 4 ∧ h < 4 ∧ g = ⟨(w : Int) + 1, (h : Int) + 1⟩ := by
  simp only [gridOk, inside, Bool.and_eq_true, decide_eq_true_eq] at h
  obtain ⟨⟨w1, w4⟩, h1, h4⟩ := h
  obtain ⟨w, h⟩ := g
  dsimp only at w1 w4 h1 h4
  refine ⟨(w - 1).toNat, (h - 1).toNat, by omega, by omega, ?_⟩
  rw [Int.toNat_of_nonneg (by omega), Int.toNat_of_nonneg (by omega)]
  congr 1 <;> omega
theorem isNode_ok {g : Grid} {a : Int} (ha : isNode g a = true) : gridOk g = true ∧ 0 ≤ a ∧ a < 16 := by
  have h1 := isNode_iff.1 ha
  have h2 := count_le g
  refine ⟨?_, by omega, by omega⟩
  cases h : gridOk g
  · unfold nodeCount at h1
    rw [h] at h1
    simp at h1
    omega
  · rfl
def geoB (g : Grid) (a p : Int) : Bool := !(isNode g a && decide (0 ≤ nextNode g a p)) || (isNode g (nextNode g a p) && decide (nextNode g (nextNode g a p) (opposite p) = a) && decide (opposite (opposite p) = p) && decide (nextNode g a p ≠ a) && decide (0 ≤ opposite p ∧ opposite p ≤ 3))
set_option maxRecDepth 100000 in
theorem geo_all : (allI 4 fun w => allI 4 fun h => allI 16 fun a => allI 4 fun p => geoB ⟨(w : Int) + 1, (h : Int) + 1⟩ (a : Int) (p : Int)) = true := by decide +kernel
theorem geo {g : Grid} {a p : Int} (p0 : 0 ≤ p) (p3 : p ≤ 3) (ha : isNode g a = true) (h0 : 0 ≤ nextNode g a p) : isNode g (nextNode g a p) = true ∧ nextNode g (nextNode g a p) (opposite p) = a ∧ opposite (opposite p) = p ∧ nextNode g a p ≠ a ∧ 0 ≤ opposite p ∧ opposite p ≤ 3 := by
  obtain ⟨hg, a0, a1⟩ := isNode_ok ha
  obtain ⟨w, h, hw, hh, rfl⟩ := grid_cases hg
  have := allI_iff.1 (allI_iff.1 (allI_iff.1 (allI_iff.1 geo_all w hw) h hh) a.toNat (by omega)) p.toNat (by omega)
  rw [Int.toNat_of_nonneg a0, Int.toNat_of_nonneg p0] at this
  unfold geoB at this
  rw [ha, decide_eq_true h0] at this
  simpa [and_assoc] using this
def seM (n : Net) (si : Int → FS) (a : Int) (f : Flit) : Int → FS := fun b => if b = eTo n a then aft f else si b
def ssM (ss : Int → FS) (a : Int) (f : Flit) : Int → FS := fun y => if y = a then aft f else ss y
theorem dn_E {n : Net} {m : Mesh} {si : Int → FS} {sa : Int → Int → FS} {a : Int} {f : Flit} {y p c : Int} (hp : opens m y p) (k0 : 0 ≤ c) (k1 : c ≤ 1) (eT : eTo n a = 10 * a + 8 + f.cls) (c0 : 0 ≤ f.cls) (c1 : f.cls ≤ 1) : dn m (seM n si a f) sa y p c = dn m si sa y p c := by
  unfold dn seM
  by_cases e4 : p = 4
  · rw [if_pos e4, if_pos e4]
  · rw [if_neg e4, if_neg e4]
    have := opp_eq (p := p) hp.2.1 (by have := hp.2.2.1; omega)
    rw [if_neg (by omega)]
theorem WI_enter {n x : Net} {so si : Int → FS} {ss : Int → FS} {sa : Int → Int → FS} (h : WI x so si ss sa) {a : Int} {f : Flit} {rest : List Flit} (a0 : 0 ≤ a) (a1 : a < (x.srcs.length : Int))
    (hf : rl x.srcs a = f :: rest) (hfn : rf (rl n.srcs a) 0 = f) (c0 : 0 ≤ f.cls) (c1 : f.cls ≤ 1) (ht : eTo n a < (x.bufs.length : Int)) : WI (enterB n x a) so (seM n si a f) (ssM ss a f) sa := by
  have eT : eTo n a = 10 * a + 8 + f.cls := by unfold eTo; rw [hfn]
  obtain ⟨r1, r2⟩ := run_cons (by rw [← hf]; exact h.src a a0 a1)
  have hl := h.loc a f.cls a0 c0 c1
  have hsi : nx (si (eTo n a)) f = some (aft f) := by
    rw [eT, hl]
    refine nx_of (fun hh => ?_) (fun hh => ?_)
    · rw [nx_head r1 hh]; rfl
    · rw [nx_body r1 hh]
      simp [lcl, fid]
  refine ⟨fun b hb hb2 => ?_, fun y y0 y1 => ?_, h.arr, fun y c y0 k0 k1 => ?_, fun y p c hp k0 k1 => ?_, h.uniq⟩
  · unfold seM
    have e1 : (enterB n x a).bufs = x.bufs.set (eTo n a).toNat (rl x.bufs (eTo n a) ++ [f]) := by unfold enterB; rw [hfn]
    rw [e1] at hb2 ⊢
    rw [List.length_set] at hb2
    rw [rl_setI (by omega) ht b hb]
    have h5 := h.buf b hb hb2
    by_cases e : b = eTo n a
    · rw [if_pos e, if_pos e]
      rw [e] at h5 ⊢
      rw [run_snoc f _ _ _ h5]
      exact hsi
    · rw [if_neg e, if_neg e]
      exact h5
  · unfold ssM
    have e1 : (enterB n x a).srcs = x.srcs.set a.toNat ((rl x.srcs a).drop 1) := rfl
    rw [e1] at y1 ⊢
    rw [List.length_set] at y1
    rw [rl_setI a0 a1 y y0]
    by_cases e : y = a
    · rw [if_pos e, if_pos e, hf]
      exact r2
    · rw [if_neg e, if_neg e]
      exact h.src y y0 y1
  · unfold seM ssM
    have hy := h.loc y c y0 k0 k1
    by_cases e : y = a
    · rw [if_pos e]
      subst e
      by_cases ec : c = f.cls
      · rw [if_pos (by omega)]
        unfold aft
        cases ht2 : f.tail
        · simp [lcl, fid, ec]
        · simp [lcl]
      · rw [if_neg (by omega), hy]
        have en : ¬ f.cls = c := fun e2 => ec e2.symm
        have h1 : lcl (ss y) c = none := by
          cases hh : f.head
          · rw [nx_body r1 hh]
            simp [lcl, fid, en]
          · rw [nx_head r1 hh]
            rfl
        rw [h1]
        unfold aft
        cases ht2 : f.tail
        · simp [lcl, fid, en]
        · simp [lcl]
    · rw [if_neg e, if_neg (by omega)]
      exact hy
  · have e2 : (enterB n x a).mesh = x.mesh := rfl
    rw [e2] at hp ⊢
    rw [dn_E hp k0 k1 eT c0 c1]
    exact h.own y p c hp k0 k1
structure WX (n : Net) (so si : Int → FS) (sa : Int → Int → FS) : Prop where
  cv : ∀ (a j c : Int) t, 0 ≤ j → j ≤ 4 → 0 ≤ c → c ≤ 1 → so (10 * a + 2 * j + c) = some t → ∃ p, opens n.mesh a p ∧ ownAt n a p c = j
  dr : ∀ (a p c : Int) t, opens n.mesh a p → 0 ≤ c → c ≤ 1 → dn n.mesh si sa a p c = some t → entry n.mesh (tabOf n.pa n.pb c) a t.2.1 = p ∧ isNode n.mesh.g t.2.1 = true
  cl : ∀ (a p c : Int), isNode n.mesh.g a = true → 0 ≤ p → p ≤ 4 → 0 ≤ c → c ≤ 1 → ownAt n a p c ≠ -1 → opens n.mesh a p
  bd : ∀ (a q c : Int), isNode n.mesh.g a = true → 0 ≤ q → q ≤ 3 → 0 ≤ c → c ≤ 1 → si (10 * a + 2 * q + c) ≠ none → isNode n.mesh.g (nextNode n.mesh.g a q) = true ∧ live n.mesh (4 * nextNode n.mesh.g a q + opposite q) = true
def WE (n : Net) : Prop := ∃ so si ss sa, WI n so si ss sa ∧ WX n so si sa
theorem Mv.opens {n x : Net} {g : Grant} {rest : List Flit} (M : Mv n x g rest) : NoC.opens x.mesh g.node g.port := by
  refine ⟨by rw [M.mesh]; exact M.one.nd, M.one.p0, M.one.p4, ?_⟩
  by_cases h4 : g.port = 4
  · exact .inl h4
  · exact .inr (by rw [M.mesh]; exact (M.one.live h4).1)
theorem Mv.req {n x : Net} {g : Grant} {rest : List Flit} (M : Mv n x g rest) : ((mvF n g).head = true ∧ ownAt x g.node g.port (g.input % 2) = -1) ∨ ((mvF n g).head = false ∧ ownAt x g.node g.port (g.input % 2) = g.input / 2) := by
  rw [M.own]
  have hr := M.one.req
  unfold requestN at hr
  rw [Bool.and_eq_true, Bool.and_eq_true] at hr
  have h2 := hr.2
  have e : rf (bufOf n g.node g.input) 0 = mvF n g := rfl
  rw [e] at h2
  cases hh : (mvF n g).head
  · rw [if_neg (by simp [hh])] at h2
    exact .inr ⟨rfl, by simpa using h2⟩
  · rw [if_pos hh] at h2
    exact .inl ⟨rfl, by simpa using h2⟩
theorem Mv.head {n x : Net} {g : Grant} {rest : List Flit} (M : Mv n x g rest) (hh : (mvF n g).head = true) : entry n.mesh (tabOf n.pa n.pb (g.input % 2)) g.node (mvF n g).dst = g.port := by
  have h1 := M.one.wants.1
  have h2 := M.one.full
  rw [wanted_2 (a := g.node) (i := g.input) h2 hh] at h1
  exact h1
theorem WI_mv {n x : Net} {so si : Int → FS} {ss : Int → FS} {sa : Int → Int → FS} {g : Grant} {rest : List Flit} (M : Mv n x g rest) (h : WI x so si ss sa) : WI (specG n x g) (soM so g (mvF n g)) (siM n si g (mvF n g)) ss (saM sa g (mvF n g)) := by
  have hidx := M.idx
  have one := M.one
  have hmk := ok_mesh M.ok
  refine WI_move (n := n) h (by rw [M.mesh]; exact hmk) M.mesh.symm M.opens one.i0 one.i9 (by rw [M.lb]; exact hidx.2.1) (by rw [M.lo]; exact hidx.2.2.2.2.2) (by rw [M.la]; exact hidx.2.2.2.1) (fun h4 => ?_) M.hor M.hf rfl M.req (flit_of M.ok one).1
  rw [M.lb]
  exact M.to h4
theorem WX_mv {n x : Net} {so si : Int → FS} {ss : Int → FS} {sa : Int → Int → FS} {g : Grant} {rest : List Flit} (M : Mv n x g rest) (h : WI x so si ss sa) (hx : WX x so si sa) : WX (specG n x g) (soM so g (mvF n g)) (siM n si g (mvF n g)) (saM sa g (mvF n g)) := by
 obtain ⟨r1, r2, r3, r4, r5, r6, r7⟩ := specG_rest n x g
 obtain ⟨b0, b1, n0, n1, g0, g1⟩ := M.idx
 have one := M.one
 have i0 := one.i0; have i9 := one.i9; have q0 := one.p0; have q4 := one.p4
 have hmk : meshOk x.mesh = true := by rw [M.mesh]; exact ok_mesh M.ok
 have hop := M.opens
 have hgo : gOwn n g = if (mvF n g).tail = true then -1 else g.input / 2 := rfl
 have how : ∀ a p c : Int, 0 ≤ a → 0 ≤ p → p ≤ 4 → 0 ≤ c → c ≤ 1 → ownAt (specG n x g) a p c = if a = g.node ∧ p = g.port ∧ c = g.input % 2 then gOwn n g else ownAt x a p c := by
  intro a p c a0 p0 p4 c0 c1
  show ri (specG n x g).owners _ = _
  rw [r7]
  exact ownAt_set g0 (by rw [M.lo]; exact g1) a0 p0 p4 c0 c1 q0 q4
 have hn0 : isNode x.mesh.g g.node = true := by rw [M.mesh]; exact one.nd
 refine ⟨fun a j c t j0 j4 c0 c1 e => ?_, fun a p c t hp c0 c1 e => ?_, fun a p c ha p0 p4 c0 c1 e => ?_, fun a q c ha p0 p3 c0 c1 e => ?_⟩
 ·rw [r1]
  unfold soM at e
  by_cases eb : 10 * a + 2 * j + c = gIdx g
  ·rw [if_pos eb] at e
   have ea : a = g.node ∧ j = g.input / 2 ∧ c = g.input % 2 := by unfold gIdx at eb; omega
   refine ⟨g.port, by rw [ea.1]; exact hop, ?_⟩
   rw [how a g.port c (by omega) q0 q4 c0 c1, if_pos ⟨ea.1, rfl, ea.2.2⟩, hgo, ea.2.1]
   unfold aft at e
   split at e
   ·cases e
   ·rename_i ht; rw [if_neg ht]
  ·rw [if_neg eb] at e
   obtain ⟨p, hp, hj⟩ := hx.cv a j c t j0 j4 c0 c1 e
   refine ⟨p, hp, ?_⟩
   have := isNode_iff.1 hp.1
   rw [how a p c this.1 hp.2.1 hp.2.2.1 c0 c1, if_neg, hj]
   intro e2
   apply eb
   rcases M.req with ⟨_, h2⟩ | ⟨_, h2⟩
   ·rw [← e2.1, ← e2.2.1, ← e2.2.2, hj] at h2; omega
   ·rw [← e2.1, ← e2.2.1, ← e2.2.2, hj] at h2
    unfold gIdx; omega
 ·rw [r1] at hp e
  rw [r1, r2, r3]
  rw [dn_M hmk M.mesh.symm hop i0 hp c0 c1] at e
  by_cases e2 : a = g.node ∧ p = g.port ∧ c = g.input % 2
  ·rw [if_pos e2] at e
   have et : t = fid (mvF n g) := by
    unfold aft at e
    split at e
    ·cases e
    ·exact (Option.some.inj e).symm
   have hfl := (flit_of M.ok one).2
   unfold flitOk at hfl
   rw [Bool.and_eq_true] at hfl
   refine ⟨?_, by rw [et, M.mesh]; exact hfl.1⟩
   cases hh : (mvF n g).head
   ·obtain ⟨k1, k2⟩ := run_cons (by rw [← M.hf]; exact h.buf (gIdx g) b0 (by rw [M.lb]; exact b1))
    have h3 := nx_body k1 hh
    have hown : ownAt x g.node g.port (g.input % 2) = g.input / 2 := by
     rcases M.req with ⟨h4, _⟩ | ⟨_, h4⟩
     ·rw [hh] at h4; cases h4
     ·exact h4
    rcases h.own g.node g.port (g.input % 2) hop (by omega) (by omega) with ⟨o1, o2⟩ | ⟨s, o1, o2, o3⟩
    ·omega
    ·rw [hown, show 10 * g.node + 2 * (g.input / 2) + g.input % 2 = gIdx g by unfold gIdx; omega, h3] at o3
     refine (hx.dr a p c t hp c0 c1 ?_).1
     rw [e2.1, e2.2.1, e2.2.2, o1, ← o3, et]
   ·have := M.head hh
    rw [et, M.mesh, M.pa, M.pb, e2.1, e2.2.1, e2.2.2]
    exact this
  ·rw [if_neg e2] at e
   exact hx.dr a p c t hp c0 c1 e
 ·rw [r1] at ha ⊢
  rw [how a p c (isNode_iff.1 ha).1 p0 p4 c0 c1] at e
  by_cases e2 : a = g.node ∧ p = g.port ∧ c = g.input % 2
  ·rw [e2.1, e2.2.1]; exact hop
  ·rw [if_neg e2] at e
   exact hx.cl a p c ha p0 p4 c0 c1 e
 ·rw [r1] at ha ⊢
  unfold siM at e
  by_cases e2 : g.port ≠ 4 ∧ 10 * a + 2 * q + c = gTo n g
  ·have hl := (one.to M.ok e2.1)
   obtain ⟨t0, t1, t2, t3, t4, t5, t6⟩ := hl
   have eq := opp_eq (p := g.port) q0 (by have := e2.1; omega)
   have ea : a = nextNode n.mesh.g g.node g.port ∧ q = opposite g.port ∧ c = g.input % 2 := by have := e2.2; omega
   have hgeo := geo (g := n.mesh.g) q0 (by have := e2.1; omega) one.nd t3
   rw [M.mesh, ea.1, ea.2.1, hgeo.2.1, hgeo.2.2.1]
   exact ⟨one.nd, (one.live e2.1).1⟩
  ·rw [if_neg e2] at e
   exact hx.bd a q c ha p0 p3 c0 c1 e
theorem WE_step {n : Net} (ok : netOk n = true) (h : WE n) : WE (stepN n) := by
  refine step_ind ok WE h (fun g x rest M hw => ?_) (fun a x rest E hw => ?_) (fun x t hw => ?_)
  · obtain ⟨so, si, ss, sa, hw, hx⟩ := hw
    exact ⟨_, _, _, _, WI_mv M hw, WX_mv M hw hx⟩
  · obtain ⟨so, si, ss, sa, hw, hx⟩ := hw
    refine ⟨_, _, _, _, WI_enter (n := n) hw E.a0 (by rw [E.ls]; exact E.a1) E.hf rfl E.c0 E.c1 (by rw [E.lb]; exact E.t1), ⟨hx.cv, fun y p c t hp c0 c1 e => ?_, hx.cl, fun y q c hy q0 q3 c0 c1 e => ?_⟩⟩
    · have e2 : (enterB n x a).mesh = x.mesh := rfl
      rw [e2] at hp e
      rw [dn_E hp c0 c1 rfl E.c0 E.c1] at e
      exact hx.dr y p c t hp c0 c1 e
    · refine hx.bd y q c hy q0 q3 c0 c1 (fun e2 => e ?_)
      have := E.c0; have := E.c1
      unfold seM
      rw [if_neg (by unfold eTo; omega)]
      exact e2
  · obtain ⟨so, si, ss, sa, hw, hx⟩ := hw
    exact ⟨so, si, ss, sa, ⟨hw.buf, hw.src, hw.arr, hw.loc, hw.own, hw.uniq⟩, ⟨hx.cv, hx.dr, hx.cl, hx.bd⟩⟩
end NoC
namespace Go.Proofs.Ytaihmgbflhbebaa
open NoC
theorem newN_own {m : Mesh} {pa pb : List Int} {a p c : Int} (ha : isNode m.g a = true) (p0 : 0 ≤ p) (p4 : p ≤ 4) (c0 : 0 ≤ c) (c1 : c ≤ 1) : ownAt (newN m pa pb) a p c = -1 := by
  have h1 := isNode_iff.1 ha
  have hc := count_nat m.g
  unfold ownAt
  obtain ⟨k, hk⟩ : ∃ k : Nat, 10 * a + 2 * p + c = (k : Int) := ⟨(10 * a + 2 * p + c).toNat, by omega⟩
  rw [hk]
  exact ri_rep (by omega)
theorem WE_new (m : Mesh) (pa pb : List Int) : WE (newN m pa pb) := by
  refine ⟨fun _ => none, fun _ => none, fun _ => none, fun _ _ => none, ⟨fun b _ _ => ?_, fun a _ _ => ?_, fun a c _ _ => ?_, fun _ _ _ _ _ => rfl, fun a p c hp c0 c1 => ?_, fun a p p' c hp hp' c0 c1 h _ => ?_⟩, ⟨fun a j c t _ _ _ _ e => (by cases e), fun a p c t _ _ _ e => (by unfold dn at e; split at e <;> cases e), fun a p c ha p0 p4 c0 c1 e => absurd (newN_own (m := m) (pa := pa) (pb := pb) ha p0 p4 c0 c1) e, fun a q c _ _ _ _ _ e => absurd rfl e⟩⟩
  · rw [show rl (newN m pa pb).bufs b = [] from rl_replicate _ _]; rfl
  · rw [show rl (newN m pa pb).srcs a = [] from rl_replicate _ _]; rfl
  · rw [show rl (newN m pa pb).arrs a = [] from rl_replicate _ _]; rfl
  · left
    exact ⟨newN_own (m := m) (pa := pa) (pb := pb) hp.1 hp.2.1 hp.2.2.1 c0 c1, by unfold dn; split <;> rfl⟩
  · exfalso
    rw [newN_own (m := m) (pa := pa) (pb := pb) hp.1 hp.2.1 hp.2.2.1 c0 c1] at h
    omega
theorem run_flits {p : Packet} (h1 : 1 ≤ p.len) : ∀ k : Nat, (k : Int) ≤ p.len → runF none (flitsTo p k) = some (if k = 0 ∨ (k : Int) = p.len then none else some (p.id, p.dst, p.cls)) := by
  intro k
  induction k with
  | zero => intro _; simp [flitsTo, runF]
  | succ k ih =>
    intro hk
    rw [flitsTo_succ, run_snoc _ _ _ _ (ih (by omega))]
    have hx : nx (if k = 0 ∨ (k : Int) = p.len then none else some (p.id, p.dst, p.cls)) (flitAt p k) = some (aft (flitAt p k)) := by
      refine nx_of (fun hh => ?_) (fun hh => ?_)
      · have : (k : Int) = 0 := by simpa [flitAt] using hh
        rw [if_pos (.inl (by omega))]
      · have h0 : ¬ (k : Int) = 0 := by simpa [flitAt] using hh
        rw [if_neg (by omega)]
        rfl
    rw [hx]
    unfold aft flitAt fid
    by_cases e : (k : Int) = p.len - 1
    · rw [if_pos (by simpa using e), if_pos (.inr (by push_cast; omega))]
    · rw [if_neg (by simp [e]), if_neg (fun h9 => by
        rcases h9 with h9 | h9
        · omega
        · push_cast at h9
          omega)]
theorem WE_send {n : Net} {p : Packet} (h : WE n) (hs : sendOk n p = true) (ok : netOk n = true) : WE (sendN n p) := by
  obtain ⟨so, si, ss, sa, hw, hx⟩ := h
  simp only [sendOk, Bool.and_eq_true] at hs
  have hp := hs.1
  obtain ⟨nd, _, _, _, l1, l5⟩ := packet_parts hp
  have nd1 := isNode_iff.1 nd
  obtain ⟨_, _, _, _, hsl, _⟩ := netOk_parts ok
  refine ⟨so, si, ss, sa, ⟨hw.buf, fun a a0 a1 => ?_, hw.arr, hw.loc, hw.own, hw.uniq⟩, ⟨hx.cv, hx.dr, hx.cl, hx.bd⟩⟩
  have e1 : (sendN n p).srcs = n.srcs.set p.src.toNat (rl n.srcs p.src ++ flitsOf n.mesh.g p) := rfl
  rw [e1] at a1 ⊢
  rw [List.length_set] at a1
  rw [rl_setI nd1.1 (by omega) a a0]
  by_cases e : a = p.src
  · rw [if_pos e, run_app _ _ _ _ (by rw [← e]; exact hw.src a a0 a1), flitsOf_yes hp, run_flits l1 _ (by omega)]
    rw [if_pos (.inr (by omega))]
  · rw [if_neg e]
    exact hw.src a a0 a1
theorem WE_snd {n : Net} {p : Packet} (h : WE n) (ok : netOk n = true) : WE (sndN n p) := by
  unfold sndN
  split
  · rename_i hs; exact WE_send h hs ok
  · exact h
theorem WE_sndTo {n : Net} (h : WE n) (ok : netOk n = true) (l : List Packet) : ∀ k, WE (sndTo n l k) := by
  intro k
  induction k with
  | zero => exact h
  | succ k ih => exact WE_snd ih (sndTo_ok ok l k)
theorem WE_sendAll {n : Net} (h : WE n) (l : List Packet) : WE (sendAllN n l) := by
  unfold sendAllN
  split
  · rename_i hc
    simp only [canAll, Bool.and_eq_true] at hc
    exact WE_sndTo h hc.1 l _
  · exact h
theorem WE_run {n : Net} (ok : netOk n = true) (h : WE n) : ∀ k : Nat, n.time + k ≤ 1000000 → WE (runN n k) := by
  intro k
  induction k with
  | zero => intro _; exact h
  | succ k ih =>
    intro hk
    exact WE_step (runN_ok ok k (by omega)) (ih (by omega))
end Go.Proofs.Ytaihmgbflhbebaa
namespace Go.Proofs.Ytaihmgbflhbebaa
open Go.RowKit Go.Proofs.YtaihmgbflhbebaaW.PrintWords
open NoC
theorem laws_big (A : Option Addr) (N c : Nat) (w : World) : Calls Try.prog 4 #[.slice A N c] w fun e w' => e = .returned (.bool (decide ((1048576 : Int) < (N : Int)))) ∧ w = w' := by
  go_enter Try.func4, Try.ntmps4
  go_wp2
  go_ret
  exact ⟨rfl, rfl⟩
theorem grid_count {g : Grid} (h : 2 ≤ nodeCount g) : g.w * g.h = nodeCount g ∧ 1 ≤ g.w ∧ g.w ≤ 4 ∧ 1 ≤ g.h ∧ g.h ≤ 4 := by
  unfold nodeCount at h ⊢
  cases hg : gridOk g
  · rw [hg] at h; simp at h
  · rw [if_pos rfl]
    simp only [gridOk, inside, Bool.and_eq_true, decide_eq_true_eq] at hg
    exact ⟨rfl, hg.1.1, hg.1.2, hg.2.1, hg.2.2⟩
theorem NetR.time {e : Nat} {w : World} {n : Net} {t : Int} {q : NA} (h : NetR e w { n with time := t } q) : NetR e w n q := ⟨h.br, h.pa, h.pb, h.bufs, h.owners, h.turns, h.srcs, h.arrs, h.h1, h.h2, h.h3, h.h4, h.h5, h.h6, h.h7, h.h8, h.h9, h.h10, h.h11⟩
def Plc (w : World) (b off : Nat) (x0 x1 x2 : Int) : Prop := b < w.heap.size ∧ w.cell? ⟨b, off, none⟩ = some (.int .i64 x0) ∧ w.cell? ⟨b, off + 1, none⟩ = some (.int .i64 x1) ∧ w.cell? ⟨b, off + 2, none⟩ = some (.int .i64 x2)
theorem Plc.below {w w1 : World} {b off : Nat} {x0 x1 x2 : Int} (h : Plc w b off x0 x1 x2) (hb : Below w.heap.size w w1) : Plc w1 b off x0 x1 x2 :=
  ⟨Nat.lt_of_lt_of_le h.1 hb.size, ((bcell hb).1 b off h.1).trans h.2.1, ((bcell hb).1 b (off + 1) h.1).trans h.2.2.1, ((bcell hb).1 b (off + 2) h.1).trans h.2.2.2⟩
theorem DrN.facts {n : Net} (h : DrN n) : netOk n = true ∧ WE n ∧ 0 ≤ n.time ∧ n.time ≤ 11 ∧ (∀ x ∈ n.arrs, x.length ≤ 1048576) ∧ ∃ g : Grid, n.mesh = ⟨g, []⟩ ∧ 2 ≤ nodeCount g := by
  obtain ⟨g, r, s, l, k, hg, hr, hd, hk, rfl⟩ := h
  have ok0 := newN_ok (std_classes (r := r) (s := s) ⟨hg.1, hg.2.1, hg.2.2.1, hg.2.2.2.1⟩ hr)
  have ok1 := sendAll_ok ok0 l
  obtain ⟨e1, e2, e3, e4, e5, e6⟩ := sendAll_rest (newN ⟨g, []⟩ (makeT g r) (makeT g s)) l
  have t0 : (newN ⟨g, []⟩ (makeT g r) (makeT g s)).time = 0 := rfl
  have w1 := WE_sendAll (WE_new ⟨g, []⟩ (makeT g r) (makeT g s)) l
  obtain ⟨n1, hn1⟩ : ∃ z, sendAllN (newN ⟨g, []⟩ (makeT g r) (makeT g s)) l = z := ⟨_, rfl⟩
  rw [hn1] at ok1 e1 e2 e3 w1 ⊢
  have ht : (runN n1 k).time = k := by rw [runN_time, e1, t0]; omega
  refine ⟨runN_ok ok1 k (by rw [e1, t0]; omega), WE_run ok1 w1 k (by rw [e1, t0]; omega), by rw [ht]; omega, by rw [ht]; omega, fun x hx => ?_, g, ?_, hg.2.2.2.2⟩
  · obtain ⟨i, hi, rfl⟩ := rl_of_mem hx
    have h1 := run_arrs n1 i k
    have h2 : (rl n1.arrs i).length = 0 := by
      rw [e2]
      have : rl (newN ⟨g, []⟩ (makeT g r) (makeT g s)).arrs i = [] := rl_replicate _ _
      rw [this]; rfl
    omega
  · rw [(run_parts n1 k).1, e3]; rfl
theorem DrN.arrs {n : Net} (h : DrN n) : ∀ i : Nat, (rl n.arrs i).length ≤ 880 := by
  obtain ⟨g, r, s, l, k, hg, hr, hd, hk, rfl⟩ := h
  intro i
  have h1 := run_arrs (sendAllN (newN ⟨g, []⟩ (makeT g r) (makeT g s)) l) i k
  have h2 : (rl (sendAllN (newN ⟨g, []⟩ (makeT g r) (makeT g s)) l).arrs i).length = 0 := by
    rw [(sendAll_rest _ l).2.1]
    have : rl (newN ⟨g, []⟩ (makeT g r) (makeT g s)).arrs i = [] := rl_replicate _ _
    rw [this]; rfl
  omega
end Go.Proofs.Ytaihmgbflhbebaa
