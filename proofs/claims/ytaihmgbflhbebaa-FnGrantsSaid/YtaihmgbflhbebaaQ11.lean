/- Lemmas for laws of this seat, for all inputs: StW GrS Mv StH StP Snd SndP New MarkM MarkN. -/
import Derived.Test.YtaihmgbflhbebaaQ3
import Derived.Test.YtaihmgbflhbebaaQ8
import Derived.Test.YtaihmgbflhbebaaQ10
import Derived.Test.YtaihmgbflhbebaaQ7
set_option linter.unusedVariables false
set_option linter.unusedSimpArgs false
namespace Go.Proofs.Ytaihmgbflhbebaa
open Go.RowKit Go.Proofs.YtaihmgbflhbebaaW.PrintWords
open NoC
structure SV where
  q : NA
  v4 : List Value
  v7 : List Value
  v8 : List Value
  vg : Value
  vt : Value
  ve : Value
  vm : Value
  gs : List Grant
  ts : List Int
  es : List Int
  ms : List Flit
def allV (s : SV) : List Value := s.v4 ++ (s.v7 ++ s.v8)
def allR (x : Net) : List (List Flit) := x.bufs ++ (x.srcs ++ x.arrs)
structure ST (w0 : World) (lo bx : Nat) (n0 : Net) (s : SV) (x : Net) (w : World) : Prop where
  nx : NX w lo x s.q s.v4 s.v7 s.v8
  bt : BT w bx n0 s.q
  g : kG.R 41 w w0.heap.size (fun _ => True) s.vg s.gs
  t : Kd.R (Kd.int .i64) 3 w w0.heap.size (fun _ => True) s.vt s.ts
  e : Kd.R (Kd.int .i64) 3 w w0.heap.size (fun _ => True) s.ve s.es
  m : kF.R 77 w w0.heap.size (fun _ => True) s.vm s.ms
  ma : ∀ i : Nat, i < (allR x).length → Apart (vr (allV s) i) s.vm
  blw : Below lo w0 w
  low : lo ≤ w0.heap.size
  box : lo ≤ bx ∧ bx < w0.heap.size
  top : ∀ g, (s.q.a4 = some ⟨g, 0, none⟩ ∨ s.q.a5 = some ⟨g, 0, none⟩ ∨ s.q.a6 = some ⟨g, 0, none⟩ ∨ s.q.a7 = some ⟨g, 0, none⟩ ∨ s.q.a8 = some ⟨g, 0, none⟩) → lo ≤ g ∧ g < w0.heap.size
section
variable {w0 w w1 : World} {lo bx : Nat} {n0 : Net} {s : SV} {x : Net}
theorem ST.size (h : ST w0 lo bx n0 s x w) : w0.heap.size ≤ w.heap.size := h.blw.size
theorem ST.below (h : ST w0 lo bx n0 s x w) (hb : Below w.heap.size w w1) : ST w0 lo bx n0 s x w1 :=
  ⟨h.nx.below hb, h.bt.below hb, Kd.R_below h.g hb, Kd.R_below h.t hb, Kd.R_below h.e hb, Kd.R_below h.m hb, h.ma, below_then h.blw (Nat.le_trans h.low h.size) hb, h.low, h.box, h.top⟩
theorem Below.cut {B C : Nat} {w w1 : World} (h : Below C w w1) (hB : B ≤ C) : Below B w w1 := ⟨h.os, h.tape, h.output, h.size, fun i hi => h.block i (by omega)⟩
theorem Below.grownRow {B : Nat} {w w1 w2 : World} {v : Value} (h : Below B w w1) (hg : w1.grownBy w2 v.ownBlock) (hB : B ≤ w1.heap.size) (hv : ∀ k, v.ownBlock = some k → B ≤ k) : Below B w w2 := h.grown hg hB hv
theorem below_setc {B : Nat} {w w1 : World} (h : Below B w w1) {g : Nat} (hg : B ≤ g) (o : Nat) (u : Value) : Below B w (w1.setCell ⟨g, o, none⟩ u) := h.setCell hg _
theorem RI_grownF {w w1 : World} {e1 b1 b2 : Nat} {α : Type} {d : Kd α} {v u : Value} {xs : List α} {ys : List Flit} (h : d.R e1 w b1 (fun _ => True) v xs) (hu : kF.R 77 w b2 (fun _ => True) u ys) (hne : e1 ≠ 77) (hE : d.E = []) (hg : w.grownBy w1 u.ownBlock) : d.R e1 w1 b1 (fun _ => True) v xs := by
  obtain ⟨i2, hi2⟩ := Kd.R_own hu
  have hb := Kd.R_bound h
  refine Kd.R_mono (Kd.R_move hb (fun k hk => ?_)) (fun _ _ => trivial)
  obtain ⟨_, h1, h2, q, hq, cells, hc⟩ := hk
  rw [hE] at hq
  have eq : q = e1 := by simpa using hq
  subst eq
  refine hg.block k h2 (fun e => ?_)
  obtain ⟨cells2, hc2⟩ := own_typed hi2 k e.symm
  rw [hc] at hc2
  have := (Obj.cells.inj (Option.some.inj hc2)).2.1
  exact hne this
theorem ST.grownF (h : ST w0 lo bx n0 s x w) {k : Nat} (hk : k < (allR x).length) (hg : w.grownBy w1 (vr (allV s) k).ownBlock) :
    BT w1 bx n0 s.q ∧ kG.R 41 w1 w0.heap.size (fun _ => True) s.vg s.gs ∧ Kd.R (Kd.int .i64) 3 w1 w0.heap.size (fun _ => True) s.vt s.ts ∧ Kd.R (Kd.int .i64) 3 w1 w0.heap.size (fun _ => True) s.ve s.es ∧ kF.R 77 w1 w0.heap.size (fun _ => True) s.vm s.ms ∧ Below lo w0 w1 := by
  have hr := h.nx.rows.row k hk
  exact ⟨h.bt.grown hg hr, RI_grownF h.g hr (by decide) rfl hg, RI_grownF h.t hr (by decide) rfl hg, RI_grownF h.e hr (by decide) rfl hg, R_grownF h.m hg (apart_comm (h.ma k hk)), Below.grownRow h.blw hg (Nat.le_trans h.low h.size) (fun j hj => Kd.R_base hr j hj)⟩
theorem G_off {α : Type} {d : Kd α} {e base : Nat} {w : World} {v : Value} {xs : List α} {g : Nat} (h : d.R e w base (fun _ => True) v xs) (hg : g < base) (j : Nat) (u : Value) : d.R e (w.setCell ⟨g, j, none⟩ u) base (fun _ => True) v xs := R_off h hg j u
theorem apart_new {w1 : World} {e base : Nat} {u v vm : Value} {xs : List Flit} (ha : Apart v vm) (hat : Anew w u v) (hm : kF.R 77 w base (fun _ => True) vm xs) : Apart u vm := by
  rcases hat with h | h | ⟨b, h, hb⟩
  · exact .inl h
  · unfold Apart at ha ⊢
    rwa [h]
  · right
    rw [h]
    intro e
    have := Kd.R_lt hm b e.symm
    omega
theorem ma_set {s : SV} {L k : Nat} {vm u : Value} {vs : List Value} (hl : vs.length = L) (hk : k < L) (h : ∀ i : Nat, i < L → Apart (vr vs i) vm) (hu : Apart u vm) : ∀ i : Nat, i < L → Apart (vr (vs.set k u) i) vm := by
  intro i hi
  rw [vr_set (by omega)]
  split
  · exact hu
  · exact h i hi
theorem ST.setBuf {g k : Nat} {u : Value} {y : List Flit} (h : ST w0 lo bx n0 s x w) (ea : s.q.a4 = some ⟨g, 0, none⟩) (hk : k < x.bufs.length) (hg : w.grownBy w1 (vr s.v4 k).ownBlock) (hu : kF.R 77 w1 lo (fun _ => True) u y) (hat : Anew w u (vr s.v4 k)) :
    ST w0 lo bx n0 { s with v4 := s.v4.set k u } { x with bufs := x.bufs.set k y } (w1.setCell ⟨g, k, none⟩ u) := by
  have e1 : vr (allV s) k = vr s.v4 k := vr_left (by rw [h.nx.l4]; exact hk)
  have hk2 : k < (allR x).length := by simp [allR]; omega
  obtain ⟨b, p1, p2, p3, p4, p5⟩ := h.grownF hk2 (by rw [e1]; exact hg)
  obtain ⟨g1, g2⟩ := h.top g (.inl ea)
  have hbl : BlkT w1 g 68 := by
    obtain ⟨_, _, _, _, _, o4, _⟩ := h.nx.kept (k := k) hk2 (by show w.grownBy w1 (vr (allV s) k).ownBlock; rw [e1]; exact hg)
    exact own_typed o4 g (by rw [ea]; rfl)
  refine ⟨h.nx.setBuf ea k hk hg hu hat, b.far hbl (by decide) _ _, G_off p1 g2 _ _, G_off p2 g2 _ _, G_off p3 g2 _ _, G_off p4 g2 _ _, ?_, below_setc p5 g1 _ _, h.low, h.box, h.top⟩
  have e2 : allV { s with v4 := s.v4.set k u } = (allV s).set k u := by
    unfold allV
    rw [List.set_append_left _ _ (by rw [h.nx.l4]; exact hk)]
  have e3 : (allR { x with bufs := x.bufs.set k y }).length = (allR x).length := by simp [allR]
  rw [e2, e3]
  exact ma_set (s := s) (by unfold allV allR; simp [h.nx.l4, h.nx.l7, h.nx.l8]) hk2 h.ma (apart_new (w1 := w1) (e := 0) (by rw [← e1]; exact h.ma k hk2) hat h.m)
theorem ST.setSrc {g k : Nat} {u : Value} {y : List Flit} (h : ST w0 lo bx n0 s x w) (ea : s.q.a7 = some ⟨g, 0, none⟩) (hk : k < x.srcs.length) (hg : w.grownBy w1 (vr s.v7 k).ownBlock) (hu : kF.R 77 w1 lo (fun _ => True) u y) (hat : Anew w u (vr s.v7 k)) :
    ST w0 lo bx n0 { s with v7 := s.v7.set k u } { x with srcs := x.srcs.set k y } (w1.setCell ⟨g, k, none⟩ u) := by
  have e1 : vr (allV s) (x.bufs.length + k) = vr s.v7 k := by unfold allV; rw [← h.nx.l4, vr_right, vr_left (by rw [h.nx.l7]; exact hk)]
  have hk2 : x.bufs.length + k < (allR x).length := by simp [allR]; omega
  obtain ⟨b, p1, p2, p3, p4, p5⟩ := h.grownF hk2 (by rw [e1]; exact hg)
  obtain ⟨g1, g2⟩ := h.top g (.inr (.inr (.inr (.inl ea))))
  have hbl : BlkT w1 g 68 := by
    obtain ⟨_, _, _, _, _, _, o7, _⟩ := h.nx.kept (k := x.bufs.length + k) hk2 (by show w.grownBy w1 (vr (allV s) (x.bufs.length + k)).ownBlock; rw [e1]; exact hg)
    exact own_typed o7 g (by rw [ea]; rfl)
  refine ⟨h.nx.setSrc ea k hk hg hu hat, b.far hbl (by decide) _ _, G_off p1 g2 _ _, G_off p2 g2 _ _, G_off p3 g2 _ _, G_off p4 g2 _ _, ?_, below_setc p5 g1 _ _, h.low, h.box, h.top⟩
  have e2 : allV { s with v7 := s.v7.set k u } = (allV s).set (x.bufs.length + k) u := by
    unfold allV
    rw [← h.nx.l4]
    exact (set_mid s.v4 s.v7 s.v8 k u (by rw [h.nx.l7]; exact hk)).symm
  have e3 : (allR { x with srcs := x.srcs.set k y }).length = (allR x).length := by simp [allR]
  rw [e2, e3]
  exact ma_set (s := s) (by unfold allV allR; simp [h.nx.l4, h.nx.l7, h.nx.l8]) hk2 h.ma (apart_new (w1 := w1) (e := 0) (by rw [← e1]; exact h.ma _ hk2) hat h.m)
theorem ST.setArr {g k : Nat} {u : Value} {y : List Flit} (h : ST w0 lo bx n0 s x w) (ea : s.q.a8 = some ⟨g, 0, none⟩) (hk : k < x.arrs.length) (hg : w.grownBy w1 (vr s.v8 k).ownBlock) (hu : kF.R 77 w1 lo (fun _ => True) u y) (hat : Anew w u (vr s.v8 k)) :
    ST w0 lo bx n0 { s with v8 := s.v8.set k u } { x with arrs := x.arrs.set k y } (w1.setCell ⟨g, k, none⟩ u) := by
  have e1 : vr (allV s) (x.bufs.length + (x.srcs.length + k)) = vr s.v8 k := by unfold allV; rw [← h.nx.l4, vr_right, ← h.nx.l7, vr_right]
  have hk2 : x.bufs.length + (x.srcs.length + k) < (allR x).length := by simp [allR]; omega
  obtain ⟨b, p1, p2, p3, p4, p5⟩ := h.grownF hk2 (by rw [e1]; exact hg)
  obtain ⟨g1, g2⟩ := h.top g (.inr (.inr (.inr (.inr ea))))
  have hbl : BlkT w1 g 68 := by
    obtain ⟨_, _, _, _, _, _, _, o8⟩ := h.nx.kept (k := x.bufs.length + (x.srcs.length + k)) hk2 (by show w.grownBy w1 (vr (allV s) (x.bufs.length + (x.srcs.length + k))).ownBlock; rw [e1]; exact hg)
    exact own_typed o8 g (by rw [ea]; rfl)
  refine ⟨h.nx.setArr ea k hk hg hu hat, b.far hbl (by decide) _ _, G_off p1 g2 _ _, G_off p2 g2 _ _, G_off p3 g2 _ _, G_off p4 g2 _ _, ?_, below_setc p5 g1 _ _, h.low, h.box, h.top⟩
  have e2 : allV { s with v8 := s.v8.set k u } = (allV s).set (x.bufs.length + (x.srcs.length + k)) u := by
    unfold allV
    rw [← h.nx.l4, ← h.nx.l7]
    exact (set_end s.v4 s.v7 s.v8 k u).symm
  have e3 : (allR { x with arrs := x.arrs.set k y }).length = (allR x).length := by simp [allR]
  rw [e2, e3]
  exact ma_set (s := s) (by unfold allV allR; simp [h.nx.l4, h.nx.l7, h.nx.l8]) hk2 h.ma (apart_new (w1 := w1) (e := 0) (by rw [← e1]; exact h.ma _ hk2) hat h.m)
theorem ST.setOwner {g k : Nat} (h : ST w0 lo bx n0 s x w) (ea : s.q.a5 = some ⟨g, 0, none⟩) (hk : k < x.owners.length) (v : Int) : ST w0 lo bx n0 s { x with owners := x.owners.set k v } (w.setCell ⟨g, k, none⟩ (.int .i64 v)) := by
  obtain ⟨g1, g2⟩ := h.top g (.inr (.inl ea))
  have hbl : BlkT w g 3 := by
    have ho := h.nx.owners
    obtain ⟨i, hin⟩ := Kd.R_own ho
    exact own_typed hin g (by rw [ea]; rfl)
  exact ⟨h.nx.setOwner ea k hk v, h.bt.far hbl (by decide) _ _, G_off h.g g2 _ _, G_off h.t g2 _ _, G_off h.e g2 _ _, G_off h.m g2 _ _, h.ma, below_setc h.blw g1 _ _, h.low, h.box, h.top⟩
theorem ST.setTurn {g k : Nat} (h : ST w0 lo bx n0 s x w) (ea : s.q.a6 = some ⟨g, 0, none⟩) (hk : k < x.turns.length) (v : Int) : ST w0 lo bx n0 s { x with turns := x.turns.set k v } (w.setCell ⟨g, k, none⟩ (.int .i64 v)) := by
  obtain ⟨g1, g2⟩ := h.top g (.inr (.inr (.inl ea)))
  have hbl : BlkT w g 3 := by
    have ho := h.nx.turns
    obtain ⟨i, hin⟩ := Kd.R_own ho
    exact own_typed hin g (by rw [ea]; rfl)
  exact ⟨h.nx.setTurn ea k hk v, h.bt.far hbl (by decide) _ _, G_off h.g g2 _ _, G_off h.t g2 _ _, G_off h.e g2 _ _, G_off h.m g2 _ _, h.ma, below_setc h.blw g1 _ _, h.low, h.box, h.top⟩
end
theorem info_b : (Try.prog.info? 4).map (fun i => (i.zero, i.size, i.bytes)) = some (some (.bool false), 1, 1) := by kernel_rfl
set_option maxHeartbeats 8000000 in
set_option maxRecDepth 100000 in
theorem spec_l18Grants (n : Net) (q : NA) (a : Int) (w : World) (hr : NetR 77 w n q) (ok : netOk n = true) (nd : isNode n.mesh.g a = true) :
  Calls Try.prog 86 #[.agg (netCells n q), .int .i64 a] w fun e w' => GotG w w' (grantsN n a) e ∧ Below w.heap.size w w' := by
 have R := Lib.hid hr
 have OK := Lib.hid ok
 have ND := Lib.hid nd
 obtain ⟨_, _, _, a15⟩ := node_bounds nd
 have a0 := (isNode_iff.1 nd).1
 obtain ⟨u0, u1, _, _⟩ := turn_range ok nd 0 (by omega)
 clear ok nd
 obtain ⟨a1, a2, a3, a4, a5, a6, a7, a8, c1, c2, c3, c4, c5, c6, c7, c8⟩ := q; obtain ⟨Rbr, Rpa, Rpb, Rbu, Row, Rtu, Rso, Rar, L1, L2, L3, L4, L5, L6, L7, L8, L9, L10, L11⟩ := hr; have M9 := Lib.hid L9; have M10 := Lib.hid L10; have M11 := Lib.hid L11; clear L9 L10 L11; dsimp only [netCells] at *
 obtain ⟨b6, o6, rfl, hb6, r6⟩ := rdI_all Rtu (by omega)
 obtain ⟨z1, z2, z3, z4, z5, z6⟩ := more hb6
 have R6 := Lib.hid r6
 clear r6 u0 u1
 have mk : ∀ W : World, (Instr.makeSlice 115 (.int .i64 5) (.int .i64 5)).run Try.prog W = .ok (.slice (some ⟨W.heap.size, 0, none⟩) 5 5) (W.alloc (.cells (uCells [false, false, false, false, false]) 4)) :=
  fun W => by
   have h := print_make_int (P := Try.prog) 115 4 (.bool false) 1 Try.underlying115 info_b rfl (by omega) 5 (by omega) (by decide) W
   rw [show (5 : Int).toNat = 5 from rfl, show madeCells #[.bool false] 5 = uCells [false, false, false, false, false] by first | rfl | kernel_rfl | (apply Array.ext'; simp [madeCells, uCells]; rfl)] at h
   exact h
 go_enter Try.func86, Try.ntmps86
 go_wp2
 go_loopw [5, 7] (fun v i wr => ∃ p : Nat, i = .int .i64 p ∧ p ≤ 5 ∧ kG.R 41 wr (w.alloc (.cells #[.int .i64 n.mesh.g.w, .int .i64 n.mesh.g.h, .slice a1 n.mesh.br.length c1, .slice a2 n.pa.length c2, .slice a3 n.pb.length c3, .slice a4 n.bufs.length c4, .slice a5 n.owners.length c5, .slice (some ⟨b6, o6, none⟩) n.turns.length c6, .slice a7 n.srcs.length c7, .slice a8 n.arrs.length c8, .int .i64 n.time] 35)).heap.size (fun _ => True) v (gst n a p).2 ∧ UB 4 wr (w.heap.size + 1 + 1) (gst n a p).1 ∧ Below (w.alloc (.cells #[.int .i64 n.mesh.g.w, .int .i64 n.mesh.g.h, .slice a1 n.mesh.br.length c1, .slice a2 n.pa.length c2, .slice a3 n.pb.length c3, .slice a4 n.bufs.length c4, .slice a5 n.owners.length c5, .slice (some ⟨b6, o6, none⟩) n.turns.length c6, .slice a7 n.srcs.length c7, .slice a8 n.arrs.length c8, .int .i64 n.time] 35)).heap.size (w.alloc (.cells #[.int .i64 n.mesh.g.w, .int .i64 n.mesh.g.h, .slice a1 n.mesh.br.length c1, .slice a2 n.pa.length c2, .slice a3 n.pb.length c3, .slice a4 n.bufs.length c4, .slice a5 n.owners.length c5, .slice (some ⟨b6, o6, none⟩) n.turns.length c6, .slice a7 n.srcs.length c7, .slice a8 n.arrs.length c8, .int .i64 n.time] 35)) wr) (fun _ i _ => 5 - (intOf i).toNat)
 case atStart => exact ⟨0, rfl, Nat.zero_le _, Kd.R_below (R_empty' kG 41 (W0 := w.alloc (.cells #[.int .i64 n.mesh.g.w, .int .i64 n.mesh.g.h, .slice a1 n.mesh.br.length c1, .slice a2 n.pa.length c2, .slice a3 n.pb.length c3, .slice a4 n.bufs.length c4, .slice a5 n.owners.length c5, .slice (some ⟨b6, o6, none⟩) n.turns.length c6, .slice a7 n.srcs.length c7, .slice a8 n.arrs.length c8, .int .i64 n.time] 35)) (W := w.alloc (.cells #[.int .i64 n.mesh.g.w, .int .i64 n.mesh.g.h, .slice a1 n.mesh.br.length c1, .slice a2 n.pa.length c2, .slice a3 n.pb.length c3, .slice a4 n.bufs.length c4, .slice a5 n.owners.length c5, .slice (some ⟨b6, o6, none⟩) n.turns.length c6, .slice a7 n.srcs.length c7, .slice a8 n.arrs.length c8, .int .i64 n.time] 35)) (Nat.le_refl _) (w.heap.size + 1) (by simp only [szs])) (bw_alloc _ (bw_refl _)), ⟨rfl, Blk.new ((w.alloc (.cells #[.int .i64 n.mesh.g.w, .int .i64 n.mesh.g.h, .slice a1 n.mesh.br.length c1, .slice a2 n.pa.length c2, .slice a3 n.pb.length c3, .slice a4 n.bufs.length c4, .slice a5 n.owners.length c5, .slice (some ⟨b6, o6, none⟩) n.turns.length c6, .slice a7 n.srcs.length c7, .slice a8 n.arrs.length c8, .int .i64 n.time] 35)).alloc (.cells #[] 41)) _ _ _ (by simp only [szs])⟩, bel⟩
 case round =>
  obtain ⟨p, rfl, hp, HO, HU, HB⟩ := hrel
  obtain ⟨Ao, co, rfl⟩ := Kd.R_slice HO
  have hlen := gst_len n a p
  have husl := gst_us n a p
  obtain ⟨hcr, hfr, hzr⟩ := bcell HB
  simp only [szs] at hzr
  have yy1 := lts1 hzr
  have hul := HU.2.lt
  by_cases hlt : p < 5
  ·have p0 : (p : Int) ≤ 4 := by omega
   obtain ⟨t0, t1, t2, t3⟩ := turn_range OK.out ND.out p hlt
   have r6 := R6.out (5 * a + (p : Int)) t0 t1
   obtain ⟨us, eus⟩ : ∃ us, (gst n a p).1 = us := ⟨_, rfl⟩
   obtain ⟨k0, k1⟩ := pick_range n a p us
   obtain ⟨k, hk⟩ : ∃ k, pick n a p us = k := ⟨_, rfl⟩
   rw [hk] at k0 k1
   rw [eus] at HU husl
   have HK := Lib.hid hk
   have HE := Lib.hid (show pick n a p (gst n a p).1 = k by rw [eus]; exact hk)
   have EUS := Lib.hid eus
   have HUSL := Lib.hid husl
   have HUH := Lib.hid HU
   have HOH := Lib.hid HO
   clear hk eus husl HU HO
   obtain ⟨wo, rfl⟩ : ∃ x, x = wr := ⟨_, rfl⟩
   go_wp2
   go_loopw [8, 9] (fun v j wr => ∃ k : Nat, j = .int .i64 k ∧ k ≤ 10 ∧ Kd.R (Kd.int .i64) 3 wr wo.heap.size (fun _ => True) v (freeTo n a p us k) ∧ Below wo.heap.size wo wr) (fun _ j _ => 10 - (intOf j).toNat)
   case atStart => exact ⟨0, rfl, Nat.zero_le _, R_empty (W0 := wo) _ _ (bw_size (bw_refl wo)), bel⟩
   case round =>
    obtain ⟨x, rfl, hx, HF, HI⟩ := hrel
    obtain ⟨Af, cf, rfl⟩ := Kd.R_slice HF
    have flen := freeTo_len n a p us x
    obtain ⟨hci, hfi, hzi⟩ := bcell HI
    have hwi := bw_then HB HI
    obtain ⟨hcj, hfj, hzj⟩ := bcell hwi
    simp only [szs] at hzj
    have yy2 := lts1 hzj
    have HUI := Lib.hid (HUH.out.below HI)
    by_cases hlx : x < 10
    ·have i0 : (x : Int) < 10 := by omega
     have cx : wo.cell? ⟨w.heap.size + 1 + 1, x / 2, none⟩ = some (.bool (usedAt us (x : Int))) := by
      have h := HUH.out.cell (x := (x : Int)) (by omega) (by omega)
      rwa [show ((x : Int) / 2).toNat = x / 2 by omega] at h
     have j2 : x / 2 < 5 := by omega
     have j0 : 0 ≤ (x : Int) / 2 := by omega
     have j1 : (x : Int) / 2 < 5 := by omega
     have HIN := Lib.hid (reqI_in (n := n) (a := a) (i := (x : Int)) (p := (p : Int)) (by omega) p0)
     cases hux : usedAt us x
     ·rw [hux] at cx
      have HUX := Lib.hid hux
      clear hux
      cases hq : requestN n a x p
      ·have HS := Lib.hid (freeTo_no2 (us := us) (HIN.out.trans hq))
       go_wp2_with (go_at_call 94; refine (spec_l17Request n _ a x p _ (R.out.below bel) ⟨OK.out, ND.out, by omega, by omega⟩ (by omega) p0).mono ?_; rintro e w1 ⟨rfl, hb1⟩; obtain ⟨hc1, hf1, hz1⟩ := bcell hb1; (try simp only [szs] at hz1); have hb2 := far2; obtain ⟨hc2, hf2, hz2⟩ := bcell hb2; (try simp only [szs] at hz2); try (first | obtain ⟨hy1, hy2, hy3, hy4⟩ := lts4 hz2 | obtain ⟨hy1, hy2, hy3⟩ := lts3 hz2 | obtain ⟨hy1, hy2⟩ := lts2 hz2 | have hy1 := lts1 hz2); have hb9 := hb1)
       go_roundw
       case rel => exact ⟨x + 1, by go_num, by omega, by rw [HS.out]; exact Kd.R_below HF hb1, bw_then HI hb1⟩
       case measure => simp [intOf]; omega
      ·have HS := Lib.hid (freeTo_yes (us := us) HUX.out (HIN.out.trans hq))
       go_wp2_with (first | (go_at_call 94; refine (spec_l17Request n _ a x p _ (R.out.below bel) ⟨OK.out, ND.out, by omega, by omega⟩ (by omega) p0).mono ?_; rintro e w1 ⟨rfl, hb1⟩; obtain ⟨hc1, hf1, hz1⟩ := bcell hb1; (try simp only [szs] at hz1); have hb2 := far2; obtain ⟨hc2, hf2, hz2⟩ := bcell hb2; (try simp only [szs] at hz2); try (first | obtain ⟨hy1, hy2, hy3, hy4⟩ := lts4 hz2 | obtain ⟨hy1, hy2, hy3⟩ := lts3 hz2 | obtain ⟨hy1, hy2⟩ := lts2 hz2 | have hy1 := lts1 hz2); have hb9 := hb1) | (at_builtin; refine app_int (W0 := wo) rfl (.tmp 35) (.tmp 37) 26 3 rfl Try.underlying26 info_int _ (freeTo n a p us x) _ rfl (by first | rfl | exact congrArg (fun z => Value.slice (some ⟨z, 0, none⟩) 1 1) (World.size_alloc _ _).symm) (Kd.R_below HF hb1) (bw_then HI hb1) (by omega) ?_; intro v1 w1 HO1 HB1))
       go_roundw
       case rel => exact ⟨x + 1, by go_num, by omega, by rw [HS.out]; exact HO1, HB1⟩
       case measure => simp [intOf]; omega
     ·rw [hux] at cx
      have HS := Lib.hid (freeTo_no1 (n := n) (a := a) (p := (p : Int)) hux)
      clear hux
      go_wp2
      go_roundw
      case rel => exact ⟨x + 1, by go_num, by omega, by rw [HS.out]; exact HF, HI⟩
      case measure => simp [intOf]; omega
    ·have i0 : ¬ (x : Int) < 10 := by omega
     obtain rfl : x = 10 := by omega
     have HC2 := Lib.hid (Kd.R_row HF).2.2
     have HO2 := Lib.hid (Kd.R_below HOH.out HI)
     have HSM : Hid (smallL (freeTo n a p us 10)) := Lib.hid (smallL_mem (left_small n a p us))
     clear HF
     go_wp2_with fail
     refine (spec_FirstFrom (freeTo n a p us 10) (ri n.turns (5 * a + (p : Int))) Af cf _ HC2.out (by omega) HSM.out t2 t3).mono ?_
     rintro e w' ⟨he, rfl⟩
     rw [show firstFrom (freeTo n a p us 10) (ri n.turns (5 * a + (p : Int))) = k from HK.out] at he
     subst he
     by_cases hk0 : 0 ≤ k
     ·have HS := Lib.hid (gst_yes HE.out hk0)
      have j0 : 0 ≤ k / 2 := by omega
      have j1 : k / 2 < 5 := by omega
      have c9 := HUH.out.cell hk0 k1
      have f9 := HUH.out.2.frozen (k / 2).toNat
      have HRS := Lib.hid (Kd.R_set HO2.out HUI.out.2 (by decide) (k / 2).toNat (.bool true))
      have HUS : Hid (UB 4 (wr.setCell ⟨w.heap.size + 1 + 1, (k / 2).toNat, none⟩ (.bool true)) (w.heap.size + 1 + 1) (us.set (k / 2).toNat true)) := Lib.hid ⟨by rw [List.length_set]; exact HUSL.out, by have h := HUI.out.2.set (k / 2).toNat (.bool true); rwa [uCells_set] at h⟩
      have HBS : Below (w.alloc (.cells #[.int .i64 n.mesh.g.w, .int .i64 n.mesh.g.h, .slice a1 n.mesh.br.length c1, .slice a2 n.pa.length c2, .slice a3 n.pb.length c3, .slice a4 n.bufs.length c4, .slice a5 n.owners.length c5, .slice (some ⟨b6, o6, none⟩) n.turns.length c6, .slice a7 n.srcs.length c7, .slice a8 n.arrs.length c8, .int .i64 n.time] 35)).heap.size (w.alloc (.cells #[.int .i64 n.mesh.g.w, .int .i64 n.mesh.g.h, .slice a1 n.mesh.br.length c1, .slice a2 n.pa.length c2, .slice a3 n.pb.length c3, .slice a4 n.bufs.length c4, .slice a5 n.owners.length c5, .slice (some ⟨b6, o6, none⟩) n.turns.length c6, .slice a7 n.srcs.length c7, .slice a8 n.arrs.length c8, .int .i64 n.time] 35)) (wr.setCell ⟨w.heap.size + 1 + 1, (k / 2).toNat, none⟩ (.bool true)) := bw_set _ hwi (by simp only [szs]; omega)
      go_wp2_with (at_builtin; refine app_G (W0 := w.alloc (.cells #[.int .i64 n.mesh.g.w, .int .i64 n.mesh.g.h, .slice a1 n.mesh.br.length c1, .slice a2 n.pa.length c2, .slice a3 n.pb.length c3, .slice a4 n.bufs.length c4, .slice a5 n.owners.length c5, .slice (some ⟨b6, o6, none⟩) n.turns.length c6, .slice a7 n.srcs.length c7, .slice a8 n.arrs.length c8, .int .i64 n.time] 35)) rfl (.tmp 55) (.tmp 60) rfl _ (gst n a p).2 ⟨a, p, k⟩ rfl (by first | rfl | exact congrArg (fun z => Value.slice (some ⟨z, 0, none⟩) 1 1) (by simp only [szs])) HRS.out HBS (by omega) ?_; intro v3 w3 HO3 HB3 hg3)
      go_roundw
      case rel => exact ⟨p + 1, by go_num, by omega, by rw [HS.out]; exact HO3, by rw [HS.out, EUS.out]; exact HUS.out.grown hg3 (Kd.R_ne HRS.out HUS.out.2 (by decide)), HB3⟩
      case measure => simp [intOf]; omega
     ·have HS := Lib.hid (gst_no HE.out (by omega))
      go_wp2
      go_roundw
      case rel => exact ⟨p + 1, by go_num, by omega, by rw [HS.out]; exact HO2.out, by rw [HS.out, EUS.out]; exact HUI.out, hwi⟩
      case measure => simp [intOf]; omega
  ·have p0 : ¬ (p : Int) ≤ 4 := by omega
   obtain rfl : p = 5 := by omega
   go_wp2
   go_ret
   exact ⟨⟨_, rfl, Kd.R_lower HO (by simp only [szs]; omega)⟩, bel⟩
set_option maxHeartbeats 4000000 in
set_option maxRecDepth 100000 in
theorem spec_l18All (n : Net) (q : NA) (w : World) (hr : NetR 77 w n q) (ok : netOk n = true) :
    Calls Try.prog 71 #[.agg (netCells n q)] w fun e w' => GotG w w' (allGrants n) e ∧ Below w.heap.size w w' := by
  have R := Lib.hid hr
  have OK := Lib.hid ok
  obtain ⟨n0, n1⟩ := count_le n.mesh.g
  obtain ⟨N, hN⟩ : ∃ N : Nat, nodeCount n.mesh.g = (N : Int) := ⟨(nodeCount n.mesh.g).toNat, by omega⟩
  have N16 : N ≤ 16 := by omega
  have HN : Hid (allGrants n = allTo n N) := Lib.hid (by rw [allGrants, hN]; rfl)
  have HC := Lib.hid hN
  have HND : Hid (∀ k : Nat, k < N → isNode n.mesh.g k = true) := Lib.hid (fun k hk => isNode_iff.2 ⟨by omega, by rw [HC.out]; omega⟩)
  clear ok hN n0 n1
  obtain ⟨a1, a2, a3, a4, a5, a6, a7, a8, c1, c2, c3, c4, c5, c6, c7, c8⟩ := q
  clear hr
  dsimp only [netCells]
  go_enter Try.func71, Try.ntmps71
  go_wp2
  go_loopw [3, 4] (fun v i wr => ∃ k : Nat, i = .int .i64 k ∧ k ≤ N ∧ kG.R 41 wr (w.alloc (.cells #[.int .i64 n.mesh.g.w, .int .i64 n.mesh.g.h, .slice a1 n.mesh.br.length c1, .slice a2 n.pa.length c2, .slice a3 n.pb.length c3, .slice a4 n.bufs.length c4, .slice a5 n.owners.length c5, .slice a6 n.turns.length c6, .slice a7 n.srcs.length c7, .slice a8 n.arrs.length c8, .int .i64 n.time] 35)).heap.size (fun _ => True) v (allTo n k) ∧ Below (w.alloc (.cells #[.int .i64 n.mesh.g.w, .int .i64 n.mesh.g.h, .slice a1 n.mesh.br.length c1, .slice a2 n.pa.length c2, .slice a3 n.pb.length c3, .slice a4 n.bufs.length c4, .slice a5 n.owners.length c5, .slice a6 n.turns.length c6, .slice a7 n.srcs.length c7, .slice a8 n.arrs.length c8, .int .i64 n.time] 35)).heap.size (w.alloc (.cells #[.int .i64 n.mesh.g.w, .int .i64 n.mesh.g.h, .slice a1 n.mesh.br.length c1, .slice a2 n.pa.length c2, .slice a3 n.pb.length c3, .slice a4 n.bufs.length c4, .slice a5 n.owners.length c5, .slice a6 n.turns.length c6, .slice a7 n.srcs.length c7, .slice a8 n.arrs.length c8, .int .i64 n.time] 35)) wr) (fun _ i _ => N - (intOf i).toNat)
  case atStart => exact ⟨0, rfl, Nat.zero_le _, R_empty' kG 41 (W0 := w.alloc (.cells #[.int .i64 n.mesh.g.w, .int .i64 n.mesh.g.h, .slice a1 n.mesh.br.length c1, .slice a2 n.pa.length c2, .slice a3 n.pb.length c3, .slice a4 n.bufs.length c4, .slice a5 n.owners.length c5, .slice a6 n.turns.length c6, .slice a7 n.srcs.length c7, .slice a8 n.arrs.length c8, .int .i64 n.time] 35)) (W := w.alloc (.cells #[.int .i64 n.mesh.g.w, .int .i64 n.mesh.g.h, .slice a1 n.mesh.br.length c1, .slice a2 n.pa.length c2, .slice a3 n.pb.length c3, .slice a4 n.bufs.length c4, .slice a5 n.owners.length c5, .slice a6 n.turns.length c6, .slice a7 n.srcs.length c7, .slice a8 n.arrs.length c8, .int .i64 n.time] 35)) (Nat.le_refl _) (w.heap.size + 1) (by simp only [szs]), bel⟩
  case round =>
    obtain ⟨k, rfl, hk, HO, HB⟩ := hrel
    obtain ⟨Ao, co, rfl⟩ := Kd.R_slice HO
    have hlen := allTo_len n k
    obtain ⟨hcr, hfr, hzr⟩ := bcell HB
    simp only [szs] at hzr
    have yy1 := lts1 hzr
    by_cases hlt : k < N
    · have i0 : (k : Int) < (N : Int) := by omega
      have HS := Lib.hid (allTo_succ n k)
      have gl := gst_len n k 5
      go_wp2_with (first | (go_at_call 40; refine (spec_NodeCount n.mesh.g _).mono ?_; rintro e w1 ⟨he, hb1⟩; rw [HC.out] at he; subst he; obtain ⟨hc1, hf1, hz1⟩ := bcell hb1; (try simp only [szs] at hz1); have hb2 := far2; obtain ⟨hc2, hf2, hz2⟩ := bcell hb2; (try simp only [szs] at hz2); try (first | obtain ⟨hy1, hy2, hy3, hy4⟩ := lts4 hz2 | obtain ⟨hy1, hy2, hy3⟩ := lts3 hz2 | obtain ⟨hy1, hy2⟩ := lts2 hz2 | have hy1 := lts1 hz2); have hb9 := hb1) | (go_at_call 86; refine (spec_l18Grants n _ k _ (R.out.below bel) OK.out (HND.out k hlt)).mono ?_; rintro e w1 ⟨hg1, hb1⟩; obtain ⟨A1, d1, rfl, hk1, hC1⟩ := hg1.read; obtain ⟨hc1, hf1, hz1⟩ := bcell hb1; (try simp only [szs] at hz1); have hb2 := far2; obtain ⟨hc2, hf2, hz2⟩ := bcell hb2; (try simp only [szs] at hz2); try (first | obtain ⟨hy1, hy2, hy3, hy4⟩ := lts4 hz2 | obtain ⟨hy1, hy2, hy3⟩ := lts3 hz2 | obtain ⟨hy1, hy2⟩ := lts2 hz2 | have hy1 := lts1 hz2); have hb9 := hb1) | (at_builtin; refine apps_G (W0 := w.alloc (.cells #[.int .i64 n.mesh.g.w, .int .i64 n.mesh.g.h, .slice a1 n.mesh.br.length c1, .slice a2 n.pa.length c2, .slice a3 n.pb.length c3, .slice a4 n.bufs.length c4, .slice a5 n.owners.length c5, .slice a6 n.turns.length c6, .slice a7 n.srcs.length c7, .slice a8 n.arrs.length c8, .int .i64 n.time] 35)) rfl (.tmp 14) (.tmp 17) rfl _ (allTo n k) (grantsN n k) A1 d1 rfl rfl (by exact Kd.R_below HO bel) hC1 bel (by unfold grantsN; omega) ?_; intro v2 w2 HO2 HB2))
      go_roundw
      case rel => exact ⟨k + 1, by go_num, by omega, by rw [HS.out]; exact HO2, HB2⟩
      case measure => simp [intOf]; omega
    · have i0 : ¬ (k : Int) < (N : Int) := by omega
      obtain rfl : k = N := by omega
      go_wp2_with (go_at_call 40; refine (spec_NodeCount n.mesh.g _).mono ?_; rintro e w1 ⟨he, hb1⟩; rw [HC.out] at he; subst he; obtain ⟨hc1, hf1, hz1⟩ := bcell hb1; (try simp only [szs] at hz1); have hb2 := far2; obtain ⟨hc2, hf2, hz2⟩ := bcell hb2; (try simp only [szs] at hz2); try (first | obtain ⟨hy1, hy2, hy3, hy4⟩ := lts4 hz2 | obtain ⟨hy1, hy2, hy3⟩ := lts3 hz2 | obtain ⟨hy1, hy2⟩ := lts2 hz2 | have hy1 := lts1 hz2); have hb9 := hb1)
      go_ret
      exact ⟨by rw [HN.out]; exact ⟨_, rfl, Kd.R_lower (by exact Kd.R_below HO bel) (by simp only [szs]; omega)⟩, bel⟩
theorem enters_0 {n : Net} {a : Nat} (h : ¬ 0 < (rl n.srcs a).length) : enters n a = false := by simp only [enters, decide_eq_false h, Bool.false_and]
theorem enters_1 {n : Net} {a : Nat} {t : Int} (h : 0 < (rl n.srcs a).length) (ht : 10 * (a : Int) + 8 + (rf (rl n.srcs a) 0).cls = t) : enters n a = decide ((rl n.bufs t).length < 3) := by simp only [enters, decide_eq_true h, Bool.true_and, ht]
set_option maxHeartbeats 8000000 in
set_option maxRecDepth 100000 in
theorem spec_l19Entering (n : Net) (q : NA) (w : World) (hr : NetR 77 w n q) (ok : netOk n = true) :
  Calls Try.prog 74 #[.agg (netCells n q)] w fun e w' => GotI w w' (enteringN n) e ∧ Below w.heap.size w w' := by
 have OK := Lib.hid ok
 have s16 := (srcs_len ok).1
 clear ok
 obtain ⟨a1, a2, a3, a4, a5, a6, a7, a8, c1, c2, c3, c4, c5, c6, c7, c8⟩ := q; obtain ⟨Rbr, Rpa, Rpb, Rbu, Row, Rtu, Rso, Rar, L1, L2, L3, L4, L5, L6, L7, L8, L9, L10, L11⟩ := hr; have M9 := Lib.hid L9; have M10 := Lib.hid L10; have M11 := Lib.hid L11; clear L9 L10 L11; dsimp only [netCells] at *
 go_enter Try.func74, Try.ntmps74
 go_wp2
 go_loopw [3, 4] (fun v i wr => ∃ k : Nat, i = .int .i64 k ∧ k ≤ n.srcs.length ∧ Kd.R (Kd.int .i64) 3 wr (w.alloc (.cells #[.int .i64 n.mesh.g.w, .int .i64 n.mesh.g.h, .slice a1 n.mesh.br.length c1, .slice a2 n.pa.length c2, .slice a3 n.pb.length c3, .slice a4 n.bufs.length c4, .slice a5 n.owners.length c5, .slice a6 n.turns.length c6, .slice a7 n.srcs.length c7, .slice a8 n.arrs.length c8, .int .i64 n.time] 35)).heap.size (fun _ => True) v (enterTo n k) ∧ Below (w.alloc (.cells #[.int .i64 n.mesh.g.w, .int .i64 n.mesh.g.h, .slice a1 n.mesh.br.length c1, .slice a2 n.pa.length c2, .slice a3 n.pb.length c3, .slice a4 n.bufs.length c4, .slice a5 n.owners.length c5, .slice a6 n.turns.length c6, .slice a7 n.srcs.length c7, .slice a8 n.arrs.length c8, .int .i64 n.time] 35)).heap.size (w.alloc (.cells #[.int .i64 n.mesh.g.w, .int .i64 n.mesh.g.h, .slice a1 n.mesh.br.length c1, .slice a2 n.pa.length c2, .slice a3 n.pb.length c3, .slice a4 n.bufs.length c4, .slice a5 n.owners.length c5, .slice a6 n.turns.length c6, .slice a7 n.srcs.length c7, .slice a8 n.arrs.length c8, .int .i64 n.time] 35)) wr) (fun _ i _ => n.srcs.length - (intOf i).toNat)
 case atStart => exact ⟨0, rfl, Nat.zero_le _, R_empty' (Kd.int .i64) 3 (W0 := w.alloc (.cells #[.int .i64 n.mesh.g.w, .int .i64 n.mesh.g.h, .slice a1 n.mesh.br.length c1, .slice a2 n.pa.length c2, .slice a3 n.pb.length c3, .slice a4 n.bufs.length c4, .slice a5 n.owners.length c5, .slice a6 n.turns.length c6, .slice a7 n.srcs.length c7, .slice a8 n.arrs.length c8, .int .i64 n.time] 35)) (W := w.alloc (.cells #[.int .i64 n.mesh.g.w, .int .i64 n.mesh.g.h, .slice a1 n.mesh.br.length c1, .slice a2 n.pa.length c2, .slice a3 n.pb.length c3, .slice a4 n.bufs.length c4, .slice a5 n.owners.length c5, .slice a6 n.turns.length c6, .slice a7 n.srcs.length c7, .slice a8 n.arrs.length c8, .int .i64 n.time] 35)) (Nat.le_refl _) (w.heap.size + 1) (by simp only [szs]), bel⟩
 case round =>
  obtain ⟨k, rfl, hk, HO, HB⟩ := hrel
  obtain ⟨Ao, co, rfl⟩ := Kd.R_slice HO
  have hlen := enterTo_len n k
  obtain ⟨hcr, hfr, hzr⟩ := bcell HB
  simp only [szs] at hzr
  have yy1 := lts1 hzr
  by_cases hlt : k < n.srcs.length
  ·have i0 : (k : Int) < (n.srcs.length : Int) := by omega
   have k0 : (0 : Int) ≤ (k : Int) := by omega
   obtain ⟨b7, o7, rfl, hb7, Ai, ci, p0, hle, hCi⟩ := rdB_at Rso k hlt
   obtain ⟨hnd, h15, h60, hcl⟩ := src_buf OK.out k hlt
   clear hnd
   have y7 : b7 < wr.heap.size := by omega
   have z7 : b7 < w.heap.size + 1 := by omega
   by_cases hl0 : 0 < (rl n.srcs k).length
   ·obtain ⟨d0, d1, d2⟩ := hcl hl0
    obtain ⟨b1, o1, rfl, hb1, q0, q1, q2, q3, q4⟩ := rdFl_0 hCi hl0
    have hl1 : (0 : Int) < ((rl n.srcs k).length : Int) := by omega
    have HE := Lib.hid (fun t => enters_1 (n := n) (a := k) (t := t) hl0)
    obtain ⟨d, hd⟩ : ∃ d, (rf (rl n.srcs k) 0).cls = d := ⟨_, rfl⟩
    rw [hd] at HE d0 d1 d2 q2
    have HV := Lib.hid (HE.out _ rfl)
    have t0 : 0 ≤ 10 * (k : Int) + 8 + d := by omega
    obtain ⟨b4, o4, rfl, hb4, Bi, di, r0, hlf, hDi⟩ := rdB_int Rbu (10 * (k : Int) + 8 + d) t0 d2
    have y1 : b1 < wr.heap.size := by omega
    have y4 : b4 < wr.heap.size := by omega
    have z1 : b1 < w.heap.size + 1 := by omega
    have z4 : b4 < w.heap.size + 1 := by omega
    have x5 : wr.cell? ⟨w.heap.size, 5, none⟩ = some (.slice (some ⟨b4, o4, none⟩) n.bufs.length c4) := (hcr _ 5 (by simp only [szs]; omega)).trans ((Box.new w _ #[.int .i64 n.mesh.g.w, .int .i64 n.mesh.g.h, .slice a1 n.mesh.br.length c1, .slice a2 n.pa.length c2, .slice a3 n.pb.length c3, .slice (some ⟨b4, o4, none⟩) n.bufs.length c4, .slice a5 n.owners.length c5, .slice a6 n.turns.length c6, .slice (some ⟨b7, o7, none⟩) n.srcs.length c7, .slice a8 n.arrs.length c8, .int .i64 n.time] 35 rfl).get 5)
    have x8 : wr.cell? ⟨w.heap.size, 8, none⟩ = some (.slice (some ⟨b7, o7, none⟩) n.srcs.length c7) := (hcr _ 8 (by simp only [szs]; omega)).trans ((Box.new w _ #[.int .i64 n.mesh.g.w, .int .i64 n.mesh.g.h, .slice a1 n.mesh.br.length c1, .slice a2 n.pa.length c2, .slice a3 n.pb.length c3, .slice (some ⟨b4, o4, none⟩) n.bufs.length c4, .slice a5 n.owners.length c5, .slice a6 n.turns.length c6, .slice (some ⟨b7, o7, none⟩) n.srcs.length c7, .slice a8 n.arrs.length c8, .int .i64 n.time] 35 rfl).get 8)
    clear hd hcl HE
    by_cases h3 : (rl n.bufs (10 * (k : Int) + 8 + d)).length < 3
    ·have f3 : ((rl n.bufs (10 * (k : Int) + 8 + d)).length : Int) < 3 := by omega
     have HS := Lib.hid (enterTo_yes (n := n) (k := k) (by rw [HV.out]; exact decide_eq_true h3))
     go_wp2_with fail
     refine wp_region_far (wr) (by kernel_rfl) (by kernel_rfl) bel ?_
     have hqc := far_cell (wr)
     have hqf := far_frozen (wr)
     repeat (first | go_big_quiet_step (fail) | quiet_step (fail))
     refine wpQuiet_nil ?_
     intro wq hbq
     clear hqc hqf
     obtain ⟨hcq, hfq, hzq⟩ := bcell hbq
     try simp only [szs] at hzq
     go_wp2_with (at_builtin; refine app_int (W0 := w.alloc (.cells #[.int .i64 n.mesh.g.w, .int .i64 n.mesh.g.h, .slice a1 n.mesh.br.length c1, .slice a2 n.pa.length c2, .slice a3 n.pb.length c3, .slice (some ⟨b4, o4, none⟩) n.bufs.length c4, .slice a5 n.owners.length c5, .slice a6 n.turns.length c6, .slice (some ⟨b7, o7, none⟩) n.srcs.length c7, .slice a8 n.arrs.length c8, .int .i64 n.time] 35)) rfl (.tmp 40) (.tmp 42) 26 3 rfl Try.underlying26 info_int _ (enterTo n k) _ rfl (by first | rfl | exact congrArg (fun z => Value.slice (some ⟨z, 0, none⟩) 1 1) (World.size_alloc _ _).symm) (by exact Kd.R_below HO bel) bel (by omega) ?_; intro v1 w1 HO1 HB1; obtain ⟨hc1, hf1, hz1⟩ := bcell HB1; (try simp only [szs] at hz1); have hb2 := HB1; have hb9 := HB1)
     go_roundw
     case rel => exact ⟨k + 1, by go_num, by omega, by rw [HS.out]; exact (by exact Kd.R_below HO1 bel), bel⟩
     case measure => simp [intOf]; omega
    ·have f3 : ¬ ((rl n.bufs (10 * (k : Int) + 8 + d)).length : Int) < 3 := by omega
     have HS := Lib.hid (enterTo_no (n := n) (k := k) (by rw [HV.out]; exact decide_eq_false h3))
     go_wp2_with fail
     refine wp_region_far (wr) (by kernel_rfl) (by kernel_rfl) bel ?_
     have hqc := far_cell (wr)
     have hqf := far_frozen (wr)
     repeat (first | go_big_quiet_step (fail) | quiet_step (fail))
     refine wpQuiet_nil ?_
     intro wq hbq
     clear hqc hqf
     obtain ⟨hcq, hfq, hzq⟩ := bcell hbq
     try simp only [szs] at hzq
     go_wp2
     go_roundw
     case rel => exact ⟨k + 1, by go_num, by omega, by rw [HS.out]; exact (by exact Kd.R_below HO bel), bel⟩
     case measure => simp [intOf]; omega
   ·have hl1 : ¬ (0 : Int) < ((rl n.srcs k).length : Int) := by omega
    have x8 : wr.cell? ⟨w.heap.size, 8, none⟩ = some (.slice (some ⟨b7, o7, none⟩) n.srcs.length c7) := (hcr _ 8 (by simp only [szs]; omega)).trans ((Box.new w _ #[.int .i64 n.mesh.g.w, .int .i64 n.mesh.g.h, .slice a1 n.mesh.br.length c1, .slice a2 n.pa.length c2, .slice a3 n.pb.length c3, .slice a4 n.bufs.length c4, .slice a5 n.owners.length c5, .slice a6 n.turns.length c6, .slice (some ⟨b7, o7, none⟩) n.srcs.length c7, .slice a8 n.arrs.length c8, .int .i64 n.time] 35 rfl).get 8)
    have HS := Lib.hid (enterTo_no (enters_0 hl0))
    go_wp2_with fail
    refine wp_region_far (wr) (by kernel_rfl) (by kernel_rfl) bel ?_
    have hqc := far_cell (wr)
    have hqf := far_frozen (wr)
    repeat (first | go_big_quiet_step (fail) | quiet_step (fail))
    refine wpQuiet_nil ?_
    intro wq hbq
    clear hqc hqf
    obtain ⟨hcq, hfq, hzq⟩ := bcell hbq
    try simp only [szs] at hzq
    go_wp2
    go_roundw
    case rel => exact ⟨k + 1, by go_num, by omega, by rw [HS.out]; exact (by exact Kd.R_below HO bel), bel⟩
    case measure => simp [intOf]; omega
  ·have i0 : ¬ (k : Int) < (n.srcs.length : Int) := by omega
   obtain rfl : k = n.srcs.length := by omega
   go_wp2
   go_ret
   exact ⟨⟨_, rfl, Kd.R_lower (by exact Kd.R_below HO bel) (by simp only [szs]; omega)⟩, bel⟩
theorem allGrants_len (n : Net) : (allGrants n).length ≤ 80 := by
  have h1 := allTo_len n (nodeCount n.mesh.g).toNat
  have h2 := count_le n.mesh.g
  unfold allGrants
  omega
theorem cut_fromF (A : Option Addr) (n c : Nat) (h1 : 1 ≤ n) (W : World) : (Instr.slice 68 (.slice A n c) (some (.int .i64 1)) none none).run Try.prog W = .ok (.slice (if c = 1 then A else A.map (·.add 5)) (n - 1) (c - 1)) W := by
  obtain ⟨i, hi', hs⟩ := Option.map_eq_some_iff.1 info_F
  exact cut_from (P := Try.prog) 68 77 .i64 Try.underlying68 hi' 5 (congrArg (fun z => z.2.1) hs) A n c 1 (by omega) (by omega) W
section
variable {ops : Array Oper} {rest : List Oper} {o : Oper} {a : Act} {Q : Exit → Act → World → Prop}
theorem app_Fg {B : Nat} {W : World} (hgd : o.guard = none) (s x : Operand)
    (ho : o.op = .call { callee := .builtin .append, args := #[s, x], argTypes := #[68, 68] })
    (v : Value) (xs : List Flit) (q : Flit) (hs : a.eval s = v) (hx : a.eval x = .slice (some ⟨W.heap.size, 0, none⟩) 1 1)
    (HO : kF.R 77 W B (fun _ => True) v xs) (hB : B ≤ W.heap.size) (hl : xs.length ≤ 100000000)
    (h : ∀ v1 w1, kF.R 77 w1 B (fun _ => True) v1 (xs ++ [q]) → W.grownBy w1 v.ownBlock → Anew W v1 v → wpList Try.prog ops Q rest (a.put o.dst v1) w1) :
    wpList Try.prog ops Q (o :: rest) a (W.alloc (.cells #[.int .i64 q.pk, .int .i64 q.dst, .int .i64 q.cls, .bool q.head, .bool q.tail] 77)) :=
  Kd.R_append (P := Try.prog) kF (w0 := W) B hgd s x 68 77 (.agg #[.int .i64 0, .int .i64 0, .int .i64 0, .bool false, .bool false]) 32 ho Try.underlying68 info_F rfl (by decide) (by omega) v xs q (fCells q) (fun _ => True) (fun _ => False) hs hx rfl (fun _ h => h.elim) (fun _ _ => trivial) HO (Below.refl _ _) hB (by omega) (fun v1 w1 h1 _ h3 h4 => h v1 w1 h1 h3 (.inr h4))
end
theorem rg_mem {l : List Grant} {k : Nat} (h : k < l.length) : rg l k ∈ l := by
  have : rg l (k : Int) = l[k] := by simp [rg, List.getD_eq_getElem?_getD, h]
  rw [this]
  exact List.getElem_mem h
theorem rg_get {l : List Grant} {k : Nat} (h : k < l.length) : rg l (k : Int) = l[k] := by simp [rg, List.getD_eq_getElem?_getD, h]
theorem gs_take (n : Net) (k : Nat) (h : k < (allGrants n).length) : (allGrants n).take (k + 1) = (allGrants n).take k ++ [rg (allGrants n) k] := by
  rw [List.take_succ_eq_append_getElem h, rg_get h]
theorem nodup_take {n : Net} (ok : netOk n = true) {k : Nat} (h : k < (allGrants n).length) : ∀ g ∈ (allGrants n).take k, gIdx g ≠ gIdx (rg (allGrants n) k) := by
  intro g hg e
  have hn := (grants_GsOk ok).nodup
  obtain ⟨j, hj, rfl⟩ := List.getElem_of_mem hg
  rw [List.length_take] at hj
  rw [List.getElem_take, rg_get h] at e
  have := (List.pairwise_iff_getElem.1 hn) j k (by simp; omega) (by simp; omega) (by omega)
  simp only [List.getElem_map] at this
  exact this e
structure Lens (n x : Net) : Prop where
  b : x.bufs.length = n.bufs.length
  o : x.owners.length = n.owners.length
  t : x.turns.length = n.turns.length
  s : x.srcs.length = n.srcs.length
  a : x.arrs.length = n.arrs.length
theorem Lens.push {n x : Net} (h : Lens n x) (m : Net) (g : Grant) : Lens n (pushG m x g) := by
  unfold pushG
  split <;> exact ⟨by simp [h.b], by simp [h.o], by simp [h.t], by simp [h.s], by simp [h.a]⟩
theorem Lens.pushL {n m : Net} : ∀ (gs : List Grant) (x : Net), Lens n x → Lens n (pushL m x gs) := by
  intro gs
  induction gs with
  | nil => intro x h; exact h
  | cons g gs ih => intro x h; exact ih _ (h.push m g)
theorem Lens.pop (n : Net) : Lens n (afterPop n) := ⟨popL_len _ _, rfl, rfl, rfl, rfl⟩
def GB (w : World) (b : Nat) (g : Grant) : Prop := w.heap[b]? = some (.cells #[.int .i64 g.node, .int .i64 g.port, .int .i64 g.input] 41 (0, 0))
theorem GB.below {w w1 : World} {b : Nat} {g : Grant} (h : GB w b g) (hb : Below w.heap.size w w1) : GB w1 b g := blk_below h hb
theorem GB.far {w : World} {b c t : Nat} {g : Grant} (h : GB w b g) (hb : BlkT w c t) (ht : 41 ≠ t) (j : Nat) (u : Value) : GB (w.setCell ⟨c, j, none⟩ u) b g := by
  obtain ⟨cs, hc⟩ := hb
  exact blk_far (p := ⟨c, j, none⟩) h (blk_ne h hc ht) u
theorem GB.grown {w w1 : World} {b lo : Nat} {g : Grant} {v : Value} {y : List Flit} (h : GB w b g) (hg : w.grownBy w1 v.ownBlock) (hr : kF.R 77 w lo (fun _ => True) v y) : GB w1 b g := by
  obtain ⟨inner, hin⟩ := Kd.R_own hr
  exact blk_grown h hg (own_ne hin h (by decide))
theorem GB.cells {w : World} {b : Nat} {g : Grant} (h : GB w b g) : w.cell? ⟨b, 0, none⟩ = some (.int .i64 g.node) ∧ w.cell? ⟨b, 1, none⟩ = some (.int .i64 g.port) ∧ w.cell? ⟨b, 2, none⟩ = some (.int .i64 g.input) ∧ b < w.heap.size := ⟨blk_cell h 0, blk_cell h 1, blk_cell h 2, blk_lt h⟩
theorem BlkT.grown {w w1 : World} {g lo : Nat} {v : Value} {y : List Flit} (h : BlkT w g 68) (hg : w.grownBy w1 v.ownBlock) (hr : kF.R 77 w lo (fun _ => True) v y) : BlkT w1 g 68 := by
  obtain ⟨cs, hc⟩ := h
  obtain ⟨inner, hin⟩ := Kd.R_own hr
  exact ⟨cs, blk_grown hc hg (own_ne hin hc (by decide))⟩
section
variable {ops : Array Oper} {o : Oper} {a : Act} {Kc : Act → World → Prop} {Q' : Exit → Act → World → Prop}
theorem app_FgS {B : Nat} {W : World} (hw : Region.wanted o (yielded ops a.tmps) = true) (s x : Operand)
    (ho : o.op = .call { callee := .builtin .append, args := #[s, x], argTypes := #[68, 68] })
    (v : Value) (xs : List Flit) (q : Flit) (hs : a.eval s = v) (hx : a.eval x = .slice (some ⟨W.heap.size, 0, none⟩) 1 1)
    (HO : kF.R 77 W B (fun _ => True) v xs) (hB : B ≤ W.heap.size) (hl : xs.length ≤ 100000000)
    (h : ∀ v1 w1, kF.R 77 w1 B (fun _ => True) v1 (xs ++ [q]) → W.grownBy w1 v.ownBlock → Anew W v1 v → Kc (a.put o.dst v1) w1) :
    if Region.wanted o (yielded ops a.tmps) = true then Oper.wp Try.prog o a (W.alloc (.cells #[.int .i64 q.pk, .int .i64 q.dst, .int .i64 q.cls, .bool q.head, .bool q.tail] 77)) Kc Q' else Kc (a.put o.dst undef) (W.alloc (.cells #[.int .i64 q.pk, .int .i64 q.dst, .int .i64 q.cls, .bool q.head, .bool q.tail] 77)) :=
  Kd.R_append_step (P := Try.prog) kF (w0 := W) B hw s x 68 77 (.agg #[.int .i64 0, .int .i64 0, .int .i64 0, .bool false, .bool false]) 32 ho Try.underlying68 info_F rfl (by decide) (by omega) v xs q (fCells q) (fun _ => True) (fun _ => False) hs hx rfl (fun _ h => h.elim) (fun _ _ => trivial) HO (Below.refl _ _) hB (by omega) (fun v1 w1 h1 _ h3 h4 => h v1 w1 h1 h3 (.inr h4))
end
theorem rl_bound {l : List (List Flit)} (h : ∀ x ∈ l, x.length ≤ 2097152) (t : Nat) : (rl l (t : Int)).length ≤ 2097152 := by
  by_cases e : t < l.length
  · exact h _ (rl_mem e)
  · have : rl l (t : Int) = [] := by simp [rl, List.getD_eq_getElem?_getD, e]
    rw [this]
    simp
theorem ownI5 {w : World} {lo g k : Nat} {x : Net} {q : NA} {v4 v7 v8 : List Value} (h : NX w lo x q v4 v7 v8) (ea : q.a5 = some ⟨g, 0, none⟩) (hk : k < x.owners.length) : w.cell? ⟨g, k, none⟩ = some (.int .i64 (ri x.owners k)) ∧ w.frozen? ⟨g, k, none⟩ = false := by
  have h4 := h.owners
  rw [ea] at h4
  exact rowI_cell h4 k hk
theorem ownI6 {w : World} {lo g k : Nat} {x : Net} {q : NA} {v4 v7 v8 : List Value} (h : NX w lo x q v4 v7 v8) (ea : q.a6 = some ⟨g, 0, none⟩) (hk : k < x.turns.length) : w.cell? ⟨g, k, none⟩ = some (.int .i64 (ri x.turns k)) ∧ w.frozen? ⟨g, k, none⟩ = false := by
  have h4 := h.turns
  rw [ea] at h4
  exact rowI_cell h4 k hk
theorem blkI5 {w : World} {lo g : Nat} {x : Net} {q : NA} {v4 v7 v8 : List Value} (h : NX w lo x q v4 v7 v8) (ea : q.a5 = some ⟨g, 0, none⟩) (hp : 0 < x.owners.length) : BlkT w g 3 := by
  obtain ⟨i, hin⟩ := Kd.R_own h.owners
  exact own_typed hin g (by rw [ea]; rfl)
theorem own_t {n : Net} {g : Grant} {F0 : Flit} (hF : mvF n g = F0) (h : F0.tail = true) : gOwn n g = -1 := by rw [gOwn, hF, if_pos h]
theorem own_f {n : Net} {g : Grant} {F0 : Flit} (hF : mvF n g = F0) (h : F0.tail = false) : gOwn n g = g.input / 2 := by rw [gOwn, hF, if_neg (by simp [h])]
theorem push_eq4 {n x : Net} {g : Grant} {t at_ tn : Nat} {F0 : Flit} {R : List Flit} {v : Int} (h4 : g.port = 4) (ht : (t : Int) = g.node) (ha : 10 * g.node + 2 * g.port + g.input % 2 = (at_ : Int)) (hn : (tn : Int) = 5 * g.node + g.port) (hF : mvF n g = F0) (hR : rl x.arrs (t : Int) = R) (hv : gOwn n g = v) :
    pushG n x g = { x with arrs := x.arrs.set t (R ++ [F0]), owners := x.owners.set at_ v, turns := x.turns.set tn ((g.input + 1) % 10) } := by
  unfold pushG
  rw [if_pos h4, hv, hF, show (gAt g).toNat = at_ by unfold gAt; omega, show (gTurn g).toNat = tn by unfold gTurn; omega, show g.node.toNat = t by omega, ← ht, hR]
theorem push_eq {n x : Net} {g : Grant} {t at_ tn : Nat} {F0 : Flit} {R : List Flit} {v : Int} (h4 : ¬ g.port = 4) (ht : (t : Int) = gTo n g) (ha : 10 * g.node + 2 * g.port + g.input % 2 = (at_ : Int)) (hn : (tn : Int) = 5 * g.node + g.port) (hF : mvF n g = F0) (hR : rl x.bufs (t : Int) = R) (hv : gOwn n g = v) :
    pushG n x g = { x with bufs := x.bufs.set t (R ++ [F0]), owners := x.owners.set at_ v, turns := x.turns.set tn ((g.input + 1) % 10) } := by
  unfold pushG
  rw [if_neg h4, hv, hF, show (gAt g).toNat = at_ by unfold gAt; omega, show (gTurn g).toNat = tn by unfold gTurn; omega, show (gTo n g).toNat = t by omega, ← ht, hR]
theorem Lens.enter {n m : Net} : ∀ (ks : List Int) (x : Net), Lens n x → Lens n (enterL m x ks) := by
  intro ks
  induction ks with
  | nil => intro x h; exact h
  | cons a ks ih => intro x h; exact ih _ ⟨by simp [enterB, h.b], h.o, h.t, by simp [enterB, h.s], h.a⟩
theorem own_facts7 {w : World} {lo g j c len : Nat} {x : Net} {q : NA} {v4 u7 v8 : List Value} {A : Option Addr} (h : NX w lo x q v4 u7 v8) (ea : q.a7 = some ⟨g, 0, none⟩) (hj : j < x.srcs.length) (hv : vr u7 j = .slice A len c) : w.cell? ⟨g, j, none⟩ = some (.slice A len c) ∧ w.frozen? ⟨g, j, none⟩ = false := by
  have h4 := h.srcs
  rw [ea] at h4
  have := own_cell h4 hj
  rw [hv] at this
  exact this
theorem row_read7 {w : World} {lo j c : Nat} {x : Net} {q : NA} {v4 u7 v8 : List Value} {A : Option Addr} {xs : List Flit} (h : NX w lo x q v4 u7 v8) (hj : j < x.srcs.length) (hv : vr u7 j = .slice A xs.length c) (he : rl x.srcs j = xs) : kF.C w A xs.length xs := by
  have := h.row7 j hj
  rw [hv, he] at this
  exact (Kd.R_rowX this).2.2
theorem anew_ge {w : World} {u v : Value} {g lo hi : Nat} (h1 : w.heap.size ≤ g) (h2 : w.heap.size ≤ lo) (h : At2 g lo hi u) : Anew w u v := by
  cases e : u.ownBlock with
  | none => exact .inl e
  | some b =>
    refine .inr (.inr ⟨b, e, ?_⟩)
    have := h b e
    omega
theorem time_ok {n : Net} (ok : netOk n = true) : 0 ≤ n.time ∧ n.time ≤ 1000000 := by
  obtain ⟨_, _, _, _, _, _, _, _, _, _, h⟩ := netOk_parts ok
  exact inside_iff.1 h
theorem step_same (n : Net) : (stepN n).mesh = n.mesh ∧ (stepN n).pa = n.pa ∧ (stepN n).pb = n.pb := by
  have h1 := enterL_time n (enteringN n) (afterPush n)
  have h2 := pushL_same n (allGrants n) (afterPop n)
  exact ⟨h1.2.1.trans h2.2.1, h1.2.2.1.trans h2.2.2.1, h1.2.2.2.1.trans h2.2.2.2⟩
theorem step_lens (n : Net) : Lens n (stepN n) := by
  have := Lens.enter (enteringN n) _ ((Lens.pop n).pushL (allGrants n) (m := n)) (m := n)
  exact ⟨this.b, this.o, this.t, this.s, this.a⟩
theorem netCells_step (n : Net) (q : NA) : (netCells n q).setIfInBounds 10 (.int .i64 (n.time + 1)) = netCells (stepN n) q := by
  obtain ⟨h1, h2, h3⟩ := step_same n
  obtain ⟨l1, l2, l3, l4, l5⟩ := step_lens n
  unfold netCells
  rw [h1, h2, h3, l1, l2, l3, l4, l5]
  rfl
theorem own_facts8 {w : World} {lo g j c len : Nat} {x : Net} {q : NA} {v4 v7 u8 : List Value} {A : Option Addr} (h : NX w lo x q v4 v7 u8) (ea : q.a8 = some ⟨g, 0, none⟩) (hj : j < x.arrs.length) (hv : vr u8 j = .slice A len c) : w.cell? ⟨g, j, none⟩ = some (.slice A len c) ∧ w.frozen? ⟨g, j, none⟩ = false := by
  have h4 := h.arrs
  rw [ea] at h4
  have := own_cell h4 hj
  rw [hv] at this
  exact this
theorem own_facts {w : World} {lo g j c len : Nat} {x : Net} {q : NA} {u4 v7 v8 : List Value} {A : Option Addr} (h : NX w lo x q u4 v7 v8) (ea : q.a4 = some ⟨g, 0, none⟩) (hj : j < x.bufs.length) (hv : vr u4 j = .slice A len c) : w.cell? ⟨g, j, none⟩ = some (.slice A len c) ∧ w.frozen? ⟨g, j, none⟩ = false := by
  have h4 := h.bufs
  rw [ea] at h4
  have := own_cell h4 hj
  rw [hv] at this
  exact this
theorem row_read {w : World} {lo j c : Nat} {x : Net} {q : NA} {u4 v7 v8 : List Value} {A : Option Addr} {xs : List Flit} (h : NX w lo x q u4 v7 v8) (hj : j < x.bufs.length) (hv : vr u4 j = .slice A xs.length c) (he : rl x.bufs j = xs) : kF.C w A xs.length xs := by
  have := h.row4 j hj
  rw [hv, he] at this
  exact (Kd.R_rowX this).2.2
theorem lens_ok {n : Net} (ok : netOk n = true) : 0 < n.bufs.length ∧ 0 < n.owners.length ∧ 0 < n.turns.length ∧ 0 < n.srcs.length ∧ 0 < n.arrs.length := by
  obtain ⟨h0, h1, h2, h3, h4, h5, _⟩ := netOk_parts ok
  have := sized_count (classesOk_sized h0).1
  omega
end Go.Proofs.Ytaihmgbflhbebaa
namespace NoC
def BI (n x : Net) (T : List Int) : Prop := x.bufs.length = n.bufs.length ∧ ∀ i : Nat, i < n.bufs.length → (∀ f ∈ rl x.bufs i, f.cls = ((i % 2 : Nat) : Int) ∧ flitOk n.mesh.g f = true) ∧ (rl x.bufs i).length ≤ 3 ∧ ((i : Int) ∉ T → (rl x.bufs i).length ≤ (rl n.bufs i).length)
theorem bufOk_iff {g : Grid} {i : Nat} {l : List Flit} : bufOk g i l = true ↔ (∀ f ∈ l, f.cls = ((i % 2 : Nat) : Int) ∧ flitOk g f = true) ∧ l.length ≤ 3 := by
  simp only [bufOk, areFl, Bool.and_eq_true, decide_eq_true_eq, List.all_eq_true, beq_iff_eq]
  constructor
  · rintro ⟨⟨h1, h2⟩, h3⟩
    exact ⟨fun f hf => ⟨h2 f hf, h3 f hf⟩, h1⟩
  · rintro ⟨h1, h2⟩
    exact ⟨⟨h2, fun f hf => (h1 f hf).1⟩, fun f hf => (h1 f hf).2⟩
theorem pop_mem (t : Nat) : ∀ (gs : List Grant) (bs : List (List Flit)), ∀ f ∈ rl (popL bs gs) t, f ∈ rl bs t := by
  intro gs
  induction gs with
  | nil => intro bs f hf; exact hf
  | cons g gs ih =>
    intro bs f hf
    have h1 := ih (popB bs g) f hf
    unfold popB at h1
    by_cases e : (gIdx g).toNat = t
    · by_cases h : t < bs.length
      · have e2 : rl (bs.set (gIdx g).toNat ((rl bs (gIdx g)).drop 1)) t = (rl bs (gIdx g)).drop 1 := by simp [rl, List.getD_eq_getElem?_getD, e, h]
        have e3 : rl bs (gIdx g) = rl bs (t : Int) := by simp [rl, e]
        rw [e2, e3] at h1
        exact List.mem_of_mem_drop h1
      · have e2 : rl (bs.set (gIdx g).toNat ((rl bs (gIdx g)).drop 1)) t = [] := by simp [rl, List.getD_eq_getElem?_getD, h]
        rw [e2] at h1
        simp at h1
    · have e2 : rl (bs.set (gIdx g).toNat ((rl bs (gIdx g)).drop 1)) t = rl bs t := by simp [rl, List.getD_eq_getElem?_getD, e]
      rwa [e2] at h1
theorem BI_pop {n : Net} (ok : netOk n = true) : BI n (afterPop n) [] := by
  obtain ⟨_, _, _, _, _, _, hb, _⟩ := netOk_parts ok
  refine ⟨popL_len _ _, fun i hi => ?_⟩
  have h := bufOk_iff.1 (hb i hi)
  have hl := pop_rows i (allGrants n) n.bufs
  exact ⟨fun f hf => h.1 f (pop_mem i _ _ f hf), Nat.le_trans hl h.2, fun _ => hl⟩
theorem BI_add {n x y : Net} {T : List Int} {t : Nat} {f : Flit} (h : BI n x T) (ht : t < n.bufs.length) (hn : (t : Int) ∉ T) (hl : (rl n.bufs (t : Int)).length < 3) (hc : f.cls = ((t % 2 : Nat) : Int)) (hf : flitOk n.mesh.g f = true) (hy : y.bufs = x.bufs.set t (rl x.bufs (t : Int) ++ [f])) : BI n y (T ++ [(t : Int)]) := by
  obtain ⟨h0, h1⟩ := h
  refine ⟨by rw [hy, List.length_set]; exact h0, fun i hi => ?_⟩
  rw [hy]
  by_cases e : t = i
  · subst e
    have e2 : rl (x.bufs.set t (rl x.bufs (t : Int) ++ [f])) (t : Int) = rl x.bufs (t : Int) ++ [f] := by
      have : t < x.bufs.length := by omega
      simp [rl, List.getD_eq_getElem?_getD, this]
    rw [e2]
    obtain ⟨a1, a2, a3⟩ := h1 t hi
    have := a3 hn
    refine ⟨fun z hz => ?_, by rw [List.length_append, List.length_singleton]; omega, fun hh => absurd (by simp) hh⟩
    rcases List.mem_append.1 hz with hz | hz
    · exact a1 z hz
    · rw [List.mem_singleton.1 hz]
      exact ⟨hc, hf⟩
  · have e2 : rl (x.bufs.set t (rl x.bufs (t : Int) ++ [f])) (i : Int) = rl x.bufs (i : Int) := by simp [rl, List.getD_eq_getElem?_getD, e]
    rw [e2]
    obtain ⟨a1, a2, a3⟩ := h1 i hi
    exact ⟨a1, a2, fun hh => a3 (fun hm => hh (List.mem_append_left _ hm))⟩
theorem flit_of {n : Net} (ok : netOk n = true) {g : Grant} (h : GOne n g) : (mvF n g).cls = g.input % 2 ∧ flitOk n.mesh.g (mvF n g) = true := by
  have h1 := (h.at ok).buf0 h.full
  have e : mvF n g = rf (bufOf n g.node g.input) 0 := rfl
  rw [e]
  refine ⟨h1.2, ?_⟩
  unfold flitOk
  rw [h1.1, h1.2]
  have := h.i0
  simp only [Bool.true_and]
  exact inside_iff.2 ⟨by omega, by omega⟩
def tgts (n : Net) (gs : List Grant) : List Int := (gs.filter (fun g => !(g.port == 4))).map (gTo n)
theorem tgts_cons4 {n : Net} {g : Grant} {gs : List Grant} (h : g.port = 4) : tgts n (g :: gs) = tgts n gs := by simp [tgts, h]
theorem tgts_cons {n : Net} {g : Grant} {gs : List Grant} (h : ¬ g.port = 4) : tgts n (g :: gs) = gTo n g :: tgts n gs := by simp [tgts, h]
theorem BI_push {n : Net} (ok : netOk n = true) : ∀ (gs : List Grant) (x : Net) (T : List Int), BI n x T → (∀ g ∈ gs, GOne n g) → (tgts n gs).Nodup → (∀ t ∈ tgts n gs, t ∉ T) → BI n (pushL n x gs) (T ++ tgts n gs) := by
  intro gs
  induction gs with
  | nil => intro x T h _ _ _; simpa [tgts, pushL] using h
  | cons g gs ih =>
    intro x T h hone hnd hT
    show BI n (pushL n (pushG n x g) gs) _
    have hg := hone g (by simp)
    by_cases h4 : g.port = 4
    · rw [tgts_cons4 h4] at hnd hT ⊢
      refine ih _ _ ⟨by rw [pushG_len]; exact h.1, fun i hi => ?_⟩ (fun y hy => hone y (by simp [hy])) hnd hT
      rw [pushG_bufs, if_pos h4]
      exact h.2 i hi
    · rw [tgts_cons h4] at hnd hT ⊢
      obtain ⟨t0, t1, _, q1, q2, q3, te⟩ := hg.to ok h4
      obtain ⟨t, ht⟩ : ∃ t : Nat, gTo n g = (t : Int) := ⟨(gTo n g).toNat, by omega⟩
      have hf := flit_of ok hg
      have hroom := (hg.live h4).2
      have hi0 := hg.i0
      rw [List.nodup_cons] at hnd
      rw [ht] at t1 te hroom hnd hT ⊢
      have hb := BI_add (y := pushG n x g) (t := t) (f := mvF n g) h (by omega) (hT t (by simp)) hroom (by rw [hf.1]; omega) hf.2 (by rw [pushG_bufs, if_neg h4]; unfold addB; rw [ht, Int.toNat_natCast])
      have := ih _ _ hb (fun y hy => hone y (by simp [hy])) hnd.2 (fun z hz hm => by
        rcases List.mem_append.1 hm with hm | hm
        · exact hT z (by simp [hz]) hm
        · rw [List.mem_singleton.1 hm] at hz
          exact hnd.1 hz)
      rw [List.append_assoc] at this
      exact this
theorem tgts_nodup {n : Net} (ok : netOk n = true) : (tgts n (allGrants n)).Nodup := by
  unfold tgts List.Nodup
  rw [List.pairwise_map]
  refine (List.Pairwise.sublist (List.filter_sublist) (grants_pw n)).imp_of_mem (fun {a b} ha hb hab => ?_)
  have ha1 := List.mem_filter.1 ha
  have hb1 := List.mem_filter.1 hb
  have a4 : ¬ a.port = 4 := by simpa using ha1.2
  have b4 : ¬ b.port = 4 := by simpa using hb1.2
  intro e
  have h := gTo_inj ok (grants_one ha1.1) (grants_one hb1.1) a4 b4 e
  rcases hab with h1 | ⟨h1, h2, _⟩
  · rw [h.1] at h1; exact absurd h1 (Int.lt_irrefl _)
  · rw [h.2] at h2; exact absurd h2 (Int.lt_irrefl _)
theorem BI_afterPush {n : Net} (ok : netOk n = true) : BI n (afterPush n) (tgts n (allGrants n)) := by
  have := BI_push ok (allGrants n) (afterPop n) [] (BI_pop ok) (fun g hg => grants_one hg) (tgts_nodup ok) (fun _ _ => by simp)
  rw [List.nil_append] at this
  exact this
theorem tgts_mod {n : Net} (ok : netOk n = true) : ∀ t ∈ tgts n (allGrants n), t % 10 ≤ 7 := by
  intro t ht
  unfold tgts at ht
  obtain ⟨g, hg, rfl⟩ := List.mem_map.1 ht
  have hg1 := List.mem_filter.1 hg
  have h4 : ¬ g.port = 4 := by simpa using hg1.2
  have h := grants_one hg1.1
  obtain ⟨t0, t1, _, q1, q2, q3, te⟩ := h.to ok h4
  have := h.i0
  omega
theorem BI_enter {n : Net} (ok : netOk n = true) : ∀ (ks : List Int) (x : Net) (T : List Int), BI n x T → (∀ a ∈ ks, ∃ i : Nat, a = (i : Int) ∧ i < n.srcs.length ∧ enters n i = true) → ks.Pairwise (· < ·) → (∀ a ∈ ks, eTo n a ∉ T) → ∃ T', BI n (enterL n x ks) T' := by
  intro ks
  induction ks with
  | nil => intro x T h _ _ _; exact ⟨T, h⟩
  | cons a ks ih =>
    intro x T h hk hp hT
    obtain ⟨i, rfl, hi, he⟩ := hk a (by simp)
    rw [List.pairwise_cons] at hp
    simp only [enters, Bool.and_eq_true, decide_eq_true_eq] at he
    obtain ⟨_, _, _, hcl⟩ := src_buf ok i hi
    obtain ⟨d0, d1, d2⟩ := hcl he.1
    obtain ⟨t, ht⟩ : ∃ t : Nat, eTo n (i : Int) = (t : Int) := ⟨(eTo n (i : Int)).toNat, by unfold eTo; omega⟩
    have ht' : 10 * (i : Int) + 8 + (rf (rl n.srcs (i : Int)) 0).cls = (t : Int) := ht
    have hb := BI_add (y := enterB n x (i : Int)) (t := t) (f := rf (rl n.srcs (i : Int)) 0) h (by omega) (by rw [← ht]; exact hT _ (by simp)) (by rw [← ht']; exact he.2) (by omega) (by
      obtain ⟨_, _, _, _, _, _, _, hs, _⟩ := netOk_parts ok
      have h1 := hs i hi
      simp only [srcOk, Bool.and_eq_true, decide_eq_true_eq] at h1
      have h2 := areFl_get h1.2 0 he.1
      unfold flitOk
      rw [show ((0 : Nat) : Int) = 0 from rfl] at h2
      rw [h2.1, h2.2]; rfl) (by show x.bufs.set (eTo n (i : Int)).toNat (rl x.bufs (eTo n (i : Int)) ++ [_]) = _; rw [ht, Int.toNat_natCast])
    refine ih _ _ hb (fun y hy => hk y (by simp [hy])) hp.2 (fun y hy hm => ?_)
    rcases List.mem_append.1 hm with hm | hm
    · exact hT y (by simp [hy]) hm
    · have e := List.mem_singleton.1 hm
      obtain ⟨j, rfl, hj, hej⟩ := hk y (by simp [hy])
      have hlt := hp.1 (j : Int) hy
      simp only [enters, Bool.and_eq_true, decide_eq_true_eq] at hej
      obtain ⟨_, _, _, hclj⟩ := src_buf ok j hj
      obtain ⟨b0, b1, b2⟩ := hclj hej.1
      rw [← ht'] at e
      unfold eTo at e
      omega
theorem step_bufs {n : Net} (ok : netOk n = true) : ∀ i : Nat, i < n.bufs.length → bufOk n.mesh.g i (rl (stepN n).bufs i) = true := by
  obtain ⟨T', h⟩ := BI_enter ok (enteringN n) (afterPush n) _ (BI_afterPush ok) (enterTo_spec n n.srcs.length).1 (enterTo_spec n n.srcs.length).2 (fun a ha hm => by
    have h7 := tgts_mod ok _ hm
    obtain ⟨i, rfl, hi, he⟩ := (enterTo_spec n n.srcs.length).1 a ha
    simp only [enters, Bool.and_eq_true, decide_eq_true_eq] at he
    obtain ⟨_, _, _, hcl⟩ := src_buf ok i hi
    obtain ⟨d0, d1, d2⟩ := hcl he.1
    unfold eTo at h7
    omega)
  intro i hi
  have := h.2 i hi
  exact bufOk_iff.2 ⟨this.1, this.2.1⟩
theorem ri_set (l : List Int) (k : Nat) (v : Int) (i : Nat) : ri (l.set k v) i = if k = i ∧ i < l.length then v else ri l i := by
  by_cases e : k = i
  · subst e
    by_cases h : k < l.length
    · simp [ri, List.getD_eq_getElem?_getD, h]
    · simp [ri, List.getD_eq_getElem?_getD, h]
  · simp [ri, List.getD_eq_getElem?_getD, e]
theorem push_ints {n : Net} (ok : netOk n = true) : ∀ (gs : List Grant) (x : Net), (∀ g ∈ gs, GOne n g) → ∀ i : Nat, ((-1 ≤ ri x.owners i ∧ ri x.owners i ≤ 4) → (-1 ≤ ri (pushL n x gs).owners i ∧ ri (pushL n x gs).owners i ≤ 4)) ∧ ((0 ≤ ri x.turns i ∧ ri x.turns i ≤ 9) → (0 ≤ ri (pushL n x gs).turns i ∧ ri (pushL n x gs).turns i ≤ 9)) := by
  intro gs
  induction gs with
  | nil => intro x _ i; exact ⟨id, id⟩
  | cons g gs ih =>
    intro x hone i
    have hg := hone g (by simp)
    have h0 := hg.i0
    have h9 := hg.i9
    have ho : (pushG n x g).owners = x.owners.set (gAt g).toNat (gOwn n g) := by unfold pushG; split <;> rfl
    have ht : (pushG n x g).turns = x.turns.set (gTurn g).toNat ((g.input + 1) % 10) := by unfold pushG; split <;> rfl
    have hw : -1 ≤ gOwn n g ∧ gOwn n g ≤ 4 := by unfold gOwn; split <;> omega
    obtain ⟨i1, i2⟩ := ih (pushG n x g) (fun y hy => hone y (by simp [hy])) i
    refine ⟨fun h => i1 ?_, fun h => i2 ?_⟩
    · rw [ho, ri_set]
      split
      · exact hw
      · exact h
    · rw [ht, ri_set]
      split
      · omega
      · exact h
theorem enter_rows (n : Net) (t : Nat) : ∀ (ks : List Int) (x : Net), (∀ f ∈ rl (enterL n x ks).srcs t, f ∈ rl x.srcs t) ∧ (rl (enterL n x ks).srcs t).length ≤ (rl x.srcs t).length := by
  intro ks
  induction ks with
  | nil => intro x; exact ⟨fun f h => h, Nat.le_refl _⟩
  | cons a ks ih =>
    intro x
    obtain ⟨h1, h2⟩ := ih (enterB n x a)
    have core : (∀ f ∈ rl (enterB n x a).srcs t, f ∈ rl x.srcs t) ∧ (rl (enterB n x a).srcs t).length ≤ (rl x.srcs t).length := by
      show (∀ f ∈ rl (x.srcs.set a.toNat ((rl x.srcs a).drop 1)) t, f ∈ rl x.srcs t) ∧ (rl (x.srcs.set a.toNat ((rl x.srcs a).drop 1)) t).length ≤ (rl x.srcs t).length
      by_cases e : a.toNat = t
      · by_cases h : t < x.srcs.length
        · have e2 : rl (x.srcs.set a.toNat ((rl x.srcs a).drop 1)) t = (rl x.srcs a).drop 1 := by simp [rl, List.getD_eq_getElem?_getD, e, h]
          have e3 : rl x.srcs a = rl x.srcs (t : Int) := by simp [rl, e]
          rw [e2, e3]
          exact ⟨fun f hf => List.mem_of_mem_drop hf, by rw [List.length_drop]; omega⟩
        · have e2 : rl (x.srcs.set a.toNat ((rl x.srcs a).drop 1)) t = [] := by simp [rl, List.getD_eq_getElem?_getD, h]
          rw [e2]
          exact ⟨fun f hf => by simp at hf, by simp⟩
      · have e2 : rl (x.srcs.set a.toNat ((rl x.srcs a).drop 1)) t = rl x.srcs t := by simp [rl, List.getD_eq_getElem?_getD, e]
        rw [e2]
        exact ⟨fun f hf => hf, Nat.le_refl _⟩
    exact ⟨fun f hf => core.1 f (h1 f hf), Nat.le_trans h2 core.2⟩
theorem step_parts (n : Net) : (stepN n).mesh = n.mesh ∧ (stepN n).pa = n.pa ∧ (stepN n).pb = n.pb ∧ (stepN n).owners = (afterPush n).owners ∧ (stepN n).turns = (afterPush n).turns ∧ (stepN n).arrs = (afterPush n).arrs := by
  have h1 := enterL_time n (enteringN n) (afterPush n)
  have h2 := pushL_same n (allGrants n) (afterPop n)
  exact ⟨h1.2.1.trans h2.2.1, h1.2.2.1.trans h2.2.2.1, h1.2.2.2.1.trans h2.2.2.2, h1.2.2.2.2.1, h1.2.2.2.2.2.1, h1.2.2.2.2.2.2⟩
theorem push_lens (n : Net) : ∀ (gs : List Grant) (x : Net), (pushL n x gs).bufs.length = x.bufs.length ∧ (pushL n x gs).owners.length = x.owners.length ∧ (pushL n x gs).turns.length = x.turns.length ∧ (pushL n x gs).arrs.length = x.arrs.length := by
  intro gs
  induction gs with
  | nil => intro x; exact ⟨rfl, rfl, rfl, rfl⟩
  | cons g gs ih =>
    intro x
    obtain ⟨h1, h2, h3, h4⟩ := ih (pushG n x g)
    have e : (pushG n x g).bufs.length = x.bufs.length ∧ (pushG n x g).owners.length = x.owners.length ∧ (pushG n x g).turns.length = x.turns.length ∧ (pushG n x g).arrs.length = x.arrs.length := by unfold pushG; split <;> simp
    exact ⟨h1.trans e.1, h2.trans e.2.1, h3.trans e.2.2.1, h4.trans e.2.2.2⟩
theorem enter_lens (n : Net) : ∀ (ks : List Int) (x : Net), (enterL n x ks).bufs.length = x.bufs.length ∧ (enterL n x ks).srcs.length = x.srcs.length := by
  intro ks
  induction ks with
  | nil => intro x; exact ⟨rfl, rfl⟩
  | cons a ks ih =>
    intro x
    obtain ⟨h1, h2⟩ := ih (enterB n x a)
    exact ⟨h1.trans (by simp [enterB]), h2.trans (by simp [enterB])⟩
theorem step_ok {n : Net} (ok : netOk n = true) (ht : n.time < 1000000) : netOk (stepN n) = true := by
  obtain ⟨c, s1, s2, s3, s4, s5, hb, hs, ho, hu, hm⟩ := netOk_parts ok
  obtain ⟨e1, e2, e3, e4, e5, e6⟩ := step_parts n
  obtain ⟨p1, p2, p3, p4⟩ := push_lens n (allGrants n) (afterPop n)
  obtain ⟨l1, l2⟩ := enter_lens n (enteringN n) (afterPush n)
  have b1 : (stepN n).bufs.length = n.bufs.length := by
    show (enterL n (afterPush n) (enteringN n)).bufs.length = _
    rw [l1]
    exact p1.trans (popL_len _ _)
  have b2 : (stepN n).owners.length = n.owners.length := by rw [e4]; exact p2
  have b3 : (stepN n).turns.length = n.turns.length := by rw [e5]; exact p3
  have b4 : (stepN n).srcs.length = n.srcs.length := by
    show (enterL n (afterPush n) (enteringN n)).srcs.length = _
    rw [l2]
    unfold afterPush
    rw [pushL_srcs]
    rfl
  have b5 : (stepN n).arrs.length = n.arrs.length := by rw [e6]; exact p4
  rw [inside_iff] at hm
  simp only [netOk, shapeOk, Bool.and_eq_true, decide_eq_true_eq, allI_iff]
  rw [e1, e2, e3, b1, b2, b3, b4, b5]
  refine ⟨⟨⟨⟨⟨⟨c, ⟨⟨⟨⟨s1, s2⟩, s3⟩, s4⟩, s5⟩⟩, step_bufs ok⟩, fun i hi => ?_⟩, fun i hi => ?_⟩, fun i hi => ?_⟩, ?_⟩
  · have h1 := hs i hi
    simp only [srcOk, areFl, Bool.and_eq_true, decide_eq_true_eq, List.all_eq_true] at h1 ⊢
    obtain ⟨r1, r2⟩ := enter_rows n i (enteringN n) (afterPush n)
    have e : (afterPush n).srcs = n.srcs := by unfold afterPush; rw [pushL_srcs]; rfl
    rw [e] at r1 r2
    exact ⟨Nat.le_trans r2 h1.1, fun f hf => h1.2 f (r1 f hf)⟩
  · have h1 := inside_iff.1 (ho i hi)
    rw [e4]
    exact inside_iff.2 ((push_ints ok (allGrants n) (afterPop n) (fun g hg => grants_one hg) i).1 h1)
  · have h1 := inside_iff.1 (hu i hi)
    rw [e5]
    exact inside_iff.2 ((push_ints ok (allGrants n) (afterPop n) (fun g hg => grants_one hg) i).2 h1)
  · have e : (stepN n).time = n.time + 1 := rfl
    rw [e, inside_iff]
    omega
theorem step_still {n : Net} (h1 : allGrants n = []) (h2 : enteringN n = []) : stepN n = { n with time := n.time + 1 } := by
  have a : afterPush n = n := by unfold afterPush afterPop; rw [h1]; rfl
  unfold stepN
  rw [h2, a]
  rfl
end NoC
namespace Go.Proofs.Ytaihmgbflhbebaa
open Go.RowKit Go.Proofs.YtaihmgbflhbebaaW.PrintWords
open NoC
def flitAt (p : Packet) (k : Nat) : Flit := ⟨p.id, p.dst, p.cls, (k : Int) == 0, (k : Int) == p.len - 1⟩
def flitsTo (p : Packet) (k : Nat) : List Flit := (List.range k).map (flitAt p)
theorem flitsTo_succ (p : Packet) (k : Nat) : flitsTo p (k + 1) = flitsTo p k ++ [flitAt p k] := by simp [flitsTo, List.range_succ]
theorem flitsTo_len (p : Packet) (k : Nat) : (flitsTo p k).length = k := by simp [flitsTo]
theorem flitsOf_yes {g : Grid} {p : Packet} (h : packetOk g p = true) : flitsOf g p = flitsTo p p.len.toNat := by
  unfold flitsOf flitsTo
  rw [if_pos h]
  apply List.map_congr_left
  intro i _
  have e : (i == 0) = ((i : Int) == 0) := by
    by_cases h0 : i = 0
    · subst h0; rfl
    · rw [beq_eq_false_iff_ne.2 h0, beq_eq_false_iff_ne.2 (by omega)]
  unfold flitAt
  rw [e]
theorem flitsOf_no {g : Grid} {p : Packet} (h : packetOk g p = false) : flitsOf g p = [] := by
  unfold flitsOf
  rw [if_neg (by simp [h])]
theorem packet_parts {g : Grid} {p : Packet} (h : packetOk g p = true) : isNode g p.src = true ∧ isNode g p.dst = true ∧ 0 ≤ p.cls ∧ p.cls ≤ 1 ∧ 1 ≤ p.len ∧ p.len ≤ 5 := by
  simp only [packetOk, Bool.and_eq_true] at h
  have h1 := inside_iff.1 h.1.2
  have h2 := inside_iff.1 h.2
  exact ⟨h.1.1.1.1.2, h.1.1.1.2, h1.1, h1.2, h2.1, h2.2⟩
theorem flitsOf_len {g : Grid} {p : Packet} (h : packetOk g p = true) : ((flitsOf g p).length : Int) = p.len := by
  rw [flitsOf_yes h, flitsTo_len]
  have := packet_parts h
  omega
set_option maxHeartbeats 4000000 in
theorem spec_FlitsOf (g : Grid) (p : Packet) (w : World) : Calls Try.prog 85 #[.agg #[.int .i64 g.w, .int .i64 g.h], .agg #[.int .i64 p.id, .int .i64 p.src, .int .i64 p.dst, .int .i64 p.cls, .int .i64 p.len]] w fun e w' => GotF w w' (flitsOf g p) e ∧ Below w.heap.size w w' := by
 have XP : Hid (Box (((w.alloc (.cells #[.int .i64 g.w, .int .i64 g.h] 25)).alloc (.cells #[.int .i64 p.id, .int .i64 p.src, .int .i64 p.dst, .int .i64 p.cls, .int .i64 p.len] 89)).alloc (.cells #[] 77)) (w.heap.size + 1) #[.int .i64 p.id, .int .i64 p.src, .int .i64 p.dst, .int .i64 p.cls, .int .i64 p.len]) := Lib.hid ((Box.new _ _ _ _ (by simp only [szs])).alloc _)
 have XG : Hid (Box (((w.alloc (.cells #[.int .i64 g.w, .int .i64 g.h] 25)).alloc (.cells #[.int .i64 p.id, .int .i64 p.src, .int .i64 p.dst, .int .i64 p.cls, .int .i64 p.len] 89)).alloc (.cells #[] 77)) w.heap.size #[.int .i64 g.w, .int .i64 g.h]) := Lib.hid (((Box.new _ _ _ _ rfl).alloc _).alloc _)
 have HB1 : Hid (Below w.heap.size w (((w.alloc (.cells #[.int .i64 g.w, .int .i64 g.h] 25)).alloc (.cells #[.int .i64 p.id, .int .i64 p.src, .int .i64 p.dst, .int .i64 p.cls, .int .i64 p.len] 89)).alloc (.cells #[] 77))) := Lib.hid bel
 have HR1 : Hid (kF.R 77 (((w.alloc (.cells #[.int .i64 g.w, .int .i64 g.h] 25)).alloc (.cells #[.int .i64 p.id, .int .i64 p.src, .int .i64 p.dst, .int .i64 p.cls, .int .i64 p.len] 89)).alloc (.cells #[] 77)) (w.heap.size + 2) (fun _ => True) (.slice (some ⟨w.heap.size + 2, 0, none⟩) 0 0) []) := Lib.hid (R_lit kF (lit_new (by simp only [szs])) (Nat.le_refl _))
 obtain ⟨N, hN⟩ : ∃ N : Nat, N = if packetOk g p = true then p.len.toNat else 0 := ⟨_, rfl⟩
 have HE : Hid (flitsOf g p = flitsTo p N) := Lib.hid (by
  rw [hN]
  cases hk : packetOk g p
  ·rw [flitsOf_no hk]; rfl
  ·rw [flitsOf_yes hk]; rfl)
 have HP : Hid (packetOk g p = true → p.len = (N : Int) ∧ N ≤ 5) := Lib.hid (fun h => by
  have := packet_parts h
  rw [hN, if_pos h]
  omega)
 have HQ : Hid (packetOk g p = false → N = 0) := Lib.hid (fun h => by rw [hN, if_neg (by simp [h])])
 clear hN
 rw [HE.out]
 go_enter Try.func85, Try.ntmps85
 go_wp2_with fail
 go_loopw [5, 6] (fun v i wr => ∃ k : Nat, i = .int .i64 k ∧ k ≤ N ∧ Hid (kF.R 77 wr (w.heap.size + 2) (fun _ => True) v (flitsTo p k)) ∧ Hid (Box wr (w.heap.size + 1) #[.int .i64 p.id, .int .i64 p.src, .int .i64 p.dst, .int .i64 p.cls, .int .i64 p.len]) ∧ Hid (Box wr w.heap.size #[.int .i64 g.w, .int .i64 g.h]) ∧ Hid (Below w.heap.size w wr)) (fun _ i _ => N - (intOf i).toNat)
 case atStart => exact ⟨0, rfl, Nat.zero_le _, Lib.hid HR1.out, Lib.hid XP.out, Lib.hid XG.out, Lib.hid HB1.out⟩
 case round =>
  clear HR1 XP XG HB1
  obtain ⟨k, rfl, hk, HO, HX, HG, HB⟩ := hrel
  obtain ⟨wk, ewk⟩ : ∃ z, z = wr := ⟨_, rfl⟩
  subst ewk
  have xl := HX.out.lt
  have gl := HG.out.lt
  have ll := flitsTo_len p k
  obtain ⟨L, eL⟩ : ∃ L, flitsTo p k = L := ⟨_, rfl⟩
  have HS : Hid (flitsTo p (k + 1) = L ++ [flitAt p k]) := Lib.hid (by rw [flitsTo_succ, eL])
  have HL : Hid (flitsTo p k = L) := Lib.hid eL
  have hL : L.length = k := by rw [← eL]; exact ll
  rw [eL] at HO
  clear ll eL
  obtain ⟨Av, cv, rfl⟩ := Kd.R_slice HO.out
  have x0 : wk.cell? ⟨w.heap.size + 1, 0, none⟩ = some (.int .i64 p.id) := HX.out.get 0
  have x1 : wk.cell? ⟨w.heap.size + 1, 1, none⟩ = some (.int .i64 p.src) := HX.out.get 1
  have x2 : wk.cell? ⟨w.heap.size + 1, 2, none⟩ = some (.int .i64 p.dst) := HX.out.get 2
  have x3 : wk.cell? ⟨w.heap.size + 1, 3, none⟩ = some (.int .i64 p.cls) := HX.out.get 3
  have x4 : wk.cell? ⟨w.heap.size + 1, 4, none⟩ = some (.int .i64 p.len) := HX.out.get 4
  have g0 : wk.cell? ⟨w.heap.size, 0, none⟩ = some (.int .i64 g.w) := HG.out.get 0
  have g1 : wk.cell? ⟨w.heap.size, 1, none⟩ = some (.int .i64 g.h) := HG.out.get 1
  have zk := HB.out.size
  have HLL := Lib.hid hL
  clear hL
  have h9 : Hid (kF.R 77 wk (w.heap.size + 2) (fun _ => True) (.slice Av L.length cv) (flitsTo p k)) := Lib.hid (by rw [HL.out]; exact HO.out)
  cases hk2 : packetOk g p
  ·obtain rfl : N = 0 := HQ.out hk2
   obtain rfl : k = 0 := by omega
   by_cases hl : 0 < p.len
   ·have hl2 : ((0 : Nat) : Int) < p.len := by simpa using hl
    go_wp2_with fail
    refine (spec_PacketOk g p _).mono ?_
    rintro e w5 ⟨he, hb5⟩
    rw [hk2] at he
    subst he
    go_wp2
    go_ret
    exact ⟨⟨_, rfl, Kd.R_lower (Kd.R_below h9.out hb5) (by omega)⟩, bw_then HB.out hb5⟩
   ·have hl2 : ¬ ((0 : Nat) : Int) < p.len := by simpa using hl
    go_wp2
    go_ret
    exact ⟨⟨_, rfl, Kd.R_lower h9.out (by omega)⟩, HB.out⟩
  ·obtain ⟨hlen, N5⟩ := HP.out hk2
   have HLN := Lib.hid hlen
   clear hlen
   by_cases hlt : k < N
   ·have hk1 : (k : Int) < p.len := by have := HLN.out; omega
    have k0 : (0 : Int) ≤ (k : Int) := by omega
    have l5 : p.len ≤ 5 := by have := HLN.out; omega
    go_wp2_with fail
    refine (spec_PacketOk g p _).mono ?_
    rintro e w5 ⟨he, hb5⟩
    rw [hk2] at he
    subst he
    have HO5 := Lib.hid (Kd.R_below HO.out hb5)
    have HX5 := Lib.hid (HX.out.below hb5)
    have HG5 := Lib.hid (HG.out.below hb5)
    have HB5 : Hid (Below w.heap.size w w5) := Lib.hid (bw_then HB.out hb5)
    have zk5 := HB5.out.size
    have y0 : w5.cell? ⟨w.heap.size + 1, 0, none⟩ = some (.int .i64 p.id) := HX5.out.get 0
    have y2 : w5.cell? ⟨w.heap.size + 1, 2, none⟩ = some (.int .i64 p.dst) := HX5.out.get 2
    have y3 : w5.cell? ⟨w.heap.size + 1, 3, none⟩ = some (.int .i64 p.cls) := HX5.out.get 3
    have y4 : w5.cell? ⟨w.heap.size + 1, 4, none⟩ = some (.int .i64 p.len) := HX5.out.get 4
    have yl := HX5.out.lt
    have hB2 : w.heap.size + 2 ≤ w5.heap.size := by omega
    have hL100 : L.length ≤ 100 := by have := HLL.out; omega
    clear hb5 x0 x1 x2 x3 x4 g0 g1 hk2
    go_wp2_with (at_builtin; refine app_Fg (B := w.heap.size + 2) rfl (.tmp 19) (.tmp 34) rfl _ L (flitAt p k) rfl (by first | rfl | exact congrArg (fun z => Value.slice (some ⟨z, 0, none⟩) 1 1) (World.size_alloc _ _).symm) HO5.out hB2 (by omega) ?_; intro v1 w3 HO1 hg1 ha1)
    go_roundw
    case rel => exact ⟨k + 1, by go_num, by omega, Lib.hid (by rw [HS.out]; exact HO1), Lib.hid (HX5.out.grown hg1 (fun e => by have := Kd.R_base HO5.out _ e.symm; omega)), Lib.hid (HG5.out.grown hg1 (fun e => by have := Kd.R_base HO5.out _ e.symm; omega)), Lib.hid (HB5.out.grown hg1 HB5.out.size (fun i hi => by have := Kd.R_base HO5.out i hi; omega))⟩
    case measure => simp [intOf]; omega
   ·obtain rfl : k = N := by omega
    have hk1 : ¬ (k : Int) < p.len := by have := HLN.out; omega
    go_wp2
    go_ret
    exact ⟨⟨_, rfl, Kd.R_lower h9.out (by omega)⟩, HB.out⟩
end Go.Proofs.Ytaihmgbflhbebaa
namespace Go.Proofs.Ytaihmgbflhbebaa
open NoC
def sendOk (n : Net) (p : Packet) : Bool := packetOk n.mesh.g p && decide (((rl n.srcs p.src).length : Int) + p.len ≤ 60)
def sendN (n : Net) (p : Packet) : Net := { n with srcs := n.srcs.set p.src.toNat (rl n.srcs p.src ++ flitsOf n.mesh.g p) }
def sndN (n : Net) (p : Packet) : Net := if sendOk n p = true then sendN n p else n
theorem flits_ok {g : Grid} {p : Packet} (h : packetOk g p = true) : areFl g (flitsOf g p) = true := by
  obtain ⟨_, h2, h3, h4, _, _⟩ := packet_parts h
  rw [flitsOf_yes h]
  unfold areFl flitsTo
  rw [List.all_eq_true]
  intro f hf
  obtain ⟨i, _, rfl⟩ := List.mem_map.1 hf
  simp only [flitOk, flitAt, Bool.and_eq_true]
  exact ⟨h2, inside_iff.2 ⟨h3, h4⟩⟩
theorem sendN_ok {n : Net} {p : Packet} (ok : netOk n = true) (h : sendOk n p = true) : netOk (sendN n p) = true := by
  obtain ⟨c, s1, s2, s3, s4, s5, hb, hs, ho, hu, hm⟩ := netOk_parts ok
  simp only [sendOk, Bool.and_eq_true, decide_eq_true_eq] at h
  obtain ⟨hp, hl⟩ := h
  have hfl := flitsOf_len hp
  rw [inside_iff] at hm
  simp only [netOk, shapeOk, Bool.and_eq_true, decide_eq_true_eq, allI_iff]
  have el : (sendN n p).srcs.length = n.srcs.length := by simp [sendN]
  rw [el]
  refine ⟨⟨⟨⟨⟨⟨c, ⟨⟨⟨⟨s1, s2⟩, s3⟩, s4⟩, s5⟩⟩, hb⟩, fun i hi => ?_⟩, fun i hi => ho i hi⟩, fun i hi => hu i hi⟩, inside_iff.2 hm⟩
  have h1 := hs i hi
  have nd := isNode_iff.1 (packet_parts hp).1
  show srcOk n.mesh.g (rl (n.srcs.set p.src.toNat (rl n.srcs p.src ++ flitsOf n.mesh.g p)) i) = true
  by_cases e : p.src.toNat = i
  · have e2 : rl (n.srcs.set p.src.toNat (rl n.srcs p.src ++ flitsOf n.mesh.g p)) i = rl n.srcs p.src ++ flitsOf n.mesh.g p := by
      simp [rl, List.getD_eq_getElem?_getD, e, hi]
    have e3 : rl n.srcs p.src = rl n.srcs (i : Int) := by unfold rl; rw [e, Int.toNat_natCast]
    rw [e2, e3]
    rw [e3] at hl
    simp only [srcOk, areFl, Bool.and_eq_true, decide_eq_true_eq, List.all_append] at h1 ⊢
    have h2 := flits_ok hp
    unfold areFl at h2
    refine ⟨?_, h1.2, h2⟩
    rw [List.length_append]
    omega
  · have e2 : rl (n.srcs.set p.src.toNat (rl n.srcs p.src ++ flitsOf n.mesh.g p)) i = rl n.srcs i := by
      simp [rl, List.getD_eq_getElem?_getD, e]
    rw [e2]
    exact h1
theorem sndN_ok {n : Net} {p : Packet} (ok : netOk n = true) : netOk (sndN n p) = true := by
  unfold sndN
  split
  · rename_i h; exact sendN_ok ok h
  · exact ok
theorem sndN_nb {n : Net} {p : Packet} (nb : NB n) (ok : netOk n = true) : NB (sndN n p) := by
  unfold sndN
  split
  · rename_i h
    obtain ⟨_, _, _, _, _, _, _, hs, _⟩ := netOk_parts (sendN_ok ok h)
    refine ⟨nb.h1, nb.h2, nb.h3, nb.h4, nb.h5, nb.h6, by show (n.srcs.set _ _).length ≤ _; rw [List.length_set]; exact nb.h7, nb.h8, nb.h9, fun x hx => ?_, nb.h11⟩
    obtain ⟨i, hi, e⟩ : ∃ i : Nat, i < (sendN n p).srcs.length ∧ rl (sendN n p).srcs i = x := by
      obtain ⟨i, hi, rfl⟩ := List.getElem_of_mem hx
      exact ⟨i, hi, by simp [rl, List.getD_eq_getElem?_getD, hi]⟩
    have h1 := hs i hi
    rw [e] at h1
    simp only [srcOk, Bool.and_eq_true, decide_eq_true_eq] at h1
    omega
  · exact nb
def sndTo (n : Net) (l : List Packet) : Nat → Net
  | 0 => n
  | k + 1 => sndN (sndTo n l k) (rp l k)
def cntTo (n : Net) (l : List Packet) : Nat → Int
  | 0 => 0
  | k + 1 => cntTo n l k + (if sendOk (sndTo n l k) (rp l k) = true then 1 else 0)
theorem sndTo_ok {n : Net} (ok : netOk n = true) (l : List Packet) : ∀ k, netOk (sndTo n l k) = true := by
  intro k
  induction k with
  | zero => exact ok
  | succ k ih => exact sndN_ok ih
theorem sndTo_nb {n : Net} (nb : NB n) (ok : netOk n = true) (l : List Packet) : ∀ k, NB (sndTo n l k) := by
  intro k
  induction k with
  | zero => exact nb
  | succ k ih => exact sndN_nb ih (sndTo_ok ok l k)
theorem cntTo_range (n : Net) (l : List Packet) : ∀ k : Nat, 0 ≤ cntTo n l k ∧ cntTo n l k ≤ (k : Int) := by
  intro k
  induction k with
  | zero => simp [cntTo]
  | succ k ih =>
    simp only [cntTo]
    split <;> omega
def canAll (n : Net) (l : List Packet) : Bool := netOk n && decide (l.length ≤ 40)
def sendAllN (n : Net) (l : List Packet) : Net := if canAll n l = true then sndTo n l l.length else n
def sendAllK (n : Net) (l : List Packet) : Int := if canAll n l = true then cntTo n l l.length else -1
def sendPacketN (n : Net) (p : Packet) : Net := if netOk n = true then sndN n p else n
def sendPacketB (n : Net) (p : Packet) : Bool := netOk n && sendOk n p
theorem sendAll_nb {n : Net} {l : List Packet} (nb : NB n) : NB (sendAllN n l) := by
  unfold sendAllN
  split
  · rename_i h
    simp only [canAll, Bool.and_eq_true] at h
    exact sndTo_nb nb h.1 l _
  · exact nb
def newN (m : Mesh) (pa pb : List Int) : Net :=
  { mesh := m, pa := pa, pb := pb, bufs := List.replicate (10 * (nodeCount m.g).toNat) [], owners := List.replicate (10 * (nodeCount m.g).toNat) (-1), turns := List.replicate (5 * (nodeCount m.g).toNat) 0, srcs := List.replicate (nodeCount m.g).toNat [], arrs := List.replicate (nodeCount m.g).toNat [], time := 0 }
def zeroN : Net := ⟨⟨⟨0, 0⟩, []⟩, [], [], [], [], [], [], [], 0⟩
def netNewN (m : Mesh) (pa pb : List Int) : Net := if classesOk m pa pb = true then newN m pa pb else zeroN
theorem rl_replicate (k : Nat) (i : Int) : rl (List.replicate k []) i = [] := by
  unfold rl
  rw [List.getD_eq_getElem?_getD, List.getElem?_replicate]
  split <;> rfl
theorem ri_rep {k : Nat} {v : Int} {i : Nat} (h : i < k) : ri (List.replicate k v) (i : Int) = v := by
  rw [ri_get _ i (by simpa using h)]
  simp
theorem newN_ok {m : Mesh} {pa pb : List Int} (h : classesOk m pa pb = true) : netOk (newN m pa pb) = true := by
  have hc := count_nat m.g
  have e1 : ∀ i : Nat, rl (newN m pa pb).bufs i = [] := fun i => rl_replicate _ _
  have e2 : ∀ i : Nat, rl (newN m pa pb).srcs i = [] := fun i => rl_replicate _ _
  simp only [netOk, shapeOk, Bool.and_eq_true, decide_eq_true_eq, allI_iff]
  refine ⟨⟨⟨⟨⟨⟨h, ⟨⟨⟨⟨?_, ?_⟩, ?_⟩, ?_⟩, ?_⟩⟩, fun i hi => ?_⟩, fun i hi => ?_⟩, fun i hi => ?_⟩, fun i hi => ?_⟩, ?_⟩
  · simp only [newN, List.length_replicate]; push_cast; omega
  · simp only [newN, List.length_replicate]; push_cast; omega
  · simp only [newN, List.length_replicate]; push_cast; omega
  · simp only [newN, List.length_replicate]; omega
  · simp only [newN, List.length_replicate]; omega
  · rw [e1]; rfl
  · rw [e2]; rfl
  · have : ri (newN m pa pb).owners i = -1 := ri_rep (by simpa [newN] using hi)
    rw [this]; rfl
  · have : ri (newN m pa pb).turns i = 0 := ri_rep (by simpa [newN] using hi)
    rw [this]; rfl
  · rfl
theorem newN_nb {m : Mesh} {pa pb : List Int} (h1 : m.br.length ≤ 2097152) (h2 : pa.length ≤ 2097152) (h3 : pb.length ≤ 2097152) : NB (newN m pa pb) := by
  have hc := count_le m.g
  have hr : ∀ k : Nat, ∀ x ∈ (List.replicate k ([] : List Flit)), x.length ≤ 2097152 := fun k x hx => by rw [(List.mem_replicate.1 hx).2]; simp
  refine ⟨h1, h2, h3, ?_, ?_, ?_, ?_, ?_, hr _, hr _, hr _⟩ <;> simp only [newN, List.length_replicate] <;> omega
end Go.Proofs.Ytaihmgbflhbebaa
namespace Go.Proofs.Ytaihmgbflhbebaa
open Go.RowKit Go.Proofs.YtaihmgbflhbebaaW.PrintWords
open NoC
theorem OB.upd {w w1 : World} {lo hi : Nat} {v : Value} {l : List (List Flit)} {vs : List Value} (h : OB w lo hi v l vs) (k : Nat) (hk : k < l.length) (hg : w.grownBy w1 (vr vs k).ownBlock) {y : List Flit} (hy : RU kF 77 w1 lo hi (vr vs k) y) : OB w1 lo hi v (l.set k y) vs := by
  have hl := h.len
  obtain ⟨inner, hin⟩ := Kd.R_own (h.row k hk)
  refine ⟨?_, h.top, fun i hi' => ?_, fun i j hij hj => h.apart i j hij (by rwa [List.length_set] at hj)⟩
  · rw [List.length_set]
    exact h.own.kept hg (own_type_ne h.own hin (by decide))
  · rw [List.length_set] at hi'
    rw [set_getB hk i hi']
    by_cases e : k = i
    · subst e
      rw [if_pos rfl]
      exact hy
    · rw [if_neg e]
      obtain ⟨h0, inner', ho, hr⟩ := h.row i hi'
      exact ⟨h0, inner', ho.kept hg (h.apart' (fun h => e h.symm) hi' hk), hr⟩
def totTo (l : List (List Flit)) : Nat → Nat
  | 0 => 0
  | i + 1 => totTo l i + (rl l i).length
theorem totTo_le {l : List (List Flit)} (h : ∀ x ∈ l, x.length ≤ 2097152) : ∀ i, i ≤ l.length → totTo l i ≤ 2097152 * i := by
  intro i
  induction i with
  | zero => intro _; simp [totTo]
  | succ i ih =>
    intro hi
    have h1 := ih (by omega)
    have h2 := h _ (rl_mem (show i < l.length by omega))
    simp only [totTo]
    omega
structure NetI (w : World) (a b : Nat → Nat) (n : Net) (q : NA) (v4 v7 v8 : List Value) : Prop where
  br : RU (Kd.int .i64) 3 w (a 0) (b 0) (.slice q.a1 n.mesh.br.length q.c1) n.mesh.br
  pa : RU (Kd.int .i64) 3 w (a 1) (b 1) (.slice q.a2 n.pa.length q.c2) n.pa
  pb : RU (Kd.int .i64) 3 w (a 1) (b 1) (.slice q.a3 n.pb.length q.c3) n.pb
  ap : Apart (.slice q.a3 n.pb.length q.c3) (.slice q.a2 n.pa.length q.c2)
  bufs : OB w (a 2) (b 2) (.slice q.a4 n.bufs.length q.c4) n.bufs v4
  owners : RU (Kd.int .i64) 3 w (a 3) (b 3) (.slice q.a5 n.owners.length q.c5) n.owners
  turns : RU (Kd.int .i64) 3 w (a 4) (b 4) (.slice q.a6 n.turns.length q.c6) n.turns
  srcs : OB w (a 5) (b 5) (.slice q.a7 n.srcs.length q.c7) n.srcs v7
  arrs : OB w (a 6) (b 6) (.slice q.a8 n.arrs.length q.c8) n.arrs v8
theorem NetI.reads {w : World} {a b : Nat → Nat} {n : Net} {q : NA} {v4 v7 v8 : List Value} {w0 : World} {q0 : NA} {e0 : Nat} (h : NetI w a b n q v4 v7 v8) (k : NetR e0 w0 n q0) : NetR 77 w n q :=
  ⟨h.br.reads.2.2, h.pa.reads.2.2, h.pb.reads.2.2, h.bufs.reads.2.2, h.owners.reads.2.2, h.turns.reads.2.2, h.srcs.reads.2.2, h.arrs.reads.2.2, k.h1, k.h2, k.h3, k.h4, k.h5, k.h6, k.h7, k.h8, k.h9, k.h10, k.h11⟩
theorem NetI.below {w w1 : World} {a b : Nat → Nat} {n : Net} {q : NA} {v4 v7 v8 : List Value} (h : NetI w a b n q v4 v7 v8) (hb : Below w.heap.size w w1) : NetI w1 a b n q v4 v7 v8 :=
  ⟨h.br.below hb, h.pa.below hb, h.pb.below hb, h.ap, h.bufs.below hb, h.owners.below hb, h.turns.below hb, h.srcs.below hb, h.arrs.below hb⟩
end Go.Proofs.Ytaihmgbflhbebaa
