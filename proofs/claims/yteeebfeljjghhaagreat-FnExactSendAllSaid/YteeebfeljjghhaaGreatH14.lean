/- Lemmas for laws of this seat, for all inputs: NetK MarkP. -/
import Derived.Test.YteeebfeljjghhaaGreatH13
import Derived.Test.YteeebfeljjghhaaGreatH3
/- Marks on a network of one's own: what is written lies in its own stretch. -/
set_option linter.unusedVariables false
set_option linter.unusedSimpArgs false
namespace Go.Proofs.YteeebfeljjghhaaGreat
open Go.RowKit Go.Proofs.YteeebfeljjghhaaGreatW.PrintWords
open NoC

set_option maxHeartbeats 8000000 in
set_option maxRecDepth 100000 in
theorem laws_markNet2 (n : Net) (q : NA) (k : Int) (lo hi : Nat) (a b : Nat → Nat) (v4 v7 v8 : List Value) (w w0 : World) (q0 : NA) (hN : NetI w a b n q v4 v7 v8) (hr : NetR 103 w0 n q0) (D : Lay lo hi a b) (hhi : hi ≤ w.heap.size) (k0 : 0 ≤ k) (k1 : k ≤ 1000000) :
    Calls Tryz.prog 15 #[.agg (netCells n q), .int .i64 k] w fun e w' => (∃ r, e = .returned (.int .i64 r) ∧ 0 ≤ r ∧ r ≤ 200000000000000) ∧ Chg lo hi w w' := by
  have H := Lib.hid hr
  clear hr
  obtain ⟨U1, U2, U3, ap, U4, U5, U6, U7, U8⟩ := hN
  have d0 := D.inn 0 (by decide)
  have d1 := D.inn 1 (by decide)
  have d2 := D.inn 2 (by decide)
  have d3 := D.inn 3 (by decide)
  have d4 := D.inn 4 (by decide)
  have d5 := D.inn 5 (by decide)
  have d6 := D.inn 6 (by decide)
  have l1 := H.out.h1
  have l2 := H.out.h2
  have l3 := H.out.h3
  have l4 := H.out.h4
  have l5 := H.out.h5
  have l6 := H.out.h6
  have l7 := H.out.h7
  have l8 := H.out.h8
  have m4 := totTo_le H.out.h9 n.bufs.length (Nat.le_refl _)
  have m7 := totTo_le H.out.h10 n.srcs.length (Nat.le_refl _)
  have m8 := totTo_le H.out.h11 n.arrs.length (Nat.le_refl _)
  have B : Box (w.alloc (.cells #[.int .i64 n.mesh.g.w, .int .i64 n.mesh.g.h, .slice q.a1 n.mesh.br.length q.c1, .slice q.a2 n.pa.length q.c2, .slice q.a3 n.pb.length q.c3, .slice q.a4 n.bufs.length q.c4, .slice q.a5 n.owners.length q.c5, .slice q.a6 n.turns.length q.c6, .slice q.a7 n.srcs.length q.c7, .slice q.a8 n.arrs.length q.c8, .int .i64 n.time] 43)) w.heap.size #[.int .i64 n.mesh.g.w, .int .i64 n.mesh.g.h, .slice q.a1 n.mesh.br.length q.c1, .slice q.a2 n.pa.length q.c2, .slice q.a3 n.pb.length q.c3, .slice q.a4 n.bufs.length q.c4, .slice q.a5 n.owners.length q.c5, .slice q.a6 n.turns.length q.c6, .slice q.a7 n.srcs.length q.c7, .slice q.a8 n.arrs.length q.c8, .int .i64 n.time] := Box.new w _ _ _ rfl
  have G : Chg lo hi w (w.alloc (.cells #[.int .i64 n.mesh.g.w, .int .i64 n.mesh.g.h, .slice q.a1 n.mesh.br.length q.c1, .slice q.a2 n.pa.length q.c2, .slice q.a3 n.pb.length q.c3, .slice q.a4 n.bufs.length q.c4, .slice q.a5 n.owners.length q.c5, .slice q.a6 n.turns.length q.c6, .slice q.a7 n.srcs.length q.c7, .slice q.a8 n.arrs.length q.c8, .int .i64 n.time] 43)) := Chg.of_below (bw_alloc _ (bw_refl w))
  replace U1 := RU.bel (bw_alloc (.cells #[.int .i64 n.mesh.g.w, .int .i64 n.mesh.g.h, .slice q.a1 n.mesh.br.length q.c1, .slice q.a2 n.pa.length q.c2, .slice q.a3 n.pb.length q.c3, .slice q.a4 n.bufs.length q.c4, .slice q.a5 n.owners.length q.c5, .slice q.a6 n.turns.length q.c6, .slice q.a7 n.srcs.length q.c7, .slice q.a8 n.arrs.length q.c8, .int .i64 n.time] 43) (bw_refl w)) U1
  replace U2 := RU.bel (bw_alloc (.cells #[.int .i64 n.mesh.g.w, .int .i64 n.mesh.g.h, .slice q.a1 n.mesh.br.length q.c1, .slice q.a2 n.pa.length q.c2, .slice q.a3 n.pb.length q.c3, .slice q.a4 n.bufs.length q.c4, .slice q.a5 n.owners.length q.c5, .slice q.a6 n.turns.length q.c6, .slice q.a7 n.srcs.length q.c7, .slice q.a8 n.arrs.length q.c8, .int .i64 n.time] 43) (bw_refl w)) U2
  replace U3 := RU.bel (bw_alloc (.cells #[.int .i64 n.mesh.g.w, .int .i64 n.mesh.g.h, .slice q.a1 n.mesh.br.length q.c1, .slice q.a2 n.pa.length q.c2, .slice q.a3 n.pb.length q.c3, .slice q.a4 n.bufs.length q.c4, .slice q.a5 n.owners.length q.c5, .slice q.a6 n.turns.length q.c6, .slice q.a7 n.srcs.length q.c7, .slice q.a8 n.arrs.length q.c8, .int .i64 n.time] 43) (bw_refl w)) U3
  replace U4 := OB.bel (bw_alloc (.cells #[.int .i64 n.mesh.g.w, .int .i64 n.mesh.g.h, .slice q.a1 n.mesh.br.length q.c1, .slice q.a2 n.pa.length q.c2, .slice q.a3 n.pb.length q.c3, .slice q.a4 n.bufs.length q.c4, .slice q.a5 n.owners.length q.c5, .slice q.a6 n.turns.length q.c6, .slice q.a7 n.srcs.length q.c7, .slice q.a8 n.arrs.length q.c8, .int .i64 n.time] 43) (bw_refl w)) U4
  replace U5 := RU.bel (bw_alloc (.cells #[.int .i64 n.mesh.g.w, .int .i64 n.mesh.g.h, .slice q.a1 n.mesh.br.length q.c1, .slice q.a2 n.pa.length q.c2, .slice q.a3 n.pb.length q.c3, .slice q.a4 n.bufs.length q.c4, .slice q.a5 n.owners.length q.c5, .slice q.a6 n.turns.length q.c6, .slice q.a7 n.srcs.length q.c7, .slice q.a8 n.arrs.length q.c8, .int .i64 n.time] 43) (bw_refl w)) U5
  replace U6 := RU.bel (bw_alloc (.cells #[.int .i64 n.mesh.g.w, .int .i64 n.mesh.g.h, .slice q.a1 n.mesh.br.length q.c1, .slice q.a2 n.pa.length q.c2, .slice q.a3 n.pb.length q.c3, .slice q.a4 n.bufs.length q.c4, .slice q.a5 n.owners.length q.c5, .slice q.a6 n.turns.length q.c6, .slice q.a7 n.srcs.length q.c7, .slice q.a8 n.arrs.length q.c8, .int .i64 n.time] 43) (bw_refl w)) U6
  replace U7 := OB.bel (bw_alloc (.cells #[.int .i64 n.mesh.g.w, .int .i64 n.mesh.g.h, .slice q.a1 n.mesh.br.length q.c1, .slice q.a2 n.pa.length q.c2, .slice q.a3 n.pb.length q.c3, .slice q.a4 n.bufs.length q.c4, .slice q.a5 n.owners.length q.c5, .slice q.a6 n.turns.length q.c6, .slice q.a7 n.srcs.length q.c7, .slice q.a8 n.arrs.length q.c8, .int .i64 n.time] 43) (bw_refl w)) U7
  replace U8 := OB.bel (bw_alloc (.cells #[.int .i64 n.mesh.g.w, .int .i64 n.mesh.g.h, .slice q.a1 n.mesh.br.length q.c1, .slice q.a2 n.pa.length q.c2, .slice q.a3 n.pb.length q.c3, .slice q.a4 n.bufs.length q.c4, .slice q.a5 n.owners.length q.c5, .slice q.a6 n.turns.length q.c6, .slice q.a7 n.srcs.length q.c7, .slice q.a8 n.arrs.length q.c8, .int .i64 n.time] 43) (bw_refl w)) U8
  unfold netCells
  go_enter Tryz.func15, Tryz.ntmps15
  obtain ⟨y, g⟩ := B
  go_wp2_with fail
  refine (laws_markMesh n.mesh k q.a1 q.c1 (a 0) _ U1.row l1 k0 (by omega)).mono ?_
  rintro e w1 ⟨rfl, hg1⟩
  have G1 := Chg.of_grown hg1 U1.within
  replace U2 := U2.chg G1 (D.dis 1 0 (by decide) (by decide) (by decide))
  replace U3 := U3.chg G1 (D.dis 1 0 (by decide) (by decide) (by decide))
  replace U4 := U4.chg G1 (D.dis 2 0 (by decide) (by decide) (by decide))
  replace U5 := U5.chg G1 (D.dis 3 0 (by decide) (by decide) (by decide))
  replace U6 := U6.chg G1 (D.dis 4 0 (by decide) (by decide) (by decide))
  replace U7 := U7.chg G1 (D.dis 5 0 (by decide) (by decide) (by decide))
  replace U8 := U8.chg G1 (D.dis 6 0 (by decide) (by decide) (by decide))
  have B := Box.chg ⟨y, g⟩ G1 (.inr (by omega))
  replace G := G.trans (G1.wide (by omega) (by omega))
  clear y g hg1 G1 U1
  obtain ⟨y, g⟩ := B
  obtain ⟨r1, er1⟩ : ∃ r, k + (n.mesh.br.length : Int) = r := ⟨_, rfl⟩
  have rl1 : 0 ≤ r1 := by omega
  have ru1 : r1 ≤ 4000000 := by omega
  rw [er1]
  clear er1
  go_wp2_with fail
  refine (laws_markClasses n.pa n.pb r1 q.a2 q.a3 q.c2 q.c3 (a 1) _ U2.row U3.row ap l2 l3 rl1 (by omega)).mono ?_
  rintro e w2 ⟨rfl, wm, hg1, hg2⟩
  have G1 := (Chg.of_grown hg1 U2.within).trans (Chg.of_grown hg2 U3.within)
  replace U4 := U4.chg G1 (D.dis 2 1 (by decide) (by decide) (by decide))
  replace U5 := U5.chg G1 (D.dis 3 1 (by decide) (by decide) (by decide))
  replace U6 := U6.chg G1 (D.dis 4 1 (by decide) (by decide) (by decide))
  replace U7 := U7.chg G1 (D.dis 5 1 (by decide) (by decide) (by decide))
  replace U8 := U8.chg G1 (D.dis 6 1 (by decide) (by decide) (by decide))
  have B := Box.chg ⟨y, g⟩ G1 (.inr (by omega))
  replace G := G.trans (G1.wide (by omega) (by omega))
  clear y g hg1 hg2 G1 U2 U3
  obtain ⟨y, g⟩ := B
  obtain ⟨r2, er2⟩ : ∃ r, r1 + (n.pa.length : Int) + (n.pb.length : Int) = r := ⟨_, rfl⟩
  have rl2 : 0 ≤ r2 := by omega
  have ru2 : r2 ≤ 10000000 := by omega
  rw [er2]
  clear er2
  go_wp2_with fail
  refine (laws_markFlitSS n.bufs v4 r2 q.a4 q.c4 (a 2) (b 2) _ U4 (by omega) l4 (Lib.hid H.out.h9) rl2 (by omega)).mono ?_
  rintro e w3 ⟨rfl, _, G1⟩
  replace U5 := U5.chg G1 (D.dis 3 2 (by decide) (by decide) (by decide))
  replace U6 := U6.chg G1 (D.dis 4 2 (by decide) (by decide) (by decide))
  replace U7 := U7.chg G1 (D.dis 5 2 (by decide) (by decide) (by decide))
  replace U8 := U8.chg G1 (D.dis 6 2 (by decide) (by decide) (by decide))
  have B := Box.chg ⟨y, g⟩ G1 (.inr (by omega))
  replace G := G.trans (G1.wide (by omega) (by omega))
  clear y g G1 U4
  obtain ⟨y, g⟩ := B
  obtain ⟨r3, er3⟩ : ∃ r, r2 + 5 * (totTo n.bufs n.bufs.length : Int) = r := ⟨_, rfl⟩
  have rl3 : 0 ≤ r3 := by omega
  have ru3 : r3 ≤ 40000000000000 := by omega
  rw [er3]
  clear er3
  go_wp2_with fail
  refine (laws_markIntS n.owners r3 q.a5 q.c5 (a 3) _ U5.row l5 rl3 (by omega)).mono ?_
  rintro e w4 ⟨rfl, _, hg1⟩
  have G1 := Chg.of_grown hg1 U5.within
  replace U6 := U6.chg G1 (D.dis 4 3 (by decide) (by decide) (by decide))
  replace U7 := U7.chg G1 (D.dis 5 3 (by decide) (by decide) (by decide))
  replace U8 := U8.chg G1 (D.dis 6 3 (by decide) (by decide) (by decide))
  have B := Box.chg ⟨y, g⟩ G1 (.inr (by omega))
  replace G := G.trans (G1.wide (by omega) (by omega))
  clear y g hg1 G1 U5
  obtain ⟨y, g⟩ := B
  obtain ⟨r4, er4⟩ : ∃ r, r3 + (n.owners.length : Int) = r := ⟨_, rfl⟩
  have rl4 : 0 ≤ r4 := by omega
  have ru4 : r4 ≤ 80000000000000 := by omega
  rw [er4]
  clear er4
  go_wp2_with fail
  refine (laws_markIntS n.turns r4 q.a6 q.c6 (a 4) _ U6.row l6 rl4 (by omega)).mono ?_
  rintro e w5 ⟨rfl, _, hg1⟩
  have G1 := Chg.of_grown hg1 U6.within
  replace U7 := U7.chg G1 (D.dis 5 4 (by decide) (by decide) (by decide))
  replace U8 := U8.chg G1 (D.dis 6 4 (by decide) (by decide) (by decide))
  have B := Box.chg ⟨y, g⟩ G1 (.inr (by omega))
  replace G := G.trans (G1.wide (by omega) (by omega))
  clear y g hg1 G1 U6
  obtain ⟨y, g⟩ := B
  obtain ⟨r5, er5⟩ : ∃ r, r4 + (n.turns.length : Int) = r := ⟨_, rfl⟩
  have rl5 : 0 ≤ r5 := by omega
  have ru5 : r5 ≤ 120000000000000 := by omega
  rw [er5]
  clear er5
  go_wp2_with fail
  refine (laws_markFlitSS n.srcs v7 r5 q.a7 q.c7 (a 5) (b 5) _ U7 (by omega) l7 (Lib.hid H.out.h10) rl5 (by omega)).mono ?_
  rintro e w6 ⟨rfl, _, G1⟩
  replace U8 := U8.chg G1 (D.dis 6 5 (by decide) (by decide) (by decide))
  have B := Box.chg ⟨y, g⟩ G1 (.inr (by omega))
  replace G := G.trans (G1.wide (by omega) (by omega))
  clear y g G1 U7
  obtain ⟨y, g⟩ := B
  obtain ⟨r6, er6⟩ : ∃ r, r5 + 5 * (totTo n.srcs n.srcs.length : Int) = r := ⟨_, rfl⟩
  have rl6 : 0 ≤ r6 := by omega
  have ru6 : r6 ≤ 160000000000000 := by omega
  rw [er6]
  clear er6
  go_wp2_with fail
  refine (laws_markFlitSS n.arrs v8 r6 q.a8 q.c8 (a 6) (b 6) _ U8 (by omega) l8 (Lib.hid H.out.h11) rl6 (by omega)).mono ?_
  rintro e w7 ⟨rfl, _, G1⟩
  have B := Box.chg ⟨y, g⟩ G1 (.inr (by omega))
  replace G := G.trans (G1.wide (by omega) (by omega))
  clear y g G1 U8
  obtain ⟨y, g⟩ := B
  go_wp2
  go_ret
  exact ⟨⟨_, rfl, by omega, by omega⟩, G⟩
end Go.Proofs.YteeebfeljjghhaaGreat
/- The laws' marks on rows of packets. For all rows of at most a million elements. -/
set_option linter.unusedVariables false
set_option linter.unusedSimpArgs false
namespace Go.Proofs.YteeebfeljjghhaaGreat
open Go.RowKit Go.Proofs.YteeebfeljjghhaaGreatW.PrintWords
open NoC

def markQ (k : Int) (j : Nat) : Packet := ⟨k + 5 * j, k + 5 * j + 1, k + 5 * j + 1 + 1, k + 5 * j + 1 + 1 + 1, k + 5 * j + 1 + 1 + 1 + 1⟩
def markP (k : Int) (n : Nat) : List Packet := (List.range n).map (markQ k)
theorem markP_len (k : Int) (n : Nat) : (markP k n).length = n := by simp [markP]
theorem markP_get (k : Int) (n j : Nat) (h : j < n) : rp (markP k n) j = markQ k j := by
  simp [rp, markP, List.getD_eq_getElem?_getD, h]
theorem rowP_set {e base g m c : Nat} {w : World} {xs : List Packet} (h : kP.R e w base (fun _ => True) (.slice (some ⟨g, 0, none⟩) m c) xs) (k : Nat) (hk : k < m) (p : Packet) :
    kP.R e (((((w.setCell ⟨g, k * 5, none⟩ (.int .i64 p.id)).setCell ⟨g, k * 5 + 1, none⟩ (.int .i64 p.src)).setCell ⟨g, k * 5 + 2, none⟩ (.int .i64 p.dst)).setCell ⟨g, k * 5 + 3, none⟩ (.int .i64 p.cls)).setCell ⟨g, k * 5 + 4, none⟩ (.int .i64 p.len)) base (fun _ => True) (.slice (some ⟨g, 0, none⟩) m c) (xs.set k p) ∧
    w.grownBy (((((w.setCell ⟨g, k * 5, none⟩ (.int .i64 p.id)).setCell ⟨g, k * 5 + 1, none⟩ (.int .i64 p.src)).setCell ⟨g, k * 5 + 2, none⟩ (.int .i64 p.dst)).setCell ⟨g, k * 5 + 3, none⟩ (.int .i64 p.cls)).setCell ⟨g, k * 5 + 4, none⟩ (.int .i64 p.len)) (some g) := by
  have hc := rowF_cell zp h k hk
  have := Kd.R_seg (d := kP) h (k : Int) (by omega) (by omega) (c := pkCells (xs.getD k zp)) (seg := pkCells p) (j := 0) (okp := fun _ => False) (x' := p) rfl (fun j u hu => hc.1 j u hu) (by show 0 + 5 ≤ 5; omega) rfl (fun _ h => h.elim)
  exact this

set_option maxHeartbeats 2000000 in
theorem laws_markPacketS (l : List Packet) (k : Int) (A : Option Addr) (c base : Nat) (w : World) (HO0 : kP.R 89 w base (fun _ => True) (.slice A l.length c) l) (hn : l.length ≤ 2097152) (k0 : 0 ≤ k) (k1 : k ≤ 100000000000000000) :
    Calls Tryz.prog 32 #[.slice A l.length c, .int .i64 k] w fun e w' => e = .returned (.int .i64 (k + 5 * l.length)) ∧ kP.R 89 w' base (fun _ => True) (.slice A l.length c) (markP k l.length) ∧ w.grownBy w' (Value.slice A l.length c).ownBlock := by
  go_enter Tryz.func32, Tryz.ntmps32
  go_wp2
  go_loopw [1, 5] (fun v i wr => ∃ (j : Nat) (x : List Packet), i = .int .i64 j ∧ v = .int .i64 (k + 5 * j) ∧ j ≤ l.length ∧ Hid (x.length = l.length) ∧ Hid (∀ q : Nat, q < j → rp x q = markQ k q) ∧ kP.R 89 wr base (fun _ => True) (.slice A l.length c) x ∧ w.grownBy wr (Value.slice A l.length c).ownBlock) (fun _ i _ => l.length - (intOf i).toNat)
  case atStart => exact ⟨0, l, rfl, by simp, Nat.zero_le _, Lib.hid rfl, Lib.hid fun q h => absurd h (Nat.not_lt_zero _), HO0, World.grownBy.refl _ _⟩
  case round =>
    obtain ⟨j, x, rfl, rfl, hj, HL, HA, HO, HG⟩ := hrel
    by_cases hlt : j < l.length
    · obtain ⟨g, cap, hv, hgb, hgl, cells, HGC⟩ := Kd.R_form HO (by have := HL.out; omega)
      injection hv with hv1 hv2 hv3
      subst hv1
      subst hv3
      clear HGC hv2
      obtain ⟨hcc, hff⟩ := rowF_cell zp HO j hlt
      have x0 : wr.cell? ⟨g, j * 5, none⟩ = some (.int .i64 (rp x j).id) := hcc 0 _ rfl
      have x1 : wr.cell? ⟨g, j * 5 + 1, none⟩ = some (.int .i64 (rp x j).src) := hcc 1 _ rfl
      have x2 : wr.cell? ⟨g, j * 5 + 2, none⟩ = some (.int .i64 (rp x j).dst) := hcc 2 _ rfl
      have x3 : wr.cell? ⟨g, j * 5 + 3, none⟩ = some (.int .i64 (rp x j).cls) := hcc 3 _ rfl
      have x4 : wr.cell? ⟨g, j * 5 + 4, none⟩ = some (.int .i64 (rp x j).len) := hcc 4 _ rfl
      have f0 : wr.frozen? ⟨g, j * 5, none⟩ = false := hff 0
      have f1 := hff 1
      have f2 := hff 2
      have f3 := hff 3
      have f4 := hff 4
      have HP := rowP_set HO j hlt (markQ k j)
      have HS := Lib.hid HP
      clear HP hcc hff
      go_wp2
      go_roundw
      case rel => exact ⟨j + 1, x.set j (markQ k j), by go_num, by first | (push_cast; congr 1; omega) | (congr 1; push_cast; omega), by omega, Lib.hid (by rw [List.length_set]; exact HL.out), Lib.hid (upto (fun q hq => by rw [set_getP (by have := HL.out; omega) q (by have := HL.out; omega), if_neg (by omega)]; exact HA.out q hq) (by rw [set_getP (by have := HL.out; omega) j (by have := HL.out; omega), if_pos rfl])), HS.out.1, grown_trans HG HS.out.2⟩
      case measure => simp [intOf]; omega
    · go_wp2
      go_ret
      have e : x = markP k l.length := same_getP (by rw [HL.out, markP_len]) (fun q hq => by rw [markP_len] at hq; rw [HA.out q (by omega), markP_get _ _ _ hq])
      subst e
      exact ⟨ret_int (by rw [show j = l.length by omega]), HO, HG⟩
end Go.Proofs.YteeebfeljjghhaaGreat
