/- The law FnExactMissing, walked: it answers true for all arguments. -/
import Derived.Test.YtinnfahmfggghaaMis
import Derived.Test.YtinnfahmfggghaaNetS
import Derived.Test.YtinnfahmfggghaaNetK
import Derived.Test.YtinnfahmfggghaaLawP
import Derived.Test.YtinnfahmfggghaaMarkP
set_option linter.unusedVariables false
set_option linter.unusedSimpArgs false
namespace Go.Proofs.Ytinnfahmfggghaa
open Go.RowKit Go.Proofs.YtinnfahmfggghaaW.PrintWords
open NoC

set_option maxHeartbeats 8000000 in
set_option maxRecDepth 100000 in
theorem law_Missing (n : Net) (l : List Packet) (q : NA) (lA : Option Addr) (lc : Nat) (w : World) (hn : NetC w n q) (hl : kP.C w lA l.length l) (hln : l.length ≤ 140737488355328) :
    Calls Try.prog 7 #[.agg (netCells n q), .slice lA l.length lc] w fun e w' => e = .returned (.bool true) ∧ Below w.heap.size w w' := by
  have HC := Lib.hid hn
  clear hn
  have Hl := Lib.hid hl
  clear hl
  obtain ⟨a1, a2, a3, a4, a5, a6, a7, a8, c1, c2, c3, c4, c5, c6, c7, c8⟩ := q
  have VD : ∃ res, missN n l = res := ⟨_, rfl⟩
  obtain ⟨res, hres0⟩ := VD
  have HRES := Lib.hid hres0
  clear hres0
  dsimp only [netCells]
  have B3 : Box (w.alloc (.cells #[.int .i64 n.mesh.g.w, .int .i64 n.mesh.g.h, .slice a1 n.mesh.br.length c1, .slice a2 n.pa.length c2, .slice a3 n.pb.length c3, .slice a4 n.bufs.length c4, .slice a5 n.owners.length c5, .slice a6 n.turns.length c6, .slice a7 n.srcs.length c7, .slice a8 n.arrs.length c8, .int .i64 n.time] 46)) w.heap.size #[.int .i64 n.mesh.g.w, .int .i64 n.mesh.g.h, .slice a1 n.mesh.br.length c1, .slice a2 n.pa.length c2, .slice a3 n.pb.length c3, .slice a4 n.bufs.length c4, .slice a5 n.owners.length c5, .slice a6 n.turns.length c6, .slice a7 n.srcs.length c7, .slice a8 n.arrs.length c8, .int .i64 n.time] := Box.new w _ _ _ rfl
  have H0 : Below w.heap.size w (w.alloc (.cells #[.int .i64 n.mesh.g.w, .int .i64 n.mesh.g.h, .slice a1 n.mesh.br.length c1, .slice a2 n.pa.length c2, .slice a3 n.pb.length c3, .slice a4 n.bufs.length c4, .slice a5 n.owners.length c5, .slice a6 n.turns.length c6, .slice a7 n.srcs.length c7, .slice a8 n.arrs.length c8, .int .i64 n.time] 46)) := bw_alloc _ (bw_refl w)
  obtain ⟨y3, g3⟩ := B3
  go_enter Try.func7, Try.ntmps7
  go_wp2_with fail
  refine (laws_szNet n _ 1048576 _ (HC.out.below H0) (by omega) (by omega)).mono ?_
  rintro e wa ⟨r, rfl, rlo, rhi, KB, hb1⟩
  have sA := bw_size hb1
  simp only [World.size_alloc, World.size_setCell, World.size_drew, sz_drewN] at sA
  replace H0 := bw_then H0 hb1
  have B3 := Box.below ⟨y3, g3⟩ hb1
  clear y3 g3
  obtain ⟨y3, g3⟩ := B3
  clear hb1
  by_cases hneg : r < 0
  · go_wp2
    go_ret
    exact ⟨rfl, H0⟩
  have R := Lib.hid (HC.out.bound (KB.out (by omega)))
  clear HC KB
  go_wp2_with fail
  refine (laws_szPacketS l r lA lc _ hln (by omega) (by omega)).mono ?_
  rintro e w' ⟨rfl, rfl⟩
  by_cases hs9 : szN l.length r < 0
  · go_wp2
    go_ret
    exact ⟨rfl, H0⟩
  have hlb : l.length ≤ 1048576 := by
    unfold szN at hs9
    split at hs9 <;> omega
  have hres : res.length ≤ 1048576 := by rw [← HRES.out]; first | exact Missing_len R.out l | exact Missing_len R.out l hlb
  go_wp2_with fail
  refine (laws_toNet n _ _ (R.out.below H0)).mono ?_
  rintro e wb ⟨⟨⟨e1, e2, e3, e4, e5, e6, e7, e8, ec1, ec2, ec3, ec4, ec5, ec6, ec7, ec8⟩, rfl, HT⟩, hb1⟩
  have HT1 := Lib.hid (HT.reads R.out)
  clear HT
  have swb := bw_size hb1
  dsimp only [netCells]
  replace H0 := bw_then H0 hb1
  have B3 := Box.below ⟨y3, g3⟩ hb1
  clear y3 g3
  obtain ⟨y3, g3⟩ := B3
  clear hb1
  go_wp2_with fail
  refine (laws_toPacketS l lA lc _ (Kd.C_below Hl.out H0) hlb).mono ?_
  rintro e wl1 ⟨hg, hb1⟩
  obtain ⟨vl1, rfl, HO⟩ := hg
  obtain ⟨Al1, dl1, rfl, _, HRl1⟩ := Kd.R_reads HO
  have Tl1 := Lib.hid HRl1
  clear HRl1 HO
  have swl1 := bw_size hb1
  replace HT1 := Lib.hid (HT1.out.below hb1)
  replace H0 := bw_then H0 hb1
  have B3 := Box.below ⟨y3, g3⟩ hb1
  clear y3 g3
  obtain ⟨y3, g3⟩ := B3
  clear hb1
  go_wp2_with fail
  refine (spec_Missing n l _ Al1 dl1 _ HT1.out Tl1.out hlb).mono ?_
  rintro e wc ⟨hg, hb1⟩
  rw [HRES.out] at hg
  obtain ⟨vwc, rfl, HO⟩ := hg
  obtain ⟨Awc, Cwc, rfl⟩ := Kd.R_slice HO
  have Uwc := RU.of HO (Nat.le_refl _) (Nat.le_refl _)
  clear HO
  have swc := bw_size hb1
  replace H0 := bw_then H0 hb1
  have B3 := Box.below ⟨y3, g3⟩ hb1
  clear y3 g3
  obtain ⟨y3, g3⟩ := B3
  replace Tl1 := Lib.hid (Kd.C_below Tl1.out hb1)
  clear hb1
  clear HT1
  go_wp2_with fail
  refine (laws_toNet2 n _ _ (R.out.below H0)).mono ?_
  rintro e wd ⟨⟨⟨p1, p2, p3, p4, p5, p6, p7, p8, d1, d2, d3, d4, d5, d6, d7, d8⟩, aN, bN, v4, v7, v8, rfl, DL, HN⟩, hb1⟩
  have swd := bw_size hb1
  dsimp only [netCells]
  replace H0 := bw_then H0 hb1
  have B3 := Box.below ⟨y3, g3⟩ hb1
  clear y3 g3
  obtain ⟨y3, g3⟩ := B3
  replace Uwc := Uwc.below hb1
  replace Tl1 := Lib.hid (Kd.C_below Tl1.out hb1)
  clear hb1
  have hbX : Below wd.heap.size wd (wd.alloc (.cells #[.int .i64 n.mesh.g.w, .int .i64 n.mesh.g.h, .slice p1 n.mesh.br.length d1, .slice p2 n.pa.length d2, .slice p3 n.pb.length d3, .slice p4 n.bufs.length d4, .slice p5 n.owners.length d5, .slice p6 n.turns.length d6, .slice p7 n.srcs.length d7, .slice p8 n.arrs.length d8, .int .i64 n.time] 33)) := bw_alloc _ (bw_refl wd)
  have B5 : Box (wd.alloc (.cells #[.int .i64 n.mesh.g.w, .int .i64 n.mesh.g.h, .slice p1 n.mesh.br.length d1, .slice p2 n.pa.length d2, .slice p3 n.pb.length d3, .slice p4 n.bufs.length d4, .slice p5 n.owners.length d5, .slice p6 n.turns.length d6, .slice p7 n.srcs.length d7, .slice p8 n.arrs.length d8, .int .i64 n.time] 33)) wd.heap.size #[.int .i64 n.mesh.g.w, .int .i64 n.mesh.g.h, .slice p1 n.mesh.br.length d1, .slice p2 n.pa.length d2, .slice p3 n.pb.length d3, .slice p4 n.bufs.length d4, .slice p5 n.owners.length d5, .slice p6 n.turns.length d6, .slice p7 n.srcs.length d7, .slice p8 n.arrs.length d8, .int .i64 n.time] := Box.new wd _ _ _ rfl
  have sX : (wd.alloc (.cells #[.int .i64 n.mesh.g.w, .int .i64 n.mesh.g.h, .slice p1 n.mesh.br.length d1, .slice p2 n.pa.length d2, .slice p3 n.pb.length d3, .slice p4 n.bufs.length d4, .slice p5 n.owners.length d5, .slice p6 n.turns.length d6, .slice p7 n.srcs.length d7, .slice p8 n.arrs.length d8, .int .i64 n.time] 33)).heap.size = wd.heap.size + 1 := World.size_alloc _ _
  replace H0 := bw_then H0 hbX
  have B3 := Box.below ⟨y3, g3⟩ hbX
  clear y3 g3
  obtain ⟨y3, g3⟩ := B3
  replace Uwc := Uwc.below hbX
  replace HN := HN.below hbX
  replace Tl1 := Lib.hid (Kd.C_below Tl1.out hbX)
  go_wp2_with fail
  generalize wd.alloc (.cells #[.int .i64 n.mesh.g.w, .int .i64 n.mesh.g.h, .slice p1 n.mesh.br.length d1, .slice p2 n.pa.length d2, .slice p3 n.pb.length d3, .slice p4 n.bufs.length d4, .slice p5 n.owners.length d5, .slice p6 n.turns.length d6, .slice p7 n.srcs.length d7, .slice p8 n.arrs.length d8, .int .i64 n.time] 33) = we at *
  clear hbX
  have sX1 : wd.heap.size + 1 ≤ we.heap.size := Nat.le_of_eq sX.symm
  clear sX
  obtain ⟨y5, g5⟩ := B5
  go_wp2_with fail
  refine (laws_toPacketS l lA lc _ (Kd.C_below Hl.out H0) hlb).mono ?_
  rintro e wl2 ⟨hg, hb1⟩
  obtain ⟨vl2, rfl, HO⟩ := hg
  obtain ⟨Al2, dl2, rfl⟩ := Kd.R_slice HO
  have Ul2 := RU.of HO (Nat.le_refl _) (Nat.le_refl _)
  clear HO
  have swl2 := bw_size hb1
  replace H0 := bw_then H0 hb1
  have B3 := Box.below ⟨y3, g3⟩ hb1
  clear y3 g3
  obtain ⟨y3, g3⟩ := B3
  have B5 := Box.below ⟨y5, g5⟩ hb1
  clear y5 g5
  obtain ⟨y5, g5⟩ := B5
  replace Uwc := Uwc.below hb1
  replace HN := HN.below hb1
  replace Tl1 := Lib.hid (Kd.C_below Tl1.out hb1)
  clear hb1
  go_wp2_with fail
  refine (impl_Missing n l _ Al2 dl2 _ (HN.reads R.out) Ul2.reads.2.2 hlb).mono ?_
  rintro e wf ⟨hg, hb1⟩
  rw [HRES.out] at hg
  obtain ⟨vg, rfl, HO⟩ := hg
  obtain ⟨Ag, Cg, rfl⟩ := Kd.R_slice HO
  have Ug := RU.of HO (Nat.le_refl _) (Nat.le_refl _)
  clear HO
  have swf := bw_size hb1
  replace H0 := bw_then H0 hb1
  have B3 := Box.below ⟨y3, g3⟩ hb1
  clear y3 g3
  obtain ⟨y3, g3⟩ := B3
  have B5 := Box.below ⟨y5, g5⟩ hb1
  clear y5 g5
  obtain ⟨y5, g5⟩ := B5
  replace Uwc := Uwc.below hb1
  replace Ul2 := Ul2.below hb1
  replace HN := HN.below hb1
  replace Tl1 := Lib.hid (Kd.C_below Tl1.out hb1)
  clear hb1
  go_wp2_with fail
  refine (laws_eqIntS res res _ _ _ _ _ Ug.reads.2.2 Uwc.reads.2.2 hres hres).mono ?_
  rintro e wg ⟨he, hb1⟩
  rw [eqL_self] at he
  subst he
  replace H0 := bw_then H0 hb1
  have B3 := Box.below ⟨y3, g3⟩ hb1
  clear y3 g3
  obtain ⟨y3, g3⟩ := B3
  have B5 := Box.below ⟨y5, g5⟩ hb1
  clear y5 g5
  obtain ⟨y5, g5⟩ := B5
  replace Uwc := Uwc.below hb1
  replace Ul2 := Ul2.below hb1
  replace Ug := Ug.below hb1
  replace HN := HN.below hb1
  replace Tl1 := Lib.hid (Kd.C_below Tl1.out hb1)
  clear hb1
  have RR := Lib.hid (R.out.below H0)
  have XX := Lib.hid (HN.reads R.out)
  go_wp2_with fail
  go_region_held3 (fun w' => Below (wg).heap.size (wg) w' ∧ ∀ bq oq, bq < (wg).heap.size → w'.cell? ⟨bq, oq, none⟩ = (wg).cell? ⟨bq, oq, none⟩) (first | exact far_of (by with_reducible repeat (first | assumption | exact bw_refl _ | apply bw_alloc | apply bw_drew | apply bw_drewN | refine bw_set _ ?_ (by omega) | refine bw_then ?_ (by assumption)))) ( first | (go_at_call 18; refine (laws_toNet n _ _ (RR.out.below (by with_reducible repeat (first | assumption | exact bw_refl _ | apply bw_alloc | apply bw_drew | apply bw_drewN | refine bw_set _ ?_ (by omega) | refine bw_then ?_ (by assumption))))).mono ?_; rintro e w1 ⟨⟨qT, rfl, HT⟩, hb1⟩; obtain ⟨f1, f2, f3, f4, f5, f6, f7, f8, h1, h2, h3, h4, h5, h6, h7, h8⟩ := qT; have HT3 := Lib.hid (HT.reads RR.out); clear HT; dsimp only [netCells]; obtain ⟨hc1, hf1, hz1⟩ := bcell hb1; (try simp only [World.size_alloc, World.size_setCell, World.size_drew, sz_drewN] at hz1); have hb2 := (by first | exact bw_then hb2 hb1 | exact bw_then (bw_drewN _ hb2) hb1 | exact bw_then (bw_alloc _ hb2) hb1 | exact bw_then (bw_drew hb2) hb1 | exact bw_then HB hb1 | exact bw_then (bw_drewN _ HB) hb1 | exact bw_then (bw_alloc _ HB) hb1 | exact bw_then (bw_drew HB) hb1 | exact hb1); obtain ⟨hc2, hf2, hz2⟩ := bcell hb2; (try simp only [World.size_alloc, World.size_setCell, World.size_drew, sz_drewN] at hz2); try (first | obtain ⟨hy1, hy2, hy3, hy4⟩ := lts4 hz2 | obtain ⟨hy1, hy2, hy3⟩ := lts3 hz2 | obtain ⟨hy1, hy2⟩ := lts2 hz2 | have hy1 := lts1 hz2); have hb9 := hb1) | (go_at_call 13; refine (laws_eqNet n _ _ _ (XX.out.below (by with_reducible repeat (first | assumption | exact bw_refl _ | apply bw_alloc | apply bw_drew | apply bw_drewN | refine bw_set _ ?_ (by omega) | refine bw_then ?_ (by assumption)))) (HT3.out.below (by with_reducible repeat (first | assumption | exact bw_refl _ | apply bw_alloc | apply bw_drew | apply bw_drewN | refine bw_set _ ?_ (by omega) | refine bw_then ?_ (by assumption))))).mono ?_; rintro e w1 ⟨rfl, hb1⟩; obtain ⟨hc1, hf1, hz1⟩ := bcell hb1; (try simp only [World.size_alloc, World.size_setCell, World.size_drew, sz_drewN] at hz1); have hb2 := (by first | exact bw_then hb2 hb1 | exact bw_then (bw_drewN _ hb2) hb1 | exact bw_then (bw_alloc _ hb2) hb1 | exact bw_then (bw_drew hb2) hb1 | exact bw_then HB hb1 | exact bw_then (bw_drewN _ HB) hb1 | exact bw_then (bw_alloc _ HB) hb1 | exact bw_then (bw_drew HB) hb1 | exact hb1); obtain ⟨hc2, hf2, hz2⟩ := bcell hb2; (try simp only [World.size_alloc, World.size_setCell, World.size_drew, sz_drewN] at hz2); try (first | obtain ⟨hy1, hy2, hy3, hy4⟩ := lts4 hz2 | obtain ⟨hy1, hy2, hy3⟩ := lts3 hz2 | obtain ⟨hy1, hy2⟩ := lts2 hz2 | have hy1 := lts1 hz2); have hb9 := hb1))
  have hb3 : Below wg.heap.size wg w1 := by first | exact bw_then (bw_drew (bw_refl _)) hb2 | exact hb2
  repeat (first | clear hc1 | clear hf1 | clear hz1 | clear hb1 | clear hb9 | clear hc2 | clear hf2 | clear hz2 | clear hb2 | clear hy1 | clear hy2 | clear hy3 | clear hy4)
  clear RR XX HT3
  obtain ⟨wh, rfl⟩ : ∃ x, x = w1 := ⟨_, rfl⟩
  replace H0 := bw_then H0 hb3
  have B3 := Box.below ⟨y3, g3⟩ hb3
  clear y3 g3
  obtain ⟨y3, g3⟩ := B3
  have B5 := Box.below ⟨y5, g5⟩ hb3
  clear y5 g5
  obtain ⟨y5, g5⟩ := B5
  replace Uwc := Uwc.below hb3
  replace Ul2 := Ul2.below hb3
  replace Ug := Ug.below hb3
  replace HN := HN.below hb3
  replace Tl1 := Lib.hid (Kd.C_below Tl1.out hb3)
  clear hb3
  go_wp2_with fail
  refine (laws_toPacketS l lA lc _ (Kd.C_below Hl.out H0) hlb).mono ?_
  rintro e wl3 ⟨hg, hb1⟩
  obtain ⟨vl3, rfl, HO⟩ := hg
  obtain ⟨Al3, dl3, rfl, _, HRl3⟩ := Kd.R_reads HO
  have Tl3 := Lib.hid HRl3
  clear HRl3 HO
  have swl3 := bw_size hb1
  replace H0 := bw_then H0 hb1
  have B3 := Box.below ⟨y3, g3⟩ hb1
  clear y3 g3
  obtain ⟨y3, g3⟩ := B3
  have B5 := Box.below ⟨y5, g5⟩ hb1
  clear y5 g5
  obtain ⟨y5, g5⟩ := B5
  replace Uwc := Uwc.below hb1
  replace Ul2 := Ul2.below hb1
  replace Ug := Ug.below hb1
  replace HN := HN.below hb1
  replace Tl1 := Lib.hid (Kd.C_below Tl1.out hb1)
  clear hb1
  go_wp2_with fail
  refine (laws_eqPacketS l Al2 Al3 dl2 dl3 _ Ul2.reads.2.2 Tl3.out hlb).mono ?_
  rintro e wzl ⟨rfl, hb1⟩
  have swzl := bw_size hb1
  replace H0 := bw_then H0 hb1
  have B3 := Box.below ⟨y3, g3⟩ hb1
  clear y3 g3
  obtain ⟨y3, g3⟩ := B3
  have B5 := Box.below ⟨y5, g5⟩ hb1
  clear y5 g5
  obtain ⟨y5, g5⟩ := B5
  replace Uwc := Uwc.below hb1
  replace Ul2 := Ul2.below hb1
  replace Ug := Ug.below hb1
  replace HN := HN.below hb1
  replace Tl1 := Lib.hid (Kd.C_below Tl1.out hb1)
  replace Tl3 := Lib.hid (Kd.C_below Tl3.out hb1)
  clear hb1
  clear Tl1 Tl3
  have z0 := bw_size H0
  have zz : wd.heap.size ≤ wzl.heap.size := by omega
  go_wp2_with fail
  refine (laws_markNet2 n _ 1 wc.heap.size wd.heap.size aN bN v4 v7 v8 _ _ _ HN R.out DL zz (by omega) (by omega)).mono ?_
  rintro e wi ⟨⟨r2, rfl, hr2, hr3⟩, G⟩
  clear HN
  replace H0 := Chg.below H0 G (by omega)
  have B3 := Box.chg ⟨y3, g3⟩ G (by omega)
  clear y3 g3
  obtain ⟨y3, g3⟩ := B3
  have B5 := Box.chg ⟨y5, g5⟩ G (by omega)
  clear y5 g5
  obtain ⟨y5, g5⟩ := B5
  replace Uwc := Uwc.chg G (by omega)
  replace Ul2 := Ul2.chg G (by omega)
  replace Ug := Ug.chg G (by omega)
  clear G
  go_wp2_with fail
  refine (laws_markPacketS l r2 Al2 dl2 _ _ Ul2.row hlb (by omega) (by omega)).mono ?_
  rintro e wq ⟨rfl, _, hg1⟩
  have G := Chg.of_grown hg1 Ul2.within
  have hk5 : ¬ r2 + 5 * (l.length : Int) < 0 := by omega
  replace H0 := Chg.below H0 G (by omega)
  have B3 := Box.chg ⟨y3, g3⟩ G (by omega)
  clear y3 g3
  obtain ⟨y3, g3⟩ := B3
  have B5 := Box.chg ⟨y5, g5⟩ G (by omega)
  clear y5 g5
  obtain ⟨y5, g5⟩ := B5
  replace Uwc := Uwc.chg G (by omega)
  replace Ug := Ug.chg G (by omega)
  clear G hg1 Ul2
  go_wp2_with fail
  refine (laws_eqIntS res res _ _ _ _ _ Ug.reads.2.2 Uwc.reads.2.2 hres hres).mono ?_
  rintro e wj ⟨he, hb1⟩
  rw [eqL_self] at he
  subst he
  replace H0 := bw_then H0 hb1
  have B3 := Box.below ⟨y3, g3⟩ hb1
  clear y3 g3
  obtain ⟨y3, g3⟩ := B3
  have B5 := Box.below ⟨y5, g5⟩ hb1
  clear y5 g5
  obtain ⟨y5, g5⟩ := B5
  replace Uwc := Uwc.below hb1
  replace Ug := Ug.below hb1
  clear hb1
  go_wp2_with fail
  refine (laws_markIntS res 1 _ _ _ _ Ug.row hres (by omega) (by omega)).mono ?_
  rintro e wk ⟨rfl, HM, hg1⟩
  have G := Chg.of_grown hg1 Ug.within
  replace H0 := Chg.below H0 G (by omega)
  have B3 := Box.chg ⟨y3, g3⟩ G (by omega)
  clear y3 g3
  obtain ⟨y3, g3⟩ := B3
  have B5 := Box.chg ⟨y5, g5⟩ G (by omega)
  clear y5 g5
  obtain ⟨y5, g5⟩ := B5
  replace Uwc := Uwc.chg G (by omega)
  clear G hg1 Ug
  go_wp2_with fail
  refine (laws_heldIntS res.length 1 _ _ _ (Kd.R_rowX HM).2.2 hres (by omega) (by omega)).mono ?_
  rintro e w' ⟨rfl, rfl⟩
  go_wp2_with fail
  refine (laws_toNet n _ _ (R.out.below H0)).mono ?_
  rintro e wl ⟨⟨qT, rfl, HT⟩, hb1⟩
  obtain ⟨f1, f2, f3, f4, f5, f6, f7, f8, h1, h2, h3, h4, h5, h6, h7, h8⟩ := qT
  have HT3 := Lib.hid (HT.reads R.out)
  clear HT
  dsimp only [netCells]
  replace HM := Kd.R_below HM hb1
  replace H0 := bw_then H0 hb1
  have B3 := Box.below ⟨y3, g3⟩ hb1
  clear y3 g3
  obtain ⟨y3, g3⟩ := B3
  have B5 := Box.below ⟨y5, g5⟩ hb1
  clear y5 g5
  obtain ⟨y5, g5⟩ := B5
  replace Uwc := Uwc.below hb1
  clear hb1
  go_wp2_with fail
  refine (laws_toPacketS l lA lc _ (Kd.C_below Hl.out H0) hlb).mono ?_
  rintro e wl4 ⟨hg, hb1⟩
  obtain ⟨vl4, rfl, HO⟩ := hg
  obtain ⟨Al4, dl4, rfl, _, HRl4⟩ := Kd.R_reads HO
  have Tl4 := Lib.hid HRl4
  clear HRl4 HO
  have swl4 := bw_size hb1
  replace HT3 := Lib.hid (HT3.out.below hb1)
  replace HM := Kd.R_below HM hb1
  replace H0 := bw_then H0 hb1
  have B3 := Box.below ⟨y3, g3⟩ hb1
  clear y3 g3
  obtain ⟨y3, g3⟩ := B3
  have B5 := Box.below ⟨y5, g5⟩ hb1
  clear y5 g5
  obtain ⟨y5, g5⟩ := B5
  replace Uwc := Uwc.below hb1
  clear hb1
  go_wp2_with fail
  refine (impl_Missing n l _ Al4 dl4 _ HT3.out Tl4.out hlb).mono ?_
  rintro e wm ⟨hg, hb1⟩
  rw [HRES.out] at hg
  obtain ⟨vh, rfl, HO⟩ := hg
  obtain ⟨Ah, Ch, rfl⟩ := Kd.R_slice HO
  have Uh := RU.of HO (Nat.le_refl _) (Nat.le_refl _)
  clear HO HT3
  replace HM := Kd.R_below HM hb1
  replace H0 := bw_then H0 hb1
  have B3 := Box.below ⟨y3, g3⟩ hb1
  clear y3 g3
  obtain ⟨y3, g3⟩ := B3
  have B5 := Box.below ⟨y5, g5⟩ hb1
  clear y5 g5
  obtain ⟨y5, g5⟩ := B5
  replace Uwc := Uwc.below hb1
  replace Tl4 := Lib.hid (Kd.C_below Tl4.out hb1)
  clear hb1
  go_wp2_with fail
  refine (laws_eqIntS res res _ _ _ _ _ Uh.reads.2.2 Uwc.reads.2.2 hres hres).mono ?_
  rintro e wn ⟨he, hb1⟩
  rw [eqL_self] at he
  subst he
  replace HM := Kd.R_below HM hb1
  replace H0 := bw_then H0 hb1
  have B3 := Box.below ⟨y3, g3⟩ hb1
  clear y3 g3
  obtain ⟨y3, g3⟩ := B3
  have B5 := Box.below ⟨y5, g5⟩ hb1
  clear y5 g5
  obtain ⟨y5, g5⟩ := B5
  replace Uwc := Uwc.below hb1
  replace Uh := Uh.below hb1
  replace Tl4 := Lib.hid (Kd.C_below Tl4.out hb1)
  clear hb1
  go_wp2_with fail
  refine (laws_heldIntS res.length 1 _ _ _ (Kd.R_rowX HM).2.2 hres (by omega) (by omega)).mono ?_
  rintro e w' ⟨rfl, rfl⟩
  go_wp2
  go_ret
  exact ⟨rfl, H0⟩
end Go.Proofs.Ytinnfahmfggghaa
