/- The law FnExactCreditsAfter answers true for all arguments, and leaves each as it was. No conditions. -/
import Derived.Test.YtmkbmddgkdoaiaaGreatK10
import Derived.Test.YtmkbmddgkdoaiaaGreatK9
import Derived.Test.YtmkbmddgkdoaiaaGreatRows
import Derived.WalkKit
import Derived.ProofKit
import Derived.OpenShut
import Derived.ShutString
import Derived.ChangeOld
import Derived.Below
import Derived.SizedLaws
set_option linter.unusedVariables false
set_option linter.unusedSimpArgs false
namespace Go.Proofs.YtmkbmddgkdoaiaaGreat
open Go.RowKit Go.Proofs.YtmkbmddgkdoaiaaGreatW.PrintWords
open NoC
set_option maxHeartbeats 8000000 in
set_option maxRecDepth 100000 in
theorem law_CreditsAfter (n : Net) (q : NA) (w : World) (hn : NetC w n q) :
  Calls Tryz.prog 3 #[.agg (netCells n q)] w fun e w' => e = .returned (.bool true) ∧ Below w.heap.size w w' := by
 have HC := Lib.hid hn
 clear hn
 obtain ⟨a1, a2, a3, a4, a5, a6, a7, a8, c1, c2, c3, c4, c5, c6, c7, c8⟩ := q
 have VD : ∃ res, creditsAfterV n = res := ⟨_, rfl⟩
 obtain ⟨res, hres0⟩ := VD
 have hres : res.length ≤ 2097152 := by rw [← hres0]; exact CreditsAfter_len n
 have HRES := Lib.hid hres0
 clear hres0
 dsimp only [netCells]
 have B3 : Box (w.alloc (.cells #[.int .i64 n.mesh.g.w, .int .i64 n.mesh.g.h, .slice a1 n.mesh.br.length c1, .slice a2 n.pa.length c2, .slice a3 n.pb.length c3, .slice a4 n.bufs.length c4, .slice a5 n.owners.length c5, .slice a6 n.turns.length c6, .slice a7 n.srcs.length c7, .slice a8 n.arrs.length c8, .int .i64 n.time] 33)) w.heap.size #[.int .i64 n.mesh.g.w, .int .i64 n.mesh.g.h, .slice a1 n.mesh.br.length c1, .slice a2 n.pa.length c2, .slice a3 n.pb.length c3, .slice a4 n.bufs.length c4, .slice a5 n.owners.length c5, .slice a6 n.turns.length c6, .slice a7 n.srcs.length c7, .slice a8 n.arrs.length c8, .int .i64 n.time] := Box.new w _ _ _ rfl
 have H0 : Below w.heap.size w (w.alloc (.cells #[.int .i64 n.mesh.g.w, .int .i64 n.mesh.g.h, .slice a1 n.mesh.br.length c1, .slice a2 n.pa.length c2, .slice a3 n.pb.length c3, .slice a4 n.bufs.length c4, .slice a5 n.owners.length c5, .slice a6 n.turns.length c6, .slice a7 n.srcs.length c7, .slice a8 n.arrs.length c8, .int .i64 n.time] 33)) := bw_alloc _ (bw_refl w)
 obtain ⟨y3, g3⟩ := B3
 go_enter Tryz.func3, Tryz.ntmps3
 go_wp2_with fail
 refine (laws_szNet n _ 1048576 _ (HC.out.below H0) (by omega) (by omega)).mono ?_
 rintro e wa ⟨r, rfl, rlo, rhi, KB, hb1⟩
 have sA := bw_size hb1
 simp only [szs] at sA
 replace H0 := bw_then H0 hb1
 have B3 := Box.below ⟨y3, g3⟩ hb1
 clear y3 g3
 obtain ⟨y3, g3⟩ := B3
 clear hb1
 by_cases hneg : r < 0
 ·go_wp2
  go_ret
  exact ⟨rfl, H0⟩
 have R := Lib.hid (HC.out.bound (KB.out (by omega)).1)
 have HA : Hid (∀ l ∈ n.arrs, l.length ≤ 1048576) := Lib.hid (fun l hl => by have := (KB.out (by omega)).2 l hl; omega)
 clear HC KB
 go_wp2_with fail
 refine (laws_toNet n _ _ (R.out.below H0)).mono ?_
 rintro e wb ⟨⟨⟨e1, e2, e3, e4, e5, e6, e7, e8, ec1, ec2, ec3, ec4, ec5, ec6, ec7, ec8⟩, rfl, HT⟩, hb1⟩
 have HT1 := Lib.hid (HT.reads R.out)
 clear HT
 have swb := bw_size hb1
 dsimp only [netCells]
 replace H0 := bw_then H0 hb1
 have B3 := Box.below ⟨y3, g3⟩ hb1
 clear y3 g3
 obtain ⟨y3, g3⟩ := B3
 clear hb1
 go_wp2_with fail
 refine (spec_CreditsAfter n _  _ HT1.out).mono ?_
 rintro e wc ⟨hg, hb1⟩
 rw [HRES.out] at hg
 obtain ⟨vwc, rfl, HO⟩ := hg
 obtain ⟨Awc, Cwc, rfl⟩ := Kd.R_slice HO
 have Uwc := RU.of HO (Nat.le_refl _) (Nat.le_refl _)
 clear HO
 have swc := bw_size hb1
 replace H0 := bw_then H0 hb1
 have B3 := Box.below ⟨y3, g3⟩ hb1
 clear y3 g3
 obtain ⟨y3, g3⟩ := B3
 clear hb1
 clear HT1
 go_wp2_with fail
 refine (laws_toNet2 n _ _ (R.out.below H0)).mono ?_
 rintro e wd ⟨⟨⟨p1, p2, p3, p4, p5, p6, p7, p8, d1, d2, d3, d4, d5, d6, d7, d8⟩, aN, bN, v4, v7, v8, rfl, DL, HN⟩, hb1⟩
 have swd := bw_size hb1
 dsimp only [netCells]
 replace H0 := bw_then H0 hb1
 have B3 := Box.below ⟨y3, g3⟩ hb1
 clear y3 g3
 obtain ⟨y3, g3⟩ := B3
 replace Uwc := Uwc.below hb1
 clear hb1
 have hbX : Below wd.heap.size wd (wd.alloc (.cells #[.int .i64 n.mesh.g.w, .int .i64 n.mesh.g.h, .slice p1 n.mesh.br.length d1, .slice p2 n.pa.length d2, .slice p3 n.pb.length d3, .slice p4 n.bufs.length d4, .slice p5 n.owners.length d5, .slice p6 n.turns.length d6, .slice p7 n.srcs.length d7, .slice p8 n.arrs.length d8, .int .i64 n.time] 44)) := bw_alloc _ (bw_refl wd)
 have B5 : Box (wd.alloc (.cells #[.int .i64 n.mesh.g.w, .int .i64 n.mesh.g.h, .slice p1 n.mesh.br.length d1, .slice p2 n.pa.length d2, .slice p3 n.pb.length d3, .slice p4 n.bufs.length d4, .slice p5 n.owners.length d5, .slice p6 n.turns.length d6, .slice p7 n.srcs.length d7, .slice p8 n.arrs.length d8, .int .i64 n.time] 44)) wd.heap.size #[.int .i64 n.mesh.g.w, .int .i64 n.mesh.g.h, .slice p1 n.mesh.br.length d1, .slice p2 n.pa.length d2, .slice p3 n.pb.length d3, .slice p4 n.bufs.length d4, .slice p5 n.owners.length d5, .slice p6 n.turns.length d6, .slice p7 n.srcs.length d7, .slice p8 n.arrs.length d8, .int .i64 n.time] := Box.new wd _ _ _ rfl
 have sX : (wd.alloc (.cells #[.int .i64 n.mesh.g.w, .int .i64 n.mesh.g.h, .slice p1 n.mesh.br.length d1, .slice p2 n.pa.length d2, .slice p3 n.pb.length d3, .slice p4 n.bufs.length d4, .slice p5 n.owners.length d5, .slice p6 n.turns.length d6, .slice p7 n.srcs.length d7, .slice p8 n.arrs.length d8, .int .i64 n.time] 44)).heap.size = wd.heap.size + 1 := World.size_alloc _ _
 replace H0 := bw_then H0 hbX
 have B3 := Box.below ⟨y3, g3⟩ hbX
 clear y3 g3
 obtain ⟨y3, g3⟩ := B3
 replace Uwc := Uwc.below hbX
 replace HN := HN.below hbX
 go_wp2_with fail
 generalize wd.alloc (.cells #[.int .i64 n.mesh.g.w, .int .i64 n.mesh.g.h, .slice p1 n.mesh.br.length d1, .slice p2 n.pa.length d2, .slice p3 n.pb.length d3, .slice p4 n.bufs.length d4, .slice p5 n.owners.length d5, .slice p6 n.turns.length d6, .slice p7 n.srcs.length d7, .slice p8 n.arrs.length d8, .int .i64 n.time] 44) = we at *
 clear hbX
 have sX1 : wd.heap.size + 1 ≤ we.heap.size := Nat.le_of_eq sX.symm
 clear sX
 obtain ⟨y5, g5⟩ := B5
 refine (impl_CreditsAfter n _  _ (HN.reads R.out)).mono ?_
 rintro e wf ⟨hg, hb1⟩
 rw [HRES.out] at hg
 obtain ⟨vg, rfl, HO⟩ := hg
 obtain ⟨Ag, Cg, rfl⟩ := Kd.R_slice HO
 have Ug := RU.of HO (Nat.le_refl _) (Nat.le_refl _)
 clear HO
 have swf := bw_size hb1
 replace H0 := bw_then H0 hb1
 have B3 := Box.below ⟨y3, g3⟩ hb1
 clear y3 g3
 obtain ⟨y3, g3⟩ := B3
 have B5 := Box.below ⟨y5, g5⟩ hb1
 clear y5 g5
 obtain ⟨y5, g5⟩ := B5
 replace Uwc := Uwc.below hb1
 replace HN := HN.below hb1
 clear hb1
 go_wp2_with fail
 refine (laws_eqIntS res res _ _ _ _ _ Ug.reads.2.2 Uwc.reads.2.2 hres hres).mono ?_
 rintro e wg ⟨he, hb1⟩
 rw [eqL_self] at he
 subst he
 replace H0 := bw_then H0 hb1
 have B3 := Box.below ⟨y3, g3⟩ hb1
 clear y3 g3
 obtain ⟨y3, g3⟩ := B3
 have B5 := Box.below ⟨y5, g5⟩ hb1
 clear y5 g5
 obtain ⟨y5, g5⟩ := B5
 replace Uwc := Uwc.below hb1
 replace Ug := Ug.below hb1
 replace HN := HN.below hb1
 clear hb1
 have RR := Lib.hid (R.out.below H0)
 have XX := Lib.hid (HN.reads R.out)
 go_wp2_with fail
 go_region_held3 (fun w' => Below (wg).heap.size (wg) w' ∧ ∀ bq oq, bq < (wg).heap.size → w'.cell? ⟨bq, oq, none⟩ = (wg).cell? ⟨bq, oq, none⟩) (first | exact far_of bel) ( first | (go_at_call 11; refine (laws_toNet n _ _ (RR.out.below bel)).mono ?_; rintro e w1 ⟨⟨qT, rfl, HT⟩, hb1⟩; obtain ⟨f1, f2, f3, f4, f5, f6, f7, f8, h1, h2, h3, h4, h5, h6, h7, h8⟩ := qT; have HT3 := Lib.hid (HT.reads RR.out); clear HT; dsimp only [netCells]; obtain ⟨hc1, hf1, hz1⟩ := bcell hb1; (try simp only [szs] at hz1); have hb2 := far2; obtain ⟨hc2, hf2, hz2⟩ := bcell hb2; (try simp only [szs] at hz2); try (first | obtain ⟨hy1, hy2, hy3, hy4⟩ := lts4 hz2 | obtain ⟨hy1, hy2, hy3⟩ := lts3 hz2 | obtain ⟨hy1, hy2⟩ := lts2 hz2 | have hy1 := lts1 hz2); have hb9 := hb1) | (go_at_call 14; refine (laws_eqNet n _ _ _ (XX.out.below bel) (HT3.out.below bel)).mono ?_; rintro e w1 ⟨rfl, hb1⟩; obtain ⟨hc1, hf1, hz1⟩ := bcell hb1; (try simp only [szs] at hz1); have hb2 := far2; obtain ⟨hc2, hf2, hz2⟩ := bcell hb2; (try simp only [szs] at hz2); try (first | obtain ⟨hy1, hy2, hy3, hy4⟩ := lts4 hz2 | obtain ⟨hy1, hy2, hy3⟩ := lts3 hz2 | obtain ⟨hy1, hy2⟩ := lts2 hz2 | have hy1 := lts1 hz2); have hb9 := hb1))
 have hb3 : Below wg.heap.size wg w1 := by first | exact bw_then (bw_drew (bw_refl _)) hb2 | exact hb2
 repeat (first | clear hc1 | clear hf1 | clear hz1 | clear hb1 | clear hb9 | clear hc2 | clear hf2 | clear hz2 | clear hb2 | clear hy1 | clear hy2 | clear hy3 | clear hy4)
 clear RR XX HT3
 obtain ⟨wh, rfl⟩ : ∃ x, x = w1 := ⟨_, rfl⟩
 replace H0 := bw_then H0 hb3
 have B3 := Box.below ⟨y3, g3⟩ hb3
 clear y3 g3
 obtain ⟨y3, g3⟩ := B3
 have B5 := Box.below ⟨y5, g5⟩ hb3
 clear y5 g5
 obtain ⟨y5, g5⟩ := B5
 replace Uwc := Uwc.below hb3
 replace Ug := Ug.below hb3
 replace HN := HN.below hb3
 clear hb3
 have z0 := bw_size H0
 have zz : wd.heap.size ≤ wh.heap.size := by omega
 go_wp2_with fail
 refine (laws_markNet n _ 1 wc.heap.size wd.heap.size aN bN v4 v7 v8 _ _ _ HN R.out DL zz (by omega) (by omega)).mono ?_
 rintro e wi ⟨⟨r2, rfl, hr2⟩, G⟩
 clear HN
 replace H0 := Chg.below H0 G (by omega)
 have B3 := Box.chg ⟨y3, g3⟩ G (by omega)
 clear y3 g3
 obtain ⟨y3, g3⟩ := B3
 have B5 := Box.chg ⟨y5, g5⟩ G (by omega)
 clear y5 g5
 obtain ⟨y5, g5⟩ := B5
 replace Uwc := Uwc.chg G (by omega)
 replace Ug := Ug.chg G (by omega)
 clear G
 go_wp2_with fail
 refine (laws_eqIntS res res _ _ _ _ _ Ug.reads.2.2 Uwc.reads.2.2 hres hres).mono ?_
 rintro e wj ⟨he, hb1⟩
 rw [eqL_self] at he
 subst he
 replace H0 := bw_then H0 hb1
 have B3 := Box.below ⟨y3, g3⟩ hb1
 clear y3 g3
 obtain ⟨y3, g3⟩ := B3
 have B5 := Box.below ⟨y5, g5⟩ hb1
 clear y5 g5
 obtain ⟨y5, g5⟩ := B5
 replace Uwc := Uwc.below hb1
 replace Ug := Ug.below hb1
 clear hb1
 go_wp2_with fail
 refine (laws_markIntS res 1 _ _ _ _ Ug.row hres (by omega) (by omega)).mono ?_
 rintro e wk ⟨rfl, HM, hg1⟩
 have G := Chg.of_grown hg1 Ug.within
 replace H0 := Chg.below H0 G (by omega)
 have B3 := Box.chg ⟨y3, g3⟩ G (by omega)
 clear y3 g3
 obtain ⟨y3, g3⟩ := B3
 have B5 := Box.chg ⟨y5, g5⟩ G (by omega)
 clear y5 g5
 obtain ⟨y5, g5⟩ := B5
 replace Uwc := Uwc.chg G (by omega)
 clear G hg1 Ug
 go_wp2_with fail
 refine (laws_heldIntS res.length 1 _ _ _ (Kd.R_rowX HM).2.2 hres (by omega) (by omega)).mono ?_
 rintro e w' ⟨rfl, rfl⟩
 go_wp2_with fail
 refine (laws_toNet n _ _ (R.out.below H0)).mono ?_
 rintro e wl ⟨⟨qT, rfl, HT⟩, hb1⟩
 obtain ⟨f1, f2, f3, f4, f5, f6, f7, f8, h1, h2, h3, h4, h5, h6, h7, h8⟩ := qT
 have HT3 := Lib.hid (HT.reads R.out)
 clear HT
 dsimp only [netCells]
 replace HM := Kd.R_below HM hb1
 replace H0 := bw_then H0 hb1
 have B3 := Box.below ⟨y3, g3⟩ hb1
 clear y3 g3
 obtain ⟨y3, g3⟩ := B3
 have B5 := Box.below ⟨y5, g5⟩ hb1
 clear y5 g5
 obtain ⟨y5, g5⟩ := B5
 replace Uwc := Uwc.below hb1
 clear hb1
 go_wp2_with fail
 refine (impl_CreditsAfter n _  _ HT3.out).mono ?_
 rintro e wm ⟨hg, hb1⟩
 rw [HRES.out] at hg
 obtain ⟨vh, rfl, HO⟩ := hg
 obtain ⟨Ah, Ch, rfl⟩ := Kd.R_slice HO
 have Uh := RU.of HO (Nat.le_refl _) (Nat.le_refl _)
 clear HO HT3
 replace HM := Kd.R_below HM hb1
 replace H0 := bw_then H0 hb1
 have B3 := Box.below ⟨y3, g3⟩ hb1
 clear y3 g3
 obtain ⟨y3, g3⟩ := B3
 have B5 := Box.below ⟨y5, g5⟩ hb1
 clear y5 g5
 obtain ⟨y5, g5⟩ := B5
 replace Uwc := Uwc.below hb1
 clear hb1
 go_wp2_with fail
 refine (laws_eqIntS res res _ _ _ _ _ Uh.reads.2.2 Uwc.reads.2.2 hres hres).mono ?_
 rintro e wn ⟨he, hb1⟩
 rw [eqL_self] at he
 subst he
 replace HM := Kd.R_below HM hb1
 replace H0 := bw_then H0 hb1
 have B3 := Box.below ⟨y3, g3⟩ hb1
 clear y3 g3
 obtain ⟨y3, g3⟩ := B3
 have B5 := Box.below ⟨y5, g5⟩ hb1
 clear y5 g5
 obtain ⟨y5, g5⟩ := B5
 replace Uwc := Uwc.below hb1
 replace Uh := Uh.below hb1
 clear hb1
 go_wp2_with fail
 refine (laws_heldIntS res.length 1 _ _ _ (Kd.R_rowX HM).2.2 hres (by omega) (by omega)).mono ?_
 rintro e w' ⟨rfl, rfl⟩
 go_wp2
 go_ret
 exact ⟨rfl, H0⟩
end Go.Proofs.YtmkbmddgkdoaiaaGreat
namespace Go.Proofs.YtmkbmddgkdoaiaaGreat
open Go.ChangeShapes Go.WideShapes Go.ChangeAt Go.RowKit Go.Proofs.YtmkbmddgkdoaiaaGreatW.PrintWords
open NoC
set_option linter.unusedVariables false
theorem own : ownKnob Tryz.prog.godebug = none := by kernel_rfl
theorem laidOut : laidOutB Tryz.prog = true := by kernel_rfl
theorem arr_of {cs : Array Value} {l : List Value} (h : cs.toList = l) : cs = l.toArray := by rw [← h]
set_option maxHeartbeats 1000000 in
set_option maxRecDepth 100000 in
theorem lifted_CreditsAfter (os : Os) (started : os.Started) (H : Type) (enc : TypeId × Value → H) :
    ReturnsInHanded {} Tryz.checked os 3 .any (Rows.fnExactCreditsAfterSpec.pre6 enc Tryz.prog Tryz.f3 Rows.fnExactCreditsAfterRow.domain false) (Rows.fnExactCreditsAfterSpec.post enc Tryz.prog Tryz.f3 false true false false) := by
  refine returnsInHanded_of_change_sized (C := Tryz.checked) own started (by kernel_rfl) Tryz.func3
    (ChangeSpec.witness6 (enc := enc) (C := Tryz.checked) false ⟨#[], #[.agg #[.int .i64 0, .int .i64 0, .slice none 0 0, .slice none 0 0, .slice none 0 0, .slice none 0 0, .slice none 0 0, .slice none 0 0, .slice none 0 0, .slice none 0 0, .int .i64 0]], []⟩ 8 (by kernel_rfl) (by kernel_rfl) (by kernel_rfl) (by kernel_rfl)) ?_
  intro W base args ds gs before hval0 hW hcnd hsz0 _
  have hsz : (DataW.weightsEach Tryz.prog (Tryz.f3.params.toList ++ Rows.fnExactCreditsAfterSpec.plain.varTypes Tryz.prog) (ds ++ gs)).all (· ≤ reachBytes) = true := hsz0
  have hval : ∀ (j : Nat) t v, Tryz.f3.params[j]? = some t → args[j]? = some v → Value.okWide Tryz.prog W .any base t v := hval0
  have hW' := hW
  obtain ⟨p, q, hA0, hV, rfl, hfz, hnd⟩ := hW
  have hA : DataW.TrodAll enc Tryz.prog W 0 (fun _ => true) true Tryz.f3.params.toList args.toList ds p := hA0
  rw [Tryz.params3] at hA hval hsz
  obtain ⟨v0, vs0, d0, ds0, p0, q0, hargs, rfl, rfl, h0, r0⟩ := trodAll_cons hA
  obtain ⟨rfl, rfl, rfl⟩ := trodAll_nil r0
  obtain rfl : args = #[v0] := by cases args; simp_all
  obtain ⟨rfl, rfl⟩ := trodVars_none hV
  obtain ⟨c0, rfl, _⟩ := okWide_struct Tryz.underlying33 (hval 0 _ v0 rfl rfl)
  have k0 := h0
  have lt0 : ∀ x ∈ p0, x.block < W.heap.size := by obtain ⟨m, hm⟩ := k0; exact DataW.trod_lt m _ _ _ hm
  obtain ⟨f0, g0⟩ := h0
  obtain ⟨n0, q0', e0, hn0⟩ := op_net g0 (light_arg hsz (j := 0) rfl rfl)
  obtain rfl := arr_of e0
  clear hA0 hval0 hsz0 hsz
  refine (law_CreditsAfter n0 q0' W hn0).mono fun e W' ⟨he, bel⟩ => ?_
  subst he
  exact ⟨_, rfl, _, _, _, [], _, [], hW', trodAll_mk1 (shut_bool Tryz.underlying4 _), (trodAll_cons_mk (Below.trod laidOut (by kernel_rfl) (of_decide_eq_true (by kernel_rfl)) k0 bel lt0) trodAll_mk0), rfl, bel.frame _, fun h => by cases h⟩
theorem over_CreditsAfter : Rows.fnExactCreditsAfterRow.holds Tryz.pinned (OpenSpec.ofChange Rows.fnExactCreditsAfterSpec) :=
  OpenClaim.holds_of_wide 3 Tryz.f3 rfl rfl rfl rfl rfl rfl rfl ⟨rfl, rfl, rfl, rfl, rfl⟩ rfl rfl rfl rfl rfl (by kernel_rfl) Tryz.func3 (by kernel_rfl)
    (of_decide_eq_true (by kernel_rfl)) (by unfold Func.isWrapper; first | (rw [if_pos (by decide +kernel)]; kernel_rfl) | (rw [if_neg (by decide +kernel)]; exact ⟨rfl, rfl⟩))
    (fun os started H enc _ => lifted_CreditsAfter os started H enc)
theorem fnExactCreditsAfter_holds : Rows.FnExactCreditsAfterSaid := over_CreditsAfter
#print axioms fnExactCreditsAfter_holds
end Go.Proofs.YtmkbmddgkdoaiaaGreat
