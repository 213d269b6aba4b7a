/- The law FnExactFirstStuck answers true for all arguments, and leaves each as it was. No conditions. -/
import Derived.Test.YtmkbmddgkdoaiaaGreatG14
import Derived.Test.YtmkbmddgkdoaiaaGreatRows
import Derived.WalkKit
import Derived.ProofKit
import Derived.OpenShut
import Derived.ShutString
import Derived.ChangeOld
import Derived.Below
import Derived.SizedLaws
/- The law FnExactFirstStuck, walked: it answers true for all arguments. -/
set_option linter.unusedVariables false
set_option linter.unusedSimpArgs false
namespace Go.Proofs.YtmkbmddgkdoaiaaGreat
open Go.RowKit Go.Proofs.YtmkbmddgkdoaiaaGreatW.PrintWords
open NoC

set_option maxHeartbeats 8000000 in
set_option maxRecDepth 100000 in
theorem law_FirstStuck (n : Net) (s : Int) (q : NA) (w : World) (hn : NetC w n q) :
    Calls Tryz.prog 4 #[.agg (netCells n q), .int .i64 s] w fun e w' => e = .returned (.bool true) ∧ Below w.heap.size w w' := by
  have HC := Lib.hid hn
  clear hn
  obtain ⟨a1, a2, a3, a4, a5, a6, a7, a8, c1, c2, c3, c4, c5, c6, c7, c8⟩ := q
  have VD : ∃ res, firstStuckN n s = res := ⟨_, rfl⟩
  obtain ⟨res, hres0⟩ := VD
  have HRES := Lib.hid hres0
  clear hres0
  dsimp only [netCells]
  have B3 : Box (w.alloc (.cells #[.int .i64 n.mesh.g.w, .int .i64 n.mesh.g.h, .slice a1 n.mesh.br.length c1, .slice a2 n.pa.length c2, .slice a3 n.pb.length c3, .slice a4 n.bufs.length c4, .slice a5 n.owners.length c5, .slice a6 n.turns.length c6, .slice a7 n.srcs.length c7, .slice a8 n.arrs.length c8, .int .i64 n.time] 33)) w.heap.size #[.int .i64 n.mesh.g.w, .int .i64 n.mesh.g.h, .slice a1 n.mesh.br.length c1, .slice a2 n.pa.length c2, .slice a3 n.pb.length c3, .slice a4 n.bufs.length c4, .slice a5 n.owners.length c5, .slice a6 n.turns.length c6, .slice a7 n.srcs.length c7, .slice a8 n.arrs.length c8, .int .i64 n.time] := Box.new w _ _ _ rfl
  have H0 : Below w.heap.size w (w.alloc (.cells #[.int .i64 n.mesh.g.w, .int .i64 n.mesh.g.h, .slice a1 n.mesh.br.length c1, .slice a2 n.pa.length c2, .slice a3 n.pb.length c3, .slice a4 n.bufs.length c4, .slice a5 n.owners.length c5, .slice a6 n.turns.length c6, .slice a7 n.srcs.length c7, .slice a8 n.arrs.length c8, .int .i64 n.time] 33)) := bw_alloc _ (bw_refl w)
  obtain ⟨y3, g3⟩ := B3
  go_enter Tryz.func4, Tryz.ntmps4
  go_wp2_with fail
  refine (laws_szNet n _ 1048576 _ (HC.out.below H0) (by omega) (by omega)).mono ?_
  rintro e wa ⟨r, rfl, rlo, rhi, KB, hb1⟩
  have sA := bw_size hb1
  simp only [szs] at sA
  replace H0 := bw_then H0 hb1
  have B3 := Box.below ⟨y3, g3⟩ hb1
  clear y3 g3
  obtain ⟨y3, g3⟩ := B3
  clear hb1
  by_cases hneg : r < 0
  · go_wp2
    go_ret
    exact ⟨rfl, H0⟩
  have R := Lib.hid (HC.out.bound (KB.out (by omega)).1)
  have HA : Hid (∀ l ∈ n.arrs, l.length ≤ 1048576) := Lib.hid (fun l hl => by have := (KB.out (by omega)).2 l hl; omega)
  clear HC KB
  go_wp2_with fail
  refine (laws_toNet n _ _ (R.out.below H0)).mono ?_
  rintro e wb ⟨⟨⟨e1, e2, e3, e4, e5, e6, e7, e8, ec1, ec2, ec3, ec4, ec5, ec6, ec7, ec8⟩, rfl, HT⟩, hb1⟩
  have HT1 := Lib.hid (HT.reads R.out)
  clear HT
  have swb := bw_size hb1
  dsimp only [netCells]
  replace H0 := bw_then H0 hb1
  have B3 := Box.below ⟨y3, g3⟩ hb1
  clear y3 g3
  obtain ⟨y3, g3⟩ := B3
  clear hb1
  go_wp2_with fail
  refine (spec_FirstStuck n s _ _ HT1.out HA.out).mono ?_
  rintro e wc ⟨he, hb1⟩
  rw [HRES.out] at he
  subst he
  replace H0 := bw_then H0 hb1
  have B3 := Box.below ⟨y3, g3⟩ hb1
  clear y3 g3
  obtain ⟨y3, g3⟩ := B3
  clear hb1
  clear HT1
  go_wp2_with fail
  refine (laws_toNet2 n _ _ (R.out.below H0)).mono ?_
  rintro e wd ⟨⟨⟨p1, p2, p3, p4, p5, p6, p7, p8, d1, d2, d3, d4, d5, d6, d7, d8⟩, aN, bN, v4, v7, v8, rfl, DL, HN⟩, hb1⟩
  have swd := bw_size hb1
  dsimp only [netCells]
  replace H0 := bw_then H0 hb1
  have B3 := Box.below ⟨y3, g3⟩ hb1
  clear y3 g3
  obtain ⟨y3, g3⟩ := B3
  clear hb1
  have hbX : Below wd.heap.size wd (wd.alloc (.cells #[.int .i64 n.mesh.g.w, .int .i64 n.mesh.g.h, .slice p1 n.mesh.br.length d1, .slice p2 n.pa.length d2, .slice p3 n.pb.length d3, .slice p4 n.bufs.length d4, .slice p5 n.owners.length d5, .slice p6 n.turns.length d6, .slice p7 n.srcs.length d7, .slice p8 n.arrs.length d8, .int .i64 n.time] 44)) := bw_alloc _ (bw_refl wd)
  have B5 : Box (wd.alloc (.cells #[.int .i64 n.mesh.g.w, .int .i64 n.mesh.g.h, .slice p1 n.mesh.br.length d1, .slice p2 n.pa.length d2, .slice p3 n.pb.length d3, .slice p4 n.bufs.length d4, .slice p5 n.owners.length d5, .slice p6 n.turns.length d6, .slice p7 n.srcs.length d7, .slice p8 n.arrs.length d8, .int .i64 n.time] 44)) wd.heap.size #[.int .i64 n.mesh.g.w, .int .i64 n.mesh.g.h, .slice p1 n.mesh.br.length d1, .slice p2 n.pa.length d2, .slice p3 n.pb.length d3, .slice p4 n.bufs.length d4, .slice p5 n.owners.length d5, .slice p6 n.turns.length d6, .slice p7 n.srcs.length d7, .slice p8 n.arrs.length d8, .int .i64 n.time] := Box.new wd _ _ _ rfl
  have sX : (wd.alloc (.cells #[.int .i64 n.mesh.g.w, .int .i64 n.mesh.g.h, .slice p1 n.mesh.br.length d1, .slice p2 n.pa.length d2, .slice p3 n.pb.length d3, .slice p4 n.bufs.length d4, .slice p5 n.owners.length d5, .slice p6 n.turns.length d6, .slice p7 n.srcs.length d7, .slice p8 n.arrs.length d8, .int .i64 n.time] 44)).heap.size = wd.heap.size + 1 := World.size_alloc _ _
  replace H0 := bw_then H0 hbX
  have B3 := Box.below ⟨y3, g3⟩ hbX
  clear y3 g3
  obtain ⟨y3, g3⟩ := B3
  replace HN := HN.below hbX
  go_wp2_with fail
  generalize wd.alloc (.cells #[.int .i64 n.mesh.g.w, .int .i64 n.mesh.g.h, .slice p1 n.mesh.br.length d1, .slice p2 n.pa.length d2, .slice p3 n.pb.length d3, .slice p4 n.bufs.length d4, .slice p5 n.owners.length d5, .slice p6 n.turns.length d6, .slice p7 n.srcs.length d7, .slice p8 n.arrs.length d8, .int .i64 n.time] 44) = we at *
  clear hbX
  have sX1 : wd.heap.size + 1 ≤ we.heap.size := Nat.le_of_eq sX.symm
  clear sX
  obtain ⟨y5, g5⟩ := B5
  refine (impl_FirstStuck n s _ _ (HN.reads R.out) HA.out).mono ?_
  rintro e wf ⟨he, hb1⟩
  rw [HRES.out] at he
  subst he
  replace H0 := bw_then H0 hb1
  have B3 := Box.below ⟨y3, g3⟩ hb1
  clear y3 g3
  obtain ⟨y3, g3⟩ := B3
  have B5 := Box.below ⟨y5, g5⟩ hb1
  clear y5 g5
  obtain ⟨y5, g5⟩ := B5
  replace HN := HN.below hb1
  clear hb1
  have eself : (res != res) = false := by simp
  have RR := Lib.hid (R.out.below H0)
  have XX := Lib.hid (HN.reads R.out)
  go_wp2_with fail
  go_region_held3 (fun w' => Below (wf).heap.size (wf) w' ∧ ∀ bq oq, bq < (wf).heap.size → w'.cell? ⟨bq, oq, none⟩ = (wf).cell? ⟨bq, oq, none⟩) (first | exact far_of bel) ( first | (go_at_call 11; refine (laws_toNet n _ _ (RR.out.below bel)).mono ?_; rintro e w1 ⟨⟨qT, rfl, HT⟩, hb1⟩; obtain ⟨f1, f2, f3, f4, f5, f6, f7, f8, h1, h2, h3, h4, h5, h6, h7, h8⟩ := qT; have HT3 := Lib.hid (HT.reads RR.out); clear HT; dsimp only [netCells]; obtain ⟨hc1, hf1, hz1⟩ := bcell hb1; (try simp only [szs] at hz1); have hb2 := (by first | exact bw_then hb2 hb1 | exact bw_then (bw_drewN _ hb2) hb1 | exact bw_then (bw_alloc _ hb2) hb1 | exact bw_then (bw_drew hb2) hb1 | exact bw_then HB hb1 | exact bw_then (bw_drewN _ HB) hb1 | exact bw_then (bw_alloc _ HB) hb1 | exact bw_then (bw_drew HB) hb1 | exact hb1); obtain ⟨hc2, hf2, hz2⟩ := bcell hb2; (try simp only [szs] at hz2); try (first | obtain ⟨hy1, hy2, hy3, hy4⟩ := lts4 hz2 | obtain ⟨hy1, hy2, hy3⟩ := lts3 hz2 | obtain ⟨hy1, hy2⟩ := lts2 hz2 | have hy1 := lts1 hz2); have hb9 := hb1) | (go_at_call 14; refine (laws_eqNet n _ _ _ (XX.out.below bel) (HT3.out.below bel)).mono ?_; rintro e w1 ⟨rfl, hb1⟩; obtain ⟨hc1, hf1, hz1⟩ := bcell hb1; (try simp only [szs] at hz1); have hb2 := (by first | exact bw_then hb2 hb1 | exact bw_then (bw_drewN _ hb2) hb1 | exact bw_then (bw_alloc _ hb2) hb1 | exact bw_then (bw_drew hb2) hb1 | exact bw_then HB hb1 | exact bw_then (bw_drewN _ HB) hb1 | exact bw_then (bw_alloc _ HB) hb1 | exact bw_then (bw_drew HB) hb1 | exact hb1); obtain ⟨hc2, hf2, hz2⟩ := bcell hb2; (try simp only [szs] at hz2); try (first | obtain ⟨hy1, hy2, hy3, hy4⟩ := lts4 hz2 | obtain ⟨hy1, hy2, hy3⟩ := lts3 hz2 | obtain ⟨hy1, hy2⟩ := lts2 hz2 | have hy1 := lts1 hz2); have hb9 := hb1))
  have hb3 : Below wf.heap.size wf w1 := by first | exact bw_then (bw_drew (bw_refl _)) hb2 | exact hb2
  repeat (first | clear hc1 | clear hf1 | clear hz1 | clear hb1 | clear hb9 | clear hc2 | clear hf2 | clear hz2 | clear hb2 | clear hy1 | clear hy2 | clear hy3 | clear hy4)
  clear RR XX HT3
  go_wp2
  go_ret
  exact ⟨rfl, bw_then H0 hb3⟩
end Go.Proofs.YtmkbmddgkdoaiaaGreat
/- The law FnExactFirstStuck answers true for every input, and each argument reads afterwards as it read before. -/
namespace Go.Proofs.YtmkbmddgkdoaiaaGreat
open Go.ChangeShapes Go.WideShapes Go.ChangeAt Go.RowKit Go.Proofs.YtmkbmddgkdoaiaaGreatW.PrintWords
open NoC
set_option linter.unusedVariables false
theorem own : ownKnob Tryz.prog.godebug = none := by kernel_rfl
theorem laidOut : laidOutB Tryz.prog = true := by kernel_rfl
theorem arr_of {cs : Array Value} {l : List Value} (h : cs.toList = l) : cs = l.toArray := by rw [← h]
set_option maxHeartbeats 1000000 in
set_option maxRecDepth 100000 in
theorem lifted_FirstStuck (os : Os) (started : os.Started) (H : Type) (enc : TypeId × Value → H) :
    ReturnsInHanded {} Tryz.checked os 4 .any (Rows.fnExactFirstStuckSpec.pre6 enc Tryz.prog Tryz.f4 Rows.fnExactFirstStuckRow.domain false) (Rows.fnExactFirstStuckSpec.post enc Tryz.prog Tryz.f4 false true false false) := by
  refine returnsInHanded_of_change_sized (C := Tryz.checked) own started (by kernel_rfl) Tryz.func4
    (ChangeSpec.witness6 (enc := enc) (C := Tryz.checked) false ⟨#[], #[.agg #[.int .i64 0, .int .i64 0, .slice none 0 0, .slice none 0 0, .slice none 0 0, .slice none 0 0, .slice none 0 0, .slice none 0 0, .slice none 0 0, .slice none 0 0, .int .i64 0], .int .i64 0], []⟩ 8 (by kernel_rfl) (by kernel_rfl) (by kernel_rfl) (by kernel_rfl)) ?_
  intro W base args ds gs before hval0 hW hcnd hsz0 _
  have hsz : (DataW.weightsEach Tryz.prog (Tryz.f4.params.toList ++ Rows.fnExactFirstStuckSpec.plain.varTypes Tryz.prog) (ds ++ gs)).all (· ≤ reachBytes) = true := hsz0
  have hval : ∀ (j : Nat) t v, Tryz.f4.params[j]? = some t → args[j]? = some v → Value.okWide Tryz.prog W .any base t v := hval0
  have hW' := hW
  obtain ⟨p, q, hA0, hV, rfl, hfz, hnd⟩ := hW
  have hA : DataW.TrodAll enc Tryz.prog W 0 (fun _ => true) true Tryz.f4.params.toList args.toList ds p := hA0
  rw [Tryz.params4] at hA hval hsz
  obtain ⟨v0, vs0, d0, ds0, p0, q0, hargs, rfl, rfl, h0, r0⟩ := trodAll_cons hA
  obtain ⟨v1, vs1, d1, ds1, p1, q1, rfl, rfl, rfl, h1, r1⟩ := trodAll_cons r0
  obtain ⟨rfl, rfl, rfl⟩ := trodAll_nil r1
  obtain rfl : args = #[v0, v1] := by cases args; simp_all
  obtain ⟨rfl, rfl⟩ := trodVars_none hV
  obtain ⟨c0, rfl, _⟩ := okWide_struct Tryz.underlying33 (hval 0 _ v0 rfl rfl)
  obtain ⟨c1, rfl⟩ := okWide_int Tryz.underlying3 (hval 1 _ v1 rfl rfl)
  have k0 := h0
  have lt0 : ∀ x ∈ p0, x.block < W.heap.size := by obtain ⟨m, hm⟩ := k0; exact DataW.trod_lt m _ _ _ hm
  have k1 := h1
  have lt1 : ∀ x ∈ p1, x.block < W.heap.size := by obtain ⟨m, hm⟩ := k1; exact DataW.trod_lt m _ _ _ hm
  obtain ⟨f0, g0⟩ := h0
  obtain ⟨f1, g1⟩ := h1
  obtain ⟨n0, q0', e0, hn0⟩ := op_net g0 (light_arg hsz (j := 0) rfl rfl)
  obtain rfl := arr_of e0
  clear hA0 hval0 hsz0 hsz
  refine (law_FirstStuck n0 c1 q0' W hn0).mono fun e W' ⟨he, bel⟩ => ?_
  subst he
  exact ⟨_, rfl, _, _, _, [], _, [], hW', trodAll_mk1 (shut_bool Tryz.underlying4 _), (trodAll_cons_mk (Below.trod laidOut (by kernel_rfl) (of_decide_eq_true (by kernel_rfl)) k0 bel lt0) (trodAll_cons_mk (Below.trod laidOut (by kernel_rfl) (of_decide_eq_true (by kernel_rfl)) k1 bel lt1) trodAll_mk0)), rfl, bel.frame _, fun h => by cases h⟩
theorem over_FirstStuck : Rows.fnExactFirstStuckRow.holds Tryz.pinned (OpenSpec.ofChange Rows.fnExactFirstStuckSpec) :=
  OpenClaim.holds_of_wide 4 Tryz.f4 rfl rfl rfl rfl rfl rfl rfl ⟨rfl, rfl, rfl, rfl, rfl⟩ rfl rfl rfl rfl rfl (by kernel_rfl) Tryz.func4 (by kernel_rfl)
    (of_decide_eq_true (by kernel_rfl)) (by unfold Func.isWrapper; first | (rw [if_pos (by decide +kernel)]; kernel_rfl) | (rw [if_neg (by decide +kernel)]; exact ⟨rfl, rfl⟩))
    (fun os started H enc _ => lifted_FirstStuck os started H enc)
theorem fnExactFirstStuck_holds : Rows.FnExactFirstStuckSaid := over_FirstStuck
#print axioms fnExactFirstStuck_holds
end Go.Proofs.YtmkbmddgkdoaiaaGreat
