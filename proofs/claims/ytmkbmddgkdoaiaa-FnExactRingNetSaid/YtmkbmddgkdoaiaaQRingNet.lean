/- The law FnExactRingNet answers true for all arguments, and leaves each as it was. No conditions. -/
import Derived.Test.YtmkbmddgkdoaiaaQ13
import Derived.Test.YtmkbmddgkdoaiaaQ9
import Derived.Test.YtmkbmddgkdoaiaaRows
import Derived.WalkKit
import Derived.ProofKit
import Derived.OpenShut
import Derived.ShutString
import Derived.ChangeOld
import Derived.Below
import Derived.SizedLaws
set_option linter.unusedVariables false
set_option linter.unusedSimpArgs false
namespace Go.Proofs.Ytmkbmddgkdoaiaa
open Go.RowKit Go.Proofs.YtmkbmddgkdoaiaaW.PrintWords
open NoC
theorem ringN_nb : NB ringN := sendAll_nb (netNew_nb (by simp [ringM]) (by rw [cw_len]; omega) (by rw [cw_len]; omega))
set_option maxHeartbeats 16000000 in
set_option maxRecDepth 100000 in
theorem law_RingNet (w : World) :
    Calls Try.prog 3 #[] w fun e w' => e = .returned (.bool true) ∧ Below w.heap.size w w' := by
  have NBX : Hid (NB ringN) := Lib.hid ringN_nb
  obtain ⟨X, hX0⟩ : ∃ X, ringN = X := ⟨_, rfl⟩
  have HX := Lib.hid hX0
  rw [hX0] at NBX
  clear hX0
  have H0 : Below w.heap.size w w := bw_refl w
  go_enter Try.func3, Try.ntmps3
  go_wp2_with fail
  refine (spec_RingNet _).mono ?_
  rintro e wc ⟨hg, hb1⟩
  rw [HX.out] at hg
  obtain ⟨q9, s4, s7, s8, rfl, HO⟩ := hg
  obtain ⟨p1, p2, p3, p4, p5, p6, p7, p8, d1, d2, d3, d4, d5, d6, d7, d8⟩ := q9
  dsimp only [netCells]
  have swc := bw_size hb1
  have HW := Lib.hid HO.ny
  have HWB : Below wc.heap.size wc wc := bw_refl wc
  clear HO
  replace H0 := bw_then H0 hb1
  clear hb1
  have hbX : Below wc.heap.size wc (wc.alloc (.cells #[.int .i64 X.mesh.g.w, .int .i64 X.mesh.g.h, .slice p1 X.mesh.br.length d1, .slice p2 X.pa.length d2, .slice p3 X.pb.length d3, .slice p4 X.bufs.length d4, .slice p5 X.owners.length d5, .slice p6 X.turns.length d6, .slice p7 X.srcs.length d7, .slice p8 X.arrs.length d8, .int .i64 X.time] 33)) := bw_alloc _ (bw_refl wc)
  have B4 : Box (wc.alloc (.cells #[.int .i64 X.mesh.g.w, .int .i64 X.mesh.g.h, .slice p1 X.mesh.br.length d1, .slice p2 X.pa.length d2, .slice p3 X.pb.length d3, .slice p4 X.bufs.length d4, .slice p5 X.owners.length d5, .slice p6 X.turns.length d6, .slice p7 X.srcs.length d7, .slice p8 X.arrs.length d8, .int .i64 X.time] 33)) wc.heap.size #[.int .i64 X.mesh.g.w, .int .i64 X.mesh.g.h, .slice p1 X.mesh.br.length d1, .slice p2 X.pa.length d2, .slice p3 X.pb.length d3, .slice p4 X.bufs.length d4, .slice p5 X.owners.length d5, .slice p6 X.turns.length d6, .slice p7 X.srcs.length d7, .slice p8 X.arrs.length d8, .int .i64 X.time] := Box.new wc _ _ _ rfl
  have sX : (wc.alloc (.cells #[.int .i64 X.mesh.g.w, .int .i64 X.mesh.g.h, .slice p1 X.mesh.br.length d1, .slice p2 X.pa.length d2, .slice p3 X.pb.length d3, .slice p4 X.bufs.length d4, .slice p5 X.owners.length d5, .slice p6 X.turns.length d6, .slice p7 X.srcs.length d7, .slice p8 X.arrs.length d8, .int .i64 X.time] 33)).heap.size = wc.heap.size + 1 := World.size_alloc _ _
  replace H0 := bw_then H0 hbX
  replace HWB := bw_then HWB hbX
  go_wp2_with fail
  generalize wc.alloc (.cells #[.int .i64 X.mesh.g.w, .int .i64 X.mesh.g.h, .slice p1 X.mesh.br.length d1, .slice p2 X.pa.length d2, .slice p3 X.pb.length d3, .slice p4 X.bufs.length d4, .slice p5 X.owners.length d5, .slice p6 X.turns.length d6, .slice p7 X.srcs.length d7, .slice p8 X.arrs.length d8, .int .i64 X.time] 33) = wc2 at *
  clear hbX
  have sX4 : wc.heap.size + 1 ≤ wc2.heap.size := Nat.le_of_eq sX.symm
  clear sX
  obtain ⟨y4, g4⟩ := B4
  refine (impl_RingNet _).mono ?_
  rintro e wf ⟨hg, hb1⟩
  rw [HX.out] at hg
  obtain ⟨q9, u4, u7, u8, rfl, HO⟩ := hg
  obtain ⟨ga1, ga2, ga3, ga4, ga5, ga6, ga7, ga8, gc1, gc2, gc3, gc4, gc5, gc6, gc7, gc8⟩ := q9
  dsimp only [netCells]
  have swf := bw_size hb1
  have HG := Lib.hid HO.ny
  have HTP := Lib.hid HO.ny.top
  clear HO
  replace H0 := bw_then H0 hb1
  replace HWB := bw_then HWB hb1
  have B4 := Box.below ⟨y4, g4⟩ hb1
  clear y4 g4
  obtain ⟨y4, g4⟩ := B4
  clear hb1
  have hbX : Below wf.heap.size wf (wf.alloc (.cells #[.int .i64 X.mesh.g.w, .int .i64 X.mesh.g.h, .slice ga1 X.mesh.br.length gc1, .slice ga2 X.pa.length gc2, .slice ga3 X.pb.length gc3, .slice ga4 X.bufs.length gc4, .slice ga5 X.owners.length gc5, .slice ga6 X.turns.length gc6, .slice ga7 X.srcs.length gc7, .slice ga8 X.arrs.length gc8, .int .i64 X.time] 33)) := bw_alloc _ (bw_refl wf)
  have B6 : Box (wf.alloc (.cells #[.int .i64 X.mesh.g.w, .int .i64 X.mesh.g.h, .slice ga1 X.mesh.br.length gc1, .slice ga2 X.pa.length gc2, .slice ga3 X.pb.length gc3, .slice ga4 X.bufs.length gc4, .slice ga5 X.owners.length gc5, .slice ga6 X.turns.length gc6, .slice ga7 X.srcs.length gc7, .slice ga8 X.arrs.length gc8, .int .i64 X.time] 33)) wf.heap.size #[.int .i64 X.mesh.g.w, .int .i64 X.mesh.g.h, .slice ga1 X.mesh.br.length gc1, .slice ga2 X.pa.length gc2, .slice ga3 X.pb.length gc3, .slice ga4 X.bufs.length gc4, .slice ga5 X.owners.length gc5, .slice ga6 X.turns.length gc6, .slice ga7 X.srcs.length gc7, .slice ga8 X.arrs.length gc8, .int .i64 X.time] := Box.new wf _ _ _ rfl
  have sX : (wf.alloc (.cells #[.int .i64 X.mesh.g.w, .int .i64 X.mesh.g.h, .slice ga1 X.mesh.br.length gc1, .slice ga2 X.pa.length gc2, .slice ga3 X.pb.length gc3, .slice ga4 X.bufs.length gc4, .slice ga5 X.owners.length gc5, .slice ga6 X.turns.length gc6, .slice ga7 X.srcs.length gc7, .slice ga8 X.arrs.length gc8, .int .i64 X.time] 33)).heap.size = wf.heap.size + 1 := World.size_alloc _ _
  replace H0 := bw_then H0 hbX
  replace HWB := bw_then HWB hbX
  have B4 := Box.below ⟨y4, g4⟩ hbX
  clear y4 g4
  obtain ⟨y4, g4⟩ := B4
  replace HG := Lib.hid (HG.out.below hbX)
  go_wp2_with fail
  generalize wf.alloc (.cells #[.int .i64 X.mesh.g.w, .int .i64 X.mesh.g.h, .slice ga1 X.mesh.br.length gc1, .slice ga2 X.pa.length gc2, .slice ga3 X.pb.length gc3, .slice ga4 X.bufs.length gc4, .slice ga5 X.owners.length gc5, .slice ga6 X.turns.length gc6, .slice ga7 X.srcs.length gc7, .slice ga8 X.arrs.length gc8, .int .i64 X.time] 33) = wg at *
  clear hbX
  have sX6 : wf.heap.size + 1 ≤ wg.heap.size := Nat.le_of_eq sX.symm
  clear sX
  obtain ⟨y6, g6⟩ := B6
  refine (laws_eqNet X _ _ _ (HG.out.reads NBX.out) ((HW.out.below HWB).reads NBX.out)).mono ?_
  rintro e wj ⟨rfl, hb1⟩
  have swj := bw_size hb1
  replace H0 := bw_then H0 hb1
  replace HWB := bw_then HWB hb1
  have B4 := Box.below ⟨y4, g4⟩ hb1
  clear y4 g4
  obtain ⟨y4, g4⟩ := B4
  have B6 := Box.below ⟨y6, g6⟩ hb1
  clear y6 g6
  obtain ⟨y6, g6⟩ := B6
  replace HG := Lib.hid (HG.out.below hb1)
  clear hb1
  go_wp2_with fail
  refine (laws_markNetY X ⟨ga1, ga2, ga3, ga4, ga5, ga6, ga7, ga8, gc1, gc2, gc3, gc4, gc5, gc6, gc7, gc8⟩ u4 u7 u8 _ wf.heap.size 1 _ HG.out NBX.out HTP.out (by omega) (by omega) (by omega)).mono ?_
  rintro e wk ⟨rfl, hm1, G⟩
  have HM := Lib.hid hm1
  clear HG hm1
  have swk := G.size
  replace H0 := Chg.below H0 G (by omega)
  replace HWB := Chg.below HWB G (by omega)
  have B4 := Box.chg ⟨y4, g4⟩ G (by omega)
  clear y4 g4
  obtain ⟨y4, g4⟩ := B4
  have B6 := Box.chg ⟨y6, g6⟩ G (by omega)
  clear y6 g6
  obtain ⟨y6, g6⟩ := B6
  clear G
  have NBM := Lib.hid (marked_nb (k := 1) NBX.out)
  have k8 : 0 ≤ mk8 1 X := (mk_bounds NBX.out (by omega) (by omega)).2.2.2.2.2.2.2
  have k8n : ¬ mk8 1 X < 0 := by omega
  have k8s := bne_self (mk8 1 X)
  go_wp2_with fail
  refine (laws_heldNetY X ⟨ga1, ga2, ga3, ga4, ga5, ga6, ga7, ga8, gc1, gc2, gc3, gc4, gc5, gc6, gc7, gc8⟩ 1 _ (HM.out.reads NBM.out) NBX.out (by omega) (by omega)).mono ?_
  rintro e wl ⟨rfl, hb1⟩
  have swl := bw_size hb1
  replace H0 := bw_then H0 hb1
  replace HWB := bw_then HWB hb1
  have B4 := Box.below ⟨y4, g4⟩ hb1
  clear y4 g4
  obtain ⟨y4, g4⟩ := B4
  have B6 := Box.below ⟨y6, g6⟩ hb1
  clear y6 g6
  obtain ⟨y6, g6⟩ := B6
  replace HM := Lib.hid (HM.out.below hb1)
  clear hb1
  go_wp2_with fail
  refine (impl_RingNet _).mono ?_
  rintro e wn ⟨hg, hb1⟩
  rw [HX.out] at hg
  obtain ⟨q9, t4, t7, t8, rfl, HO⟩ := hg
  obtain ⟨i1, i2, i3, i4, i5, i6, i7, i8, j1, j2, j3, j4, j5, j6, j7, j8⟩ := q9
  dsimp only [netCells]
  have swn := bw_size hb1
  have HH := Lib.hid HO.ny
  clear HO
  replace H0 := bw_then H0 hb1
  replace HWB := bw_then HWB hb1
  have B4 := Box.below ⟨y4, g4⟩ hb1
  clear y4 g4
  obtain ⟨y4, g4⟩ := B4
  have B6 := Box.below ⟨y6, g6⟩ hb1
  clear y6 g6
  obtain ⟨y6, g6⟩ := B6
  replace HM := Lib.hid (HM.out.below hb1)
  clear hb1
  have hbX : Below wn.heap.size wn (wn.alloc (.cells #[.int .i64 X.mesh.g.w, .int .i64 X.mesh.g.h, .slice i1 X.mesh.br.length j1, .slice i2 X.pa.length j2, .slice i3 X.pb.length j3, .slice i4 X.bufs.length j4, .slice i5 X.owners.length j5, .slice i6 X.turns.length j6, .slice i7 X.srcs.length j7, .slice i8 X.arrs.length j8, .int .i64 X.time] 33)) := bw_alloc _ (bw_refl wn)
  have B7 : Box (wn.alloc (.cells #[.int .i64 X.mesh.g.w, .int .i64 X.mesh.g.h, .slice i1 X.mesh.br.length j1, .slice i2 X.pa.length j2, .slice i3 X.pb.length j3, .slice i4 X.bufs.length j4, .slice i5 X.owners.length j5, .slice i6 X.turns.length j6, .slice i7 X.srcs.length j7, .slice i8 X.arrs.length j8, .int .i64 X.time] 33)) wn.heap.size #[.int .i64 X.mesh.g.w, .int .i64 X.mesh.g.h, .slice i1 X.mesh.br.length j1, .slice i2 X.pa.length j2, .slice i3 X.pb.length j3, .slice i4 X.bufs.length j4, .slice i5 X.owners.length j5, .slice i6 X.turns.length j6, .slice i7 X.srcs.length j7, .slice i8 X.arrs.length j8, .int .i64 X.time] := Box.new wn _ _ _ rfl
  have sX : (wn.alloc (.cells #[.int .i64 X.mesh.g.w, .int .i64 X.mesh.g.h, .slice i1 X.mesh.br.length j1, .slice i2 X.pa.length j2, .slice i3 X.pb.length j3, .slice i4 X.bufs.length j4, .slice i5 X.owners.length j5, .slice i6 X.turns.length j6, .slice i7 X.srcs.length j7, .slice i8 X.arrs.length j8, .int .i64 X.time] 33)).heap.size = wn.heap.size + 1 := World.size_alloc _ _
  replace H0 := bw_then H0 hbX
  replace HWB := bw_then HWB hbX
  have B4 := Box.below ⟨y4, g4⟩ hbX
  clear y4 g4
  obtain ⟨y4, g4⟩ := B4
  have B6 := Box.below ⟨y6, g6⟩ hbX
  clear y6 g6
  obtain ⟨y6, g6⟩ := B6
  replace HM := Lib.hid (HM.out.below hbX)
  have hbO := hbX
  go_wp2_with fail
  generalize wn.alloc (.cells #[.int .i64 X.mesh.g.w, .int .i64 X.mesh.g.h, .slice i1 X.mesh.br.length j1, .slice i2 X.pa.length j2, .slice i3 X.pb.length j3, .slice i4 X.bufs.length j4, .slice i5 X.owners.length j5, .slice i6 X.turns.length j6, .slice i7 X.srcs.length j7, .slice i8 X.arrs.length j8, .int .i64 X.time] 33) = wo at *
  clear hbX
  have sX7 : wn.heap.size + 1 ≤ wo.heap.size := Nat.le_of_eq sX.symm
  clear sX
  obtain ⟨y7, g7⟩ := B7
  refine (laws_eqNet X _ _ _ ((HH.out.below hbO).reads NBX.out) ((HW.out.below HWB).reads NBX.out)).mono ?_
  rintro e wp ⟨rfl, hb1⟩
  have swp := bw_size hb1
  replace H0 := bw_then H0 hb1
  replace HWB := bw_then HWB hb1
  have B4 := Box.below ⟨y4, g4⟩ hb1
  clear y4 g4
  obtain ⟨y4, g4⟩ := B4
  have B6 := Box.below ⟨y6, g6⟩ hb1
  clear y6 g6
  obtain ⟨y6, g6⟩ := B6
  have B7 := Box.below ⟨y7, g7⟩ hb1
  clear y7 g7
  obtain ⟨y7, g7⟩ := B7
  replace HM := Lib.hid (HM.out.below hb1)
  clear hb1
  go_wp2_with fail
  refine (laws_heldNetY X ⟨ga1, ga2, ga3, ga4, ga5, ga6, ga7, ga8, gc1, gc2, gc3, gc4, gc5, gc6, gc7, gc8⟩ 1 _ (HM.out.reads NBM.out) NBX.out (by omega) (by omega)).mono ?_
  rintro e wq ⟨rfl, hb1⟩
  have swq := bw_size hb1
  replace H0 := bw_then H0 hb1
  replace HWB := bw_then HWB hb1
  have B4 := Box.below ⟨y4, g4⟩ hb1
  clear y4 g4
  obtain ⟨y4, g4⟩ := B4
  have B6 := Box.below ⟨y6, g6⟩ hb1
  clear y6 g6
  obtain ⟨y6, g6⟩ := B6
  have B7 := Box.below ⟨y7, g7⟩ hb1
  clear y7 g7
  obtain ⟨y7, g7⟩ := B7
  replace HM := Lib.hid (HM.out.below hb1)
  clear hb1
  go_wp2
  go_ret
  exact ⟨rfl, H0⟩
end Go.Proofs.Ytmkbmddgkdoaiaa
namespace Go.Proofs.Ytmkbmddgkdoaiaa
open Go.ChangeShapes Go.WideShapes Go.ChangeAt Go.RowKit Go.Proofs.YtmkbmddgkdoaiaaW.PrintWords
open NoC
set_option linter.unusedVariables false
theorem own : ownKnob Try.prog.godebug = none := by kernel_rfl
theorem laidOut : laidOutB Try.prog = true := by kernel_rfl
theorem arr_of {cs : Array Value} {l : List Value} (h : cs.toList = l) : cs = l.toArray := by rw [← h]
set_option maxHeartbeats 1000000 in
set_option maxRecDepth 100000 in
theorem lifted_RingNet (os : Os) (started : os.Started) (H : Type) (enc : TypeId × Value → H) :
    ReturnsInHanded {} Try.checked os 3 .any (Rows.fnExactRingNetSpec.pre6 enc Try.prog Try.f3 Rows.fnExactRingNetRow.domain false) (Rows.fnExactRingNetSpec.post enc Try.prog Try.f3 false true false false) := by
  refine returnsInHanded_of_change_sized (C := Try.checked) own started (by kernel_rfl) Try.func3
    (ChangeSpec.witness6 (enc := enc) (C := Try.checked) false ⟨#[], #[], []⟩ 8 (by kernel_rfl) (by kernel_rfl) (by kernel_rfl) (by kernel_rfl)) ?_
  intro W base args ds gs before hval0 hW hcnd hsz0 _
  have hsz : (DataW.weightsEach Try.prog (Try.f3.params.toList ++ Rows.fnExactRingNetSpec.plain.varTypes Try.prog) (ds ++ gs)).all (· ≤ reachBytes) = true := hsz0
  have hval : ∀ (j : Nat) t v, Try.f3.params[j]? = some t → args[j]? = some v → Value.okWide Try.prog W .any base t v := hval0
  have hW' := hW
  obtain ⟨p, q, hA0, hV, rfl, hfz, hnd⟩ := hW
  have hA : DataW.TrodAll enc Try.prog W 0 (fun _ => true) true Try.f3.params.toList args.toList ds p := hA0
  rw [Try.params3] at hA hval hsz
  obtain ⟨hargs, rfl, rfl⟩ := trodAll_nil hA
  obtain rfl : args = #[] := by cases args; simp_all
  obtain ⟨rfl, rfl⟩ := trodVars_none hV
  clear hA0 hval0 hsz0 hsz
  refine (law_RingNet W).mono fun e W' ⟨he, bel⟩ => ?_
  subst he
  exact ⟨_, rfl, _, _, _, [], _, [], hW', trodAll_mk1 (shut_bool Try.underlying4 _), trodAll_mk0, rfl, bel.frame _, fun h => by cases h⟩
theorem over_RingNet : Rows.fnExactRingNetRow.holds Try.pinned (OpenSpec.ofChange Rows.fnExactRingNetSpec) :=
  OpenClaim.holds_of_wide 3 Try.f3 rfl rfl rfl rfl rfl rfl rfl ⟨rfl, rfl, rfl, rfl, rfl⟩ rfl rfl rfl rfl rfl (by kernel_rfl) Try.func3 (by kernel_rfl)
    (of_decide_eq_true (by kernel_rfl)) (by unfold Func.isWrapper; first | (rw [if_pos (by decide +kernel)]; kernel_rfl) | (rw [if_neg (by decide +kernel)]; exact ⟨rfl, rfl⟩))
    (fun os started H enc _ => lifted_RingNet os started H enc)
theorem fnExactRingNet_holds : Rows.FnExactRingNetSaid := over_RingNet
#print axioms fnExactRingNet_holds
end Go.Proofs.Ytmkbmddgkdoaiaa
