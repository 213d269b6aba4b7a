/- The law FnExactProgress answers true for all arguments, and leaves each as it was. No conditions. -/
import Derived.Test.YtodbglncccgdbaaQ7
import Derived.Test.YtodbglncccgdbaaQ15
import Derived.Test.YtodbglncccgdbaaQ14
import Derived.Test.YtodbglncccgdbaaRows
import Derived.WalkKit
import Derived.ProofKit
import Derived.OpenShut
import Derived.ShutString
import Derived.ChangeOld
import Derived.Below
import Derived.SizedLaws
set_option linter.unusedVariables false
set_option linter.unusedSimpArgs false
namespace Go.Proofs.Ytodbglncccgdbaa
open Go.RowKit Go.Proofs.YtodbglncccgdbaaW.PrintWords
open NoC
set_option maxRecDepth 100000 in
set_option maxHeartbeats 16000000 in
theorem law_Progress (A : Option Addr) (N c : Nat) (w : World) (HXB : Byt w A N) : Calls Try.prog 6 #[.slice A N c] w fun e w' => e = .returned (.bool true) ∧ Below w.heap.size w w' := by
  go_enter Try.func6, Try.ntmps6
  by_cases hbig : (1048576 : Int) < (N : Int)
  · go_wp2_with (go_at_call 7; refine (laws_big _ _ _ _).mono ?_; rintro e w' ⟨rfl, rfl⟩)
    go_ret
    exact ⟨rfl, bel⟩
  go_wp2_with (go_at_call 7; refine (laws_big _ _ _ _).mono ?_; rintro e w' ⟨rfl, rfl⟩)
  refine (spec_DrawSafeTraffic A N c _ HXB).mono ?_
  rintro e w1 ⟨⟨g, r, s, l, A2, A3, D, c2, c3, d, rfl, hg, hrs, hd, hC2, hC3, hCD⟩, hb1⟩
  have HXB1 := Lib.hid (HXB.below hb1)
  clear HXB
  have HS : Hid (St0 g r s l) := Lib.hid ⟨hg, ⟨hrs.1, by have := hrs.2.1; omega, hrs.2.2.1, by have := hrs.2.2.2; omega⟩, hd⟩
  have HRS := Lib.hid hrs
  have hpl := makeT_256 (g := g) (r := r)
  have hql := makeT_256 (g := g) (r := s)
  have hl6 := hd.1
  have HDR := Lib.hid hd
  have HGG := Lib.hid hg
  obtain ⟨pa, hpa⟩ : ∃ z, makeT g r = z := ⟨_, rfl⟩
  obtain ⟨pb, hpb⟩ : ∃ z, makeT g s = z := ⟨_, rfl⟩
  have HPA := Lib.hid hpa
  have HPB := Lib.hid hpb
  rw [hpa] at hpl hC2 ⊢
  rw [hpb] at hql hC3 ⊢
  clear hpa hpb hrs hd hg
  have HCB : Hid (Kd.C (Kd.int .i64) w1 none (⟨g, []⟩ : Mesh).br.length (⟨g, []⟩ : Mesh).br) := Lib.hid (Kd.R_rowX (Kd.R_nil (Kd.int .i64) 3 w1 0 (fun _ => True))).2.2
  have HC2 := Lib.hid hC2; have HC3 := Lib.hid hC3; have HCD := Lib.hid hCD
  have HWW := Lib.hid hb1
  clear hC2 hC3 hCD hb1
  obtain ⟨w2, e2⟩ : ∃ z, z = (w1.alloc (.cells #[.int .i64 g.w, .int .i64 g.h, .slice none 0 0] 28)).alloc (.cells #[.slice A2 pa.length c2, .slice A3 pb.length c3] 32) := ⟨_, rfl⟩
  have hb2 : Below w1.heap.size w1 w2 := by rw [e2]; exact bw_alloc _ (bw_alloc _ (bw_refl w1))
  have HM := Lib.hid (show Arr w2 w1.heap.size 28 #[.int .i64 g.w, .int .i64 g.h, .slice none 0 0] from by rw [e2]; exact (Arr.new w1 _ _ _ rfl).below (bw_alloc _ (bw_refl _)))
  have HK := Lib.hid (show Arr w2 (w1.heap.size + 1) 32 #[.slice A2 pa.length c2, .slice A3 pb.length c3] from by rw [e2]; exact Arr.new _ _ _ _ (by simp only [szs]))
  have z2 : w1.heap.size + 2 ≤ w2.heap.size := by rw [e2]; simp only [szs]; omega
  go_wp2_with fail
  rw [← e2]
  clear e2
  replace HCB := Lib.hid (Kd.C_below HCB.out hb2)
  replace HC2 := Lib.hid (Kd.C_below HC2.out hb2)
  replace HC3 := Lib.hid (Kd.C_below HC3.out hb2)
  replace HCD := Lib.hid (Kd.C_below HCD.out hb2)
  replace HXB1 := Lib.hid (HXB1.out.below hb2)
  replace HWW := Lib.hid (bw_then HWW.out hb2)
  clear hb2
  have NBN : NB (nw0 g r s) := newN_nb (by simp) (by have := makeT_256 (g := g) (r := r); omega) (by have := makeT_256 (g := g) (r := s); omega)
  have NBX : NB (stt g r s l) := sendAll_nb NBN
  have HNN : Hid (∀ W, Kd.C (Kd.int .i64) W none (⟨g, []⟩ : Mesh).br.length (⟨g, []⟩ : Mesh).br → Kd.C (Kd.int .i64) W A2 pa.length pa → Kd.C (Kd.int .i64) W A3 pb.length pb → Calls Try.prog 9 #[.agg #[.int .i64 g.w, .int .i64 g.h, .slice none 0 0], .agg #[.slice A2 pa.length c2, .slice A3 pb.length c3]] W fun e w' => GotNV W w' (nw0 g r s) (.bool true) e ∧ Below W.heap.size W w') := Lib.hid (fun W h1 h2 h3 => by
    have h := impl_NetNew ⟨g, []⟩ pa pb none A2 A3 0 c2 c3 W h1 (by simp) h2 (by omega) h3 (by omega)
    rw [← HPA.out, ← HPB.out, HS.out.new, HS.out.cls, HPA.out, HPB.out] at h
    exact h)
  have HSA : Hid (sendAllN (nw0 g r s) l = stt g r s l) := Lib.hid rfl
  have HSK := Lib.hid HS.out.all
  have HAR : Hid (∀ x ∈ (stt g r s l).arrs, x.length ≤ 1048576) := Lib.hid (St0.arrs g r s l)
  have NBN := Lib.hid NBN
  have NBX := Lib.hid NBX
  have HMV : Hid (movesAlwaysN (stt g r s l) 80 = true) := Lib.hid (HS.out.moves HRS.out.2.1 HRS.out.2.2.2)
  obtain ⟨N0, hN0⟩ : ∃ z, nw0 g r s = z := ⟨_, rfl⟩
  obtain ⟨X, hX⟩ : ∃ z, stt g r s l = z := ⟨_, rfl⟩
  rw [hN0] at NBN HNN HSA HSK
  rw [hX] at NBX HSA HAR HMV
  clear hN0 hX
  refine (HNN.out _ HCB.out HC2.out HC3.out).mono ?_
  rintro e w3 ⟨hg, hbc⟩
  skip
  obtain ⟨q9, v4, v7, v8, rfl, HNX⟩ := hg
  obtain ⟨a1, a2, a3, a4, a5, a6, a7, a8, c1, c2, c3, c4, c5, c6, c7, c8⟩ := q9
  dsimp only [netCells]
  have zzw3 := bw_size hbc
  replace HCB := Lib.hid (Kd.C_below HCB.out hbc)
  replace HC2 := Lib.hid (Kd.C_below HC2.out hbc)
  replace HC3 := Lib.hid (Kd.C_below HC3.out hbc)
  replace HCD := Lib.hid (Kd.C_below HCD.out hbc)
  replace HM := Lib.hid (HM.out.below hbc)
  replace HK := Lib.hid (HK.out.below hbc)
  replace HXB1 := Lib.hid (HXB1.out.below hbc)
  replace HWW := Lib.hid (bw_then HWW.out hbc)
  clear hbc
  have RR0 := Lib.hid (HNX.reads NBN.out)
  clear HNX
  have hbx : Below w3.heap.size w3 (w3.alloc (.cells #[.int .i64 N0.mesh.g.w, .int .i64 N0.mesh.g.h, .slice a1 N0.mesh.br.length c1, .slice a2 N0.pa.length c2, .slice a3 N0.pb.length c3, .slice a4 N0.bufs.length c4, .slice a5 N0.owners.length c5, .slice a6 N0.turns.length c6, .slice a7 N0.srcs.length c7, .slice a8 N0.arrs.length c8, .int .i64 N0.time] 38)) := bw_alloc _ (bw_refl w3)
  have BX0 := Lib.hid (show Box (w3.alloc (.cells #[.int .i64 N0.mesh.g.w, .int .i64 N0.mesh.g.h, .slice a1 N0.mesh.br.length c1, .slice a2 N0.pa.length c2, .slice a3 N0.pb.length c3, .slice a4 N0.bufs.length c4, .slice a5 N0.owners.length c5, .slice a6 N0.turns.length c6, .slice a7 N0.srcs.length c7, .slice a8 N0.arrs.length c8, .int .i64 N0.time] 38)) w3.heap.size #[.int .i64 N0.mesh.g.w, .int .i64 N0.mesh.g.h, .slice a1 N0.mesh.br.length c1, .slice a2 N0.pa.length c2, .slice a3 N0.pb.length c3, .slice a4 N0.bufs.length c4, .slice a5 N0.owners.length c5, .slice a6 N0.turns.length c6, .slice a7 N0.srcs.length c7, .slice a8 N0.arrs.length c8, .int .i64 N0.time] from Box.new w3 _ _ _ rfl)
  obtain ⟨y0, g0⟩ := BX0.out
  replace RR0 := Lib.hid (RR0.out.below hbx)
  replace HCB := Lib.hid (Kd.C_below HCB.out hbx)
  replace HC2 := Lib.hid (Kd.C_below HC2.out hbx)
  replace HC3 := Lib.hid (Kd.C_below HC3.out hbx)
  replace HCD := Lib.hid (Kd.C_below HCD.out hbx)
  replace HM := Lib.hid (HM.out.below hbx)
  replace HK := Lib.hid (HK.out.below hbx)
  replace HXB1 := Lib.hid (HXB1.out.below hbx)
  replace HWW := Lib.hid (bw_then HWW.out hbx)
  clear hbx
  have zzw4 : w3.heap.size + 1 ≤ (w3.alloc (.cells #[.int .i64 N0.mesh.g.w, .int .i64 N0.mesh.g.h, .slice a1 N0.mesh.br.length c1, .slice a2 N0.pa.length c2, .slice a3 N0.pb.length c3, .slice a4 N0.bufs.length c4, .slice a5 N0.owners.length c5, .slice a6 N0.turns.length c6, .slice a7 N0.srcs.length c7, .slice a8 N0.arrs.length c8, .int .i64 N0.time] 38)).heap.size := Nat.le_of_eq (World.size_alloc _ _).symm
  go_wp2_with fail
  generalize w3.alloc (.cells #[.int .i64 N0.mesh.g.w, .int .i64 N0.mesh.g.h, .slice a1 N0.mesh.br.length c1, .slice a2 N0.pa.length c2, .slice a3 N0.pb.length c3, .slice a4 N0.bufs.length c4, .slice a5 N0.owners.length c5, .slice a6 N0.turns.length c6, .slice a7 N0.srcs.length c7, .slice a8 N0.arrs.length c8, .int .i64 N0.time] 38) = w4 at *
  refine (impl_SendAll N0 l _ D d _ RR0.out HCD.out (by omega)).mono ?_
  rintro e w5 ⟨hg, hbc⟩
  rw [HSA.out, HSK.out] at hg
  obtain ⟨q9, v4, v7, v8, rfl, HNX⟩ := hg
  obtain ⟨p1, p2, p3, p4, p5, p6, p7, p8, d1, d2, d3, d4, d5, d6, d7, d8⟩ := q9
  dsimp only [netCells]
  have zzw5 := bw_size hbc
  replace RR0 := Lib.hid (RR0.out.below hbc)
  replace BX0 := Lib.hid (Box.below BX0.out hbc)
  clear y0 g0
  obtain ⟨y0, g0⟩ := BX0.out
  replace HCB := Lib.hid (Kd.C_below HCB.out hbc)
  replace HC2 := Lib.hid (Kd.C_below HC2.out hbc)
  replace HC3 := Lib.hid (Kd.C_below HC3.out hbc)
  replace HCD := Lib.hid (Kd.C_below HCD.out hbc)
  replace HM := Lib.hid (HM.out.below hbc)
  replace HK := Lib.hid (HK.out.below hbc)
  replace HXB1 := Lib.hid (HXB1.out.below hbc)
  replace HWW := Lib.hid (bw_then HWW.out hbc)
  clear hbc
  have RR1 := Lib.hid (HNX.reads NBX.out)
  clear HNX
  have hbx : Below w5.heap.size w5 (w5.alloc (.cells #[.int .i64 X.mesh.g.w, .int .i64 X.mesh.g.h, .slice p1 X.mesh.br.length d1, .slice p2 X.pa.length d2, .slice p3 X.pb.length d3, .slice p4 X.bufs.length d4, .slice p5 X.owners.length d5, .slice p6 X.turns.length d6, .slice p7 X.srcs.length d7, .slice p8 X.arrs.length d8, .int .i64 X.time] 38)) := bw_alloc _ (bw_refl w5)
  have BX1 := Lib.hid (show Box (w5.alloc (.cells #[.int .i64 X.mesh.g.w, .int .i64 X.mesh.g.h, .slice p1 X.mesh.br.length d1, .slice p2 X.pa.length d2, .slice p3 X.pb.length d3, .slice p4 X.bufs.length d4, .slice p5 X.owners.length d5, .slice p6 X.turns.length d6, .slice p7 X.srcs.length d7, .slice p8 X.arrs.length d8, .int .i64 X.time] 38)) w5.heap.size #[.int .i64 X.mesh.g.w, .int .i64 X.mesh.g.h, .slice p1 X.mesh.br.length d1, .slice p2 X.pa.length d2, .slice p3 X.pb.length d3, .slice p4 X.bufs.length d4, .slice p5 X.owners.length d5, .slice p6 X.turns.length d6, .slice p7 X.srcs.length d7, .slice p8 X.arrs.length d8, .int .i64 X.time] from Box.new w5 _ _ _ rfl)
  obtain ⟨y1, g1⟩ := BX1.out
  replace RR0 := Lib.hid (RR0.out.below hbx)
  replace BX0 := Lib.hid (Box.below BX0.out hbx)
  clear y0 g0
  obtain ⟨y0, g0⟩ := BX0.out
  replace RR1 := Lib.hid (RR1.out.below hbx)
  replace HCB := Lib.hid (Kd.C_below HCB.out hbx)
  replace HC2 := Lib.hid (Kd.C_below HC2.out hbx)
  replace HC3 := Lib.hid (Kd.C_below HC3.out hbx)
  replace HCD := Lib.hid (Kd.C_below HCD.out hbx)
  replace HM := Lib.hid (HM.out.below hbx)
  replace HK := Lib.hid (HK.out.below hbx)
  replace HXB1 := Lib.hid (HXB1.out.below hbx)
  replace HWW := Lib.hid (bw_then HWW.out hbx)
  clear hbx
  have zzw6 : w5.heap.size + 1 ≤ (w5.alloc (.cells #[.int .i64 X.mesh.g.w, .int .i64 X.mesh.g.h, .slice p1 X.mesh.br.length d1, .slice p2 X.pa.length d2, .slice p3 X.pb.length d3, .slice p4 X.bufs.length d4, .slice p5 X.owners.length d5, .slice p6 X.turns.length d6, .slice p7 X.srcs.length d7, .slice p8 X.arrs.length d8, .int .i64 X.time] 38)).heap.size := Nat.le_of_eq (World.size_alloc _ _).symm
  go_wp2_with fail
  generalize w5.alloc (.cells #[.int .i64 X.mesh.g.w, .int .i64 X.mesh.g.h, .slice p1 X.mesh.br.length d1, .slice p2 X.pa.length d2, .slice p3 X.pb.length d3, .slice p4 X.bufs.length d4, .slice p5 X.owners.length d5, .slice p6 X.turns.length d6, .slice p7 X.srcs.length d7, .slice p8 X.arrs.length d8, .int .i64 X.time] 38) = w6 at *
  refine (impl_MovesAlways X 80 _ _ RR1.out HAR.out).mono ?_
  rintro e w7 ⟨rfl, hbc⟩
  rw [HMV.out]
  have zzw7 := bw_size hbc
  replace RR0 := Lib.hid (RR0.out.below hbc)
  replace BX0 := Lib.hid (Box.below BX0.out hbc)
  clear y0 g0
  obtain ⟨y0, g0⟩ := BX0.out
  replace RR1 := Lib.hid (RR1.out.below hbc)
  replace BX1 := Lib.hid (Box.below BX1.out hbc)
  clear y1 g1
  obtain ⟨y1, g1⟩ := BX1.out
  replace HCB := Lib.hid (Kd.C_below HCB.out hbc)
  replace HC2 := Lib.hid (Kd.C_below HC2.out hbc)
  replace HC3 := Lib.hid (Kd.C_below HC3.out hbc)
  replace HCD := Lib.hid (Kd.C_below HCD.out hbc)
  replace HM := Lib.hid (HM.out.below hbc)
  replace HK := Lib.hid (HK.out.below hbc)
  replace HXB1 := Lib.hid (HXB1.out.below hbc)
  replace HWW := Lib.hid (bw_then HWW.out hbc)
  clear hbc
  go_wp2
  go_ret
  exact ⟨rfl, HWW.out⟩
end Go.Proofs.Ytodbglncccgdbaa
namespace Go.Proofs.Ytodbglncccgdbaa
open Go.ChangeShapes Go.WideShapes Go.ChangeAt Go.RowKit Go.Proofs.YtodbglncccgdbaaW.PrintWords
open NoC
set_option linter.unusedVariables false
theorem own : ownKnob Try.prog.godebug = none := by kernel_rfl
theorem laidOut : laidOutB Try.prog = true := by kernel_rfl
theorem arr_of {cs : Array Value} {l : List Value} (h : cs.toList = l) : cs = l.toArray := by rw [← h]
set_option maxHeartbeats 1000000 in
set_option maxRecDepth 100000 in
theorem lifted_Progress (os : Os) (started : os.Started) (H : Type) (enc : TypeId × Value → H) :
    ReturnsInHanded {} Try.checked os 6 .any (Rows.fnProgressSpec.pre6 enc Try.prog Try.f6 Rows.fnProgressRow.domain false) (Rows.fnProgressSpec.post enc Try.prog Try.f6 false true false false) := by
  refine returnsInHanded_of_change_sized (C := Try.checked) own started (by kernel_rfl) Try.func6
    (ChangeSpec.witness6 (enc := enc) (C := Try.checked) false ⟨#[], #[.slice none 0 0], []⟩ 8 (by kernel_rfl) (by kernel_rfl) (by kernel_rfl) (by kernel_rfl)) ?_
  intro W base args ds gs before hval0 hW hcnd hsz0 _
  have hsz : (DataW.weightsEach Try.prog (Try.f6.params.toList ++ Rows.fnProgressSpec.plain.varTypes Try.prog) (ds ++ gs)).all (· ≤ reachBytes) = true := hsz0
  have hval : ∀ (j : Nat) t v, Try.f6.params[j]? = some t → args[j]? = some v → Value.okWide Try.prog W .any base t v := hval0
  have hW' := hW
  obtain ⟨p, q, hA0, hV, rfl, hfz, hnd⟩ := hW
  have hA : DataW.TrodAll enc Try.prog W 0 (fun _ => true) true Try.f6.params.toList args.toList ds p := hA0
  rw [Try.params6] at hA hval hsz
  obtain ⟨v0, vs0, d0, ds0, p0, q0, hargs, rfl, rfl, h0, r0⟩ := trodAll_cons hA
  obtain ⟨rfl, rfl, rfl⟩ := trodAll_nil r0
  obtain rfl : args = #[v0] := by cases args; simp_all
  obtain ⟨rfl, rfl⟩ := trodVars_none hV
  obtain ⟨c0, n0, o0, rfl⟩ := okWide_slice Try.underlying22 (hval 0 _ v0 rfl rfl)
  have k0 := h0
  have lt0 : ∀ x ∈ p0, x.block < W.heap.size := by obtain ⟨m, hm⟩ := k0; exact DataW.trod_lt m _ _ _ hm
  obtain ⟨f0, g0⟩ := h0
  obtain ⟨A0, a0, N0, e0, hl0⟩ := op_bytes g0 (light_arg hsz (j := 0) rfl rfl)
  simp [Value.cells] at e0
  obtain ⟨rfl, rfl, rfl⟩ := e0
  clear hA0 hval0 hsz0 hsz
  refine (law_Progress c0 n0 o0 W hl0).mono fun e W' ⟨he, bel⟩ => ?_
  subst he
  exact ⟨_, rfl, _, _, _, [], _, [], hW', trodAll_mk1 (shut_bool Try.underlying4 _), (trodAll_cons_mk (Below.trod laidOut (by kernel_rfl) (of_decide_eq_true (by kernel_rfl)) k0 bel lt0) trodAll_mk0), rfl, bel.frame _, fun h => by cases h⟩
theorem over_Progress : Rows.fnProgressRow.holds Try.pinned (OpenSpec.ofChange Rows.fnProgressSpec) :=
  OpenClaim.holds_of_wide 6 Try.f6 rfl rfl rfl rfl rfl rfl rfl ⟨rfl, rfl, rfl, rfl, rfl⟩ rfl rfl rfl rfl rfl (by kernel_rfl) Try.func6 (by kernel_rfl)
    (of_decide_eq_true (by kernel_rfl)) (by unfold Func.isWrapper; first | (rw [if_pos (by decide +kernel)]; kernel_rfl) | (rw [if_neg (by decide +kernel)]; exact ⟨rfl, rfl⟩))
    (fun os started H enc _ => lifted_Progress os started H enc)
theorem fnProgress_holds : Rows.FnProgressSaid := over_Progress
#print axioms fnProgress_holds
end Go.Proofs.Ytodbglncccgdbaa
