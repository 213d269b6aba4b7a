/- The law FnExactCredits answers true for all arguments, and leaves each as it was. No conditions. -/
import Derived.Test.YtaihmgbflhbebaaGreatQ18
import Derived.Test.YtaihmgbflhbebaaGreatQ19
import Derived.Test.YtaihmgbflhbebaaGreatRows
import Derived.WalkKit
import Derived.ProofKit
import Derived.OpenShut
import Derived.ShutString
import Derived.ChangeOld
import Derived.Below
import Derived.SizedLaws
set_option linter.unusedVariables false
set_option linter.unusedSimpArgs false
namespace Go.Proofs.YtaihmgbflhbebaaGreat
open Go.RowKit Go.Proofs.YtaihmgbflhbebaaGreatW.PrintWords
open NoC
set_option maxRecDepth 100000 in
set_option maxHeartbeats 16000000 in
theorem law_Credits (A : Option Addr) (N c : Nat) (w : World) (HXB : Byt w A N) : Calls Tryz.prog 8 #[.slice A N c] w fun e w' => e = .returned (.bool true) ∧ Below w.heap.size w w' := by
  go_enter Tryz.func8, Tryz.ntmps8
  by_cases hbig : (1048576 : Int) < (N : Int)
  · go_wp2_with (go_at_call 10; refine (laws_big _ _ _ _).mono ?_; rintro e w' ⟨rfl, rfl⟩)
    go_ret
    exact ⟨rfl, bel⟩
  go_wp2_with (go_at_call 10; refine (laws_big _ _ _ _).mono ?_; rintro e w' ⟨rfl, rfl⟩)
  refine (spec_DrawNet A N c _ HXB).mono ?_
  rintro e w1 ⟨⟨n, q, rfl, HD, hr⟩, hb1⟩
  have RR0 := Lib.hid hr
  have HWW := Lib.hid hb1
  have HXB1 := Lib.hid (HXB.below hb1)
  have HDN := Lib.hid HD
  obtain ⟨a1, a2, a3, a4, a5, a6, a7, a8, c1, c2, c3, c4, c5, c6, c7, c8⟩ := q
  clear hr hb1 HD HXB
  dsimp only [netCells]
  obtain ⟨ok, we, t0, t1, hA, g, hm, hg2⟩ := HDN.out.facts
  have HMM := Lib.hid hm
  clear hm
  have HX : Hid (stepNetN n = stepN n) := Lib.hid (by unfold stepNetN; rw [if_pos ok, if_neg (by omega)])
  have HV : Hid (canStepN n = true) := Lib.hid (by unfold canStepN; rw [ok]; simp; omega)
  have okx := step_ok ok (by omega)
  have nbx : NB (stepN n) := by have h := stepNet_nb RR0.out.nb hA; rwa [HX.out] at h
  have HCA : Hid (creditsAfterV n = creditsN (stepN n)) := Lib.hid (by unfold creditsAfterV; rw [if_pos ok, credits_after ok])
  have HCT : Hid (CreditTable_ (stepN n) = creditsN (stepN n)) := Lib.hid (by unfold CreditTable_; rw [if_pos okx])
  have HRG : Hid (∀ k : Nat, k < (creditsN (stepN n)).length → -1 ≤ ri (creditsN (stepN n)) (k : Int) ∧ ri (creditsN (stepN n)) (k : Int) ≤ 3) := Lib.hid (credits_range okx)
  have hcl : (creditsN (stepN n)).length ≤ 1000 := by
    have h1 := credit_len (n := stepN n)
    have h2 := count_le (stepN n).mesh.g
    omega
  have NBX := Lib.hid nbx
  have HOX := Lib.hid okx
  obtain ⟨X, hX⟩ : ∃ z, stepN n = z := ⟨_, rfl⟩
  rw [hX] at HX HCA HCT HRG NBX HOX hcl
  obtain ⟨cs, hcs⟩ : ∃ z, creditsN X = z := ⟨_, rfl⟩
  rw [hcs] at HCA HCT HRG hcl
  clear hX hcs hA okx nbx we ok hg2
  have hbx : Below w1.heap.size w1 (w1.alloc (.cells #[.int .i64 n.mesh.g.w, .int .i64 n.mesh.g.h, .slice a1 n.mesh.br.length c1, .slice a2 n.pa.length c2, .slice a3 n.pb.length c3, .slice a4 n.bufs.length c4, .slice a5 n.owners.length c5, .slice a6 n.turns.length c6, .slice a7 n.srcs.length c7, .slice a8 n.arrs.length c8, .int .i64 n.time] 35)) := bw_alloc _ (bw_refl w1)
  have BX0 := Lib.hid (show Box (w1.alloc (.cells #[.int .i64 n.mesh.g.w, .int .i64 n.mesh.g.h, .slice a1 n.mesh.br.length c1, .slice a2 n.pa.length c2, .slice a3 n.pb.length c3, .slice a4 n.bufs.length c4, .slice a5 n.owners.length c5, .slice a6 n.turns.length c6, .slice a7 n.srcs.length c7, .slice a8 n.arrs.length c8, .int .i64 n.time] 35)) w1.heap.size #[.int .i64 n.mesh.g.w, .int .i64 n.mesh.g.h, .slice a1 n.mesh.br.length c1, .slice a2 n.pa.length c2, .slice a3 n.pb.length c3, .slice a4 n.bufs.length c4, .slice a5 n.owners.length c5, .slice a6 n.turns.length c6, .slice a7 n.srcs.length c7, .slice a8 n.arrs.length c8, .int .i64 n.time] from Box.new w1 _ _ _ rfl)
  obtain ⟨y0, g0⟩ := BX0.out
  replace RR0 := Lib.hid (RR0.out.below hbx)
  replace HWW := Lib.hid (bw_then HWW.out hbx)
  clear hbx
  have zzw2 : w1.heap.size + 1 ≤ (w1.alloc (.cells #[.int .i64 n.mesh.g.w, .int .i64 n.mesh.g.h, .slice a1 n.mesh.br.length c1, .slice a2 n.pa.length c2, .slice a3 n.pb.length c3, .slice a4 n.bufs.length c4, .slice a5 n.owners.length c5, .slice a6 n.turns.length c6, .slice a7 n.srcs.length c7, .slice a8 n.arrs.length c8, .int .i64 n.time] 35)).heap.size := Nat.le_of_eq (World.size_alloc _ _).symm
  go_wp2_with fail
  generalize w1.alloc (.cells #[.int .i64 n.mesh.g.w, .int .i64 n.mesh.g.h, .slice a1 n.mesh.br.length c1, .slice a2 n.pa.length c2, .slice a3 n.pb.length c3, .slice a4 n.bufs.length c4, .slice a5 n.owners.length c5, .slice a6 n.turns.length c6, .slice a7 n.srcs.length c7, .slice a8 n.arrs.length c8, .int .i64 n.time] 35) = w2 at *
  refine (impl_StepNet n _ _ RR0.out).mono ?_
  rintro e w3 ⟨hg, hbc⟩
  rw [HX.out, HV.out] at hg
  obtain ⟨q9, v4, v7, v8, rfl, HNX⟩ := hg
  obtain ⟨p1, p2, p3, p4, p5, p6, p7, p8, d1, d2, d3, d4, d5, d6, d7, d8⟩ := q9
  dsimp only [netCells]
  have zzw3 := bw_size hbc
  replace RR0 := Lib.hid (RR0.out.below hbc)
  replace BX0 := Lib.hid (Box.below BX0.out hbc)
  clear y0 g0
  obtain ⟨y0, g0⟩ := BX0.out
  replace HWW := Lib.hid (bw_then HWW.out hbc)
  clear hbc
  have RR1 := Lib.hid (HNX.reads NBX.out)
  clear HNX
  have hbx : Below w3.heap.size w3 (w3.alloc (.cells #[.int .i64 X.mesh.g.w, .int .i64 X.mesh.g.h, .slice p1 X.mesh.br.length d1, .slice p2 X.pa.length d2, .slice p3 X.pb.length d3, .slice p4 X.bufs.length d4, .slice p5 X.owners.length d5, .slice p6 X.turns.length d6, .slice p7 X.srcs.length d7, .slice p8 X.arrs.length d8, .int .i64 X.time] 35)) := bw_alloc _ (bw_refl w3)
  have BX1 := Lib.hid (show Box (w3.alloc (.cells #[.int .i64 X.mesh.g.w, .int .i64 X.mesh.g.h, .slice p1 X.mesh.br.length d1, .slice p2 X.pa.length d2, .slice p3 X.pb.length d3, .slice p4 X.bufs.length d4, .slice p5 X.owners.length d5, .slice p6 X.turns.length d6, .slice p7 X.srcs.length d7, .slice p8 X.arrs.length d8, .int .i64 X.time] 35)) w3.heap.size #[.int .i64 X.mesh.g.w, .int .i64 X.mesh.g.h, .slice p1 X.mesh.br.length d1, .slice p2 X.pa.length d2, .slice p3 X.pb.length d3, .slice p4 X.bufs.length d4, .slice p5 X.owners.length d5, .slice p6 X.turns.length d6, .slice p7 X.srcs.length d7, .slice p8 X.arrs.length d8, .int .i64 X.time] from Box.new w3 _ _ _ rfl)
  obtain ⟨y1, g1⟩ := BX1.out
  replace RR0 := Lib.hid (RR0.out.below hbx)
  replace BX0 := Lib.hid (Box.below BX0.out hbx)
  clear y0 g0
  obtain ⟨y0, g0⟩ := BX0.out
  replace RR1 := Lib.hid (RR1.out.below hbx)
  replace HWW := Lib.hid (bw_then HWW.out hbx)
  clear hbx
  have zzw4 : w3.heap.size + 1 ≤ (w3.alloc (.cells #[.int .i64 X.mesh.g.w, .int .i64 X.mesh.g.h, .slice p1 X.mesh.br.length d1, .slice p2 X.pa.length d2, .slice p3 X.pb.length d3, .slice p4 X.bufs.length d4, .slice p5 X.owners.length d5, .slice p6 X.turns.length d6, .slice p7 X.srcs.length d7, .slice p8 X.arrs.length d8, .int .i64 X.time] 35)).heap.size := Nat.le_of_eq (World.size_alloc _ _).symm
  go_wp2_with fail
  generalize w3.alloc (.cells #[.int .i64 X.mesh.g.w, .int .i64 X.mesh.g.h, .slice p1 X.mesh.br.length d1, .slice p2 X.pa.length d2, .slice p3 X.pb.length d3, .slice p4 X.bufs.length d4, .slice p5 X.owners.length d5, .slice p6 X.turns.length d6, .slice p7 X.srcs.length d7, .slice p8 X.arrs.length d8, .int .i64 X.time] 35) = w4 at *
  refine (impl_CreditsAfter n _ _ RR0.out).mono ?_
  rintro e w5 ⟨hg, hbc⟩
  rw [HCA.out] at hg
  obtain ⟨Aa, ca, rfl, hka, hCa⟩ := hg.read
  have HROWA := Lib.hid hCa
  clear hg hCa
  have zzw5 := bw_size hbc
  replace RR0 := Lib.hid (RR0.out.below hbc)
  replace BX0 := Lib.hid (Box.below BX0.out hbc)
  clear y0 g0
  obtain ⟨y0, g0⟩ := BX0.out
  replace RR1 := Lib.hid (RR1.out.below hbc)
  replace BX1 := Lib.hid (Box.below BX1.out hbc)
  clear y1 g1
  obtain ⟨y1, g1⟩ := BX1.out
  replace HWW := Lib.hid (bw_then HWW.out hbc)
  clear hbc
  go_wp2_with fail
  refine (impl_CreditTable X _ _ RR1.out).mono ?_
  rintro e w6 ⟨hg, hbc⟩
  rw [HCT.out] at hg
  obtain ⟨Ab, cb, rfl, hkb, hCb⟩ := hg.read
  have HROWB := Lib.hid hCb
  clear hg hCb
  have zzw6 := bw_size hbc
  replace RR0 := Lib.hid (RR0.out.below hbc)
  replace BX0 := Lib.hid (Box.below BX0.out hbc)
  clear y0 g0
  obtain ⟨y0, g0⟩ := BX0.out
  replace RR1 := Lib.hid (RR1.out.below hbc)
  replace BX1 := Lib.hid (Box.below BX1.out hbc)
  clear y1 g1
  obtain ⟨y1, g1⟩ := BX1.out
  replace HROWA := Lib.hid (Kd.C_below HROWA.out hbc)
  replace HWW := Lib.hid (bw_then HWW.out hbc)
  clear hbc
  go_wp2_with fail
  go_loopw [8] (fun i wr => ∃ k : Nat, i = .int .i64 k ∧ k ≤ cs.length ∧ Hid (Below w6.heap.size w6 wr)) (fun i _ => cs.length - (intOf i).toNat)
  case atStart => exact ⟨0, rfl, Nat.zero_le _, Lib.hid (bw_refl _)⟩
  case round =>
    obtain ⟨k, rfl, hk, HBr⟩ := hrel
    have i9 : (0 : Int) ≤ (k : Int) := by omega
    clear y0 g0 y1 g1
    by_cases hlt : k < cs.length
    · obtain ⟨b1, o1, hAb, hb1, hx⟩ := rdI_at (Kd.C_below HROWB.out HBr.out) k hlt
      have hxk := hx k hlt
      have hrk := HRG.out k hlt
      subst hAb
      obtain ⟨x, hx2⟩ : ∃ x, ri cs (k : Int) = x := ⟨_, rfl⟩
      rw [hx2] at hxk hrk
      have i0 : (k : Int) < (cs.length : Int) := by omega
      have d1 : ¬ x < -1 := by omega
      have d2 : ¬ 3 < x := by omega
      clear hx hx2 hrk
      go_wp2
      go_roundw
      case rel => exact ⟨k + 1, by go_num, by omega, HBr⟩
      case measure => simp [intOf]; omega
    · obtain rfl : k = cs.length := by omega
      have i0 : ¬ (cs.length : Int) < (cs.length : Int) := by omega
      obtain ⟨y1, g1⟩ := Box.below BX1.out HBr.out
      go_wp2_with (first | (go_at_call 28; refine (laws_sameInts cs Aa Ab ca cb _ (Kd.C_below HROWA.out (by first | exact HBr.out | exact HBr.out)) (Kd.C_below HROWB.out (by first | exact HBr.out | exact HBr.out)) (by omega)).mono ?_; rintro e wz ⟨rfl, hbz⟩; replace HBr := Lib.hid (bw_then HBr.out hbz); clear y1 g1; obtain ⟨y1, g1⟩ := Box.below BX1.out HBr.out) | (go_at_call 29; refine (impl_TotalCredit X _ _ (RR1.out.below HBr.out) HOX.out).mono ?_; rintro e wy ⟨⟨tv, htv, rfl⟩, hby⟩; replace HBr := Lib.hid (bw_then HBr.out hby)))
      go_ret
      have htd : decide (0 ≤ tv) = true := decide_eq_true htv
      exact ⟨by first | rfl | exact ret_bool (by simp [htv]) | simp [htv], bw_then HWW.out HBr.out⟩
end Go.Proofs.YtaihmgbflhbebaaGreat
namespace Go.Proofs.YtaihmgbflhbebaaGreat
open Go.ChangeShapes Go.WideShapes Go.ChangeAt Go.RowKit Go.Proofs.YtaihmgbflhbebaaGreatW.PrintWords
open NoC
set_option linter.unusedVariables false
theorem own : ownKnob Tryz.prog.godebug = none := by kernel_rfl
theorem laidOut : laidOutB Tryz.prog = true := by kernel_rfl
theorem arr_of {cs : Array Value} {l : List Value} (h : cs.toList = l) : cs = l.toArray := by rw [← h]
set_option maxHeartbeats 1000000 in
set_option maxRecDepth 100000 in
theorem lifted_Credits (os : Os) (started : os.Started) (H : Type) (enc : TypeId × Value → H) :
    ReturnsInHanded {} Tryz.checked os 8 .any (Rows.fnCreditsSpec.pre6 enc Tryz.prog Tryz.f8 Rows.fnCreditsRow.domain false) (Rows.fnCreditsSpec.post enc Tryz.prog Tryz.f8 false true false false) := by
  refine returnsInHanded_of_change_sized (C := Tryz.checked) own started (by kernel_rfl) Tryz.func8
    (ChangeSpec.witness6 (enc := enc) (C := Tryz.checked) false ⟨#[], #[.slice none 0 0], []⟩ 8 (by kernel_rfl) (by kernel_rfl) (by kernel_rfl) (by kernel_rfl)) ?_
  intro W base args ds gs before hval0 hW hcnd hsz0 _
  have hsz : (DataW.weightsEach Tryz.prog (Tryz.f8.params.toList ++ Rows.fnCreditsSpec.plain.varTypes Tryz.prog) (ds ++ gs)).all (· ≤ reachBytes) = true := hsz0
  have hval : ∀ (j : Nat) t v, Tryz.f8.params[j]? = some t → args[j]? = some v → Value.okWide Tryz.prog W .any base t v := hval0
  have hW' := hW
  obtain ⟨p, q, hA0, hV, rfl, hfz, hnd⟩ := hW
  have hA : DataW.TrodAll enc Tryz.prog W 0 (fun _ => true) true Tryz.f8.params.toList args.toList ds p := hA0
  rw [Tryz.params8] at hA hval hsz
  obtain ⟨v0, vs0, d0, ds0, p0, q0, hargs, rfl, rfl, h0, r0⟩ := trodAll_cons hA
  obtain ⟨rfl, rfl, rfl⟩ := trodAll_nil r0
  obtain rfl : args = #[v0] := by cases args; simp_all
  obtain ⟨rfl, rfl⟩ := trodVars_none hV
  obtain ⟨c0, n0, o0, rfl⟩ := okWide_slice Tryz.underlying22 (hval 0 _ v0 rfl rfl)
  have k0 := h0
  have lt0 : ∀ x ∈ p0, x.block < W.heap.size := by obtain ⟨m, hm⟩ := k0; exact DataW.trod_lt m _ _ _ hm
  obtain ⟨f0, g0⟩ := h0
  obtain ⟨A0, a0, N0, e0, hl0⟩ := op_bytes g0 (light_arg hsz (j := 0) rfl rfl)
  simp [Value.cells] at e0
  obtain ⟨rfl, rfl, rfl⟩ := e0
  clear hA0 hval0 hsz0 hsz
  refine (law_Credits c0 n0 o0 W hl0).mono fun e W' ⟨he, bel⟩ => ?_
  subst he
  exact ⟨_, rfl, _, _, _, [], _, [], hW', trodAll_mk1 (shut_bool Tryz.underlying4 _), (trodAll_cons_mk (Below.trod laidOut (by kernel_rfl) (of_decide_eq_true (by kernel_rfl)) k0 bel lt0) trodAll_mk0), rfl, bel.frame _, fun h => by cases h⟩
theorem over_Credits : Rows.fnCreditsRow.holds Tryz.pinned (OpenSpec.ofChange Rows.fnCreditsSpec) :=
  OpenClaim.holds_of_wide 8 Tryz.f8 rfl rfl rfl rfl rfl rfl rfl ⟨rfl, rfl, rfl, rfl, rfl⟩ rfl rfl rfl rfl rfl (by kernel_rfl) Tryz.func8 (by kernel_rfl)
    (of_decide_eq_true (by kernel_rfl)) (by unfold Func.isWrapper; first | (rw [if_pos (by decide +kernel)]; kernel_rfl) | (rw [if_neg (by decide +kernel)]; exact ⟨rfl, rfl⟩))
    (fun os started H enc _ => lifted_Credits os started H enc)
theorem fnCredits_holds : Rows.FnCreditsSaid := over_Credits
#print axioms fnCredits_holds
end Go.Proofs.YtaihmgbflhbebaaGreat
