/- The law FnExactGrants answers true for all arguments, and leaves each as it was. No conditions. -/
import Derived.Test.YtaihmgbflhbebaaQ17
import Derived.Test.YtaihmgbflhbebaaQ18
import Derived.Test.YtaihmgbflhbebaaQ9
import Derived.Test.YtaihmgbflhbebaaRows
import Derived.WalkKit
import Derived.ProofKit
import Derived.OpenShut
import Derived.ShutString
import Derived.ChangeOld
import Derived.Below
import Derived.SizedLaws
set_option linter.unusedVariables false
set_option linter.unusedSimpArgs false
namespace Go.Proofs.Ytaihmgbflhbebaa
open Go.RowKit Go.Proofs.YtaihmgbflhbebaaW.PrintWords
open NoC
set_option maxRecDepth 100000 in
set_option maxHeartbeats 16000000 in
theorem law_Grants (A : Option Addr) (N c : Nat) (w : World) (HXB : Byt w A N) : Calls Try.prog 3 #[.slice A N c] w fun e w' => e = .returned (.bool true) ∧ Below w.heap.size w w' := by
 go_enter Try.func3, Try.ntmps3
 by_cases hbig : (1048576 : Int) < (N : Int)
 ·go_wp2_with (go_at_call 4; refine (laws_big _ _ _ _).mono ?_; rintro e w' ⟨rfl, rfl⟩)
  go_ret
  exact ⟨rfl, bel⟩
 go_wp2_with (go_at_call 4; refine (laws_big _ _ _ _).mono ?_; rintro e w' ⟨rfl, rfl⟩)
 refine (spec_DrawNet A N c _ HXB).mono ?_
 rintro e w1 ⟨⟨n, q, rfl, HD, hr⟩, hb1⟩
 have RR0 := Lib.hid hr
 have HWW := Lib.hid hb1
 have HXB1 := Lib.hid (HXB.below hb1)
 have HDN := Lib.hid HD
 obtain ⟨a1, a2, a3, a4, a5, a6, a7, a8, c1, c2, c3, c4, c5, c6, c7, c8⟩ := q
 clear hr hb1 HD HXB
 dsimp only [netCells]
 obtain ⟨ok, we, t0, t1, hA, g, hm, hg2⟩ := HDN.out.facts
 have HMM := Lib.hid hm
 clear hm
 have HGG : Hid (allGrantsN n = allGrants n) := Lib.hid (by unfold allGrantsN; rw [if_pos ok])
 have mr := allGrants_len n
 have HGR : Hid (∀ k : Nat, k < (allGrants n).length → isNode n.mesh.g (rg (allGrants n) (k : Int)).node = true ∧ 0 ≤ (rg (allGrants n) (k : Int)).input ∧ (rg (allGrants n) (k : Int)).input ≤ 9 ∧ reqI n (rg (allGrants n) (k : Int)).node (rg (allGrants n) (k : Int)).input (rg (allGrants n) (k : Int)).port = true) := Lib.hid (fun k hk => by
  have one := grants_one (show rg (allGrants n) (k : Int) ∈ allGrants n by rw [rg_at4 _ k hk]; exact List.getElem_mem hk)
  exact ⟨one.nd, one.i0, one.i9, by rw [reqI_in one.p0 one.p4]; exact one.req⟩)
 have HAP : Hid (∀ i j : Nat, j < i → i < (allGrants n).length → (rg (allGrants n) (i : Int)).node = (rg (allGrants n) (j : Int)).node → ¬ (rg (allGrants n) (i : Int)).port = (rg (allGrants n) (j : Int)).port ∧ ¬ (rg (allGrants n) (i : Int)).input / 2 = (rg (allGrants n) (j : Int)).input / 2) := Lib.hid (fun i j hj hi => grants_apart n hj hi)
 have HNC : Hid (n.mesh.g.w * n.mesh.g.h = nodeCount n.mesh.g ∧ 1 ≤ n.mesh.g.w ∧ n.mesh.g.w ≤ 4 ∧ 1 ≤ n.mesh.g.h ∧ n.mesh.g.h ≤ 4) := Lib.hid (by rw [HMM.out]; exact grid_count hg2)
 have ncl : nodeCount n.mesh.g ≤ 16 := (count_le _).2
 have nc2 : 2 ≤ nodeCount n.mesh.g := by rw [HMM.out]; exact hg2
 obtain ⟨K, hK⟩ : ∃ K : Nat, nodeCount n.mesh.g = (K : Int) := ⟨(nodeCount n.mesh.g).toNat, by omega⟩
 have HND : Hid (∀ a : Nat, a < K → isNode n.mesh.g (a : Int) = true) := Lib.hid (fun a ha => isNode_iff.2 ⟨by omega, by omega⟩)
 have HRA : Hid (∀ (a : Nat) (p : Int), a < K → requestsAt n (a : Int) p = requestsN n (a : Int) p) := Lib.hid (fun a p ha => requestsAt_yes ok (HND.out a ha))
 have HGA : Hid (∀ a : Nat, a < K → grantsAtN n (a : Int) = grantsN n (a : Int)) := Lib.hid (fun a ha => grantsAt_yes ok (HND.out a ha))
 have HANY : Hid (∀ a : Nat, a < K → ((∃ p : Nat, p < 5 ∧ 0 < (requestsN n (a : Int) (p : Int)).length) ↔ 0 < (grantsN n (a : Int)).length)) := Lib.hid (fun a ha => any_iff (HND.out a ha))
 have HCT : Hid (∀ a : Nat, (allTo n (a + 1)).length = (allTo n a).length + (grantsN n (a : Int)).length) := Lib.hid (fun a => by rw [allTo_succ, List.length_append])
 have HCK : Hid ((allTo n K).length = (allGrants n).length) := Lib.hid (by unfold allGrants; rw [hK, Int.toNat_natCast])
 have HGL : Hid (∀ a : Nat, (grantsN n (a : Int)).length ≤ 5) := Lib.hid (fun a => gst_len n a 5)
 have HTL : Hid (∀ a : Nat, (allTo n a).length ≤ 5 * a) := Lib.hid (allTo_len n)
 have HOK := Lib.hid ok
 have HNK : Hid (n.mesh.g.w * n.mesh.g.h = (K : Int)) := Lib.hid (by rw [HNC.out.1, hK])
 obtain ⟨gw1, gw4, gh1, gh4⟩ := HNC.out.2
 have K16 : K ≤ 16 := by omega
 clear HNC hK ncl nc2 hA we ok hg2
 obtain ⟨gs, hgs⟩ : ∃ z, allGrants n = z := ⟨_, rfl⟩
 rw [hgs] at HGG HGR HAP HCK mr
 clear hgs
 have hbx : Below w1.heap.size w1 (w1.alloc (.cells #[.int .i64 n.mesh.g.w, .int .i64 n.mesh.g.h, .slice a1 n.mesh.br.length c1, .slice a2 n.pa.length c2, .slice a3 n.pb.length c3, .slice a4 n.bufs.length c4, .slice a5 n.owners.length c5, .slice a6 n.turns.length c6, .slice a7 n.srcs.length c7, .slice a8 n.arrs.length c8, .int .i64 n.time] 35)) := bw_alloc _ (bw_refl w1)
 have BX0 := Lib.hid (show Box (w1.alloc (.cells #[.int .i64 n.mesh.g.w, .int .i64 n.mesh.g.h, .slice a1 n.mesh.br.length c1, .slice a2 n.pa.length c2, .slice a3 n.pb.length c3, .slice a4 n.bufs.length c4, .slice a5 n.owners.length c5, .slice a6 n.turns.length c6, .slice a7 n.srcs.length c7, .slice a8 n.arrs.length c8, .int .i64 n.time] 35)) w1.heap.size #[.int .i64 n.mesh.g.w, .int .i64 n.mesh.g.h, .slice a1 n.mesh.br.length c1, .slice a2 n.pa.length c2, .slice a3 n.pb.length c3, .slice a4 n.bufs.length c4, .slice a5 n.owners.length c5, .slice a6 n.turns.length c6, .slice a7 n.srcs.length c7, .slice a8 n.arrs.length c8, .int .i64 n.time] from Box.new w1 _ _ _ rfl)
 obtain ⟨y0, g0⟩ := BX0.out
 replace RR0 := Lib.hid (RR0.out.below hbx)
 replace HWW := Lib.hid (bw_then HWW.out hbx)
 clear hbx
 have zzw2 : w1.heap.size + 1 ≤ (w1.alloc (.cells #[.int .i64 n.mesh.g.w, .int .i64 n.mesh.g.h, .slice a1 n.mesh.br.length c1, .slice a2 n.pa.length c2, .slice a3 n.pb.length c3, .slice a4 n.bufs.length c4, .slice a5 n.owners.length c5, .slice a6 n.turns.length c6, .slice a7 n.srcs.length c7, .slice a8 n.arrs.length c8, .int .i64 n.time] 35)).heap.size := Nat.le_of_eq (World.size_alloc _ _).symm
 go_wp2_with fail
 generalize w1.alloc (.cells #[.int .i64 n.mesh.g.w, .int .i64 n.mesh.g.h, .slice a1 n.mesh.br.length c1, .slice a2 n.pa.length c2, .slice a3 n.pb.length c3, .slice a4 n.bufs.length c4, .slice a5 n.owners.length c5, .slice a6 n.turns.length c6, .slice a7 n.srcs.length c7, .slice a8 n.arrs.length c8, .int .i64 n.time] 35) = w2 at *
 refine (impl_AllGrants n _ _ RR0.out).mono ?_
 rintro e w3 ⟨hg, hbc⟩
 rw [HGG.out] at hg
 obtain ⟨Ag, cg, rfl, hkg, hCg⟩ := hg.read
 have HCG := Lib.hid hCg
 clear hg hCg
 have zzw3 := bw_size hbc
 replace RR0 := Lib.hid (RR0.out.below hbc)
 replace BX0 := Lib.hid (Box.below BX0.out hbc)
 clear y0 g0
 obtain ⟨y0, g0⟩ := BX0.out
 replace HWW := Lib.hid (bw_then HWW.out hbc)
 clear hbc
 have wrN : IntKind.i64.wrap (n.mesh.g.w * n.mesh.g.h) = (K : Int) := by rw [HNK.out]; exact IntWalk.i64_in _ (by omega)
 have wr64 : wrap64 (n.mesh.g.w * n.mesh.g.h) = (K : Int) := by rw [HNK.out]; unfold wrap64; omega
 go_wp2_with fail
 go_loopw [6] (fun i wr => ∃ k : Nat, i = .int .i64 k ∧ k ≤ gs.length ∧ Hid (Below w3.heap.size w3 wr)) (fun i _ => gs.length - (intOf i).toNat)
 case atStart => exact ⟨0, rfl, Nat.zero_le _, Lib.hid (bw_refl _)⟩
 case round =>
  obtain ⟨k, rfl, hk, HBr⟩ := hrel
  clear y0 g0
  by_cases hlt : k < gs.length
  ·obtain ⟨b1, o1, rfl, hb1, x0, x1, x2⟩ := rdG_at (Kd.C_below HCG.out HBr.out) k hlt
   obtain ⟨u0, u1, u2, u3⟩ := HGR.out k hlt
   have i0 : (k : Int) < (gs.length : Int) := by omega
   have i9 : (0 : Int) ≤ (k : Int) := by omega
   obtain ⟨G, hG⟩ : ∃ z, rg gs (k : Int) = z := ⟨_, rfl⟩
   rw [hG] at x0 x1 x2 u0 u1 u2 u3
   clear hG
   obtain ⟨gn, gp, gi⟩ := G
   dsimp only at x0 x1 x2 u0 u1 u2 u3
   have HU0 := Lib.hid u0
   have HU3 := Lib.hid u3
   clear u0 u3
   have RRr := Lib.hid (RR0.out.below HBr.out)
   have hbx := Box.below BX0.out HBr.out
   have box11 : Box wr w1.heap.size #[.int .i64 n.mesh.g.w, .int .i64 n.mesh.g.h, .slice a1 n.mesh.br.length c1, .slice a2 n.pa.length c2, .slice a3 n.pb.length c3, .slice a4 n.bufs.length c4, .slice a5 n.owners.length c5, .slice a6 n.turns.length c6, .slice a7 n.srcs.length c7, .slice a8 n.arrs.length c8, .int .i64 n.time] := hbx
   obtain ⟨x0_0, x0_1, x0_2, x0_3, x0_4, x0_5, x0_6, x0_7, x0_8, x0_9, x0_10⟩ := all11 box11
   clear box11
   have xl := hbx.lt
   clear hbx
   go_wp2
   go_region_held3 (fun w' => Below (wr).heap.size (wr) w' ∧ ∀ bq oq, bq < (wr).heap.size → w'.cell? ⟨bq, oq, none⟩ = (wr).cell? ⟨bq, oq, none⟩) (first | exact far_of bel) ( (go_at_call 7; refine (impl_IsRequest n _ gn gi gp _ (RRr.out.below bel) HOK.out HU0.out u1 u2 HU3.out).mono ?_; rintro e wv ⟨rfl, hb1⟩; obtain ⟨hc1, hf1, hz1⟩ := bcell hb1; (try simp only [szs] at hz1); have hb2 := far2; obtain ⟨hc2, hf2, hz2⟩ := bcell hb2; (try simp only [szs] at hz2); try (first | obtain ⟨hy1, hy2, hy3, hy4⟩ := lts4 hz2 | obtain ⟨hy1, hy2, hy3⟩ := lts3 hz2 | obtain ⟨hy1, hy2⟩ := lts2 hz2 | have hy1 := lts1 hz2); have hb9 := hb1))
   have hbc : Below wr.heap.size wr wv := bw_then (bw_drew (bw_refl _)) hb2
   repeat (first | clear hc1 | clear hf1 | clear hz1 | clear hb1 | clear hb9 | clear hc2 | clear hf2 | clear hz2 | clear hb2)
   clear x0_0 x0_1 x0_2 x0_3 x0_4 x0_5 x0_6 x0_7 x0_8 x0_9 x0_10 xl
   go_wp2
   go_roundw
   case rel => exact ⟨k + 1, by go_num, by omega, Lib.hid (bw_then HBr.out hbc)⟩
   case measure => simp [intOf]; omega
  ·obtain rfl : k = gs.length := by omega
   have i0 : ¬ (gs.length : Int) < (gs.length : Int) := by omega
   have HBs := HBr
   go_wp2_with fail
   go_loopw [7, 8] (fun cn a wz => ∃ k : Nat, a = .int .i64 k ∧ cn = .int .i64 ((allTo n k).length : Int) ∧ k ≤ K ∧ Hid (Below w3.heap.size w3 wz)) (fun _ a _ => K - (intOf a).toNat)
   case atStart => exact ⟨0, rfl, rfl, Nat.zero_le _, HBs⟩
   case round =>
    obtain ⟨a, rfl, rfl, hka, HBz⟩ := hrel
    clear HBr HBs
    by_cases hlt : a < K
    ·have i1 : (a : Int) < (K : Int) := by omega
     have i9 : (0 : Int) ≤ (a : Int) := by omega
     go_wp2_with fail
     go_loopw [9, 10] (fun an q wy => ∃ p : Nat, q = .int .i64 p ∧ p ≤ 5 ∧ Hid (Below w3.heap.size w3 wy) ∧ ∃ b : Bool, an = .bool b ∧ Hid (b = true ↔ ∃ p9 : Nat, p9 < p ∧ 0 < (requestsN n (a : Int) (p9 : Int)).length)) (fun _ q _ => 5 - (intOf q).toNat)
     case atStart => exact ⟨0, rfl, by omega, HBz, false, rfl, Lib.hid (by constructor <;> simp)⟩
     case round =>
      obtain ⟨p, rfl, hp5, HBy, b, rfl, HAN⟩ := hrel
      clear HBz
      have RRy := Lib.hid (RR0.out.below HBy.out)
      by_cases hlp : p < 5
      ·have j1 : (p : Int) ≤ 4 := by omega
       have hbx := Box.below BX0.out HBy.out
       have box11 : Box wr w1.heap.size #[.int .i64 n.mesh.g.w, .int .i64 n.mesh.g.h, .slice a1 n.mesh.br.length c1, .slice a2 n.pa.length c2, .slice a3 n.pb.length c3, .slice a4 n.bufs.length c4, .slice a5 n.owners.length c5, .slice a6 n.turns.length c6, .slice a7 n.srcs.length c7, .slice a8 n.arrs.length c8, .int .i64 n.time] := hbx
       obtain ⟨x0_0, x0_1, x0_2, x0_3, x0_4, x0_5, x0_6, x0_7, x0_8, x0_9, x0_10⟩ := all11 box11
       clear box11
       have xl := hbx.lt
       clear hbx
       cases b
       ·have HRL := Lib.hid (HRA.out a (p : Int) hlt)
        have rl10 := requestsTo_len n a p 10
        obtain ⟨rq, hrq⟩ : ∃ z, requestsN n (a : Int) (p : Int) = z := ⟨_, rfl⟩
        have HNX : Hid (decide (0 < rq.length) = true ↔ ∃ p9 : Nat, p9 < p + 1 ∧ 0 < (requestsN n (a : Int) (p9 : Int)).length) := Lib.hid (by
         rw [decide_eq_true_iff]
         constructor
         ·intro h; exact ⟨p, by omega, by rw [hrq]; omega⟩
         ·rintro ⟨p9, h9, h1⟩
          by_cases e : p9 = p
          ·rw [e, hrq] at h1; omega
          ·exact absurd (HAN.out.2 ⟨p9, by omega, h1⟩) (by simp))
        rw [hrq] at HRL
        clear hrq HAN
        go_wp2_with (go_at_call 8; refine (impl_RequestsAt n _ (a : Int) (p : Int) _ (RRy.out.below bel)).mono ?_; rintro e wv ⟨hg1, hb1⟩; rw [HRL.out] at hg1; obtain ⟨A1, d1, rfl, hk1, hC1⟩ := hg1.read; obtain ⟨hc1, hf1, hz1⟩ := bcell hb1; (try simp only [szs] at hz1); have hb2 := far2; obtain ⟨hc2, hf2, hz2⟩ := bcell hb2; (try simp only [szs] at hz2); try (first | obtain ⟨hy1, hy2, hy3, hy4⟩ := lts4 hz2 | obtain ⟨hy1, hy2, hy3⟩ := lts3 hz2 | obtain ⟨hy1, hy2⟩ := lts2 hz2 | have hy1 := lts1 hz2); have hb9 := hb1)
        go_roundw
        case rel => exact ⟨p + 1, by go_num, by omega, Lib.hid (bw_then HBy.out hb1), _, rfl, HNX⟩
        case measure => simp [intOf]; omega
       ·have HNX : Hid (true = true ↔ ∃ p9 : Nat, p9 < p + 1 ∧ 0 < (requestsN n (a : Int) (p9 : Int)).length) := Lib.hid (by
         refine ⟨fun _ => ?_, fun _ => rfl⟩
         obtain ⟨p9, h9, h1⟩ := HAN.out.1 rfl
         exact ⟨p9, by omega, h1⟩)
        clear HAN
        go_wp2
        go_roundw
        case rel => exact ⟨p + 1, by go_num, by omega, HBy, true, rfl, HNX⟩
        case measure => simp [intOf]; omega
      ·obtain rfl : p = 5 := by omega
       have j1 : ¬ ((5 : Nat) : Int) ≤ 4 := by omega
       have HGA1 := Lib.hid (HGA.out a hlt)
       have HAN2 : Hid (b = true ↔ 0 < (grantsN n (a : Int)).length) := Lib.hid (HAN.out.trans (HANY.out a hlt))
       have HC2 := Lib.hid (HCT.out a)
       have gl5 := HGL.out a
       have tl := HTL.out a
       obtain ⟨ga, hga⟩ : ∃ z, grantsN n (a : Int) = z := ⟨_, rfl⟩
       rw [hga] at HGA1 HAN2 HC2 gl5
       have hbv : b = decide (0 < (ga.length : Int)) := by
        have h := HAN2.out
        cases b
        ·symm; apply decide_eq_false; intro h0; exact absurd (h.2 (by omega)) (by simp)
        ·symm; apply decide_eq_true; have := h.1 rfl; omega
       subst hbv
       clear HAN HAN2 hga
       have hbx := Box.below BX0.out HBy.out
       have box11 : Box wr w1.heap.size #[.int .i64 n.mesh.g.w, .int .i64 n.mesh.g.h, .slice a1 n.mesh.br.length c1, .slice a2 n.pa.length c2, .slice a3 n.pb.length c3, .slice a4 n.bufs.length c4, .slice a5 n.owners.length c5, .slice a6 n.turns.length c6, .slice a7 n.srcs.length c7, .slice a8 n.arrs.length c8, .int .i64 n.time] := hbx
       obtain ⟨x0_0, x0_1, x0_2, x0_3, x0_4, x0_5, x0_6, x0_7, x0_8, x0_9, x0_10⟩ := all11 box11
       clear box11
       have xl := hbx.lt
       clear hbx
       have wr5 : IntKind.i64.wrap (((allTo n a).length : Int) + (ga.length : Int)) = ((allTo n a).length : Int) + (ga.length : Int) := IntWalk.i64_in _ (by omega)
       go_wp2_with (go_at_call 9; refine (impl_GrantsAt n _ (a : Int) _ (RRy.out.below bel)).mono ?_; rintro e wv ⟨hg1, hb1⟩; rw [HGA1.out] at hg1; obtain ⟨A1, d1, rfl, hk1, hC1⟩ := hg1.read; obtain ⟨hc1, hf1, hz1⟩ := bcell hb1; (try simp only [szs] at hz1); have hb2 := far2; obtain ⟨hc2, hf2, hz2⟩ := bcell hb2; (try simp only [szs] at hz2); try (first | obtain ⟨hy1, hy2, hy3, hy4⟩ := lts4 hz2 | obtain ⟨hy1, hy2, hy3⟩ := lts3 hz2 | obtain ⟨hy1, hy2⟩ := lts2 hz2 | have hy1 := lts1 hz2); have hb9 := hb1)
       have e1 : (decide (0 < (ga.length : Int)) != decide (0 < (ga.length : Int))) = false := by simp
       try go_wp2
       go_roundw
       case rel => exact ⟨a + 1, by go_num, by rw [HC2.out]; push_cast; rfl, by omega, Lib.hid (bw_then HBy.out bel)⟩
       case measure => simp [intOf]; omega
    ·obtain rfl : a = K := by omega
     have i1 : ¬ (a : Int) < (a : Int) := by omega
     have hck := HCK.out
     have e1 : (((allTo n a).length : Int) == (gs.length : Int)) = true := by rw [hck]; simp
     go_wp2_with (go_at_call 10; refine (impl_GrantOk gs Ag cg _ (Kd.C_below (Kd.C_below HCG.out HBz.out) bel) (by omega) hkg HAP.out (fun k hk => ⟨(HGR.out k hk).2.1, (HGR.out k hk).2.2.1⟩)).mono ?_; rintro e wv ⟨rfl, hb1⟩; obtain ⟨hc1, hf1, hz1⟩ := bcell hb1; (try simp only [szs] at hz1); have hb2 := far2; obtain ⟨hc2, hf2, hz2⟩ := bcell hb2; (try simp only [szs] at hz2); try (first | obtain ⟨hy1, hy2, hy3, hy4⟩ := lts4 hz2 | obtain ⟨hy1, hy2, hy3⟩ := lts3 hz2 | obtain ⟨hy1, hy2⟩ := lts2 hz2 | have hy1 := lts1 hz2); have hb9 := hb1)
     try go_wp2
     go_ret
     exact ⟨by first | rfl | exact ret_bool (by rw [hck]; simp), bw_then HWW.out (bw_then HBz.out bel)⟩
end Go.Proofs.Ytaihmgbflhbebaa
namespace Go.Proofs.Ytaihmgbflhbebaa
open Go.ChangeShapes Go.WideShapes Go.ChangeAt Go.RowKit Go.Proofs.YtaihmgbflhbebaaW.PrintWords
open NoC
set_option linter.unusedVariables false
theorem own : ownKnob Try.prog.godebug = none := by kernel_rfl
theorem laidOut : laidOutB Try.prog = true := by kernel_rfl
theorem arr_of {cs : Array Value} {l : List Value} (h : cs.toList = l) : cs = l.toArray := by rw [← h]
set_option maxHeartbeats 1000000 in
set_option maxRecDepth 100000 in
theorem lifted_Grants (os : Os) (started : os.Started) (H : Type) (enc : TypeId × Value → H) :
    ReturnsInHanded {} Try.checked os 3 .any (Rows.fnGrantsSpec.pre6 enc Try.prog Try.f3 Rows.fnGrantsRow.domain false) (Rows.fnGrantsSpec.post enc Try.prog Try.f3 false true false false) := by
  refine returnsInHanded_of_change_sized (C := Try.checked) own started (by kernel_rfl) Try.func3
    (ChangeSpec.witness6 (enc := enc) (C := Try.checked) false ⟨#[], #[.slice none 0 0], []⟩ 8 (by kernel_rfl) (by kernel_rfl) (by kernel_rfl) (by kernel_rfl)) ?_
  intro W base args ds gs before hval0 hW hcnd hsz0 _
  have hsz : (DataW.weightsEach Try.prog (Try.f3.params.toList ++ Rows.fnGrantsSpec.plain.varTypes Try.prog) (ds ++ gs)).all (· ≤ reachBytes) = true := hsz0
  have hval : ∀ (j : Nat) t v, Try.f3.params[j]? = some t → args[j]? = some v → Value.okWide Try.prog W .any base t v := hval0
  have hW' := hW
  obtain ⟨p, q, hA0, hV, rfl, hfz, hnd⟩ := hW
  have hA : DataW.TrodAll enc Try.prog W 0 (fun _ => true) true Try.f3.params.toList args.toList ds p := hA0
  rw [Try.params3] at hA hval hsz
  obtain ⟨v0, vs0, d0, ds0, p0, q0, hargs, rfl, rfl, h0, r0⟩ := trodAll_cons hA
  obtain ⟨rfl, rfl, rfl⟩ := trodAll_nil r0
  obtain rfl : args = #[v0] := by cases args; simp_all
  obtain ⟨rfl, rfl⟩ := trodVars_none hV
  obtain ⟨c0, n0, o0, rfl⟩ := okWide_slice Try.underlying22 (hval 0 _ v0 rfl rfl)
  have k0 := h0
  have lt0 : ∀ x ∈ p0, x.block < W.heap.size := by obtain ⟨m, hm⟩ := k0; exact DataW.trod_lt m _ _ _ hm
  obtain ⟨f0, g0⟩ := h0
  obtain ⟨A0, a0, N0, e0, hl0⟩ := op_bytes g0 (light_arg hsz (j := 0) rfl rfl)
  simp [Value.cells] at e0
  obtain ⟨rfl, rfl, rfl⟩ := e0
  clear hA0 hval0 hsz0 hsz
  refine (law_Grants c0 n0 o0 W hl0).mono fun e W' ⟨he, bel⟩ => ?_
  subst he
  exact ⟨_, rfl, _, _, _, [], _, [], hW', trodAll_mk1 (shut_bool Try.underlying4 _), (trodAll_cons_mk (Below.trod laidOut (by kernel_rfl) (of_decide_eq_true (by kernel_rfl)) k0 bel lt0) trodAll_mk0), rfl, bel.frame _, fun h => by cases h⟩
theorem over_Grants : Rows.fnGrantsRow.holds Try.pinned (OpenSpec.ofChange Rows.fnGrantsSpec) :=
  OpenClaim.holds_of_wide 3 Try.f3 rfl rfl rfl rfl rfl rfl rfl ⟨rfl, rfl, rfl, rfl, rfl⟩ rfl rfl rfl rfl rfl (by kernel_rfl) Try.func3 (by kernel_rfl)
    (of_decide_eq_true (by kernel_rfl)) (by unfold Func.isWrapper; first | (rw [if_pos (by decide +kernel)]; kernel_rfl) | (rw [if_neg (by decide +kernel)]; exact ⟨rfl, rfl⟩))
    (fun os started H enc _ => lifted_Grants os started H enc)
theorem fnGrants_holds : Rows.FnGrantsSaid := over_Grants
#print axioms fnGrants_holds
end Go.Proofs.Ytaihmgbflhbebaa
