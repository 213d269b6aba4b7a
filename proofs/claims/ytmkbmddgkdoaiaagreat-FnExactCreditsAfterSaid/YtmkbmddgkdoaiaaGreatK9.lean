/- Lemmas for laws of this seat, for all inputs: CrK MarkM MarkN NetM NetK GrL GrA StW Put. -/
import Derived.Test.YtmkbmddgkdoaiaaGreatK6
import Derived.Test.YtmkbmddgkdoaiaaGreatK8
import Derived.Test.YtmkbmddgkdoaiaaGreatK3
import Derived.Test.YtmkbmddgkdoaiaaGreatK1
import Derived.Test.YtmkbmddgkdoaiaaGreatK7
set_option linter.unusedVariables false
set_option linter.unusedSimpArgs false
namespace Go.Proofs.YtmkbmddgkdoaiaaGreat
open Go.RowKit Go.Proofs.YtmkbmddgkdoaiaaGreatW.PrintWords
open NoC
def creditsAfterV (n : Net) : List Int := if netOk n = true then creditsAfterN n else []
theorem chg_one {w w1 : World} {gs : Nat} (h : w.grownBy w1 (some gs)) : Chg gs (gs + 1) w w1 := ⟨h.os, h.tape, h.output, h.size, fun i hi hn => h.block i hi (fun e => by
  have := Option.some.inj e
  omega)⟩
set_option maxHeartbeats 16000000 in
set_option maxRecDepth 100000 in
theorem impl_CreditsAfter (n : Net) (q : NA) (w : World) (hr : NetR 121 w n q) :
  Calls Tryz.prog 12 #[.agg (netCells n q)] w fun e w' => GotI w w' (creditsAfterV n) e ∧ Below w.heap.size w w' := by
 have R := Lib.hid hr
 clear hr
 obtain ⟨a1, a2, a3, a4, a5, a6, a7, a8, c1, c2, c3, c4, c5, c6, c7, c8⟩ := q
 dsimp only [netCells]
 cases hk : netOk n
 ·have HE : Hid (creditsAfterV n = []) := Lib.hid (by unfold creditsAfterV; rw [hk]; rfl)
  go_enter Tryz.func12, Tryz.ntmps12
  go_wp2_with (go_at_call 46; refine (impl_NetOk n _ _ (R.out.below bel)).mono ?_; rintro e w1 ⟨he, hb1⟩; rw [hk] at he; subst he; obtain ⟨hc1, hf1, hz1⟩ := bcell hb1; (try simp only [szs] at hz1); have hb2 := far2; obtain ⟨hc2, hf2, hz2⟩ := bcell hb2; (try simp only [szs] at hz2); try (first | obtain ⟨hy1, hy2, hy3, hy4⟩ := lts4 hz2 | obtain ⟨hy1, hy2, hy3⟩ := lts3 hz2 | obtain ⟨hy1, hy2⟩ := lts2 hz2 | have hy1 := lts1 hz2); have hb9 := hb1)
  go_ret
  rw [HE.out]
  exact ⟨⟨_, rfl, Kd.R_nil _ _ _ _ _⟩, bel⟩
 ·have HE : Hid (creditsAfterV n = creditsAfterN n) := Lib.hid (by unfold creditsAfterV; rw [hk]; rfl)
  have OK := Lib.hid hk
  rw [HE.out]
  go_enter Tryz.func12, Tryz.ntmps12
  go_wp2_with fail
  refine (impl_NetOk n _ _ (R.out.below bel)).mono ?_
  rintro e w2 ⟨he, hb2⟩
  rw [hk] at he
  subst he
  clear hk
  have HX2 : Hid (Box w2 w.heap.size #[.int .i64 n.mesh.g.w, .int .i64 n.mesh.g.h, .slice a1 n.mesh.br.length c1, .slice a2 n.pa.length c2, .slice a3 n.pb.length c3, .slice a4 n.bufs.length c4, .slice a5 n.owners.length c5, .slice a6 n.turns.length c6, .slice a7 n.srcs.length c7, .slice a8 n.arrs.length c8, .int .i64 n.time]) := Lib.hid ((Box.new w w.heap.size #[.int .i64 n.mesh.g.w, .int .i64 n.mesh.g.h, .slice a1 n.mesh.br.length c1, .slice a2 n.pa.length c2, .slice a3 n.pb.length c3, .slice a4 n.bufs.length c4, .slice a5 n.owners.length c5, .slice a6 n.turns.length c6, .slice a7 n.srcs.length c7, .slice a8 n.arrs.length c8, .int .i64 n.time] 44 rfl).below hb2)
  have HB2 : Hid (Below w.heap.size w w2) := Lib.hid (bw_then (bw_alloc _ (bw_refl w)) hb2)
  have z2 := HX2.out.lt
  clear hb2
  go_wp2_with fail
  refine (impl_credits n _ w.heap.size _ (R.out.below HB2.out) HX2.out OK.out).mono ?_
  rintro e w3 ⟨hg3, hb3⟩
  obtain ⟨vc, rfl, HO3⟩ := hg3
  obtain ⟨Ac, cc, rfl⟩ := Kd.R_slice HO3
  obtain ⟨_, _, _, _, _, _⟩ := netOk_parts OK.out
  have hKc := count_nat n.mesh.g
  have hK16 := count_le n.mesh.g
  have hlen0 : ((creditsN n).length : Int) = 8 * nodeCount n.mesh.g := caTo_len n 0
  have hpos : 0 < (creditsN n).length := by have := sized_count (classesOk_sized (ok_classes OK.out)).1; omega
  obtain ⟨gs, eA, glo, glt⟩ := rowI_form HO3 hpos
  subst eA
  obtain ⟨N, hN⟩ : ∃ N, (creditsN n).length = N := ⟨_, rfl⟩
  have HLEN : Hid (∀ k : Nat, (caTo n k).length = N) := Lib.hid (fun k => by have := caTo_len n k; omega)
  have HNC : Hid ((N : Int) = 8 * nodeCount n.mesh.g) := Lib.hid (by omega)
  rw [hN] at HO3
  have HOa := Lib.hid HO3
  have HX3 := Lib.hid (HX2.out.below hb3)
  have HB3 : Hid (Below w.heap.size w w3) := Lib.hid (bw_then HB2.out hb3)
  have z3 := bw_size hb3
  clear HO3 hb3 hpos hlen0 HX2
  try rw [hN]
  clear hN
  obtain ⟨w4, e4⟩ : ∃ z, z = w3.alloc (.cells #[.slice (some ⟨gs, 0, none⟩) N cc] 24) := ⟨_, rfl⟩
  have hb4 : Below w3.heap.size w3 w4 := by rw [e4]; exact bw_alloc _ (bw_refl w3)
  have HBO4 : Hid (Box w4 w3.heap.size #[.slice (some ⟨gs, 0, none⟩) N cc]) := Lib.hid (by rw [e4]; exact Box.new w3 _ _ _ rfl)
  have HX4 := Lib.hid (HX3.out.below hb4)
  have HB4 : Hid (Below w.heap.size w w4) := Lib.hid (bw_then HB3.out hb4)
  have HO4 := Lib.hid (Kd.R_below HOa.out hb4)
  have z4 : w4.heap.size = w3.heap.size + 1 := by rw [e4]; simp only [szs]
  obtain ⟨bo, ebo⟩ : ∃ z, z = w3.heap.size := ⟨_, rfl⟩
  rw [← ebo] at HBO4
  clear hb4 HX3 HOa
  go_wp2_with fail
  rw [← e4]
  try rw [← ebo]
  clear e4
  refine (impl_allGrants n _ w.heap.size _ (R.out.below HB4.out) HX4.out OK.out).mono ?_
  rintro e w5 ⟨hg5, hb5⟩
  obtain ⟨vg, rfl, HG⟩ := hg5
  obtain ⟨Ag, cg, rfl⟩ := Kd.R_slice HG
  have HU := Lib.hid (RU.of HG (Nat.le_refl _) (Nat.le_refl _))
  have HX5 := Lib.hid (HX4.out.below hb5)
  have HBO5 := Lib.hid (HBO4.out.below hb5)
  have HB5 : Hid (Below w.heap.size w w5) := Lib.hid (bw_then HB4.out hb5)
  have HO5 := Lib.hid (Kd.R_below HO4.out hb5)
  have z5 := bw_size hb5
  have hgl := allGrants_len n
  have gb : gs < bo := by omega
  have gw : w.heap.size < gs := by omega
  have gw4 : gs + 1 ≤ w4.heap.size := by omega
  clear HG hb5 HX4 HBO4 HO4
  have HONE : Hid (∀ k : Nat, k < (allGrants n).length → GOne n (rg (allGrants n) k)) := Lib.hid (fun k hk => grants_one (by rw [rg_get _ k hk]; exact List.getElem_mem hk))
  go_wp2_with fail
  go_loopw [16] (fun i wr => ∃ k : Nat, i = .int .i64 k ∧ k ≤ (allGrants n).length ∧ Hid (Kd.R (Kd.int .i64) 3 wr w2.heap.size (fun _ => True) (.slice (some ⟨gs, 0, none⟩) N cc) (caTo n k)) ∧ Hid (Chg gs (gs + 1) w5 wr)) (fun i _ => (allGrants n).length - (intOf i).toNat)
  case atStart => exact ⟨0, rfl, Nat.zero_le _, Lib.hid HO5.out, Lib.hid (Chg.refl _ _ _)⟩
  case round =>
   clear HO5
   obtain ⟨k, rfl, hk, HOk, HCk⟩ := hrel
   obtain ⟨wk, ewk⟩ : ∃ z, z = wr := ⟨_, rfl⟩
   subst ewk
   have zk := HCk.out.size
   have HXk := Lib.hid (HX5.out.chg HCk.out (.inl gw))
   have HBOk := Lib.hid (HBO5.out.chg HCk.out (.inr gb))
   have HUk := Lib.hid (HU.out.chg HCk.out (.inr gw4))
   have HBk : Hid (Below w.heap.size w wk) := Lib.hid (HCk.out.below HB5.out (by omega))
   by_cases hlt : k < (allGrants n).length
   ·have G1 := HONE.out k hlt
    have hbd := caTo_bd OK.out k hk
    have HSU := Lib.hid (caTo_succ n hlt)
    obtain ⟨b, off, rfl, hbw, r0, r1, r2⟩ := rdG_at HUk.out.reads.2.2 k hlt
    obtain ⟨g, hg⟩ : ∃ g, rg (allGrants n) k = g := ⟨_, rfl⟩
    rw [hg] at r0 r1 r2 G1 HSU
    have nd := isNode_iff.1 G1.nd
    have q0 := G1.p0; have q4 := G1.p4; have i0 := G1.i0; have i9 := G1.i9
    have k1 : (k : Int) < ((allGrants n).length : Int) := by omega
    have HG1 := Lib.hid G1
    have HBD := Lib.hid hbd
    obtain ⟨a, ea⟩ : ∃ a, g.node = a := ⟨_, rfl⟩
    obtain ⟨pp, ep⟩ : ∃ a, g.port = a := ⟨_, rfl⟩
    obtain ⟨ii, ei⟩ : ∃ a, g.input = a := ⟨_, rfl⟩
    rw [ea] at r0 nd
    rw [ep] at r1 q0 q4
    rw [ei] at r2 i0 i9
    have HEA := Lib.hid ea; have HEP := Lib.hid ep; have HEI := Lib.hid ei
    have n16 : a ≤ 15 := by omega
    clear G1 hbd ea ep ei hg
    obtain ⟨wa, ewa⟩ : ∃ z, z = wk.alloc (.cells #[.int .i64 a, .int .i64 pp, .int .i64 ii] 76) := ⟨_, rfl⟩
    have hba : Below wk.heap.size wk wa := by rw [ewa]; exact bw_alloc _ (bw_refl wk)
    have HGa : Hid (Box wa wk.heap.size #[.int .i64 a, .int .i64 pp, .int .i64 ii]) := Lib.hid (by rw [ewa]; exact Box.new wk _ _ _ rfl)
    have HOa := Lib.hid (Kd.R_below HOk.out hba)
    have HCa := Lib.hid (HCk.out.trans (Chg.of_below hba))
    have HXa := Lib.hid (HXk.out.below hba)
    have HBOa := Lib.hid (HBOk.out.below hba)
    have gbg : gs + 1 ≤ wk.heap.size := by omega
    have za := bw_size hba
    clear hba
    have s0 : wa.cell? ⟨wk.heap.size, 0, none⟩ = some (.int .i64 a) := HGa.out.get 0
    have s1 : wa.cell? ⟨wk.heap.size, 1, none⟩ = some (.int .i64 pp) := HGa.out.get 1
    have s2 : wa.cell? ⟨wk.heap.size, 2, none⟩ = some (.int .i64 ii) := HGa.out.get 2
    have sl := HGa.out.lt
    obtain ⟨l1, hl1⟩ : ∃ l1, (if g.port = 4 then caTo n k else chgC (caTo n k) (decK g) (-1)) = l1 := ⟨_, rfl⟩
    have HL1 := Lib.hid hl1
    have HS1 : Hid (caTo n (k + 1) = incC n l1 g) := Lib.hid (by rw [HSU.out]; unfold implC; rw [hl1])
    have HLN1 : Hid (l1.length = N) := Lib.hid (by rw [← hl1]; split; exact HLEN.out k; rw [chgC_len]; exact HLEN.out k)
    have HBD1 : Hid (∀ j, -1000 ≤ ri l1 j ∧ ri l1 j ≤ 1000) := Lib.hid (fun j => by
     rw [← hl1]
     split
     ·have := HBD.out j; omega
     ·have := chgC_bd HBD.out (by omega) (decK g) (-1) (by omega) (by omega) j; omega)
    clear hl1
    clear s0 s1 s2 sl
    have xk0 : wk.cell? ⟨w.heap.size, 0, none⟩ = some (.int .i64 n.mesh.g.w) := HXk.out.get 0
    have xk1 : wk.cell? ⟨w.heap.size, 1, none⟩ = some (.int .i64 n.mesh.g.h) := HXk.out.get 1
    have xkl := HXk.out.lt
    have kk0 : (0 : Int) ≤ (k : Int) := by omega
    by_cases h4 : pp = 4
    ·subst h4
     have HI1 : Hid (l1 = caTo n k) := Lib.hid (by rw [← HL1.out, if_pos HEP.out])
     have HOb : Hid (Kd.R (Kd.int .i64) 3 wa w2.heap.size (fun _ => True) (.slice (some ⟨gs, 0, none⟩) N cc) l1) := Lib.hid (by rw [HI1.out]; exact HOa.out)
     by_cases h8 : ii / 2 = 4
     ·have HI : Hid (incC n l1 g = l1) := Lib.hid (by unfold incC incB; rw [HEI.out, h8]; rfl)
      go_wp2
      (first | rw [← ewa] | skip)
      go_roundw
      case rel => exact ⟨k + 1, by go_num, by omega, Lib.hid (by rw [HS1.out, HI.out]; exact HOb.out), Lib.hid HCa.out⟩
      case measure => simp [intOf]; omega
     ·have e8 : (ii / 2 == 4) = false := beq_eq_false_iff_ne.2 h8
      go_wp2_with fail
      (first | rw [← ewa] | skip)
      refine (impl_NextNode n.mesh.g a (ii / 2) _).mono ?_
      rintro e wn ⟨rfl, hbn⟩
      obtain ⟨nn, hnn⟩ : ∃ z, nextNode n.mesh.g a (ii / 2) = z := ⟨_, rfl⟩
      have HNN := Lib.hid hnn
      rw [hnn]
      clear hnn
      have HOn := Lib.hid (Kd.R_below HOb.out hbn)
      have HCn := Lib.hid (HCa.out.trans (Chg.of_below hbn))
      have HGn := Lib.hid (HGa.out.below hbn)
      have HBOn := Lib.hid (HBOa.out.below hbn)
      clear hbn
      by_cases h0 : 0 ≤ nn
      ·have hin := incK_in HG1.out (by unfold incB; rw [HEI.out, HEA.out, HNN.out]; simp [h8, h0])
       have t2 : wn.cell? ⟨wk.heap.size, 2, none⟩ = some (.int .i64 ii) := HGn.out.get 2
       have tl := HGn.out.lt
       have ho := opp_eq (p := ii / 2) (by omega) (by omega)
       have HI : Hid (incC n l1 g = chgC l1 (2 * (4 * nn + opposite (ii / 2)) + ii % 2) 1) := Lib.hid (by unfold incC; rw [if_pos (by unfold incB; rw [HEI.out, HEA.out, HNN.out]; simp [h8, h0])]; unfold incK; rw [HEI.out, HEA.out, HNN.out])
       have hnn2 := isNode_iff.1 (next_in (g := n.mesh.g) (a := a) (p := ii / 2) (by rw [HNN.out]; exact h0))
       rw [HNN.out] at hnn2
       have hk1 : 0 ≤ 2 * (4 * nn + opposite (ii / 2)) + ii % 2 ∧ 2 * (4 * nn + opposite (ii / 2)) + ii % 2 < (N : Int) := by
        unfold incK at hin
        rw [HEI.out, HEA.out, HNN.out] at hin
        have := HNC.out
        omega
       have HCALL : Hid (∀ W, Below wn.heap.size wn W → Calls Tryz.prog 48 #[.int .i64 (4 * nn + opposite (ii / 2)), .int .i64 (ii % 2), .int .i64 1, .pointer (some ⟨bo, 0, none⟩)] W fun e w' => e = .returned (.tuple #[]) ∧ Kd.R (Kd.int .i64) 3 w' w2.heap.size (fun _ => True) (.slice (some ⟨gs, 0, none⟩) N cc) (chgC l1 (2 * (4 * nn + opposite (ii / 2)) + ii % 2) 1) ∧ W.grownBy w' (some gs)) := Lib.hid (fun W hW => by
        have h := impl_change l1 (4 * nn + opposite (ii / 2)) (ii % 2) 1 bo gs cc w2.heap.size W (by rw [HLN1.out]; exact (HBOn.out.below hW).get 0) (HBOn.out.below hW).lt (by omega) (by rw [HLN1.out]; exact Kd.R_below HOn.out hW) (by omega) (by omega) (by omega) (by omega) (by rw [HLN1.out]; exact hk1.2) (HBD1.out _) (by omega) (by omega)
        rw [HLN1.out] at h
        exact h)
       obtain ⟨oo, hoo⟩ : ∃ z, opposite (ii / 2) = z := ⟨_, rfl⟩
       have HOP : Hid (∀ W, Calls Tryz.prog 51 #[.int .i64 (ii / 2)] W fun e w' => e = .returned (.int .i64 oo) ∧ Below W.heap.size W w') := Lib.hid (fun W => by rw [← hoo]; exact impl_Opposite (ii / 2) W)
       rw [hoo] at HCALL HI ho
       have hw1 : IntKind.i64.wrap (4 * nn) = 4 * nn := IntWalk.i64_in _ (by omega)
       have hoo3 : 0 ≤ oo ∧ oo ≤ 3 := by omega
       have hw2 : IntKind.i64.wrap (4 * nn + oo) = 4 * nn + oo := IntWalk.i64_in _ (by omega)
       have hw3 : ii.tmod 2 = ii % 2 := Int.tmod_eq_emod_of_nonneg i0
       clear hoo hin hk1 ho
       go_wp2_with fail
       refine wp_region_tz wn.heap.size (fun _ => .cells #[] 0) (fun _ _ => undef) (fun W => Below wn.heap.size wn W) 9 [(0, .quiet), (1, .quiet), (2, .quiet), (3, .quiet), (4, .chain), (5, .quiet), (6, .quiet), (7, .quiet), (8, .quiet)] (by kernel_rfl) (by kernel_rfl) (by kernel_rfl) (by kernel_rfl) (by kernel_rfl) (by kernel_rfl) (by kernel_rfl) (by kernel_rfl) (bw_drew (bw_refl _)) ⟨fun W o h => bw_alloc _ h, fun W h => bw_size h⟩ (fun _ => True) trivial (fun _ _ _ _ _ => trivial) ?_
       refine wpTz_v (some 48) (.func (.func 48) #[] #[.pointer (some ⟨bo, 0, none⟩)]) rfl rfl (by rfl) (fun W hC => ?_) ?_
       ·clear hC
        go_simp
        try rfl
       try simp only [Act.put, nms]
       refine wpTz_v (some 49) (.int .i64 nn) rfl rfl (by rfl) (fun W hC => ?_) ?_
       ·clear hC
        go_simp
        try rfl
       try simp only [Act.put, nms]
       refine wpTz_v (some 50) (.int .i64 (4 * nn)) rfl rfl (by rfl) (fun W hC => ?_) ?_
       ·clear hC
        go_simp
        try rfl
       try simp only [Act.put, nms]
       refine wpTz_v (some 51) (.int .i64 (ii / 2)) rfl rfl (by rfl) (fun W hC => ?_) ?_
       ·clear hC
        go_simp
        try rfl
       try simp only [Act.put, nms]
       refine wpTz_d (some 52) rfl rfl (by rfl) (0 : Nat) (fun _ => .int .i64 oo) (fun _ _ => True) (fun y => (y, y)) (fun W hF hC => ?_) (fun _ _ _ _ _ => trivial) (fun _ => ?_)
       ·refine LoOp.enter (by go_simp; first | done | exact ⟨rfl, rfl⟩ | rfl) ?_
        refine (HOP.out W).mono ?_
        rintro e W1 ⟨rfl, hb1⟩
        exact ⟨_, rfl, W.heap.size, rfl, bw_then hC hb1, trivial, hb1, Nat.le_refl _, bw_size hb1⟩
       try simp only [Act.put, nms]
       refine wpTz_v (some 53) (.int .i64 (4 * nn + oo)) rfl rfl (by rfl) (fun W hC => ?_) ?_
       ·clear hC
        go_simp
        try rfl
       try simp only [Act.put, nms]
       refine wpTz_v (some 54) (.pointer (some ⟨wk.heap.size, 2, none⟩)) rfl rfl (by rfl) (fun W hC => ?_) ?_
       ·clear hC
        go_simp
        try rfl
       try simp only [Act.put, nms]
       refine wpTz_v (some 55) (.int .i64 ii) rfl rfl (by rfl) (fun W hC => ?_) ?_
       ·have h2 := (Box.below ⟨HGn.out.lt, HGn.out.get⟩ hC).get 2
        have h2' : W.cell? ⟨wk.heap.size, 2, none⟩ = some (.int .i64 ii) := h2
        clear hC
        go_simp
        try rfl
       try simp only [Act.put, nms]
       refine wpTz_v (some 56) (.int .i64 (ii % 2)) rfl rfl (by rfl) (fun W hC => ?_) ?_
       ·clear hC
        go_simp
        try rfl
       try simp only [Act.put, nms]
       refine wpTz_z (fun w8 hF hC => ?_)
       refine ⟨_, rfl, by rfl, LoOp.wp (post := fun v w' => v = .tuple #[] ∧ Kd.R (Kd.int .i64) 3 w' w2.heap.size (fun _ => True) (.slice (some ⟨gs, 0, none⟩) N cc) (chgC l1 (2 * (4 * nn + oo) + ii % 2) 1) ∧ w8.grownBy w' (some gs)) (LoOp.enter (by go_simp; first | done | exact ⟨rfl, rfl⟩ | rfl) ((HCALL.out w8 hC).mono ?_)) ?_⟩
       ·rintro e w9 ⟨rfl, h1, h2⟩
        exact ⟨_, rfl, rfl, h1, h2⟩
       rintro v w9 ⟨rfl, HO9, hg9⟩
       have HOz := Lib.hid HO9
       have HCz := Lib.hid ((HCn.out.trans (Chg.of_below hC)).trans (chg_one hg9))
       clear HO9 hg9 hC hF
       go_simp
       go_wp2
       go_roundw
       case rel => exact ⟨k + 1, by go_num, by omega, Lib.hid (by rw [HS1.out, HI.out]; exact HOz.out), Lib.hid HCz.out⟩
       case measure => simp [intOf]; omega
      ·have HI : Hid (incC n l1 g = l1) := Lib.hid (by unfold incC incB; rw [HEI.out, HEA.out, HNN.out]; simp [h0])
       go_wp2
       go_roundw
       case rel => exact ⟨k + 1, by go_num, by omega, Lib.hid (by rw [HS1.out, HI.out]; exact HOn.out), Lib.hid HCn.out⟩
       case measure => simp [intOf]; omega
    ·have hdk := decK_in OK.out HG1.out (by rw [HEP.out]; exact h4)
     have HI1 : Hid (l1 = chgC (caTo n k) (2 * (4 * a + pp) + ii % 2) (-1)) := Lib.hid (by rw [← HL1.out, if_neg (by rw [HEP.out]; exact h4)]; unfold decK; rw [HEA.out, HEP.out, HEI.out])
     have hk1 : 2 * (4 * a + pp) + ii % 2 < (N : Int) := by
      unfold decK at hdk
      rw [HEA.out, HEP.out, HEI.out] at hdk
      have := HNC.out
      omega
     have hv1 := HBD.out (2 * (4 * a + pp) + ii % 2)
     have hcl := impl_change (caTo n k) (4 * a + pp) (ii % 2) (-1) bo gs cc w2.heap.size wa (by rw [HLEN.out k]; exact HBOa.out.get 0) HBOa.out.lt (by omega) (by rw [HLEN.out k]; exact HOa.out) (by omega) (by omega) (by omega) (by omega) (by rw [HLEN.out k]; exact hk1) (by omega) (by omega) (by omega)
     rw [HLEN.out k, ← HI1.out, ebo] at hcl
     have HCLS := Lib.hid hcl
     clear hcl hdk hv1 hk1
     have e4 : (pp == 4) = false := beq_eq_false_iff_ne.2 h4
     go_wp2_with fail
     rw [← ewa]
     refine (HCLS.out).mono ?_
     rintro e wd ⟨rfl, HO1, hg1⟩
     have hcd := chg_one hg1
     have HOd := Lib.hid HO1
     have HCd := Lib.hid (HCa.out.trans hcd)
     have HGd := Lib.hid (HGa.out.chg hcd (.inr gbg))
     have HXd := Lib.hid (HXa.out.chg hcd (.inl gw))
     have HBOd := Lib.hid (HBOa.out.chg hcd (.inr (by omega)))
     clear HO1 hg1 hcd

     have t0 : wd.cell? ⟨wk.heap.size, 0, none⟩ = some (.int .i64 a) := HGd.out.get 0
     have t2 : wd.cell? ⟨wk.heap.size, 2, none⟩ = some (.int .i64 ii) := HGd.out.get 2
     have tl := HGd.out.lt
     have x0 : wd.cell? ⟨w.heap.size, 0, none⟩ = some (.int .i64 n.mesh.g.w) := HXd.out.get 0
     have x1 : wd.cell? ⟨w.heap.size, 1, none⟩ = some (.int .i64 n.mesh.g.h) := HXd.out.get 1
     have xl := HXd.out.lt
     by_cases h8 : ii / 2 = 4
     ·have HI : Hid (incC n l1 g = l1) := Lib.hid (by unfold incC incB; rw [HEI.out, h8]; rfl)
      go_wp2
      skip
      go_roundw
      case rel => exact ⟨k + 1, by go_num, by omega, Lib.hid (by rw [HS1.out, HI.out]; exact HOd.out), Lib.hid HCd.out⟩
      case measure => simp [intOf]; omega
     ·have e8 : (ii / 2 == 4) = false := beq_eq_false_iff_ne.2 h8
      go_wp2_with fail
      skip
      refine (impl_NextNode n.mesh.g a (ii / 2) _).mono ?_
      rintro e wn ⟨rfl, hbn⟩
      obtain ⟨nn, hnn⟩ : ∃ z, nextNode n.mesh.g a (ii / 2) = z := ⟨_, rfl⟩
      have HNN := Lib.hid hnn
      rw [hnn]
      clear hnn
      have HOn := Lib.hid (Kd.R_below HOd.out hbn)
      have HCn := Lib.hid (HCd.out.trans (Chg.of_below hbn))
      have HGn := Lib.hid (HGd.out.below hbn)
      have HBOn := Lib.hid (HBOd.out.below hbn)
      clear hbn t0 t2 tl x0 x1 xl
      by_cases h0 : 0 ≤ nn
      ·have hin := incK_in HG1.out (by unfold incB; rw [HEI.out, HEA.out, HNN.out]; simp [h8, h0])
       have t2 : wn.cell? ⟨wk.heap.size, 2, none⟩ = some (.int .i64 ii) := HGn.out.get 2
       have tl := HGn.out.lt
       have ho := opp_eq (p := ii / 2) (by omega) (by omega)
       have HI : Hid (incC n l1 g = chgC l1 (2 * (4 * nn + opposite (ii / 2)) + ii % 2) 1) := Lib.hid (by unfold incC; rw [if_pos (by unfold incB; rw [HEI.out, HEA.out, HNN.out]; simp [h8, h0])]; unfold incK; rw [HEI.out, HEA.out, HNN.out])
       have hnn2 := isNode_iff.1 (next_in (g := n.mesh.g) (a := a) (p := ii / 2) (by rw [HNN.out]; exact h0))
       rw [HNN.out] at hnn2
       have hk1 : 0 ≤ 2 * (4 * nn + opposite (ii / 2)) + ii % 2 ∧ 2 * (4 * nn + opposite (ii / 2)) + ii % 2 < (N : Int) := by
        unfold incK at hin
        rw [HEI.out, HEA.out, HNN.out] at hin
        have := HNC.out
        omega
       have HCALL : Hid (∀ W, Below wn.heap.size wn W → Calls Tryz.prog 48 #[.int .i64 (4 * nn + opposite (ii / 2)), .int .i64 (ii % 2), .int .i64 1, .pointer (some ⟨bo, 0, none⟩)] W fun e w' => e = .returned (.tuple #[]) ∧ Kd.R (Kd.int .i64) 3 w' w2.heap.size (fun _ => True) (.slice (some ⟨gs, 0, none⟩) N cc) (chgC l1 (2 * (4 * nn + opposite (ii / 2)) + ii % 2) 1) ∧ W.grownBy w' (some gs)) := Lib.hid (fun W hW => by
        have h := impl_change l1 (4 * nn + opposite (ii / 2)) (ii % 2) 1 bo gs cc w2.heap.size W (by rw [HLN1.out]; exact (HBOn.out.below hW).get 0) (HBOn.out.below hW).lt (by omega) (by rw [HLN1.out]; exact Kd.R_below HOn.out hW) (by omega) (by omega) (by omega) (by omega) (by rw [HLN1.out]; exact hk1.2) (HBD1.out _) (by omega) (by omega)
        rw [HLN1.out] at h
        exact h)
       obtain ⟨oo, hoo⟩ : ∃ z, opposite (ii / 2) = z := ⟨_, rfl⟩
       have HOP : Hid (∀ W, Calls Tryz.prog 51 #[.int .i64 (ii / 2)] W fun e w' => e = .returned (.int .i64 oo) ∧ Below W.heap.size W w') := Lib.hid (fun W => by rw [← hoo]; exact impl_Opposite (ii / 2) W)
       rw [hoo] at HCALL HI ho
       have hw1 : IntKind.i64.wrap (4 * nn) = 4 * nn := IntWalk.i64_in _ (by omega)
       have hoo3 : 0 ≤ oo ∧ oo ≤ 3 := by omega
       have hw2 : IntKind.i64.wrap (4 * nn + oo) = 4 * nn + oo := IntWalk.i64_in _ (by omega)
       have hw3 : ii.tmod 2 = ii % 2 := Int.tmod_eq_emod_of_nonneg i0
       clear hoo hin hk1 ho
       go_wp2_with fail
       refine wp_region_tz wn.heap.size (fun _ => .cells #[] 0) (fun _ _ => undef) (fun W => Below wn.heap.size wn W) 9 [(0, .quiet), (1, .quiet), (2, .quiet), (3, .quiet), (4, .chain), (5, .quiet), (6, .quiet), (7, .quiet), (8, .quiet)] (by kernel_rfl) (by kernel_rfl) (by kernel_rfl) (by kernel_rfl) (by kernel_rfl) (by kernel_rfl) (by kernel_rfl) (by kernel_rfl) (bw_drew (bw_refl _)) ⟨fun W o h => bw_alloc _ h, fun W h => bw_size h⟩ (fun _ => True) trivial (fun _ _ _ _ _ => trivial) ?_
       refine wpTz_v (some 48) (.func (.func 48) #[] #[.pointer (some ⟨bo, 0, none⟩)]) rfl rfl (by rfl) (fun W hC => ?_) ?_
       ·clear hC
        go_simp
        try rfl
       try simp only [Act.put, nms]
       refine wpTz_v (some 49) (.int .i64 nn) rfl rfl (by rfl) (fun W hC => ?_) ?_
       ·clear hC
        go_simp
        try rfl
       try simp only [Act.put, nms]
       refine wpTz_v (some 50) (.int .i64 (4 * nn)) rfl rfl (by rfl) (fun W hC => ?_) ?_
       ·clear hC
        go_simp
        try rfl
       try simp only [Act.put, nms]
       refine wpTz_v (some 51) (.int .i64 (ii / 2)) rfl rfl (by rfl) (fun W hC => ?_) ?_
       ·clear hC
        go_simp
        try rfl
       try simp only [Act.put, nms]
       refine wpTz_d (some 52) rfl rfl (by rfl) (0 : Nat) (fun _ => .int .i64 oo) (fun _ _ => True) (fun y => (y, y)) (fun W hF hC => ?_) (fun _ _ _ _ _ => trivial) (fun _ => ?_)
       ·refine LoOp.enter (by go_simp; first | done | exact ⟨rfl, rfl⟩ | rfl) ?_
        refine (HOP.out W).mono ?_
        rintro e W1 ⟨rfl, hb1⟩
        exact ⟨_, rfl, W.heap.size, rfl, bw_then hC hb1, trivial, hb1, Nat.le_refl _, bw_size hb1⟩
       try simp only [Act.put, nms]
       refine wpTz_v (some 53) (.int .i64 (4 * nn + oo)) rfl rfl (by rfl) (fun W hC => ?_) ?_
       ·clear hC
        go_simp
        try rfl
       try simp only [Act.put, nms]
       refine wpTz_v (some 54) (.pointer (some ⟨wk.heap.size, 2, none⟩)) rfl rfl (by rfl) (fun W hC => ?_) ?_
       ·clear hC
        go_simp
        try rfl
       try simp only [Act.put, nms]
       refine wpTz_v (some 55) (.int .i64 ii) rfl rfl (by rfl) (fun W hC => ?_) ?_
       ·have h2 := (Box.below ⟨HGn.out.lt, HGn.out.get⟩ hC).get 2
        have h2' : W.cell? ⟨wk.heap.size, 2, none⟩ = some (.int .i64 ii) := h2
        clear hC
        go_simp
        try rfl
       try simp only [Act.put, nms]
       refine wpTz_v (some 56) (.int .i64 (ii % 2)) rfl rfl (by rfl) (fun W hC => ?_) ?_
       ·clear hC
        go_simp
        try rfl
       try simp only [Act.put, nms]
       refine wpTz_z (fun w8 hF hC => ?_)
       refine ⟨_, rfl, by rfl, LoOp.wp (post := fun v w' => v = .tuple #[] ∧ Kd.R (Kd.int .i64) 3 w' w2.heap.size (fun _ => True) (.slice (some ⟨gs, 0, none⟩) N cc) (chgC l1 (2 * (4 * nn + oo) + ii % 2) 1) ∧ w8.grownBy w' (some gs)) (LoOp.enter (by go_simp; first | done | exact ⟨rfl, rfl⟩ | rfl) ((HCALL.out w8 hC).mono ?_)) ?_⟩
       ·rintro e w9 ⟨rfl, h1, h2⟩
        exact ⟨_, rfl, rfl, h1, h2⟩
       rintro v w9 ⟨rfl, HO9, hg9⟩
       have HOz := Lib.hid HO9
       have HCz := Lib.hid ((HCn.out.trans (Chg.of_below hC)).trans (chg_one hg9))
       clear HO9 hg9 hC hF
       go_simp
       go_wp2
       go_roundw
       case rel => exact ⟨k + 1, by go_num, by omega, Lib.hid (by rw [HS1.out, HI.out]; exact HOz.out), Lib.hid HCz.out⟩
       case measure => simp [intOf]; omega
      ·have HI : Hid (incC n l1 g = l1) := Lib.hid (by unfold incC incB; rw [HEI.out, HEA.out, HNN.out]; simp [h0])
       go_wp2
       go_roundw
       case rel => exact ⟨k + 1, by go_num, by omega, Lib.hid (by rw [HS1.out, HI.out]; exact HOn.out), Lib.hid HCn.out⟩
       case measure => simp [intOf]; omega
   ·obtain rfl : k = (allGrants n).length := by omega
    have HF := Lib.hid (caTo_all n)
    have y0 : wk.cell? ⟨w3.heap.size, 0, none⟩ = some (.slice (some ⟨gs, 0, none⟩) N cc) := by rw [← ebo]; exact HBOk.out.get 0
    have yl : w3.heap.size < wk.heap.size := by rw [← ebo]; exact HBOk.out.lt
    go_wp2
    go_ret
    exact ⟨⟨_, rfl, Kd.R_lower (by rw [← HF.out]; exact HOk.out) (by omega)⟩, HBk.out⟩
theorem laws_markTable (t : List Int) (k : Int) (A : Option Addr) (c base : Nat) (w : World) (HO : Kd.R (Kd.int .i64) 3 w base (fun _ => True) (.slice A t.length c) t) (hn : t.length ≤ 2097152) (k0 : 0 ≤ k) (k1 : k ≤ 1000000000) :
    Calls Tryz.prog 94 #[.agg #[.slice A t.length c], .int .i64 k] w fun e w' => e = .returned (.int .i64 (k + t.length)) ∧ Kd.R (Kd.int .i64) 3 w' base (fun _ => True) (.slice A t.length c) (markL k t.length) ∧ w.grownBy w' (Value.slice A t.length c).ownBlock := by
  go_enter Tryz.func94, Tryz.ntmps94
  go_wp2_with (go_at_call 16; refine (laws_markIntS t k A c base _ (by exact Kd.R_below HO bel) hn k0 (by omega)).mono ?_; rintro e w1 ⟨rfl, HR1, hg1⟩)
  go_ret
  exact ⟨rfl, HR1, grown_trans (World.grownBy_alloc _ _ _) hg1⟩
theorem laws_markMesh (m : Mesh) (k : Int) (A : Option Addr) (c base : Nat) (w : World) (HO : Kd.R (Kd.int .i64) 3 w base (fun _ => True) (.slice A m.br.length c) m.br) (hn : m.br.length ≤ 2097152) (k0 : 0 ≤ k) (k1 : k ≤ 1000000000) :
    Calls Tryz.prog 53 #[.agg #[.int .i64 m.g.w, .int .i64 m.g.h, .slice A m.br.length c], .int .i64 k] w fun e w' => e = .returned (.int .i64 (k + m.br.length)) ∧ w.grownBy w' (Value.slice A m.br.length c).ownBlock := by
  go_enter Tryz.func53, Tryz.ntmps53
  go_wp2_with (go_at_call 16; refine (laws_markIntS m.br k A c base _ (by exact Kd.R_below HO bel) hn k0 (by omega)).mono ?_; rintro e w1 ⟨rfl, _, hg1⟩)
  go_ret
  exact ⟨rfl, grown_trans (World.grownBy_alloc _ _ _) hg1⟩
theorem laws_markClasses (pa pb : List Int) (k : Int) (A B : Option Addr) (c d base : Nat) (w : World) (HA : Kd.R (Kd.int .i64) 3 w base (fun _ => True) (.slice A pa.length c) pa) (HB : Kd.R (Kd.int .i64) 3 w base (fun _ => True) (.slice B pb.length d) pb) (hap : Apart (.slice B pb.length d) (.slice A pa.length c)) (hn : pa.length ≤ 2097152) (hm : pb.length ≤ 2097152) (k0 : 0 ≤ k) (k1 : k ≤ 100000000) :
    Calls Tryz.prog 54 #[.agg #[.slice A pa.length c, .slice B pb.length d], .int .i64 k] w fun e w' => e = .returned (.int .i64 (k + pa.length + pb.length)) ∧ ∃ wm, w.grownBy wm (Value.slice A pa.length c).ownBlock ∧ wm.grownBy w' (Value.slice B pb.length d).ownBlock := by
  have hlt := Kd.R_lt HA
  have HLT := Lib.hid hlt
  clear hlt
  go_enter Tryz.func54, Tryz.ntmps54
  go_wp2_with (first | (go_at_call_of 94 pb; refine (laws_markTable pb _ B d base _ HB1 hm (by omega) (by omega)).mono ?_; rintro e w2 ⟨rfl, _, hg2⟩) | (go_at_call_of 94 pa; refine (laws_markTable pa k A c base _ (by exact Kd.R_below HA bel) hn k0 (by omega)).mono ?_; rintro e w1 ⟨rfl, _, hg1⟩; have B0 := Box.grown (Box.new w w.heap.size #[.slice A pa.length c, .slice B pb.length d] _ rfl) hg1 (by intro e; have := HLT.out _ e.symm; omega); have HB1 := R_grownI (Kd.R_below HB (bw_alloc _ (bw_refl w))) hg1 hap; obtain ⟨y0, g0⟩ := B0))
  go_ret
  exact ⟨rfl, _, grown_trans (World.grownBy_alloc _ _ _) hg1, hg2⟩
def markQF (k : Int) (j : Nat) : Flit := ⟨k + 5 * j, k + 5 * j + 1, k + 5 * j + 1 + 1, (k + 5 * j + 1 + 1 + 1) % 3 == 0, (k + 5 * j + 1 + 1 + 1 + 1) % 3 == 0⟩
def markFl (k : Int) (n : Nat) : List Flit := (List.range n).map (markQF k)
theorem markFl_len (k : Int) (n : Nat) : (markFl k n).length = n := by simp [markFl]
theorem markFl_get (k : Int) (n j : Nat) (h : j < n) : rf (markFl k n) j = markQF k j := by
  simp [rf, markFl, List.getD_eq_getElem?_getD, h]
theorem rowFl_set {e base g m c : Nat} {w : World} {xs : List Flit} (h : kF.R e w base (fun _ => True) (.slice (some ⟨g, 0, none⟩) m c) xs) (k : Nat) (hk : k < m) (p : Flit) :
    kF.R e (((((w.setCell ⟨g, k * 5, none⟩ (.int .i64 p.pk)).setCell ⟨g, k * 5 + 1, none⟩ (.int .i64 p.dst)).setCell ⟨g, k * 5 + 2, none⟩ (.int .i64 p.cls)).setCell ⟨g, k * 5 + 3, none⟩ (.bool p.head)).setCell ⟨g, k * 5 + 4, none⟩ (.bool p.tail)) base (fun _ => True) (.slice (some ⟨g, 0, none⟩) m c) (xs.set k p) ∧
    w.grownBy (((((w.setCell ⟨g, k * 5, none⟩ (.int .i64 p.pk)).setCell ⟨g, k * 5 + 1, none⟩ (.int .i64 p.dst)).setCell ⟨g, k * 5 + 2, none⟩ (.int .i64 p.cls)).setCell ⟨g, k * 5 + 3, none⟩ (.bool p.head)).setCell ⟨g, k * 5 + 4, none⟩ (.bool p.tail)) (some g) := by
  have hc := rowF_cell z0 h k hk
  have := Kd.R_seg (d := kF) h (k : Int) (by omega) (by omega) (c := fCells (xs.getD k z0)) (seg := fCells p) (j := 0) (okp := fun _ => False) (x' := p) rfl (fun j u hu => hc.1 j u hu) (by show 0 + 5 ≤ 5; omega) rfl (fun _ h => h.elim)
  exact this

set_option maxHeartbeats 2000000 in
theorem laws_markFlitS (l : List Flit) (k : Int) (A : Option Addr) (c base : Nat) (w : World) (HO0 : kF.R 121 w base (fun _ => True) (.slice A l.length c) l) (hn : l.length ≤ 2097152) (k0 : 0 ≤ k) (k1 : k ≤ 100000000000000000) :
    Calls Tryz.prog 95 #[.slice A l.length c, .int .i64 k] w fun e w' => e = .returned (.int .i64 (k + 5 * l.length)) ∧ kF.R 121 w' base (fun _ => True) (.slice A l.length c) (markFl k l.length) ∧ w.grownBy w' (Value.slice A l.length c).ownBlock := by
  go_enter Tryz.func95, Tryz.ntmps95
  go_wp2
  go_loopw [1, 5] (fun v i wr => ∃ (j : Nat) (x : List Flit), i = .int .i64 j ∧ v = .int .i64 (k + 5 * j) ∧ j ≤ l.length ∧ Hid (x.length = l.length) ∧ Hid (∀ q : Nat, q < j → rf x q = markQF k q) ∧ kF.R 121 wr base (fun _ => True) (.slice A l.length c) x ∧ w.grownBy wr (Value.slice A l.length c).ownBlock) (fun _ i _ => l.length - (intOf i).toNat)
  case atStart => exact ⟨0, l, rfl, by simp, Nat.zero_le _, Lib.hid rfl, Lib.hid fun q h => absurd h (Nat.not_lt_zero _), HO0, World.grownBy.refl _ _⟩
  case round =>
    obtain ⟨j, x, rfl, rfl, hj, HL, HA, HO, HG⟩ := hrel
    by_cases hlt : j < l.length
    · obtain ⟨g, cap, hv, hgb, hgl, cells, HGC⟩ := Kd.R_form HO (by have := HL.out; omega)
      injection hv with hv1 hv2 hv3
      subst hv1
      subst hv3
      clear HGC hv2
      obtain ⟨hcc, hff⟩ := rowF_cell z0 HO j hlt
      have x0 : wr.cell? ⟨g, j * 5, none⟩ = some (.int .i64 (rf x j).pk) := hcc 0 _ rfl
      have x1 : wr.cell? ⟨g, j * 5 + 1, none⟩ = some (.int .i64 (rf x j).dst) := hcc 1 _ rfl
      have x2 : wr.cell? ⟨g, j * 5 + 2, none⟩ = some (.int .i64 (rf x j).cls) := hcc 2 _ rfl
      have x3 : wr.cell? ⟨g, j * 5 + 3, none⟩ = some (.bool (rf x j).head) := hcc 3 _ rfl
      have x4 : wr.cell? ⟨g, j * 5 + 4, none⟩ = some (.bool (rf x j).tail) := hcc 4 _ rfl
      have f0 : wr.frozen? ⟨g, j * 5, none⟩ = false := hff 0
      have f1 := hff 1
      have f2 := hff 2
      have f3 := hff 3
      have f4 := hff 4
      have HP := rowFl_set HO j hlt (markQF k j)
      have HS := Lib.hid HP
      clear HP hcc hff
      go_wp2
      go_roundw
      case rel => exact ⟨j + 1, x.set j (markQF k j), by go_num, by first | (push_cast; congr 1; omega) | (congr 1; push_cast; omega), by omega, Lib.hid (by rw [List.length_set]; exact HL.out), Lib.hid (upto (fun q hq => by rw [set_getF (by have := HL.out; omega) q (by have := HL.out; omega), if_neg (by omega)]; exact HA.out q hq) (by rw [set_getF (by have := HL.out; omega) j (by have := HL.out; omega), if_pos rfl])), HS.out.1, grown_trans HG HS.out.2⟩
      case measure => simp [intOf]; omega
    · go_wp2
      go_ret
      have e : x = markFl k l.length := same_getF (by rw [HL.out, markFl_len]) (fun q hq => by rw [markFl_len] at hq; rw [HA.out q (by omega), markFl_get _ _ _ hq])
      subst e
      exact ⟨ret_int (by rw [show j = l.length by omega]), HO, HG⟩
theorem OB.upd {w w1 : World} {lo hi : Nat} {v : Value} {l : List (List Flit)} {vs : List Value} (h : OB w lo hi v l vs) (k : Nat) (hk : k < l.length) (hg : w.grownBy w1 (vr vs k).ownBlock) {y : List Flit} (hy : RU kF 121 w1 lo hi (vr vs k) y) : OB w1 lo hi v (l.set k y) vs := by
  have hl := h.len
  obtain ⟨inner, hin⟩ := Kd.R_own (h.row k hk)
  refine ⟨?_, h.top, fun i hi' => ?_, fun i j hij hj => h.apart i j hij (by rwa [List.length_set] at hj)⟩
  · rw [List.length_set]
    exact h.own.kept hg (own_type_ne h.own hin (by decide))
  · rw [List.length_set] at hi'
    rw [set_getB hk i hi']
    by_cases e : k = i
    · subst e
      rw [if_pos rfl]
      exact hy
    · rw [if_neg e]
      obtain ⟨h0, inner', ho, hr⟩ := h.row i hi'
      exact ⟨h0, inner', ho.kept hg (h.apart' (fun h => e h.symm) hi' hk), hr⟩
def totTo (l : List (List Flit)) : Nat → Nat
  | 0 => 0
  | i + 1 => totTo l i + (rl l i).length
theorem totTo_le {l : List (List Flit)} (h : ∀ x ∈ l, x.length ≤ 2097152) : ∀ i, i ≤ l.length → totTo l i ≤ 2097152 * i := by
  intro i
  induction i with
  | zero => intro _; simp [totTo]
  | succ i ih =>
    intro hi
    have h1 := ih (by omega)
    have h2 := h _ (rl_mem (show i < l.length by omega))
    simp only [totTo]
    omega
set_option maxHeartbeats 2000000 in
theorem laws_markFlitSS (l : List (List Flit)) (vs : List Value) (k : Int) (A : Option Addr) (c lo hi : Nat) (w : World) (HO0 : OB w lo hi (.slice A l.length c) l vs) (hlo : lo ≤ hi) (hn : l.length ≤ 2097152) (hm : Hid (∀ x ∈ l, x.length ≤ 2097152)) (k0 : 0 ≤ k) (k1 : k ≤ 1000000000000000) :
    Calls Tryz.prog 55 #[.slice A l.length c, .int .i64 k] w fun e w' => e = .returned (.int .i64 (k + 5 * (totTo l l.length : Int))) ∧ (∃ x, OB w' lo hi (.slice A l.length c) x vs ∧ x.length = l.length ∧ ∀ i : Nat, i < l.length → rl x i = markFl (k + 5 * (totTo l i : Int)) (rl l i).length) ∧ Chg lo hi w w' := by
  go_enter Tryz.func55, Tryz.ntmps55
  go_wp2
  go_loopw [1, 5] (fun v i wr => ∃ (j : Nat) (x : List (List Flit)), i = .int .i64 j ∧ v = .int .i64 (k + 5 * (totTo l j : Int)) ∧ j ≤ l.length ∧ Hid (x.length = l.length) ∧ Hid ((∀ q : Nat, q < j → rl x q = markFl (k + 5 * (totTo l q : Int)) (rl l q).length) ∧ ∀ q : Nat, j ≤ q → rl x q = rl l q) ∧ OB wr lo hi (.slice A l.length c) x vs ∧ Chg lo hi w wr) (fun _ i _ => l.length - (intOf i).toNat)
  case atStart => exact ⟨0, l, rfl, by simp [totTo], Nat.zero_le _, Lib.hid rfl, Lib.hid ⟨fun q h => absurd h (Nat.not_lt_zero _), fun _ _ => rfl⟩, HO0, Chg.refl _ _ _⟩
  case round =>
    obtain ⟨j, x, rfl, rfl, hj, HL, HA, HO, HG⟩ := hrel
    have ht := totTo_le hm.out j hj
    by_cases hlt : j < l.length
    · have hxl : j < x.length := by have := HL.out; omega
      have hlj := hm.out _ (rl_mem hlt)
      have hrow := HO.row j hxl
      rw [HA.out.2 j (Nat.le_refl _)] at hrow
      obtain ⟨Aj, cj, hvj⟩ := Kd.R_slice hrow
      obtain ⟨g, cap, hv, hgb, hgh, hgl, hcap, cells, HGC⟩ := HO.form (by omega)
      rw [HL.out] at hv
      injection hv with hv1 hv2 hv3
      subst hv1
      subst hv3
      obtain ⟨hx9, hf9⟩ := HO.cell j hxl
      rw [hvj] at hx9
      have HOH := Lib.hid HO
      have hr2 := hrow
      rw [hvj] at hr2
      have HR := Lib.hid hr2
      have HV := Lib.hid hvj
      have hts : ((totTo l (j + 1) : Nat) : Int) = (totTo l j : Int) + ((rl l j).length : Int) := by simp [totTo]
      have HT := Lib.hid hts
      clear HGC hv2 HO hrow hr2 hvj hts hf9
      go_wp2_with (go_at_call 95; refine (laws_markFlitS (rl l j) _ Aj cj lo _ (RU.row HR.out) hlj (by omega) (by omega)).mono ?_; rintro e w1 ⟨rfl, HR1, hg1⟩)
      go_roundw
      case rel =>
        have hgg : wr.grownBy w1 (vr vs j).ownBlock := by rw [HV.out]; exact hg1
        have hw := HR.out.within
        refine ⟨j + 1, x.set j (markFl (k + 5 * (totTo l j : Int)) (rl l j).length), by go_num, by rw [HT.out]; congr 1; omega, by omega, Lib.hid (by rw [List.length_set]; exact HL.out), Lib.hid ⟨upto (fun q hq => by rw [set_getB hxl q (by omega), if_neg (by omega)]; exact HA.out.1 q hq) (by rw [set_getB hxl j hxl, if_pos rfl]), fun q hq => ?_⟩, HOH.out.upd j hxl hgg ?_, HG.trans (Chg.of_grown hg1 hw)⟩
        · by_cases hqx : q < x.length
          · rw [set_getB hxl q hqx, if_neg (by omega)]
            exact HA.out.2 q (by omega)
          · have e1 : rl (x.set j (markFl (k + 5 * (totTo l j : Int)) (rl l j).length)) q = [] := by simp [rl, List.getD_eq_getElem?_getD, hqx]
            have e2 : rl l q = [] := by
              have : ¬ q < l.length := by have := HL.out; omega
              simp [rl, List.getD_eq_getElem?_getD, this]
            rw [e1, e2]
        · rw [HV.out]
          obtain ⟨_, inner, ho, hrr⟩ := HR1
          exact ⟨fun q hq => (hw q hq).2, inner, ho, hrr⟩
      case measure => simp [intOf]; omega
    · go_wp2
      go_ret
      obtain rfl : j = l.length := by omega
      exact ⟨rfl, ⟨x, HO, HL.out, HA.out.1⟩, HG⟩
structure NetI (w : World) (a b : Nat → Nat) (n : Net) (q : NA) (v4 v7 v8 : List Value) : Prop where
  br : RU (Kd.int .i64) 3 w (a 0) (b 0) (.slice q.a1 n.mesh.br.length q.c1) n.mesh.br
  pa : RU (Kd.int .i64) 3 w (a 1) (b 1) (.slice q.a2 n.pa.length q.c2) n.pa
  pb : RU (Kd.int .i64) 3 w (a 1) (b 1) (.slice q.a3 n.pb.length q.c3) n.pb
  ap : Apart (.slice q.a3 n.pb.length q.c3) (.slice q.a2 n.pa.length q.c2)
  bufs : OB w (a 2) (b 2) (.slice q.a4 n.bufs.length q.c4) n.bufs v4
  owners : RU (Kd.int .i64) 3 w (a 3) (b 3) (.slice q.a5 n.owners.length q.c5) n.owners
  turns : RU (Kd.int .i64) 3 w (a 4) (b 4) (.slice q.a6 n.turns.length q.c6) n.turns
  srcs : OB w (a 5) (b 5) (.slice q.a7 n.srcs.length q.c7) n.srcs v7
  arrs : OB w (a 6) (b 6) (.slice q.a8 n.arrs.length q.c8) n.arrs v8
structure Lay (lo hi : Nat) (a b : Nat → Nat) : Prop where
  inn : ∀ i, i < 7 → lo ≤ a i ∧ a i ≤ b i ∧ b i ≤ hi
  dis : ∀ i j, i < 7 → j < 7 → i ≠ j → b i ≤ a j ∨ b j ≤ a i
def GotNI (w w' : World) (n : Net) (e : Ending) : Prop := ∃ q a b v4 v7 v8, e = .returned (.agg (netCells n q)) ∧ Lay w.heap.size w'.heap.size a b ∧ NetI w' a b n q v4 v7 v8
theorem NetI.reads {w : World} {a b : Nat → Nat} {n : Net} {q : NA} {v4 v7 v8 : List Value} {w0 : World} {q0 : NA} {e0 : Nat} (h : NetI w a b n q v4 v7 v8) (k : NetR e0 w0 n q0) : NetR 121 w n q :=
  ⟨h.br.reads.2.2, h.pa.reads.2.2, h.pb.reads.2.2, h.bufs.reads.2.2, h.owners.reads.2.2, h.turns.reads.2.2, h.srcs.reads.2.2, h.arrs.reads.2.2, k.h1, k.h2, k.h3, k.h4, k.h5, k.h6, k.h7, k.h8, k.h9, k.h10, k.h11⟩
theorem NetI.below {w w1 : World} {a b : Nat → Nat} {n : Net} {q : NA} {v4 v7 v8 : List Value} (h : NetI w a b n q v4 v7 v8) (hb : Below w.heap.size w w1) : NetI w1 a b n q v4 v7 v8 :=
  ⟨h.br.below hb, h.pa.below hb, h.pb.below hb, h.ap, h.bufs.below hb, h.owners.below hb, h.turns.below hb, h.srcs.below hb, h.arrs.below hb⟩
def seven (x0 x1 x2 x3 x4 x5 x6 : Nat) (i : Nat) : Nat := match i with | 0 => x0 | 1 => x1 | 2 => x2 | 3 => x3 | 4 => x4 | 5 => x5 | _ => x6
theorem lay_seq {t0 t1 t2 t3 t4 t5 t6 t7 : Nat} (h0 : t0 ≤ t1) (h1 : t1 ≤ t2) (h2 : t2 ≤ t3) (h3 : t3 ≤ t4) (h4 : t4 ≤ t5) (h5 : t5 ≤ t6) (h6 : t6 ≤ t7) {lo hi : Nat} (hl : lo ≤ t0) (hh : t7 ≤ hi) : Lay lo hi (seven t0 t1 t2 t3 t4 t5 t6) (seven t1 t2 t3 t4 t5 t6 t7) := by
  refine ⟨fun i hi => ?_, fun i j hi hj hne => ?_⟩
  · rcases (by omega : i = 0 ∨ i = 1 ∨ i = 2 ∨ i = 3 ∨ i = 4 ∨ i = 5 ∨ i = 6) with rfl | rfl | rfl | rfl | rfl | rfl | rfl <;> (simp only [seven]; omega)
  · rcases (by omega : i = 0 ∨ i = 1 ∨ i = 2 ∨ i = 3 ∨ i = 4 ∨ i = 5 ∨ i = 6) with rfl | rfl | rfl | rfl | rfl | rfl | rfl <;> rcases (by omega : j = 0 ∨ j = 1 ∨ j = 2 ∨ j = 3 ∨ j = 4 ∨ j = 5 ∨ j = 6) with rfl | rfl | rfl | rfl | rfl | rfl | rfl <;> first | exact absurd rfl hne | (simp only [seven]; omega)
def GotOB (w w' : World) (l : List (List Flit)) (e : Ending) : Prop := ∃ v vs, e = .returned v ∧ OB w' w.heap.size w'.heap.size v l vs
set_option maxHeartbeats 2000000 in
theorem laws_toFlitSS2 (l : List (List Flit)) (A : Option Addr) (c : Nat) (w : World) (hr : (kB 121).C w A l.length l) (hn : l.length ≤ 2097152) (hm : Hid (∀ x ∈ l, x.length ≤ 2097152)) :
    Calls Tryz.prog 44 #[.slice A l.length c] w fun e w' => GotOB w w' l e ∧ Below w.heap.size w w' := by
  have mk := print_make_int (P := Tryz.prog) 42 108 (.slice none 0 0) 24 Tryz.underlying42 info_B rfl (by omega) (l.length : Int) (by omega) (by simp; omega)
  simp only [Int.toNat_natCast] at mk
  have HM := Lib.hid (OB.made w w.heap.size l.length (Nat.le_refl _) (by omega))
  go_enter Tryz.func44, Tryz.ntmps44
  go_wp2
  go_loopw [4] (fun i wr => ∃ (k : Nat) (x : List (List Flit)) (vs : List Value), i = .int .i64 k ∧ k ≤ l.length ∧ Hid (x.length = l.length) ∧ Hid (∀ j : Nat, j < k → rl x j = rl l j) ∧ OB wr w.heap.size wr.heap.size (.slice (some ⟨w.heap.size, 0, none⟩) l.length l.length) x vs ∧ Below w.heap.size w wr ∧ w.heap.size < wr.heap.size) (fun i _ => l.length - (intOf i).toNat)
  case atStart => exact ⟨0, List.replicate l.length [], List.replicate l.length (.slice none 0 0), rfl, Nat.zero_le _, Lib.hid (by simp), Lib.hid fun j h => absurd h (Nat.not_lt_zero _), HM.out.wide (Nat.le_refl _) (by simp), bel, by simp⟩
  case round =>
    obtain ⟨k, x, vs, rfl, hk, HL, HA, HO, HB, hsz⟩ := hrel
    obtain ⟨hc0, hf0, hz0⟩ := bcell HB
    by_cases hlt : k < l.length
    · obtain ⟨b, off, rfl, hb, Ai, ci, p0, hle, hCi⟩ := rdB_at hr k hlt
      have hki := hm.out _ (rl_mem hlt)
      obtain ⟨hx9, hf9⟩ := HO.cell k (by have := HL.out; omega)
      have HOH := Lib.hid HO
      clear HO
      go_wp2_with (first | (go_at_call 83; refine (laws_toFlitS (rl l k) Ai ci _ (by exact Kd.C_below hCi bel) hki).mono ?_; rintro e w1 ⟨hg1, hb1⟩; obtain ⟨v2, rfl, HO2⟩ := hg1; obtain ⟨A2, c2, rfl⟩ := Kd.R_slice HO2; obtain ⟨hc1, hf1, hz1⟩ := bcell hb1; (try simp only [szs] at hz1); have hb2 := far2; obtain ⟨hc2, hf2, hz2⟩ := bcell hb2; (try simp only [szs] at hz2); try (first | obtain ⟨hy1, hy2, hy3, hy4⟩ := lts4 hz2 | obtain ⟨hy1, hy2, hy3⟩ := lts3 hz2 | obtain ⟨hy1, hy2⟩ := lts2 hz2 | have hy1 := lts1 hz2); have hb9 := hb1))
      go_roundw
      case rel =>
        have hz3 := hb1.size
        have H2 := (HOH.out.below hb1).put k (by have := HL.out; omega) _ (rl l k) HO2 (Nat.le_refl _) (by omega) (by omega)
        exact ⟨k + 1, x.set k (rl l k), vs.set k (.slice A2 (rl l k).length c2), by go_num, by omega, Lib.hid (by rw [List.length_set]; exact HL.out), Lib.hid (upto (fun j hj => by rw [set_getB (by have := HL.out; omega) j (by have := HL.out; omega), if_neg (by omega)]; exact HA.out j hj) (by rw [set_getB (by have := HL.out; omega) k (by have := HL.out; omega), if_pos rfl])), by simpa only [szs] using H2, bw_set _ (bw_then HB hb1) (Nat.le_refl _), by simp only [szs]; omega⟩
      case measure => simp [intOf]; omega
    · go_wp2
      go_ret
      have e : x = l := same_getB HL.out (fun j hj => HA.out j (by omega))
      subst e
      exact ⟨⟨_, _, rfl, HO⟩, bel⟩
theorem RU.off {α : Type} {d : Kd α} {e : Nat} {w : World} {lo hi : Nat} {v : Value} {xs : List α} (h : RU d e w lo hi v xs) {g : Nat} (hg : g < lo) (j : Nat) (u : Value) : RU d e (w.setCell ⟨g, j, none⟩ u) lo hi v xs :=
  h.step (fun k h1 _ _ => Below.heap_setCell w ⟨g, j, none⟩ u k (by show k ≠ g; omega))
theorem OB.off {w : World} {lo hi : Nat} {v : Value} {l : List (List Flit)} {vs : List Value} (h : OB w lo hi v l vs) {g : Nat} (hg : g < lo) (j : Nat) (u : Value) : OB (w.setCell ⟨g, j, none⟩ u) lo hi v l vs :=
  h.step (fun k h1 _ _ => Below.heap_setCell w ⟨g, j, none⟩ u k (by show k ≠ g; omega))
theorem RU.bel {α : Type} {d : Kd α} {e : Nat} {w w1 : World} {lo hi : Nat} {v : Value} {xs : List α} (hb : Below w.heap.size w w1) (h : RU d e w lo hi v xs) : RU d e w1 lo hi v xs := h.below hb
theorem OB.bel {w w1 : World} {lo hi : Nat} {v : Value} {l : List (List Flit)} {vs : List Value} (hb : Below w.heap.size w w1) (h : OB w lo hi v l vs) : OB w1 lo hi v l vs := h.below hb
set_option maxHeartbeats 4000000 in
set_option maxRecDepth 100000 in
theorem laws_toNet2 (n : Net) (q : NA) (w : World) (hr : NetR 121 w n q) : Calls Tryz.prog 11 #[.agg (netCells n q)] w fun e w' => GotNI w w' n e ∧ Below w.heap.size w w' := by
  have H := Lib.hid hr
  clear hr
  unfold netCells
  go_enter Tryz.func11, Tryz.ntmps11
  go_wp2_with fail
  refine (laws_toMesh n.mesh q.a1 q.c1 _ (by exact Kd.C_below H.out.br bel) H.out.h1).mono ?_
  rintro e w1 ⟨hg1, hb1⟩
  obtain ⟨v1, rfl, HO1⟩ := hg1
  obtain ⟨A1, c1, rfl⟩ := Kd.R_slice HO1
  obtain ⟨hc1, hf1, hz1⟩ := bcell hb1; (try simp only [szs] at hz1); have hb2 := far2; obtain ⟨hc2, hf2, hz2⟩ := bcell hb2; (try simp only [szs] at hz2); try (first | obtain ⟨hy1, hy2, hy3, hy4⟩ := lts4 hz2 | obtain ⟨hy1, hy2, hy3⟩ := lts3 hz2 | obtain ⟨hy1, hy2⟩ := lts2 hz2 | have hy1 := lts1 hz2); have hb9 := hb1
  have za1 : w.heap.size < w1.heap.size := by omega
  have zb1 : w.heap.size + 1 < w1.heap.size := by omega
  have zc1 : w.heap.size + 1 + 1 < w1.heap.size := by omega
  have U1 : RU (Kd.int .i64) 3 w1 (w.heap.size + 1 + 1 + 1) w1.heap.size _ _ := RU.of HO1 (by simp only [szs]; omega) (Nat.le_refl _)
  clear HO1
  go_wp2_with fail
  refine (laws_toClasses n.pa n.pb q.a2 q.a3 q.c2 q.c3 _ (by exact Kd.C_below H.out.pa bel) H.out.h2 (by exact Kd.C_below H.out.pb bel) H.out.h3).mono ?_
  rintro e w2 ⟨hg1, hb1⟩
  obtain ⟨v2, v3, rfl, HO2, HO3, hap⟩ := hg1
  obtain ⟨A2, c2, rfl⟩ := Kd.R_slice HO2
  obtain ⟨A3, c3, rfl⟩ := Kd.R_slice HO3
  obtain ⟨hc1, hf1, hz1⟩ := bcell hb1; (try simp only [szs] at hz1); have hb2 := far2; obtain ⟨hc2, hf2, hz2⟩ := bcell hb2; (try simp only [szs] at hz2); try (first | obtain ⟨hy1, hy2, hy3, hy4⟩ := lts4 hz2 | obtain ⟨hy1, hy2, hy3⟩ := lts3 hz2 | obtain ⟨hy1, hy2⟩ := lts2 hz2 | have hy1 := lts1 hz2); have hb9 := hb1
  have za2 : w.heap.size < w2.heap.size := by omega
  have zb2 : w.heap.size + 1 < w2.heap.size := by omega
  have zc2 : w.heap.size + 1 + 1 < w2.heap.size := by omega
  have U2 : RU (Kd.int .i64) 3 w2 w1.heap.size w2.heap.size _ _ := RU.of HO2 (by simp only [szs]; omega) (Nat.le_refl _)
  have U3 : RU (Kd.int .i64) 3 w2 w1.heap.size w2.heap.size _ _ := RU.of HO3 (by simp only [szs]; omega) (Nat.le_refl _)
  have zz2 : w1.heap.size ≤ w2.heap.size := by omega
  clear HO2 HO3
  go_wp2_with fail
  refine (laws_toFlitSS2 n.bufs q.a4 q.c4 _ (by exact Kd.C_below H.out.bufs bel) H.out.h4 (Lib.hid H.out.h9)).mono ?_
  rintro e w3 ⟨hg1, hb1⟩
  obtain ⟨v4, vs4, rfl, HO4⟩ := hg1
  obtain ⟨A4, c4, rfl⟩ := HO4.slice
  obtain ⟨hc1, hf1, hz1⟩ := bcell hb1; (try simp only [szs] at hz1); have hb2 := far2; obtain ⟨hc2, hf2, hz2⟩ := bcell hb2; (try simp only [szs] at hz2); try (first | obtain ⟨hy1, hy2, hy3, hy4⟩ := lts4 hz2 | obtain ⟨hy1, hy2, hy3⟩ := lts3 hz2 | obtain ⟨hy1, hy2⟩ := lts2 hz2 | have hy1 := lts1 hz2); have hb9 := hb1
  have za3 : w.heap.size < w3.heap.size := by omega
  have zb3 : w.heap.size + 1 < w3.heap.size := by omega
  have zc3 : w.heap.size + 1 + 1 < w3.heap.size := by omega
  have U4 : OB w3 w2.heap.size w3.heap.size _ _ vs4 := HO4.wide (by simp only [szs]; omega) (Nat.le_refl _)
  have zz3 : w2.heap.size ≤ w3.heap.size := by omega
  clear HO4
  go_wp2_with fail
  refine (laws_toIntS n.owners q.a5 q.c5 _ (by exact Kd.C_below H.out.owners bel) H.out.h5).mono ?_
  rintro e w4 ⟨hg1, hb1⟩
  obtain ⟨v5, rfl, HO5⟩ := hg1
  obtain ⟨A5, c5, rfl⟩ := Kd.R_slice HO5
  obtain ⟨hc1, hf1, hz1⟩ := bcell hb1; (try simp only [szs] at hz1); have hb2 := far2; obtain ⟨hc2, hf2, hz2⟩ := bcell hb2; (try simp only [szs] at hz2); try (first | obtain ⟨hy1, hy2, hy3, hy4⟩ := lts4 hz2 | obtain ⟨hy1, hy2, hy3⟩ := lts3 hz2 | obtain ⟨hy1, hy2⟩ := lts2 hz2 | have hy1 := lts1 hz2); have hb9 := hb1
  have za4 : w.heap.size < w4.heap.size := by omega
  have zb4 : w.heap.size + 1 < w4.heap.size := by omega
  have zc4 : w.heap.size + 1 + 1 < w4.heap.size := by omega
  have U5 : RU (Kd.int .i64) 3 w4 w3.heap.size w4.heap.size _ _ := RU.of HO5 (by simp only [szs]; omega) (Nat.le_refl _)
  have zz4 : w3.heap.size ≤ w4.heap.size := by omega
  clear HO5
  go_wp2_with fail
  refine (laws_toIntS n.turns q.a6 q.c6 _ (by exact Kd.C_below H.out.turns bel) H.out.h6).mono ?_
  rintro e w5 ⟨hg1, hb1⟩
  obtain ⟨v6, rfl, HO6⟩ := hg1
  obtain ⟨A6, c6, rfl⟩ := Kd.R_slice HO6
  obtain ⟨hc1, hf1, hz1⟩ := bcell hb1; (try simp only [szs] at hz1); have hb2 := far2; obtain ⟨hc2, hf2, hz2⟩ := bcell hb2; (try simp only [szs] at hz2); try (first | obtain ⟨hy1, hy2, hy3, hy4⟩ := lts4 hz2 | obtain ⟨hy1, hy2, hy3⟩ := lts3 hz2 | obtain ⟨hy1, hy2⟩ := lts2 hz2 | have hy1 := lts1 hz2); have hb9 := hb1
  have za5 : w.heap.size < w5.heap.size := by omega
  have zb5 : w.heap.size + 1 < w5.heap.size := by omega
  have zc5 : w.heap.size + 1 + 1 < w5.heap.size := by omega
  have U6 : RU (Kd.int .i64) 3 w5 w4.heap.size w5.heap.size _ _ := RU.of HO6 (by simp only [szs]; omega) (Nat.le_refl _)
  have zz5 : w4.heap.size ≤ w5.heap.size := by omega
  clear HO6
  go_wp2_with fail
  refine (laws_toFlitSS2 n.srcs q.a7 q.c7 _ (by exact Kd.C_below H.out.srcs bel) H.out.h7 (Lib.hid H.out.h10)).mono ?_
  rintro e w6 ⟨hg1, hb1⟩
  obtain ⟨v7, vs7, rfl, HO7⟩ := hg1
  obtain ⟨A7, c7, rfl⟩ := HO7.slice
  obtain ⟨hc1, hf1, hz1⟩ := bcell hb1; (try simp only [szs] at hz1); have hb2 := far2; obtain ⟨hc2, hf2, hz2⟩ := bcell hb2; (try simp only [szs] at hz2); try (first | obtain ⟨hy1, hy2, hy3, hy4⟩ := lts4 hz2 | obtain ⟨hy1, hy2, hy3⟩ := lts3 hz2 | obtain ⟨hy1, hy2⟩ := lts2 hz2 | have hy1 := lts1 hz2); have hb9 := hb1
  have za6 : w.heap.size < w6.heap.size := by omega
  have zb6 : w.heap.size + 1 < w6.heap.size := by omega
  have zc6 : w.heap.size + 1 + 1 < w6.heap.size := by omega
  have U7 : OB w6 w5.heap.size w6.heap.size _ _ vs7 := HO7.wide (by simp only [szs]; omega) (Nat.le_refl _)
  have zz6 : w5.heap.size ≤ w6.heap.size := by omega
  clear HO7
  go_wp2_with fail
  refine (laws_toFlitSS2 n.arrs q.a8 q.c8 _ (by exact Kd.C_below H.out.arrs bel) H.out.h8 (Lib.hid H.out.h11)).mono ?_
  rintro e w7 ⟨hg1, hb1⟩
  obtain ⟨v8, vs8, rfl, HO8⟩ := hg1
  obtain ⟨A8, c8, rfl⟩ := HO8.slice
  obtain ⟨hc1, hf1, hz1⟩ := bcell hb1; (try simp only [szs] at hz1); have hb2 := far2; obtain ⟨hc2, hf2, hz2⟩ := bcell hb2; (try simp only [szs] at hz2); try (first | obtain ⟨hy1, hy2, hy3, hy4⟩ := lts4 hz2 | obtain ⟨hy1, hy2, hy3⟩ := lts3 hz2 | obtain ⟨hy1, hy2⟩ := lts2 hz2 | have hy1 := lts1 hz2); have hb9 := hb1
  have za7 : w.heap.size < w7.heap.size := by omega
  have zb7 : w.heap.size + 1 < w7.heap.size := by omega
  have zc7 : w.heap.size + 1 + 1 < w7.heap.size := by omega
  have U8 : OB w7 w6.heap.size w7.heap.size _ _ vs8 := HO8.wide (by simp only [szs]; omega) (Nat.le_refl _)
  have zz7 : w6.heap.size ≤ w7.heap.size := by omega
  clear HO8
  go_wp2
  refine bodyPost_ret (v := .agg (netCells n ⟨A1, A2, A3, A4, A5, A6, A7, A8, c1, c2, c3, c4, c5, c6, c7, c8⟩)) (by simp [results, Tryz.results11, go_sem, netCells, *]) rfl ⟨⟨_, seven (w.heap.size + 1 + 1 + 1) w1.heap.size w2.heap.size w3.heap.size w4.heap.size w5.heap.size w6.heap.size, seven w1.heap.size w2.heap.size w3.heap.size w4.heap.size w5.heap.size w6.heap.size w7.heap.size, vs4, vs7, vs8, rfl, lay_seq (by omega) zz2 zz3 zz4 zz5 zz6 zz7 (by omega) (by simp only [szs]; omega), ?_⟩, bel⟩
  refine ⟨?_, ?_, ?_, apart_comm hap, ?_, ?_, ?_, ?_, ?_⟩
  all_goals (simp only [seven]; with_reducible repeat (first | exact U1 | exact U2 | exact U3 | exact U4 | exact U5 | exact U6 | exact U7 | exact U8 | (refine RU.off ?_ (by omega) _ _) | (refine OB.off ?_ (by omega) _ _) | (refine RU.bel (by assumption) ?_) | (refine OB.bel (by assumption) ?_)))
set_option maxHeartbeats 8000000 in
set_option maxRecDepth 100000 in
theorem laws_markNet2 (n : Net) (q : NA) (k : Int) (lo hi : Nat) (a b : Nat → Nat) (v4 v7 v8 : List Value) (w w0 : World) (q0 : NA) (hN : NetI w a b n q v4 v7 v8) (hr : NetR 121 w0 n q0) (D : Lay lo hi a b) (hhi : hi ≤ w.heap.size) (k0 : 0 ≤ k) (k1 : k ≤ 1000000) :
    Calls Tryz.prog 15 #[.agg (netCells n q), .int .i64 k] w fun e w' => (∃ r, e = .returned (.int .i64 r) ∧ 0 ≤ r ∧ r ≤ 200000000000000) ∧ Chg lo hi w w' := by
  have H := Lib.hid hr
  clear hr
  obtain ⟨U1, U2, U3, ap, U4, U5, U6, U7, U8⟩ := hN
  have d0 := D.inn 0 (by decide)
  have d1 := D.inn 1 (by decide)
  have d2 := D.inn 2 (by decide)
  have d3 := D.inn 3 (by decide)
  have d4 := D.inn 4 (by decide)
  have d5 := D.inn 5 (by decide)
  have d6 := D.inn 6 (by decide)
  have l1 := H.out.h1
  have l2 := H.out.h2
  have l3 := H.out.h3
  have l4 := H.out.h4
  have l5 := H.out.h5
  have l6 := H.out.h6
  have l7 := H.out.h7
  have l8 := H.out.h8
  have m4 := totTo_le H.out.h9 n.bufs.length (Nat.le_refl _)
  have m7 := totTo_le H.out.h10 n.srcs.length (Nat.le_refl _)
  have m8 := totTo_le H.out.h11 n.arrs.length (Nat.le_refl _)
  have B : Box (w.alloc (.cells #[.int .i64 n.mesh.g.w, .int .i64 n.mesh.g.h, .slice q.a1 n.mesh.br.length q.c1, .slice q.a2 n.pa.length q.c2, .slice q.a3 n.pb.length q.c3, .slice q.a4 n.bufs.length q.c4, .slice q.a5 n.owners.length q.c5, .slice q.a6 n.turns.length q.c6, .slice q.a7 n.srcs.length q.c7, .slice q.a8 n.arrs.length q.c8, .int .i64 n.time] 44)) w.heap.size #[.int .i64 n.mesh.g.w, .int .i64 n.mesh.g.h, .slice q.a1 n.mesh.br.length q.c1, .slice q.a2 n.pa.length q.c2, .slice q.a3 n.pb.length q.c3, .slice q.a4 n.bufs.length q.c4, .slice q.a5 n.owners.length q.c5, .slice q.a6 n.turns.length q.c6, .slice q.a7 n.srcs.length q.c7, .slice q.a8 n.arrs.length q.c8, .int .i64 n.time] := Box.new w _ _ _ rfl
  have G : Chg lo hi w (w.alloc (.cells #[.int .i64 n.mesh.g.w, .int .i64 n.mesh.g.h, .slice q.a1 n.mesh.br.length q.c1, .slice q.a2 n.pa.length q.c2, .slice q.a3 n.pb.length q.c3, .slice q.a4 n.bufs.length q.c4, .slice q.a5 n.owners.length q.c5, .slice q.a6 n.turns.length q.c6, .slice q.a7 n.srcs.length q.c7, .slice q.a8 n.arrs.length q.c8, .int .i64 n.time] 44)) := Chg.of_below (bw_alloc _ (bw_refl w))
  replace U1 := RU.bel (bw_alloc (.cells #[.int .i64 n.mesh.g.w, .int .i64 n.mesh.g.h, .slice q.a1 n.mesh.br.length q.c1, .slice q.a2 n.pa.length q.c2, .slice q.a3 n.pb.length q.c3, .slice q.a4 n.bufs.length q.c4, .slice q.a5 n.owners.length q.c5, .slice q.a6 n.turns.length q.c6, .slice q.a7 n.srcs.length q.c7, .slice q.a8 n.arrs.length q.c8, .int .i64 n.time] 44) (bw_refl w)) U1
  replace U2 := RU.bel (bw_alloc (.cells #[.int .i64 n.mesh.g.w, .int .i64 n.mesh.g.h, .slice q.a1 n.mesh.br.length q.c1, .slice q.a2 n.pa.length q.c2, .slice q.a3 n.pb.length q.c3, .slice q.a4 n.bufs.length q.c4, .slice q.a5 n.owners.length q.c5, .slice q.a6 n.turns.length q.c6, .slice q.a7 n.srcs.length q.c7, .slice q.a8 n.arrs.length q.c8, .int .i64 n.time] 44) (bw_refl w)) U2
  replace U3 := RU.bel (bw_alloc (.cells #[.int .i64 n.mesh.g.w, .int .i64 n.mesh.g.h, .slice q.a1 n.mesh.br.length q.c1, .slice q.a2 n.pa.length q.c2, .slice q.a3 n.pb.length q.c3, .slice q.a4 n.bufs.length q.c4, .slice q.a5 n.owners.length q.c5, .slice q.a6 n.turns.length q.c6, .slice q.a7 n.srcs.length q.c7, .slice q.a8 n.arrs.length q.c8, .int .i64 n.time] 44) (bw_refl w)) U3
  replace U4 := OB.bel (bw_alloc (.cells #[.int .i64 n.mesh.g.w, .int .i64 n.mesh.g.h, .slice q.a1 n.mesh.br.length q.c1, .slice q.a2 n.pa.length q.c2, .slice q.a3 n.pb.length q.c3, .slice q.a4 n.bufs.length q.c4, .slice q.a5 n.owners.length q.c5, .slice q.a6 n.turns.length q.c6, .slice q.a7 n.srcs.length q.c7, .slice q.a8 n.arrs.length q.c8, .int .i64 n.time] 44) (bw_refl w)) U4
  replace U5 := RU.bel (bw_alloc (.cells #[.int .i64 n.mesh.g.w, .int .i64 n.mesh.g.h, .slice q.a1 n.mesh.br.length q.c1, .slice q.a2 n.pa.length q.c2, .slice q.a3 n.pb.length q.c3, .slice q.a4 n.bufs.length q.c4, .slice q.a5 n.owners.length q.c5, .slice q.a6 n.turns.length q.c6, .slice q.a7 n.srcs.length q.c7, .slice q.a8 n.arrs.length q.c8, .int .i64 n.time] 44) (bw_refl w)) U5
  replace U6 := RU.bel (bw_alloc (.cells #[.int .i64 n.mesh.g.w, .int .i64 n.mesh.g.h, .slice q.a1 n.mesh.br.length q.c1, .slice q.a2 n.pa.length q.c2, .slice q.a3 n.pb.length q.c3, .slice q.a4 n.bufs.length q.c4, .slice q.a5 n.owners.length q.c5, .slice q.a6 n.turns.length q.c6, .slice q.a7 n.srcs.length q.c7, .slice q.a8 n.arrs.length q.c8, .int .i64 n.time] 44) (bw_refl w)) U6
  replace U7 := OB.bel (bw_alloc (.cells #[.int .i64 n.mesh.g.w, .int .i64 n.mesh.g.h, .slice q.a1 n.mesh.br.length q.c1, .slice q.a2 n.pa.length q.c2, .slice q.a3 n.pb.length q.c3, .slice q.a4 n.bufs.length q.c4, .slice q.a5 n.owners.length q.c5, .slice q.a6 n.turns.length q.c6, .slice q.a7 n.srcs.length q.c7, .slice q.a8 n.arrs.length q.c8, .int .i64 n.time] 44) (bw_refl w)) U7
  replace U8 := OB.bel (bw_alloc (.cells #[.int .i64 n.mesh.g.w, .int .i64 n.mesh.g.h, .slice q.a1 n.mesh.br.length q.c1, .slice q.a2 n.pa.length q.c2, .slice q.a3 n.pb.length q.c3, .slice q.a4 n.bufs.length q.c4, .slice q.a5 n.owners.length q.c5, .slice q.a6 n.turns.length q.c6, .slice q.a7 n.srcs.length q.c7, .slice q.a8 n.arrs.length q.c8, .int .i64 n.time] 44) (bw_refl w)) U8
  unfold netCells
  go_enter Tryz.func15, Tryz.ntmps15
  obtain ⟨y, g⟩ := B
  go_wp2_with fail
  refine (laws_markMesh n.mesh k q.a1 q.c1 (a 0) _ U1.row l1 k0 (by omega)).mono ?_
  rintro e w1 ⟨rfl, hg1⟩
  have G1 := Chg.of_grown hg1 U1.within
  replace U2 := U2.chg G1 (D.dis 1 0 (by decide) (by decide) (by decide))
  replace U3 := U3.chg G1 (D.dis 1 0 (by decide) (by decide) (by decide))
  replace U4 := U4.chg G1 (D.dis 2 0 (by decide) (by decide) (by decide))
  replace U5 := U5.chg G1 (D.dis 3 0 (by decide) (by decide) (by decide))
  replace U6 := U6.chg G1 (D.dis 4 0 (by decide) (by decide) (by decide))
  replace U7 := U7.chg G1 (D.dis 5 0 (by decide) (by decide) (by decide))
  replace U8 := U8.chg G1 (D.dis 6 0 (by decide) (by decide) (by decide))
  have B := Box.chg ⟨y, g⟩ G1 (.inr (by omega))
  replace G := G.trans (G1.wide (by omega) (by omega))
  clear y g hg1 G1 U1
  obtain ⟨y, g⟩ := B
  obtain ⟨r1, er1⟩ : ∃ r, k + (n.mesh.br.length : Int) = r := ⟨_, rfl⟩
  have rl1 : 0 ≤ r1 := by omega
  have ru1 : r1 ≤ 4000000 := by omega
  rw [er1]
  clear er1
  go_wp2_with fail
  refine (laws_markClasses n.pa n.pb r1 q.a2 q.a3 q.c2 q.c3 (a 1) _ U2.row U3.row ap l2 l3 rl1 (by omega)).mono ?_
  rintro e w2 ⟨rfl, wm, hg1, hg2⟩
  have G1 := (Chg.of_grown hg1 U2.within).trans (Chg.of_grown hg2 U3.within)
  replace U4 := U4.chg G1 (D.dis 2 1 (by decide) (by decide) (by decide))
  replace U5 := U5.chg G1 (D.dis 3 1 (by decide) (by decide) (by decide))
  replace U6 := U6.chg G1 (D.dis 4 1 (by decide) (by decide) (by decide))
  replace U7 := U7.chg G1 (D.dis 5 1 (by decide) (by decide) (by decide))
  replace U8 := U8.chg G1 (D.dis 6 1 (by decide) (by decide) (by decide))
  have B := Box.chg ⟨y, g⟩ G1 (.inr (by omega))
  replace G := G.trans (G1.wide (by omega) (by omega))
  clear y g hg1 hg2 G1 U2 U3
  obtain ⟨y, g⟩ := B
  obtain ⟨r2, er2⟩ : ∃ r, r1 + (n.pa.length : Int) + (n.pb.length : Int) = r := ⟨_, rfl⟩
  have rl2 : 0 ≤ r2 := by omega
  have ru2 : r2 ≤ 10000000 := by omega
  rw [er2]
  clear er2
  go_wp2_with fail
  refine (laws_markFlitSS n.bufs v4 r2 q.a4 q.c4 (a 2) (b 2) _ U4 (by omega) l4 (Lib.hid H.out.h9) rl2 (by omega)).mono ?_
  rintro e w3 ⟨rfl, _, G1⟩
  replace U5 := U5.chg G1 (D.dis 3 2 (by decide) (by decide) (by decide))
  replace U6 := U6.chg G1 (D.dis 4 2 (by decide) (by decide) (by decide))
  replace U7 := U7.chg G1 (D.dis 5 2 (by decide) (by decide) (by decide))
  replace U8 := U8.chg G1 (D.dis 6 2 (by decide) (by decide) (by decide))
  have B := Box.chg ⟨y, g⟩ G1 (.inr (by omega))
  replace G := G.trans (G1.wide (by omega) (by omega))
  clear y g G1 U4
  obtain ⟨y, g⟩ := B
  obtain ⟨r3, er3⟩ : ∃ r, r2 + 5 * (totTo n.bufs n.bufs.length : Int) = r := ⟨_, rfl⟩
  have rl3 : 0 ≤ r3 := by omega
  have ru3 : r3 ≤ 40000000000000 := by omega
  rw [er3]
  clear er3
  go_wp2_with fail
  refine (laws_markIntS n.owners r3 q.a5 q.c5 (a 3) _ U5.row l5 rl3 (by omega)).mono ?_
  rintro e w4 ⟨rfl, _, hg1⟩
  have G1 := Chg.of_grown hg1 U5.within
  replace U6 := U6.chg G1 (D.dis 4 3 (by decide) (by decide) (by decide))
  replace U7 := U7.chg G1 (D.dis 5 3 (by decide) (by decide) (by decide))
  replace U8 := U8.chg G1 (D.dis 6 3 (by decide) (by decide) (by decide))
  have B := Box.chg ⟨y, g⟩ G1 (.inr (by omega))
  replace G := G.trans (G1.wide (by omega) (by omega))
  clear y g hg1 G1 U5
  obtain ⟨y, g⟩ := B
  obtain ⟨r4, er4⟩ : ∃ r, r3 + (n.owners.length : Int) = r := ⟨_, rfl⟩
  have rl4 : 0 ≤ r4 := by omega
  have ru4 : r4 ≤ 80000000000000 := by omega
  rw [er4]
  clear er4
  go_wp2_with fail
  refine (laws_markIntS n.turns r4 q.a6 q.c6 (a 4) _ U6.row l6 rl4 (by omega)).mono ?_
  rintro e w5 ⟨rfl, _, hg1⟩
  have G1 := Chg.of_grown hg1 U6.within
  replace U7 := U7.chg G1 (D.dis 5 4 (by decide) (by decide) (by decide))
  replace U8 := U8.chg G1 (D.dis 6 4 (by decide) (by decide) (by decide))
  have B := Box.chg ⟨y, g⟩ G1 (.inr (by omega))
  replace G := G.trans (G1.wide (by omega) (by omega))
  clear y g hg1 G1 U6
  obtain ⟨y, g⟩ := B
  obtain ⟨r5, er5⟩ : ∃ r, r4 + (n.turns.length : Int) = r := ⟨_, rfl⟩
  have rl5 : 0 ≤ r5 := by omega
  have ru5 : r5 ≤ 120000000000000 := by omega
  rw [er5]
  clear er5
  go_wp2_with fail
  refine (laws_markFlitSS n.srcs v7 r5 q.a7 q.c7 (a 5) (b 5) _ U7 (by omega) l7 (Lib.hid H.out.h10) rl5 (by omega)).mono ?_
  rintro e w6 ⟨rfl, _, G1⟩
  replace U8 := U8.chg G1 (D.dis 6 5 (by decide) (by decide) (by decide))
  have B := Box.chg ⟨y, g⟩ G1 (.inr (by omega))
  replace G := G.trans (G1.wide (by omega) (by omega))
  clear y g G1 U7
  obtain ⟨y, g⟩ := B
  obtain ⟨r6, er6⟩ : ∃ r, r5 + 5 * (totTo n.srcs n.srcs.length : Int) = r := ⟨_, rfl⟩
  have rl6 : 0 ≤ r6 := by omega
  have ru6 : r6 ≤ 160000000000000 := by omega
  rw [er6]
  clear er6
  go_wp2_with fail
  refine (laws_markFlitSS n.arrs v8 r6 q.a8 q.c8 (a 6) (b 6) _ U8 (by omega) l8 (Lib.hid H.out.h11) rl6 (by omega)).mono ?_
  rintro e w7 ⟨rfl, _, G1⟩
  have B := Box.chg ⟨y, g⟩ G1 (.inr (by omega))
  replace G := G.trans (G1.wide (by omega) (by omega))
  clear y g G1 U8
  obtain ⟨y, g⟩ := B
  go_wp2
  go_ret
  exact ⟨⟨_, rfl, by omega, by omega⟩, G⟩
theorem laws_markNet (n : Net) (q : NA) (k : Int) (lo hi : Nat) (a b : Nat → Nat) (v4 v7 v8 : List Value) (w w0 : World) (q0 : NA) (hN : NetI w a b n q v4 v7 v8) (hr : NetR 121 w0 n q0) (D : Lay lo hi a b) (hhi : hi ≤ w.heap.size) (k0 : 0 ≤ k) (k1 : k ≤ 1000000) :
    Calls Tryz.prog 15 #[.agg (netCells n q), .int .i64 k] w fun e w' => (∃ r, e = .returned (.int .i64 r) ∧ 0 ≤ r) ∧ Chg lo hi w w' :=
  (laws_markNet2 n q k lo hi a b v4 v7 v8 w w0 q0 hN hr D hhi k0 k1).mono fun e w' h => ⟨let ⟨r, h1, h2, _⟩ := h.1; ⟨r, h1, h2⟩, h.2⟩
def allGrantsN (n : Net) : List Grant := if netOk n = true then allGrants n else []
theorem R_lit0 {α : Type} (d : Kd α) (e : Nat) {w W : World} (h : Below w.heap.size w W) : d.R e (W.alloc (.cells #[] e)) w.heap.size (fun _ => True) (.slice (some ⟨W.heap.size, 0, none⟩) 0 0) [] := R_empty d e h.size
set_option maxHeartbeats 2000000 in
theorem spec_AllGrants (n : Net) (q : NA) (w : World) (hr : NetR 121 w n q) : Calls Tryz.prog 41 #[.agg (netCells n q)] w fun e w' => GotG w w' (allGrantsN n) e ∧ Below w.heap.size w w' := by
  have R := Lib.hid hr
  obtain ⟨a1, a2, a3, a4, a5, a6, a7, a8, c1, c2, c3, c4, c5, c6, c7, c8⟩ := q
  clear hr
  dsimp only [netCells]
  cases hk : netOk n
  · have HE : Hid (allGrantsN n = []) := Lib.hid (by rw [allGrantsN, hk]; rfl)
    go_enter Tryz.func41, Tryz.ntmps41
    go_wp2_with (go_at_call 57; refine (spec_NetOk n _ _ (R.out.below bel)).mono ?_; rintro e w1 ⟨rfl, hb1⟩; obtain ⟨hc1, hf1, hz1⟩ := bcell hb1; (try simp only [szs] at hz1); have hb2 := far2; obtain ⟨hc2, hf2, hz2⟩ := bcell hb2; (try simp only [szs] at hz2); try (first | obtain ⟨hy1, hy2, hy3, hy4⟩ := lts4 hz2 | obtain ⟨hy1, hy2, hy3⟩ := lts3 hz2 | obtain ⟨hy1, hy2⟩ := lts2 hz2 | have hy1 := lts1 hz2); have hb9 := hb1)
    go_ret
    exact ⟨by rw [HE.out]; exact ⟨_, rfl, R_lit0 kG 76 bel⟩, bel⟩
  · have HE : Hid (allGrantsN n = allGrants n) := Lib.hid (by rw [allGrantsN, hk]; rfl)
    have HK := Lib.hid hk
    go_enter Tryz.func41, Tryz.ntmps41
    go_wp2_with (first | (go_at_call 57; refine (spec_NetOk n _ _ (R.out.below bel)).mono ?_; rintro e w1 ⟨rfl, hb1⟩; obtain ⟨hc1, hf1, hz1⟩ := bcell hb1; (try simp only [szs] at hz1); have hb2 := far2; obtain ⟨hc2, hf2, hz2⟩ := bcell hb2; (try simp only [szs] at hz2); try (first | obtain ⟨hy1, hy2, hy3, hy4⟩ := lts4 hz2 | obtain ⟨hy1, hy2, hy3⟩ := lts3 hz2 | obtain ⟨hy1, hy2⟩ := lts2 hz2 | have hy1 := lts1 hz2); have hb9 := hb1) | (go_at_call 80; refine (spec_l18All n _ _ (R.out.below bel) HK.out).mono ?_; rintro e w1 ⟨hg1, hb1⟩; obtain ⟨v1, rfl, HO1⟩ := hg1; obtain ⟨A1, c1, rfl⟩ := Kd.R_slice HO1; obtain ⟨hc1, hf1, hz1⟩ := bcell hb1; (try simp only [szs] at hz1); have hb2 := far2; obtain ⟨hc2, hf2, hz2⟩ := bcell hb2; (try simp only [szs] at hz2); try (first | obtain ⟨hy1, hy2, hy3, hy4⟩ := lts4 hz2 | obtain ⟨hy1, hy2, hy3⟩ := lts3 hz2 | obtain ⟨hy1, hy2⟩ := lts2 hz2 | have hy1 := lts1 hz2); have hb9 := hb1))
    go_ret
    exact ⟨by rw [HE.out]; exact ⟨_, rfl, Kd.R_lower (by exact Kd.R_below HO1 bel) (by first | omega | (simp only [szs]; omega))⟩, bel⟩
structure SV where
  q : NA
  v4 : List Value
  v7 : List Value
  v8 : List Value
  vg : Value
  vt : Value
  ve : Value
  vm : Value
  gs : List Grant
  ts : List Int
  es : List Int
  ms : List Flit
def allV (s : SV) : List Value := s.v4 ++ (s.v7 ++ s.v8)
def allR (x : Net) : List (List Flit) := x.bufs ++ (x.srcs ++ x.arrs)
structure ST (w0 : World) (lo bx : Nat) (n0 : Net) (s : SV) (x : Net) (w : World) : Prop where
  nx : NX w lo x s.q s.v4 s.v7 s.v8
  bt : BT w bx n0 s.q
  g : kG.R 76 w w0.heap.size (fun _ => True) s.vg s.gs
  t : Kd.R (Kd.int .i64) 3 w w0.heap.size (fun _ => True) s.vt s.ts
  e : Kd.R (Kd.int .i64) 3 w w0.heap.size (fun _ => True) s.ve s.es
  m : kF.R 121 w w0.heap.size (fun _ => True) s.vm s.ms
  ma : ∀ i : Nat, i < (allR x).length → Apart (vr (allV s) i) s.vm
  blw : Below lo w0 w
  low : lo ≤ w0.heap.size
  box : lo ≤ bx ∧ bx < w0.heap.size
  top : ∀ g, (s.q.a4 = some ⟨g, 0, none⟩ ∨ s.q.a5 = some ⟨g, 0, none⟩ ∨ s.q.a6 = some ⟨g, 0, none⟩ ∨ s.q.a7 = some ⟨g, 0, none⟩ ∨ s.q.a8 = some ⟨g, 0, none⟩) → lo ≤ g ∧ g < w0.heap.size
section
variable {w0 w w1 : World} {lo bx : Nat} {n0 : Net} {s : SV} {x : Net}
theorem ST.size (h : ST w0 lo bx n0 s x w) : w0.heap.size ≤ w.heap.size := h.blw.size
theorem ST.below (h : ST w0 lo bx n0 s x w) (hb : Below w.heap.size w w1) : ST w0 lo bx n0 s x w1 :=
  ⟨h.nx.below hb, h.bt.below hb, Kd.R_below h.g hb, Kd.R_below h.t hb, Kd.R_below h.e hb, Kd.R_below h.m hb, h.ma, below_then h.blw (Nat.le_trans h.low h.size) hb, h.low, h.box, h.top⟩
theorem Below.cut {B C : Nat} {w w1 : World} (h : Below C w w1) (hB : B ≤ C) : Below B w w1 := ⟨h.os, h.tape, h.output, h.size, fun i hi => h.block i (by omega)⟩
end
theorem cell_low {B : Nat} {w w1 : World} (h : Below B w w1) {b : Nat} (hb : b < B) (o : Nat) : w1.cell? ⟨b, o, none⟩ = w.cell? ⟨b, o, none⟩ := World.cell?_of_block (a := ⟨b, o, none⟩) (h.block b hb)
theorem bw_trans {B C : Nat} {a b c : World} (h : Below B a b) (k : Below C b c) (hc : B ≤ C) : Below B a c := ⟨k.os.trans h.os, k.tape.trans h.tape, k.output.trans h.output, Nat.le_trans h.size k.size, fun i hi => (k.block i (by omega)).trans (h.block i hi)⟩
theorem box_low {B : Nat} {w w1 : World} {b : Nat} {cs : Array Value} (h : Box w b cs) (hb : Below B w w1) (hB : b < B) : Box w1 b cs := ⟨Nat.lt_of_lt_of_le h.lt hb.size, fun o => (cell_low hb hB o).trans (h.get o)⟩
def BN (w : World) (b : Nat) : Prop := ∃ cs : Array Value, w.heap[b]? = some (.cells cs 44 (0, 0)) ∧ cs.size = 11
def putN (w : World) (b : Nat) (n : Net) (q : NA) : World := ((((((((((w.setCell ⟨b, 0, none⟩ (.int .i64 n.mesh.g.w)).setCell ⟨b, 1, none⟩ (.int .i64 n.mesh.g.h)).setCell ⟨b, 2, none⟩ (.slice q.a1 n.mesh.br.length q.c1)).setCell ⟨b, 3, none⟩ (.slice q.a2 n.pa.length q.c2)).setCell ⟨b, 4, none⟩ (.slice q.a3 n.pb.length q.c3)).setCell ⟨b, 5, none⟩ (.slice q.a4 n.bufs.length q.c4)).setCell ⟨b, 6, none⟩ (.slice q.a5 n.owners.length q.c5)).setCell ⟨b, 7, none⟩ (.slice q.a6 n.turns.length q.c6)).setCell ⟨b, 8, none⟩ (.slice q.a7 n.srcs.length q.c7)).setCell ⟨b, 9, none⟩ (.slice q.a8 n.arrs.length q.c8)).setCell ⟨b, 10, none⟩ (.int .i64 n.time)
section
variable {w w1 : World} {b : Nat} {n : Net} {q : NA}
theorem BN.below (h : BN w b) (hb : Below w.heap.size w w1) : BN w1 b := let ⟨cs, h1, h2⟩ := h; ⟨cs, blk_below h1 hb, h2⟩
theorem BN.low {B : Nat} (h : BN w b) (hb : Below B w w1) (hB : b < B) : BN w1 b := let ⟨cs, h1, h2⟩ := h; ⟨cs, (hb.block b hB).trans h1, h2⟩
theorem BN.blk (h : BN w b) : BlkT w b 44 := let ⟨cs, h1, _⟩ := h; ⟨cs, h1⟩
theorem BN.far {c t : Nat} (h : BN w b) (hb : BlkT w c t) (ht : 44 ≠ t) (j : Nat) (u : Value) : BN (w.setCell ⟨c, j, none⟩ u) b := by
  obtain ⟨cs, h1, h2⟩ := h
  obtain ⟨c2, hc⟩ := hb
  exact ⟨cs, blk_far (p := ⟨c, j, none⟩) h1 (blk_ne h1 hc ht) u, h2⟩
theorem BN.off {c : Nat} (h : BN w b) (hne : b ≠ c) (j : Nat) (u : Value) : BN (w.setCell ⟨c, j, none⟩ u) b := by
  obtain ⟨cs, h1, h2⟩ := h
  exact ⟨cs, blk_far (p := ⟨c, j, none⟩) h1 hne u, h2⟩
theorem BN.get (h : BN w b) (i : Nat) (hi : i < 11) : ∃ v, w.cell? ⟨b, i, none⟩ = some v := by
  obtain ⟨cs, h1, h2⟩ := h
  exact ⟨cs[i], by rw [blk_cell h1 i]; exact Array.getElem?_eq_getElem (by omega)⟩
theorem BN.frozen (h : BN w b) (i : Nat) : w.frozen? ⟨b, i, none⟩ = false := by
  obtain ⟨cs, h1, h2⟩ := h
  exact blk_frozen h1 i
theorem allBN {w : World} {b : Nat} (h : BN w b) : (∃ v, w.cell? ⟨b, 0, none⟩ = some v) ∧ (∃ v, w.cell? ⟨b, 1, none⟩ = some v) ∧ (∃ v, w.cell? ⟨b, 2, none⟩ = some v) ∧ (∃ v, w.cell? ⟨b, 3, none⟩ = some v) ∧ (∃ v, w.cell? ⟨b, 4, none⟩ = some v) ∧ (∃ v, w.cell? ⟨b, 5, none⟩ = some v) ∧ (∃ v, w.cell? ⟨b, 6, none⟩ = some v) ∧ (∃ v, w.cell? ⟨b, 7, none⟩ = some v) ∧ (∃ v, w.cell? ⟨b, 8, none⟩ = some v) ∧ (∃ v, w.cell? ⟨b, 9, none⟩ = some v) ∧ (∃ v, w.cell? ⟨b, 10, none⟩ = some v) ∧ w.frozen? ⟨b, 0, none⟩ = false ∧ w.frozen? ⟨b, 1, none⟩ = false ∧ w.frozen? ⟨b, 2, none⟩ = false ∧ w.frozen? ⟨b, 3, none⟩ = false ∧ w.frozen? ⟨b, 4, none⟩ = false ∧ w.frozen? ⟨b, 5, none⟩ = false ∧ w.frozen? ⟨b, 6, none⟩ = false ∧ w.frozen? ⟨b, 7, none⟩ = false ∧ w.frozen? ⟨b, 8, none⟩ = false ∧ w.frozen? ⟨b, 9, none⟩ = false ∧ w.frozen? ⟨b, 10, none⟩ = false := ⟨h.get 0 (by omega), h.get 1 (by omega), h.get 2 (by omega), h.get 3 (by omega), h.get 4 (by omega), h.get 5 (by omega), h.get 6 (by omega), h.get 7 (by omega), h.get 8 (by omega), h.get 9 (by omega), h.get 10 (by omega), h.frozen 0, h.frozen 1, h.frozen 2, h.frozen 3, h.frozen 4, h.frozen 5, h.frozen 6, h.frozen 7, h.frozen 8, h.frozen 9, h.frozen 10⟩
theorem BN.lt (h : BN w b) : b < w.heap.size := by
  obtain ⟨cs, h1, h2⟩ := h
  exact blk_lt h1
theorem NX.put {lo : Nat} {m : Net} {p : NA} {v4 v7 v8 : List Value} (h : NX w lo m p v4 v7 v8) (hb : BN w b) : NX (putN w b n q) lo m p v4 v7 v8 := by
  have b0 := hb.blk
  unfold putN
  have h1 := h.typed b0 (by decide) (by decide) (by decide) 0 (.int .i64 n.mesh.g.w)
  have b1 := b0.set b 0 (.int .i64 n.mesh.g.w)
  have h2 := h1.typed b1 (by decide) (by decide) (by decide) 1 (.int .i64 n.mesh.g.h)
  have b2 := b1.set b 1 (.int .i64 n.mesh.g.h)
  have h3 := h2.typed b2 (by decide) (by decide) (by decide) 2 (.slice q.a1 n.mesh.br.length q.c1)
  have b3 := b2.set b 2 (.slice q.a1 n.mesh.br.length q.c1)
  have h4 := h3.typed b3 (by decide) (by decide) (by decide) 3 (.slice q.a2 n.pa.length q.c2)
  have b4 := b3.set b 3 (.slice q.a2 n.pa.length q.c2)
  have h5 := h4.typed b4 (by decide) (by decide) (by decide) 4 (.slice q.a3 n.pb.length q.c3)
  have b5 := b4.set b 4 (.slice q.a3 n.pb.length q.c3)
  have h6 := h5.typed b5 (by decide) (by decide) (by decide) 5 (.slice q.a4 n.bufs.length q.c4)
  have b6 := b5.set b 5 (.slice q.a4 n.bufs.length q.c4)
  have h7 := h6.typed b6 (by decide) (by decide) (by decide) 6 (.slice q.a5 n.owners.length q.c5)
  have b7 := b6.set b 6 (.slice q.a5 n.owners.length q.c5)
  have h8 := h7.typed b7 (by decide) (by decide) (by decide) 7 (.slice q.a6 n.turns.length q.c6)
  have b8 := b7.set b 7 (.slice q.a6 n.turns.length q.c6)
  have h9 := h8.typed b8 (by decide) (by decide) (by decide) 8 (.slice q.a7 n.srcs.length q.c7)
  have b9 := b8.set b 8 (.slice q.a7 n.srcs.length q.c7)
  have h10 := h9.typed b9 (by decide) (by decide) (by decide) 9 (.slice q.a8 n.arrs.length q.c8)
  have b10 := b9.set b 9 (.slice q.a8 n.arrs.length q.c8)
  have h11 := h10.typed b10 (by decide) (by decide) (by decide) 10 (.int .i64 n.time)
  have b11 := b10.set b 10 (.int .i64 n.time)
  exact h11
end
end Go.Proofs.YtmkbmddgkdoaiaaGreat
