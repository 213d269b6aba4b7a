/- Lemmas for laws of this seat, for all inputs: CrK Ca. -/
import Derived.Test.YtaihmgbflhbebaaGreatQ18
import Derived.Test.YtaihmgbflhbebaaGreatQ3
import Derived.Test.YtaihmgbflhbebaaGreatQ11
import Derived.Test.YtaihmgbflhbebaaGreatQ5
import Derived.Test.YtaihmgbflhbebaaGreatQ17
set_option linter.unusedVariables false
set_option linter.unusedSimpArgs false
namespace Go.Proofs.YtaihmgbflhbebaaGreat
open Go.RowKit Go.Proofs.YtaihmgbflhbebaaGreatW.PrintWords
open NoC
def creditsAfterV (n : Net) : List Int := if netOk n = true then creditsAfterN n else []
theorem chg_one {w w1 : World} {gs : Nat} (h : w.grownBy w1 (some gs)) : Chg gs (gs + 1) w w1 := ⟨h.os, h.tape, h.output, h.size, fun i hi hn => h.block i hi (fun e => by
  have := Option.some.inj e
  omega)⟩
set_option maxHeartbeats 16000000 in
set_option maxRecDepth 100000 in
theorem impl_CreditsAfter (n : Net) (q : NA) (w : World) (hr : NetR 80 w n q) :
  Calls Tryz.prog 26 #[.agg (netCells n q)] w fun e w' => GotI w w' (creditsAfterV n) e ∧ Below w.heap.size w w' := by
 have R := Lib.hid hr
 clear hr
 obtain ⟨a1, a2, a3, a4, a5, a6, a7, a8, c1, c2, c3, c4, c5, c6, c7, c8⟩ := q
 dsimp only [netCells]
 cases hk : netOk n
 ·have HE : Hid (creditsAfterV n = []) := Lib.hid (by unfold creditsAfterV; rw [hk]; rfl)
  go_enter Tryz.func26, Tryz.ntmps26
  go_wp2_with (go_at_call 21; refine (impl_NetOk n _ _ (R.out.below bel)).mono ?_; rintro e w1 ⟨he, hb1⟩; rw [hk] at he; subst he; obtain ⟨hc1, hf1, hz1⟩ := bcell hb1; (try simp only [szs] at hz1); have hb2 := far2; obtain ⟨hc2, hf2, hz2⟩ := bcell hb2; (try simp only [szs] at hz2); try (first | obtain ⟨hy1, hy2, hy3, hy4⟩ := lts4 hz2 | obtain ⟨hy1, hy2, hy3⟩ := lts3 hz2 | obtain ⟨hy1, hy2⟩ := lts2 hz2 | have hy1 := lts1 hz2); have hb9 := hb1)
  go_ret
  rw [HE.out]
  exact ⟨⟨_, rfl, Kd.R_nil _ _ _ _ _⟩, bel⟩
 ·have HE : Hid (creditsAfterV n = creditsAfterN n) := Lib.hid (by unfold creditsAfterV; rw [hk]; rfl)
  have OK := Lib.hid hk
  rw [HE.out]
  go_enter Tryz.func26, Tryz.ntmps26
  go_wp2_with fail
  refine (impl_NetOk n _ _ (R.out.below bel)).mono ?_
  rintro e w2 ⟨he, hb2⟩
  rw [hk] at he
  subst he
  clear hk
  have HX2 : Hid (Box w2 w.heap.size #[.int .i64 n.mesh.g.w, .int .i64 n.mesh.g.h, .slice a1 n.mesh.br.length c1, .slice a2 n.pa.length c2, .slice a3 n.pb.length c3, .slice a4 n.bufs.length c4, .slice a5 n.owners.length c5, .slice a6 n.turns.length c6, .slice a7 n.srcs.length c7, .slice a8 n.arrs.length c8, .int .i64 n.time]) := Lib.hid ((Box.new w w.heap.size #[.int .i64 n.mesh.g.w, .int .i64 n.mesh.g.h, .slice a1 n.mesh.br.length c1, .slice a2 n.pa.length c2, .slice a3 n.pb.length c3, .slice a4 n.bufs.length c4, .slice a5 n.owners.length c5, .slice a6 n.turns.length c6, .slice a7 n.srcs.length c7, .slice a8 n.arrs.length c8, .int .i64 n.time] 35 rfl).below hb2)
  have HB2 : Hid (Below w.heap.size w w2) := Lib.hid (bw_then (bw_alloc _ (bw_refl w)) hb2)
  have z2 := HX2.out.lt
  clear hb2
  go_wp2_with fail
  refine (impl_credits n _ w.heap.size _ (R.out.below HB2.out) HX2.out OK.out).mono ?_
  rintro e w3 ⟨hg3, hb3⟩
  obtain ⟨vc, rfl, HO3⟩ := hg3
  obtain ⟨Ac, cc, rfl⟩ := Kd.R_slice HO3
  obtain ⟨_, _, _, _, _, _⟩ := netOk_parts OK.out
  have hKc := count_nat n.mesh.g
  have hK16 := count_le n.mesh.g
  have hlen0 : ((creditsN n).length : Int) = 8 * nodeCount n.mesh.g := caTo_len n 0
  have hpos : 0 < (creditsN n).length := by have := sized_count (classesOk_sized (ok_classes OK.out)).1; omega
  obtain ⟨gs, eA, glo, glt⟩ := rowI_form HO3 hpos
  subst eA
  obtain ⟨N, hN⟩ : ∃ N, (creditsN n).length = N := ⟨_, rfl⟩
  have HLEN : Hid (∀ k : Nat, (caTo n k).length = N) := Lib.hid (fun k => by have := caTo_len n k; omega)
  have HNC : Hid ((N : Int) = 8 * nodeCount n.mesh.g) := Lib.hid (by omega)
  rw [hN] at HO3
  have HOa := Lib.hid HO3
  have HX3 := Lib.hid (HX2.out.below hb3)
  have HB3 : Hid (Below w.heap.size w w3) := Lib.hid (bw_then HB2.out hb3)
  have z3 := bw_size hb3
  clear HO3 hb3 hpos hlen0 HX2
  try rw [hN]
  clear hN
  obtain ⟨w4, e4⟩ : ∃ z, z = w3.alloc (.cells #[.slice (some ⟨gs, 0, none⟩) N cc] 26) := ⟨_, rfl⟩
  have hb4 : Below w3.heap.size w3 w4 := by rw [e4]; exact bw_alloc _ (bw_refl w3)
  have HBO4 : Hid (Box w4 w3.heap.size #[.slice (some ⟨gs, 0, none⟩) N cc]) := Lib.hid (by rw [e4]; exact Box.new w3 _ _ _ rfl)
  have HX4 := Lib.hid (HX3.out.below hb4)
  have HB4 : Hid (Below w.heap.size w w4) := Lib.hid (bw_then HB3.out hb4)
  have HO4 := Lib.hid (Kd.R_below HOa.out hb4)
  have z4 : w4.heap.size = w3.heap.size + 1 := by rw [e4]; simp only [szs]
  obtain ⟨bo, ebo⟩ : ∃ z, z = w3.heap.size := ⟨_, rfl⟩
  rw [← ebo] at HBO4
  clear hb4 HX3 HOa
  go_wp2_with fail
  rw [← e4]
  try rw [← ebo]
  clear e4
  refine (impl_allGrants n _ w.heap.size _ (R.out.below HB4.out) HX4.out OK.out).mono ?_
  rintro e w5 ⟨hg5, hb5⟩
  obtain ⟨vg, rfl, HG⟩ := hg5
  obtain ⟨Ag, cg, rfl⟩ := Kd.R_slice HG
  have HU := Lib.hid (RU.of HG (Nat.le_refl _) (Nat.le_refl _))
  have HX5 := Lib.hid (HX4.out.below hb5)
  have HBO5 := Lib.hid (HBO4.out.below hb5)
  have HB5 : Hid (Below w.heap.size w w5) := Lib.hid (bw_then HB4.out hb5)
  have HO5 := Lib.hid (Kd.R_below HO4.out hb5)
  have z5 := bw_size hb5
  have hgl := allGrants_len n
  have gb : gs < bo := by omega
  have gw : w.heap.size < gs := by omega
  have gw4 : gs + 1 ≤ w4.heap.size := by omega
  clear HG hb5 HX4 HBO4 HO4
  have HONE : Hid (∀ k : Nat, k < (allGrants n).length → GOne n (rg (allGrants n) k)) := Lib.hid (fun k hk => grants_one (by rw [rg_at3 _ k hk]; exact List.getElem_mem hk))
  go_wp2_with fail
  go_loopw [16] (fun i wr => ∃ k : Nat, i = .int .i64 k ∧ k ≤ (allGrants n).length ∧ Hid (Kd.R (Kd.int .i64) 3 wr w2.heap.size (fun _ => True) (.slice (some ⟨gs, 0, none⟩) N cc) (caTo n k)) ∧ Hid (Chg gs (gs + 1) w5 wr)) (fun i _ => (allGrants n).length - (intOf i).toNat)
  case atStart => exact ⟨0, rfl, Nat.zero_le _, Lib.hid HO5.out, Lib.hid (Chg.refl _ _ _)⟩
  case round =>
   clear HO5
   obtain ⟨k, rfl, hk, HOk, HCk⟩ := hrel
   obtain ⟨wk, ewk⟩ : ∃ z, z = wr := ⟨_, rfl⟩
   subst ewk
   have zk := HCk.out.size
   have HXk := Lib.hid (HX5.out.chg HCk.out (.inl gw))
   have HBOk := Lib.hid (HBO5.out.chg HCk.out (.inr gb))
   have HUk := Lib.hid (HU.out.chg HCk.out (.inr gw4))
   have HBk : Hid (Below w.heap.size w wk) := Lib.hid (HCk.out.below HB5.out (by omega))
   by_cases hlt : k < (allGrants n).length
   ·have G1 := HONE.out k hlt
    have hbd := caTo_bd OK.out k hk
    have HSU := Lib.hid (caTo_succ n hlt)
    obtain ⟨b, off, rfl, hbw, r0, r1, r2⟩ := rdG_at HUk.out.reads.2.2 k hlt
    obtain ⟨g, hg⟩ : ∃ g, rg (allGrants n) k = g := ⟨_, rfl⟩
    rw [hg] at r0 r1 r2 G1 HSU
    have nd := isNode_iff.1 G1.nd
    have q0 := G1.p0; have q4 := G1.p4; have i0 := G1.i0; have i9 := G1.i9
    have k1 : (k : Int) < ((allGrants n).length : Int) := by omega
    have HG1 := Lib.hid G1
    have HBD := Lib.hid hbd
    obtain ⟨a, ea⟩ : ∃ a, g.node = a := ⟨_, rfl⟩
    obtain ⟨pp, ep⟩ : ∃ a, g.port = a := ⟨_, rfl⟩
    obtain ⟨ii, ei⟩ : ∃ a, g.input = a := ⟨_, rfl⟩
    rw [ea] at r0 nd
    rw [ep] at r1 q0 q4
    rw [ei] at r2 i0 i9
    have HEA := Lib.hid ea; have HEP := Lib.hid ep; have HEI := Lib.hid ei
    have n16 : a ≤ 15 := by omega
    clear G1 hbd ea ep ei hg
    obtain ⟨wa, ewa⟩ : ∃ z, z = wk.alloc (.cells #[.int .i64 a, .int .i64 pp, .int .i64 ii] 42) := ⟨_, rfl⟩
    have hba : Below wk.heap.size wk wa := by rw [ewa]; exact bw_alloc _ (bw_refl wk)
    have HGa : Hid (Box wa wk.heap.size #[.int .i64 a, .int .i64 pp, .int .i64 ii]) := Lib.hid (by rw [ewa]; exact Box.new wk _ _ _ rfl)
    have HOa := Lib.hid (Kd.R_below HOk.out hba)
    have HCa := Lib.hid (HCk.out.trans (Chg.of_below hba))
    have HXa := Lib.hid (HXk.out.below hba)
    have HBOa := Lib.hid (HBOk.out.below hba)
    have gbg : gs + 1 ≤ wk.heap.size := by omega
    have za := bw_size hba
    clear hba
    have s0 : wa.cell? ⟨wk.heap.size, 0, none⟩ = some (.int .i64 a) := HGa.out.get 0
    have s1 : wa.cell? ⟨wk.heap.size, 1, none⟩ = some (.int .i64 pp) := HGa.out.get 1
    have s2 : wa.cell? ⟨wk.heap.size, 2, none⟩ = some (.int .i64 ii) := HGa.out.get 2
    have sl := HGa.out.lt
    obtain ⟨l1, hl1⟩ : ∃ l1, (if g.port = 4 then caTo n k else chgC (caTo n k) (decK g) (-1)) = l1 := ⟨_, rfl⟩
    have HL1 := Lib.hid hl1
    have HS1 : Hid (caTo n (k + 1) = incC n l1 g) := Lib.hid (by rw [HSU.out]; unfold implC; rw [hl1])
    have HLN1 : Hid (l1.length = N) := Lib.hid (by rw [← hl1]; split; exact HLEN.out k; rw [chgC_len]; exact HLEN.out k)
    have HBD1 : Hid (∀ j, -1000 ≤ ri l1 j ∧ ri l1 j ≤ 1000) := Lib.hid (fun j => by
     rw [← hl1]
     split
     ·have := HBD.out j; omega
     ·have := chgC_bd HBD.out (by omega) (decK g) (-1) (by omega) (by omega) j; omega)
    clear hl1
    clear s0 s1 s2 sl
    have xk0 : wk.cell? ⟨w.heap.size, 0, none⟩ = some (.int .i64 n.mesh.g.w) := HXk.out.get 0
    have xk1 : wk.cell? ⟨w.heap.size, 1, none⟩ = some (.int .i64 n.mesh.g.h) := HXk.out.get 1
    have xkl := HXk.out.lt
    have kk0 : (0 : Int) ≤ (k : Int) := by omega
    by_cases h4 : pp = 4
    ·subst h4
     have HI1 : Hid (l1 = caTo n k) := Lib.hid (by rw [← HL1.out, if_pos HEP.out])
     have HOb : Hid (Kd.R (Kd.int .i64) 3 wa w2.heap.size (fun _ => True) (.slice (some ⟨gs, 0, none⟩) N cc) l1) := Lib.hid (by rw [HI1.out]; exact HOa.out)
     by_cases h8 : ii / 2 = 4
     ·have HI : Hid (incC n l1 g = l1) := Lib.hid (by unfold incC incB; rw [HEI.out, h8]; rfl)
      go_wp2
      (first | rw [← ewa] | skip)
      go_roundw
      case rel => exact ⟨k + 1, by go_num, by omega, Lib.hid (by rw [HS1.out, HI.out]; exact HOb.out), Lib.hid HCa.out⟩
      case measure => simp [intOf]; omega
     ·have e8 : (ii / 2 == 4) = false := beq_eq_false_iff_ne.2 h8
      go_wp2_with fail
      (first | rw [← ewa] | skip)
      refine (impl_NextNode n.mesh.g a (ii / 2) _).mono ?_
      rintro e wn ⟨rfl, hbn⟩
      obtain ⟨nn, hnn⟩ : ∃ z, nextNode n.mesh.g a (ii / 2) = z := ⟨_, rfl⟩
      have HNN := Lib.hid hnn
      rw [hnn]
      clear hnn
      have HOn := Lib.hid (Kd.R_below HOb.out hbn)
      have HCn := Lib.hid (HCa.out.trans (Chg.of_below hbn))
      have HGn := Lib.hid (HGa.out.below hbn)
      have HBOn := Lib.hid (HBOa.out.below hbn)
      clear hbn
      by_cases h0 : 0 ≤ nn
      ·have hin := incK_in HG1.out (by unfold incB; rw [HEI.out, HEA.out, HNN.out]; simp [h8, h0])
       have t2 : wn.cell? ⟨wk.heap.size, 2, none⟩ = some (.int .i64 ii) := HGn.out.get 2
       have tl := HGn.out.lt
       have ho := opp_eq (p := ii / 2) (by omega) (by omega)
       have HI : Hid (incC n l1 g = chgC l1 (2 * (4 * nn + opposite (ii / 2)) + ii % 2) 1) := Lib.hid (by unfold incC; rw [if_pos (by unfold incB; rw [HEI.out, HEA.out, HNN.out]; simp [h8, h0])]; unfold incK; rw [HEI.out, HEA.out, HNN.out])
       have hnn2 := isNode_iff.1 (next_in (g := n.mesh.g) (a := a) (p := ii / 2) (by rw [HNN.out]; exact h0))
       rw [HNN.out] at hnn2
       have hk1 : 0 ≤ 2 * (4 * nn + opposite (ii / 2)) + ii % 2 ∧ 2 * (4 * nn + opposite (ii / 2)) + ii % 2 < (N : Int) := by
        unfold incK at hin
        rw [HEI.out, HEA.out, HNN.out] at hin
        have := HNC.out
        omega
       have HCALL : Hid (∀ W, Below wn.heap.size wn W → Calls Tryz.prog 57 #[.int .i64 (4 * nn + opposite (ii / 2)), .int .i64 (ii % 2), .int .i64 1, .pointer (some ⟨bo, 0, none⟩)] W fun e w' => e = .returned (.tuple #[]) ∧ Kd.R (Kd.int .i64) 3 w' w2.heap.size (fun _ => True) (.slice (some ⟨gs, 0, none⟩) N cc) (chgC l1 (2 * (4 * nn + opposite (ii / 2)) + ii % 2) 1) ∧ W.grownBy w' (some gs)) := Lib.hid (fun W hW => by
        have h := impl_change l1 (4 * nn + opposite (ii / 2)) (ii % 2) 1 bo gs cc w2.heap.size W (by rw [HLN1.out]; exact (HBOn.out.below hW).get 0) (HBOn.out.below hW).lt (by omega) (by rw [HLN1.out]; exact Kd.R_below HOn.out hW) (by omega) (by omega) (by omega) (by omega) (by rw [HLN1.out]; exact hk1.2) (HBD1.out _) (by omega) (by omega)
        rw [HLN1.out] at h
        exact h)
       obtain ⟨oo, hoo⟩ : ∃ z, opposite (ii / 2) = z := ⟨_, rfl⟩
       have HOP : Hid (∀ W, Calls Tryz.prog 59 #[.int .i64 (ii / 2)] W fun e w' => e = .returned (.int .i64 oo) ∧ Below W.heap.size W w') := Lib.hid (fun W => by rw [← hoo]; exact impl_Opposite (ii / 2) W)
       rw [hoo] at HCALL HI ho
       have hw1 : IntKind.i64.wrap (4 * nn) = 4 * nn := IntWalk.i64_in _ (by omega)
       have hoo3 : 0 ≤ oo ∧ oo ≤ 3 := by omega
       have hw2 : IntKind.i64.wrap (4 * nn + oo) = 4 * nn + oo := IntWalk.i64_in _ (by omega)
       have hw3 : ii.tmod 2 = ii % 2 := Int.tmod_eq_emod_of_nonneg i0
       clear hoo hin hk1 ho
       go_wp2_with fail
       refine wp_region_tz wn.heap.size (fun _ => .cells #[] 0) (fun _ _ => undef) (fun W => Below wn.heap.size wn W) 9 [(0, .quiet), (1, .quiet), (2, .quiet), (3, .quiet), (4, .chain), (5, .quiet), (6, .quiet), (7, .quiet), (8, .quiet)] (by kernel_rfl) (by kernel_rfl) (by kernel_rfl) (by kernel_rfl) (by kernel_rfl) (by kernel_rfl) (by kernel_rfl) (by kernel_rfl) (bw_drew (bw_refl _)) ⟨fun W o h => bw_alloc _ h, fun W h => bw_size h⟩ (fun _ => True) trivial (fun _ _ _ _ _ => trivial) ?_
       refine wpTz_v (some 48) (.func (.func 57) #[] #[.pointer (some ⟨bo, 0, none⟩)]) rfl rfl (by rfl) (fun W hC => ?_) ?_
       ·clear hC
        go_simp
        try rfl
       try simp only [Act.put, nms]
       refine wpTz_v (some 49) (.int .i64 nn) rfl rfl (by rfl) (fun W hC => ?_) ?_
       ·clear hC
        go_simp
        try rfl
       try simp only [Act.put, nms]
       refine wpTz_v (some 50) (.int .i64 (4 * nn)) rfl rfl (by rfl) (fun W hC => ?_) ?_
       ·clear hC
        go_simp
        try rfl
       try simp only [Act.put, nms]
       refine wpTz_v (some 51) (.int .i64 (ii / 2)) rfl rfl (by rfl) (fun W hC => ?_) ?_
       ·clear hC
        go_simp
        try rfl
       try simp only [Act.put, nms]
       refine wpTz_d (some 52) rfl rfl (by rfl) (0 : Nat) (fun _ => .int .i64 oo) (fun _ _ => True) (fun y => (y, y)) (fun W hF hC => ?_) (fun _ _ _ _ _ => trivial) (fun _ => ?_)
       ·refine LoOp.enter (by go_simp; first | done | exact ⟨rfl, rfl⟩ | rfl) ?_
        refine (HOP.out W).mono ?_
        rintro e W1 ⟨rfl, hb1⟩
        exact ⟨_, rfl, W.heap.size, rfl, bw_then hC hb1, trivial, hb1, Nat.le_refl _, bw_size hb1⟩
       try simp only [Act.put, nms]
       refine wpTz_v (some 53) (.int .i64 (4 * nn + oo)) rfl rfl (by rfl) (fun W hC => ?_) ?_
       ·clear hC
        go_simp
        try rfl
       try simp only [Act.put, nms]
       refine wpTz_v (some 54) (.pointer (some ⟨wk.heap.size, 2, none⟩)) rfl rfl (by rfl) (fun W hC => ?_) ?_
       ·clear hC
        go_simp
        try rfl
       try simp only [Act.put, nms]
       refine wpTz_v (some 55) (.int .i64 ii) rfl rfl (by rfl) (fun W hC => ?_) ?_
       ·have h2 := (Box.below ⟨HGn.out.lt, HGn.out.get⟩ hC).get 2
        have h2' : W.cell? ⟨wk.heap.size, 2, none⟩ = some (.int .i64 ii) := h2
        clear hC
        go_simp
        try rfl
       try simp only [Act.put, nms]
       refine wpTz_v (some 56) (.int .i64 (ii % 2)) rfl rfl (by rfl) (fun W hC => ?_) ?_
       ·clear hC
        go_simp
        try rfl
       try simp only [Act.put, nms]
       refine wpTz_z (fun w8 hF hC => ?_)
       refine ⟨_, rfl, by rfl, LoOp.wp (post := fun v w' => v = .tuple #[] ∧ Kd.R (Kd.int .i64) 3 w' w2.heap.size (fun _ => True) (.slice (some ⟨gs, 0, none⟩) N cc) (chgC l1 (2 * (4 * nn + oo) + ii % 2) 1) ∧ w8.grownBy w' (some gs)) (LoOp.enter (by go_simp; first | done | exact ⟨rfl, rfl⟩ | rfl) ((HCALL.out w8 hC).mono ?_)) ?_⟩
       ·rintro e w9 ⟨rfl, h1, h2⟩
        exact ⟨_, rfl, rfl, h1, h2⟩
       rintro v w9 ⟨rfl, HO9, hg9⟩
       have HOz := Lib.hid HO9
       have HCz := Lib.hid ((HCn.out.trans (Chg.of_below hC)).trans (chg_one hg9))
       clear HO9 hg9 hC hF
       go_simp
       go_wp2
       go_roundw
       case rel => exact ⟨k + 1, by go_num, by omega, Lib.hid (by rw [HS1.out, HI.out]; exact HOz.out), Lib.hid HCz.out⟩
       case measure => simp [intOf]; omega
      ·have HI : Hid (incC n l1 g = l1) := Lib.hid (by unfold incC incB; rw [HEI.out, HEA.out, HNN.out]; simp [h0])
       go_wp2
       go_roundw
       case rel => exact ⟨k + 1, by go_num, by omega, Lib.hid (by rw [HS1.out, HI.out]; exact HOn.out), Lib.hid HCn.out⟩
       case measure => simp [intOf]; omega
    ·have hdk := decK_in OK.out HG1.out (by rw [HEP.out]; exact h4)
     have HI1 : Hid (l1 = chgC (caTo n k) (2 * (4 * a + pp) + ii % 2) (-1)) := Lib.hid (by rw [← HL1.out, if_neg (by rw [HEP.out]; exact h4)]; unfold decK; rw [HEA.out, HEP.out, HEI.out])
     have hk1 : 2 * (4 * a + pp) + ii % 2 < (N : Int) := by
      unfold decK at hdk
      rw [HEA.out, HEP.out, HEI.out] at hdk
      have := HNC.out
      omega
     have hv1 := HBD.out (2 * (4 * a + pp) + ii % 2)
     have hcl := impl_change (caTo n k) (4 * a + pp) (ii % 2) (-1) bo gs cc w2.heap.size wa (by rw [HLEN.out k]; exact HBOa.out.get 0) HBOa.out.lt (by omega) (by rw [HLEN.out k]; exact HOa.out) (by omega) (by omega) (by omega) (by omega) (by rw [HLEN.out k]; exact hk1) (by omega) (by omega) (by omega)
     rw [HLEN.out k, ← HI1.out, ebo] at hcl
     have HCLS := Lib.hid hcl
     clear hcl hdk hv1 hk1
     have e4 : (pp == 4) = false := beq_eq_false_iff_ne.2 h4
     go_wp2_with fail
     rw [← ewa]
     refine (HCLS.out).mono ?_
     rintro e wd ⟨rfl, HO1, hg1⟩
     have hcd := chg_one hg1
     have HOd := Lib.hid HO1
     have HCd := Lib.hid (HCa.out.trans hcd)
     have HGd := Lib.hid (HGa.out.chg hcd (.inr gbg))
     have HXd := Lib.hid (HXa.out.chg hcd (.inl gw))
     have HBOd := Lib.hid (HBOa.out.chg hcd (.inr (by omega)))
     clear HO1 hg1 hcd

     have t0 : wd.cell? ⟨wk.heap.size, 0, none⟩ = some (.int .i64 a) := HGd.out.get 0
     have t2 : wd.cell? ⟨wk.heap.size, 2, none⟩ = some (.int .i64 ii) := HGd.out.get 2
     have tl := HGd.out.lt
     have x0 : wd.cell? ⟨w.heap.size, 0, none⟩ = some (.int .i64 n.mesh.g.w) := HXd.out.get 0
     have x1 : wd.cell? ⟨w.heap.size, 1, none⟩ = some (.int .i64 n.mesh.g.h) := HXd.out.get 1
     have xl := HXd.out.lt
     by_cases h8 : ii / 2 = 4
     ·have HI : Hid (incC n l1 g = l1) := Lib.hid (by unfold incC incB; rw [HEI.out, h8]; rfl)
      go_wp2
      skip
      go_roundw
      case rel => exact ⟨k + 1, by go_num, by omega, Lib.hid (by rw [HS1.out, HI.out]; exact HOd.out), Lib.hid HCd.out⟩
      case measure => simp [intOf]; omega
     ·have e8 : (ii / 2 == 4) = false := beq_eq_false_iff_ne.2 h8
      go_wp2_with fail
      skip
      refine (impl_NextNode n.mesh.g a (ii / 2) _).mono ?_
      rintro e wn ⟨rfl, hbn⟩
      obtain ⟨nn, hnn⟩ : ∃ z, nextNode n.mesh.g a (ii / 2) = z := ⟨_, rfl⟩
      have HNN := Lib.hid hnn
      rw [hnn]
      clear hnn
      have HOn := Lib.hid (Kd.R_below HOd.out hbn)
      have HCn := Lib.hid (HCd.out.trans (Chg.of_below hbn))
      have HGn := Lib.hid (HGd.out.below hbn)
      have HBOn := Lib.hid (HBOd.out.below hbn)
      clear hbn t0 t2 tl x0 x1 xl
      by_cases h0 : 0 ≤ nn
      ·have hin := incK_in HG1.out (by unfold incB; rw [HEI.out, HEA.out, HNN.out]; simp [h8, h0])
       have t2 : wn.cell? ⟨wk.heap.size, 2, none⟩ = some (.int .i64 ii) := HGn.out.get 2
       have tl := HGn.out.lt
       have ho := opp_eq (p := ii / 2) (by omega) (by omega)
       have HI : Hid (incC n l1 g = chgC l1 (2 * (4 * nn + opposite (ii / 2)) + ii % 2) 1) := Lib.hid (by unfold incC; rw [if_pos (by unfold incB; rw [HEI.out, HEA.out, HNN.out]; simp [h8, h0])]; unfold incK; rw [HEI.out, HEA.out, HNN.out])
       have hnn2 := isNode_iff.1 (next_in (g := n.mesh.g) (a := a) (p := ii / 2) (by rw [HNN.out]; exact h0))
       rw [HNN.out] at hnn2
       have hk1 : 0 ≤ 2 * (4 * nn + opposite (ii / 2)) + ii % 2 ∧ 2 * (4 * nn + opposite (ii / 2)) + ii % 2 < (N : Int) := by
        unfold incK at hin
        rw [HEI.out, HEA.out, HNN.out] at hin
        have := HNC.out
        omega
       have HCALL : Hid (∀ W, Below wn.heap.size wn W → Calls Tryz.prog 57 #[.int .i64 (4 * nn + opposite (ii / 2)), .int .i64 (ii % 2), .int .i64 1, .pointer (some ⟨bo, 0, none⟩)] W fun e w' => e = .returned (.tuple #[]) ∧ Kd.R (Kd.int .i64) 3 w' w2.heap.size (fun _ => True) (.slice (some ⟨gs, 0, none⟩) N cc) (chgC l1 (2 * (4 * nn + opposite (ii / 2)) + ii % 2) 1) ∧ W.grownBy w' (some gs)) := Lib.hid (fun W hW => by
        have h := impl_change l1 (4 * nn + opposite (ii / 2)) (ii % 2) 1 bo gs cc w2.heap.size W (by rw [HLN1.out]; exact (HBOn.out.below hW).get 0) (HBOn.out.below hW).lt (by omega) (by rw [HLN1.out]; exact Kd.R_below HOn.out hW) (by omega) (by omega) (by omega) (by omega) (by rw [HLN1.out]; exact hk1.2) (HBD1.out _) (by omega) (by omega)
        rw [HLN1.out] at h
        exact h)
       obtain ⟨oo, hoo⟩ : ∃ z, opposite (ii / 2) = z := ⟨_, rfl⟩
       have HOP : Hid (∀ W, Calls Tryz.prog 59 #[.int .i64 (ii / 2)] W fun e w' => e = .returned (.int .i64 oo) ∧ Below W.heap.size W w') := Lib.hid (fun W => by rw [← hoo]; exact impl_Opposite (ii / 2) W)
       rw [hoo] at HCALL HI ho
       have hw1 : IntKind.i64.wrap (4 * nn) = 4 * nn := IntWalk.i64_in _ (by omega)
       have hoo3 : 0 ≤ oo ∧ oo ≤ 3 := by omega
       have hw2 : IntKind.i64.wrap (4 * nn + oo) = 4 * nn + oo := IntWalk.i64_in _ (by omega)
       have hw3 : ii.tmod 2 = ii % 2 := Int.tmod_eq_emod_of_nonneg i0
       clear hoo hin hk1 ho
       go_wp2_with fail
       refine wp_region_tz wn.heap.size (fun _ => .cells #[] 0) (fun _ _ => undef) (fun W => Below wn.heap.size wn W) 9 [(0, .quiet), (1, .quiet), (2, .quiet), (3, .quiet), (4, .chain), (5, .quiet), (6, .quiet), (7, .quiet), (8, .quiet)] (by kernel_rfl) (by kernel_rfl) (by kernel_rfl) (by kernel_rfl) (by kernel_rfl) (by kernel_rfl) (by kernel_rfl) (by kernel_rfl) (bw_drew (bw_refl _)) ⟨fun W o h => bw_alloc _ h, fun W h => bw_size h⟩ (fun _ => True) trivial (fun _ _ _ _ _ => trivial) ?_
       refine wpTz_v (some 48) (.func (.func 57) #[] #[.pointer (some ⟨bo, 0, none⟩)]) rfl rfl (by rfl) (fun W hC => ?_) ?_
       ·clear hC
        go_simp
        try rfl
       try simp only [Act.put, nms]
       refine wpTz_v (some 49) (.int .i64 nn) rfl rfl (by rfl) (fun W hC => ?_) ?_
       ·clear hC
        go_simp
        try rfl
       try simp only [Act.put, nms]
       refine wpTz_v (some 50) (.int .i64 (4 * nn)) rfl rfl (by rfl) (fun W hC => ?_) ?_
       ·clear hC
        go_simp
        try rfl
       try simp only [Act.put, nms]
       refine wpTz_v (some 51) (.int .i64 (ii / 2)) rfl rfl (by rfl) (fun W hC => ?_) ?_
       ·clear hC
        go_simp
        try rfl
       try simp only [Act.put, nms]
       refine wpTz_d (some 52) rfl rfl (by rfl) (0 : Nat) (fun _ => .int .i64 oo) (fun _ _ => True) (fun y => (y, y)) (fun W hF hC => ?_) (fun _ _ _ _ _ => trivial) (fun _ => ?_)
       ·refine LoOp.enter (by go_simp; first | done | exact ⟨rfl, rfl⟩ | rfl) ?_
        refine (HOP.out W).mono ?_
        rintro e W1 ⟨rfl, hb1⟩
        exact ⟨_, rfl, W.heap.size, rfl, bw_then hC hb1, trivial, hb1, Nat.le_refl _, bw_size hb1⟩
       try simp only [Act.put, nms]
       refine wpTz_v (some 53) (.int .i64 (4 * nn + oo)) rfl rfl (by rfl) (fun W hC => ?_) ?_
       ·clear hC
        go_simp
        try rfl
       try simp only [Act.put, nms]
       refine wpTz_v (some 54) (.pointer (some ⟨wk.heap.size, 2, none⟩)) rfl rfl (by rfl) (fun W hC => ?_) ?_
       ·clear hC
        go_simp
        try rfl
       try simp only [Act.put, nms]
       refine wpTz_v (some 55) (.int .i64 ii) rfl rfl (by rfl) (fun W hC => ?_) ?_
       ·have h2 := (Box.below ⟨HGn.out.lt, HGn.out.get⟩ hC).get 2
        have h2' : W.cell? ⟨wk.heap.size, 2, none⟩ = some (.int .i64 ii) := h2
        clear hC
        go_simp
        try rfl
       try simp only [Act.put, nms]
       refine wpTz_v (some 56) (.int .i64 (ii % 2)) rfl rfl (by rfl) (fun W hC => ?_) ?_
       ·clear hC
        go_simp
        try rfl
       try simp only [Act.put, nms]
       refine wpTz_z (fun w8 hF hC => ?_)
       refine ⟨_, rfl, by rfl, LoOp.wp (post := fun v w' => v = .tuple #[] ∧ Kd.R (Kd.int .i64) 3 w' w2.heap.size (fun _ => True) (.slice (some ⟨gs, 0, none⟩) N cc) (chgC l1 (2 * (4 * nn + oo) + ii % 2) 1) ∧ w8.grownBy w' (some gs)) (LoOp.enter (by go_simp; first | done | exact ⟨rfl, rfl⟩ | rfl) ((HCALL.out w8 hC).mono ?_)) ?_⟩
       ·rintro e w9 ⟨rfl, h1, h2⟩
        exact ⟨_, rfl, rfl, h1, h2⟩
       rintro v w9 ⟨rfl, HO9, hg9⟩
       have HOz := Lib.hid HO9
       have HCz := Lib.hid ((HCn.out.trans (Chg.of_below hC)).trans (chg_one hg9))
       clear HO9 hg9 hC hF
       go_simp
       go_wp2
       go_roundw
       case rel => exact ⟨k + 1, by go_num, by omega, Lib.hid (by rw [HS1.out, HI.out]; exact HOz.out), Lib.hid HCz.out⟩
       case measure => simp [intOf]; omega
      ·have HI : Hid (incC n l1 g = l1) := Lib.hid (by unfold incC incB; rw [HEI.out, HEA.out, HNN.out]; simp [h0])
       go_wp2
       go_roundw
       case rel => exact ⟨k + 1, by go_num, by omega, Lib.hid (by rw [HS1.out, HI.out]; exact HOn.out), Lib.hid HCn.out⟩
       case measure => simp [intOf]; omega
   ·obtain rfl : k = (allGrants n).length := by omega
    have HF := Lib.hid (caTo_all n)
    have y0 : wk.cell? ⟨w3.heap.size, 0, none⟩ = some (.slice (some ⟨gs, 0, none⟩) N cc) := by rw [← ebo]; exact HBOk.out.get 0
    have yl : w3.heap.size < wk.heap.size := by rw [← ebo]; exact HBOk.out.lt
    go_wp2
    go_ret
    exact ⟨⟨_, rfl, Kd.R_lower (by rw [← HF.out]; exact HOk.out) (by omega)⟩, HBk.out⟩
end Go.Proofs.YtaihmgbflhbebaaGreat
namespace NoC
def decB (i : Int) (g : Grant) : Bool := !(g.port == 4) && (decK g == i)
def incI (n : Net) (i : Int) (g : Grant) : Bool := incB n g && (incK n g == i)
theorem fold_at {n : Net} {i : Int} (i0 : 0 ≤ i) : ∀ (gs : List Grant) (l : List Int), (l.length : Int) = 8 * nodeCount n.mesh.g → i < (l.length : Int) → (∀ g ∈ gs, GOne n g) → 0 ≤ ri l i → ((gs.countP (decB i) : Nat) : Int) ≤ ri l i →
    ri (gs.foldl (implC n) l) i = ri l i + ((gs.countP (incI n i) : Nat) : Int) - ((gs.countP (decB i) : Nat) : Int) := by
  intro gs
  induction gs with
  | nil => intro l _ _ _ _ _; simp
  | cons g gs ih =>
    intro l hl hi hg h0 hd
    have one := hg g (by simp)
    have n1 := isNode_iff.1 one.nd
    have e1 : (g :: gs).countP (decB i) = gs.countP (decB i) + if decB i g = true then 1 else 0 := List.countP_cons
    have e2 : (g :: gs).countP (incI n i) = gs.countP (incI n i) + if incI n i g = true then 1 else 0 := List.countP_cons
    rw [e1] at hd
    obtain ⟨l1, hl1⟩ : ∃ z, z = (if g.port = 4 then l else chgC l (decK g) (-1)) := ⟨_, rfl⟩
    have L1 : l1.length = l.length := by rw [hl1]; split; rfl; exact chgC_len _ _ _
    have v1 : ri l1 i = ri l i - (if decB i g = true then 1 else 0) := by
      rw [hl1]
      unfold decB at hd ⊢
      by_cases h4 : g.port = 4
      · rw [if_pos h4]; simp [h4]
      · rw [if_neg h4]
        have hk : 0 ≤ decK g ∧ decK g < (l.length : Int) := by
          have := one.p0; have := one.p4; have := one.i0
          unfold decK; omega
        rw [chgC_get hk.1 hk.2 i i0]
        by_cases e : i = decK g
        · subst e
          have h5 : (g.port == 4) = false := by simpa using h4
          simp only [h5, Bool.not_false, Bool.true_and, beq_self_eq_true, if_true] at hd ⊢
          rw [if_pos ⟨trivial, by omega⟩]
          omega
        · rw [if_neg (fun h => e h.1)]
          have : (decK g == i) = false := by simpa using fun h => e h.symm
          simp [this]
    obtain ⟨l2, hl2⟩ : ∃ z, z = incC n l1 g := ⟨_, rfl⟩
    have L2 : l2.length = l.length := by rw [hl2, incC_len, L1]
    have hv0 : 0 ≤ ri l1 i := by
      rw [v1]
      split at hd
      · rename_i h; rw [if_pos h]; push_cast at hd; omega
      · rename_i h; rw [if_neg h]; omega
    have v2 : ri l2 i = ri l1 i + (if incI n i g = true then 1 else 0) := by
      rw [hl2]
      unfold incC incI
      cases hb : incB n g
      · simp
      · rw [if_pos rfl]
        have hk := incK_in one hb
        rw [chgC_get hk.1 (by rw [L1, hl]; exact hk.2) i i0]
        by_cases e : i = incK n g
        · subst e
          rw [if_pos ⟨rfl, by omega⟩]
          simp
        · rw [if_neg (fun h => e h.1)]
          have : (incK n g == i) = false := by simpa using fun h => e h.symm
          simp [this]
    have hs : (g :: gs).foldl (implC n) l = gs.foldl (implC n) l2 := by
      rw [hl2, hl1]; rfl
    rw [hs, ih l2 (by rw [L2]; exact hl) (by rw [L2]; exact hi) (fun y hy => hg y (by simp [hy])) (by rw [v2]; split <;> omega) (by
      rw [v2, v1]
      split at hd
      · rename_i h; rw [if_pos h]; push_cast at hd; split <;> omega
      · rename_i h; rw [if_neg h]; split <;> omega), v2, v1, e1, e2]
    push_cast
    split <;> split <;> omega
theorem fold_dead {n : Net} {i : Int} (i0 : 0 ≤ i) : ∀ (gs : List Grant) (l : List Int), (l.length : Int) = 8 * nodeCount n.mesh.g → (∀ g ∈ gs, GOne n g) → ri l i = -1 → ri (gs.foldl (implC n) l) i = -1 := by
  intro gs
  induction gs with
  | nil => intro l _ _ h; exact h
  | cons g gs ih =>
    intro l hl hg h
    have one := hg g (by simp)
    have n1 := isNode_iff.1 one.nd
    show ri (gs.foldl (implC n) (implC n l g)) i = -1
    have key : ∀ (l : List Int) (k d : Int), 0 ≤ k → k < (l.length : Int) → ri l i = -1 → ri (chgC l k d) i = -1 := fun l k d k0 k1 h => by
      rw [chgC_get k0 k1 i i0]
      split
      · rename_i h2; rw [← h2.1] at h2; exact absurd h h2.2
      · exact h
    refine ih _ (by rw [implC_len]; exact hl) (fun y hy => hg y (by simp [hy])) ?_
    unfold implC
    have h1 : ri (if g.port = 4 then l else chgC l (decK g) (-1)) i = -1 := by
      split
      · exact h
      · have := one.p0; have := one.p4; have := one.i0
        rename_i h4
        exact key l _ _ (by unfold decK; omega) (by unfold decK; omega) h
    unfold incC
    cases hb : incB n g
    · exact h1
    · rw [if_pos rfl]
      have hk := incK_in one hb
      refine key _ _ _ hk.1 ?_ h1
      split
      · rw [hl]; exact hk.2
      · rw [chgC_len, hl]; exact hk.2
theorem foldI_len (n : Net) : ∀ (gs : List Grant) (l : List Int), (gs.foldl (implC n) l).length = l.length := by
  intro gs
  induction gs with
  | nil => intro l; rfl
  | cons g gs ih => intro l; show (gs.foldl (implC n) (implC n l g)).length = _; rw [ih, implC_len]
theorem credit_len {n : Net} : ((creditsN n).length : Int) = 8 * nodeCount n.mesh.g := by
  have := count_nat n.mesh.g
  unfold creditsN
  rw [creditsTo_len]
  omega
theorem credits_after {n : Net} (ok : netOk n = true) : creditsAfterN n = creditsN (stepN n) := by
 have hm : (stepN n).mesh = n.mesh := (step_parts n).1
 have hl1 : (creditsAfterN n).length = (creditsN n).length := by unfold creditsAfterN; exact foldI_len n _ _
 have hl2 : (creditsN (stepN n)).length = (creditsN n).length := by unfold creditsN; rw [creditsTo_len, creditsTo_len, hm]
 refine List.ext_getElem (by rw [hl1, hl2]) (fun j h1 h2 => ?_)
 rw [← ri_get _ j h1, ← ri_get _ j h2]
 have hj : (j : Int) < 8 * nodeCount n.mesh.g := by rw [← credit_len (n := n)]; omega
 have hcl := credit_len (n := n)
 have r0 : ri (creditsN n) (j : Int) = creditAt n j := creditsTo_get n (by have := count_nat n.mesh.g; omega)
 have r1 : ri (creditsN (stepN n)) (j : Int) = creditAt (stepN n) j := creditsTo_get (stepN n) (by rw [hm]; have := count_nat n.mesh.g; omega)
 rw [r1]
 obtain ⟨a, ha⟩ : ∃ a : Int, ((j / 8 : Nat) : Int) = a := ⟨_, rfl⟩
 obtain ⟨p, hp⟩ : ∃ p : Int, ((j / 2 % 4 : Nat) : Int) = p := ⟨_, rfl⟩
 obtain ⟨c, hc⟩ : ∃ c : Int, ((j % 2 : Nat) : Int) = c := ⟨_, rfl⟩
 have hja : (j : Int) = 2 * (4 * a + p) + c := by omega
 have p0 : 0 ≤ p := by omega
 have p3 : p ≤ 3 := by omega
 have c0 : 0 ≤ c := by omega
 have c1 : c ≤ 1 := by omega
 have a0 : 0 ≤ a := by omega
 have hnd : isNode n.mesh.g a = true := isNode_iff.2 ⟨a0, by omega⟩
 have hone : ∀ g ∈ allGrants n, GOne n g := fun g hg => grants_one hg
 have q0 : creditAt n j = creditN n a p c := by unfold creditAt; rw [ha, hp, hc]
 have q1 : creditAt (stepN n) j = creditN (stepN n) a p c := by unfold creditAt; rw [ha, hp, hc]
 have bm : ∀ a p c, behindN (stepN n) a p c = behindN n a p c := fun a p c => by unfold behindN behindI; rw [hm]
 rw [q1]
 rw [q0] at r0
 cases hlv : live n.mesh (4 * a + p)
 ·have hb : behindN n a p c = -1 := by unfold behindN; rw [if_neg (by omega), hlv]; rfl
  have e1 : creditN n a p c = -1 := by unfold creditN; rw [hb]; rfl
  have e2 : creditN (stepN n) a p c = -1 := by unfold creditN; rw [bm, hb]; rfl
  rw [e2]
  rw [e1] at r0
  exact fold_dead (by omega) _ _ hcl hone r0
 ·obtain ⟨x1, x2, x3, x4, x5, x6, x7⟩ := behind_idx (c := c) ok p0 p3 hlv c0 c1
  have hb : behindN n a p c = behindI n a p c := by unfold behindN; rw [if_neg (by omega), hlv]; rfl
  obtain ⟨b, hbb⟩ : ∃ b, behindI n a p c = b := ⟨_, rfl⟩
  rw [hbb] at hb x6 x7
  have hbe : b = 10 * nextNode n.mesh.g a p + 2 * opposite p + c := by rw [← hbb]; rfl
  have hgeo := geo (g := n.mesh.g) p0 p3 hnd x2
  have opa : opens n.mesh a p := ⟨hnd, p0, by omega, .inr hlv⟩
  have e1 : creditN n a p c = 3 - ((rl n.bufs b).length : Int) := by unfold creditN; rw [hb, if_neg (by omega)]
  have e2 : creditN (stepN n) a p c = 3 - ((rl (stepN n).bufs b).length : Int) := by unfold creditN; rw [bm, hb, if_neg (by omega)]
  have hstep := step_len ok b x6
  have hent : entC n b = 0 := by
   unfold entC
   rw [List.countP_eq_zero]
   intro y hy
   obtain ⟨i, rfl, hi, hl, e3, e4, e5⟩ := enter_in ok y hy
   simp only [beq_iff_eq]
   omega
  have hbl : (rl n.bufs b).length ≤ 3 := by
   obtain ⟨_, _, _, _, _, _, hbo, _⟩ := netOk_parts ok
   have := hbo b.toNat (by omega)
   rw [Int.toNat_of_nonneg x6] at this
   exact (bufOk_iff.1 this).2
  have hdec : (allGrants n).countP (decB (j : Int)) = pushC n b := by
   unfold pushC
   refine List.countP_congr (fun g hg => ?_)
   have one := hone g hg
   have g0 := one.p0; have g4 := one.p4; have gi := one.i0
   unfold decB goesTo
   by_cases h4 : g.port = 4
   ·simp [h4]
   ·have h5 : (g.port == 4) = false := by simpa using h4
    rw [h5]
    simp only [Bool.not_false, Bool.true_and, beq_iff_eq]
    obtain ⟨y0, y1, y2, y3, y4, y5, y6⟩ := one.to ok h4
    have opg : opens n.mesh g.node g.port := ⟨one.nd, g0, g4, .inr (one.live h4).1⟩
    constructor
    ·intro e
     have : g.node = a ∧ g.port = p ∧ g.input % 2 = c := by unfold decK at e; omega
     rw [y6, hbe, this.1, this.2.1, this.2.2]
    ·intro e
     have := behind_inj (ok_mesh ok) opg opa h4 (by omega) (c := g.input % 2) (c' := c) (by omega) (by omega) c0 c1 (by rw [← y6, ← hbe, e])
     unfold decK
     omega
  have hinc : (allGrants n).countP (incI n (j : Int)) = popC n b := by
   unfold popC
   refine List.countP_congr (fun g hg => ?_)
   have one := hone g hg
   have gi := one.i0; have gi9 := one.i9
   unfold incI incB incK gIdx
   simp only [Bool.and_eq_true, Bool.not_eq_true', beq_eq_false_iff_ne, decide_eq_true_eq, beq_iff_eq]
   constructor
   ·rintro ⟨⟨h4, h0⟩, e⟩
    have hg2 := geo (g := n.mesh.g) (p := g.input / 2) (by omega) (by omega) one.nd h0
    have : nextNode n.mesh.g g.node (g.input / 2) = a ∧ opposite (g.input / 2) = p ∧ g.input % 2 = c := by
     have := hg2.2.2.2.2
     omega
    rw [hbe, ← this.1, ← this.2.1, hg2.2.1, hg2.2.2.1, ← this.2.2]
    omega
   ·intro e
    have : g.node = nextNode n.mesh.g a p ∧ g.input / 2 = opposite p ∧ g.input % 2 = c := by omega
    rw [this.1, this.2.1, this.2.2, hgeo.2.1, hgeo.2.2.1]
    exact ⟨⟨by omega, a0⟩, by omega⟩
  have hroom : ((pushC n b : Nat) : Int) ≤ 3 - ((rl n.bufs b).length : Int) := by
   have h1 := pushC_le ok b
   rcases Nat.eq_zero_or_pos (pushC n b) with h2 | h2
   ·omega
   ·unfold pushC at h2
    obtain ⟨g, hg, hgt⟩ := List.countP_pos_iff.1 h2
    unfold goesTo at hgt
    simp only [Bool.and_eq_true, Bool.not_eq_true', beq_eq_false_iff_ne, beq_iff_eq] at hgt
    have := ((hone g hg).live hgt.1).2
    rw [hgt.2] at this
    omega
  have hfin := fold_at (n := n) (i := (j : Int)) (by omega) (allGrants n) (creditsN n) hcl (by rw [hcl]; exact hj) hone (by rw [r0, e1]; omega) (by rw [r0, e1, hdec]; exact hroom)
  unfold creditsAfterN
  rw [hfin, r0, e1, e2, hdec, hinc]
  omega
theorem credits_range {n : Net} (ok : netOk n = true) : ∀ k : Nat, k < (creditsN n).length → -1 ≤ ri (creditsN n) (k : Int) ∧ ri (creditsN n) (k : Int) ≤ 3 := by
  intro k hk
  unfold creditsN at hk ⊢
  rw [creditsTo_len] at hk
  rw [creditsTo_get n hk]
  have hN := count_nat n.mesh.g
  unfold creditAt creditN
  split
  · omega
  · rename_i hb
    unfold behindN at hb ⊢
    rw [if_neg (by omega)] at hb ⊢
    split at hb
    · rename_i hl
      rw [if_pos hl]
      obtain ⟨x1, x2, x3, x4, x5, x6, x7⟩ := behind_idx (c := ((k % 2 : Nat) : Int)) ok (by omega) (by omega) hl (by omega) (by omega)
      obtain ⟨_, _, _, _, _, _, hbo, _⟩ := netOk_parts ok
      have := hbo (behindI n ((k / 8 : Nat) : Int) ((k / 2 % 4 : Nat) : Int) ((k % 2 : Nat) : Int)).toNat (by omega)
      rw [Int.toNat_of_nonneg x6] at this
      have := (bufOk_iff.1 this).2
      omega
    · omega
end NoC
