/- Lemmas for laws of this seat, for all inputs: RunS RunT RunU Fst Open OpenP NetS NetM NetK. -/
import Derived.Test.YtmkbmddgkdoaiaaGreatG9
import Derived.Test.YtmkbmddgkdoaiaaGreatG12
import Derived.Test.YtmkbmddgkdoaiaaGreatG13
import Derived.Test.YtmkbmddgkdoaiaaGreatG2
import Derived.Test.YtmkbmddgkdoaiaaGreatG1
import Derived.ProofKit
import Derived.OpenShut
import Derived.SizedLaws
import Derived.WideShapes
import Derived.ChangeSame
import Derived.Test.YtmkbmddgkdoaiaaGreatG3
import Derived.Test.YtmkbmddgkdoaiaaGreatG7
/- Steps and runs of a network: the reference's side. -/
set_option linter.unusedVariables false
set_option linter.unusedSimpArgs false
namespace Go.Proofs.YtmkbmddgkdoaiaaGreat
open Go.RowKit Go.Proofs.YtmkbmddgkdoaiaaGreatW.PrintWords
open NoC

end Go.Proofs.YtmkbmddgkdoaiaaGreat
/- Steps and runs of a network: the reference's side, second part. -/
set_option linter.unusedVariables false
set_option linter.unusedSimpArgs false
namespace Go.Proofs.YtmkbmddgkdoaiaaGreat
open Go.RowKit Go.Proofs.YtmkbmddgkdoaiaaGreatW.PrintWords
open NoC

theorem run_nb1 {n : Net} (nb : NB n) (hA : ∀ x ∈ n.arrs, x.length ≤ 1048576) (k : Nat) (hk : k ≤ 999) (ok : netOk (runN n k) = true) : NB (runN n (k + 1)) := by
  obtain ⟨e1, e2, e3⟩ := run_parts n (k + 1)
  have L := run_lens n (k + 1)
  have L0 := run_lens n k
  refine ⟨by rw [e1]; exact nb.h1, by rw [e2]; exact nb.h2, by rw [e3]; exact nb.h3, by rw [L.b]; exact nb.h4, by rw [L.o]; exact nb.h5, by rw [L.t]; exact nb.h6, by rw [L.s]; exact nb.h7, by rw [L.a]; exact nb.h8, fun x hx => ?_, fun x hx => ?_, fun x hx => ?_⟩
  · obtain ⟨i, hi, rfl⟩ := rl_of_mem hx
    have h1 := step_bufs ok i (by rw [L0.b, ← L.b]; exact hi)
    have h2 : (rl (runN n (k + 1)).bufs (i : Int)).length ≤ 3 := (bufOk_iff.1 h1).2
    omega
  · obtain ⟨i, hi, rfl⟩ := rl_of_mem hx
    obtain ⟨c, s1, s2, s3, s4, s5, hb, hs, _⟩ := netOk_parts ok
    have h1 := hs i (by rw [L0.s, ← L.s]; exact hi)
    simp only [srcOk, Bool.and_eq_true, decide_eq_true_eq] at h1
    have h2 := (enter_rows (runN n k) i (enteringN (runN n k)) (afterPush (runN n k))).2
    have e : (afterPush (runN n k)).srcs = (runN n k).srcs := by unfold afterPush; rw [pushL_srcs]; rfl
    rw [e] at h2
    have h3 : (rl (runN n (k + 1)).srcs (i : Int)).length ≤ (rl (runN n k).srcs (i : Int)).length := h2
    omega
  · obtain ⟨i, hi, rfl⟩ := rl_of_mem hx
    have h1 := run_arrs n i (k + 1)
    have hi2 : i < n.arrs.length := by rw [← L.a]; exact hi
    have h2 := hA _ (rl_mem hi2)
    omega
end Go.Proofs.YtmkbmddgkdoaiaaGreat
/- Steps and runs of a network: the reference's side, third part. -/
set_option linter.unusedVariables false
set_option linter.unusedSimpArgs false
namespace Go.Proofs.YtmkbmddgkdoaiaaGreat
open Go.RowKit Go.Proofs.YtmkbmddgkdoaiaaGreatW.PrintWords
open NoC

end Go.Proofs.YtmkbmddgkdoaiaaGreat
/- The first steps at which a network is stuck; both sides. -/
set_option linter.unusedVariables false
set_option linter.unusedSimpArgs false
namespace Go.Proofs.YtmkbmddgkdoaiaaGreat
open Go.RowKit Go.Proofs.YtmkbmddgkdoaiaaGreatW.PrintWords
open NoC

theorem first_no1 {n : Net} {s : Int} (h : inside s 0 400 = false) : firstStuckN n s = -1 := by unfold firstStuckN; rw [h]; rfl
theorem first_no2 {n : Net} {s : Int} (h : netOk n = false) : firstStuckN n s = -1 := by
  unfold firstStuckN
  rw [h]
  split <;> rfl
theorem first_yes {n : Net} {S : Nat} (h : netOk n = true) (hi : inside (S : Int) 0 400 = true) : firstStuckN n (S : Int) = stuckFrom n 0 (S + 1) := by
  unfold firstStuckN
  rw [if_pos hi, if_pos h, Int.toNat_natCast]
set_option maxHeartbeats 16000000 in
set_option maxRecDepth 100000 in
theorem impl_FirstStuck (n : Net) (s : Int) (q : NA) (w : World) (hr : NetR 121 w n q) (hA : ∀ x ∈ n.arrs, x.length ≤ 1048576) :
  Calls Tryz.prog 19 #[.agg (netCells n q), .int .i64 s] w fun e w' => e = .returned (.int .i64 (firstStuckN n s)) ∧ Below w.heap.size w w' := by
 have HR := Lib.hid hr
 have NBQ := Lib.hid hr.nb
 have HA := Lib.hid hA
 clear hA
 obtain ⟨a1, a2, a3, a4, a5, a6, a7, a8, c1, c2, c3, c4, c5, c6, c7, c8⟩ := q
 clear hr
 dsimp only [netCells]
 cases hi : inside s 0 400
 ·have HE := Lib.hid (first_no1 (n := n) hi)
  go_enter Tryz.func19, Tryz.ntmps19
  go_wp2_with (go_at_call 60; refine (impl_inside _ _ _ _).mono ?_; rintro e w' ⟨rfl, rfl⟩)
  go_ret
  exact ⟨ret_int HE.out.symm, bel⟩
 cases hk : netOk n
 ·have HE := Lib.hid (first_no2 (s := s) hk)
  go_enter Tryz.func19, Tryz.ntmps19
  go_wp2_with (first | (go_at_call 46; refine (impl_NetOk n _ _ (HR.out.below bel)).mono ?_; rintro e w1 ⟨rfl, hb1⟩; obtain ⟨hc1, hf1, hz1⟩ := bcell hb1; (try simp only [szs] at hz1); have hb2 := (by first | exact bw_then hb2 hb1 | exact bw_then (bw_drewN _ hb2) hb1 | exact bw_then (bw_alloc _ hb2) hb1 | exact bw_then (bw_drew hb2) hb1 | exact bw_then HB hb1 | exact bw_then (bw_drewN _ HB) hb1 | exact bw_then (bw_alloc _ HB) hb1 | exact bw_then (bw_drew HB) hb1 | exact hb1); obtain ⟨hc2, hf2, hz2⟩ := bcell hb2; (try simp only [szs] at hz2); try (first | obtain ⟨hy1, hy2, hy3, hy4⟩ := lts4 hz2 | obtain ⟨hy1, hy2, hy3⟩ := lts3 hz2 | obtain ⟨hy1, hy2⟩ := lts2 hz2 | have hy1 := lts1 hz2); have hb9 := hb1) | (go_at_call 60; refine (impl_inside _ _ _ _).mono ?_; rintro e w' ⟨rfl, rfl⟩))
  go_ret
  exact ⟨ret_int HE.out.symm, bel⟩
 ·have hi' := inside_iff.1 hi
  obtain ⟨S, hS⟩ : ∃ S : Nat, s = (S : Int) := ⟨s.toNat, by omega⟩
  subst hS
  have HE := Lib.hid (first_yes hk hi)
  have HOK : Hid (∀ k : Nat, n.time + k ≤ 1000000 → netOk (runN n k) = true) := Lib.hid (fun k hkk => runN_ok hk k hkk)
  have hS4 : S ≤ 400 := by omega
  have ti := time_ok hk
  go_enter Tryz.func19, Tryz.ntmps19
  go_wp2_with fail
  refine (impl_inside (S : Int) 0 400 _).mono ?_
  rintro e w9 ⟨he, rfl⟩
  rw [hi] at he
  subst he
  clear hi hi'
  go_wp2_with fail
  refine (impl_NetOk n _ _ (HR.out.below bel)).mono ?_
  rintro e w2 ⟨he, hb2⟩
  rw [hk] at he
  subst he
  clear hk
  have XB : Box w2 w.heap.size #[.int .i64 n.mesh.g.w, .int .i64 n.mesh.g.h, .slice a1 n.mesh.br.length c1, .slice a2 n.pa.length c2, .slice a3 n.pb.length c3, .slice a4 n.bufs.length c4, .slice a5 n.owners.length c5, .slice a6 n.turns.length c6, .slice a7 n.srcs.length c7, .slice a8 n.arrs.length c8, .int .i64 n.time] := (Box.new w w.heap.size #[.int .i64 n.mesh.g.w, .int .i64 n.mesh.g.h, .slice a1 n.mesh.br.length c1, .slice a2 n.pa.length c2, .slice a3 n.pb.length c3, .slice a4 n.bufs.length c4, .slice a5 n.owners.length c5, .slice a6 n.turns.length c6, .slice a7 n.srcs.length c7, .slice a8 n.arrs.length c8, .int .i64 n.time] 44 rfl).below hb2
  have x0 : w2.cell? ⟨w.heap.size, 0, none⟩ = some (.int .i64 n.mesh.g.w) := XB.get 0
  have x1 : w2.cell? ⟨w.heap.size, 1, none⟩ = some (.int .i64 n.mesh.g.h) := XB.get 1
  have x2 : w2.cell? ⟨w.heap.size, 2, none⟩ = some (.slice a1 n.mesh.br.length c1) := XB.get 2
  have x3 : w2.cell? ⟨w.heap.size, 3, none⟩ = some (.slice a2 n.pa.length c2) := XB.get 3
  have x4 : w2.cell? ⟨w.heap.size, 4, none⟩ = some (.slice a3 n.pb.length c3) := XB.get 4
  have x5 : w2.cell? ⟨w.heap.size, 5, none⟩ = some (.slice a4 n.bufs.length c4) := XB.get 5
  have x6 : w2.cell? ⟨w.heap.size, 6, none⟩ = some (.slice a5 n.owners.length c5) := XB.get 6
  have x7 : w2.cell? ⟨w.heap.size, 7, none⟩ = some (.slice a6 n.turns.length c6) := XB.get 7
  have x8 : w2.cell? ⟨w.heap.size, 8, none⟩ = some (.slice a7 n.srcs.length c7) := XB.get 8
  have x9 : w2.cell? ⟨w.heap.size, 9, none⟩ = some (.slice a8 n.arrs.length c8) := XB.get 9
  have x10 : w2.cell? ⟨w.heap.size, 10, none⟩ = some (.int .i64 n.time) := XB.get 10
  have xbl := XB.lt
  have HW2 : Hid (Below w.heap.size w w2) := Lib.hid (bw_then (bw_alloc _ (bw_refl w)) hb2)
  go_wp2_with fail
  refine (impl_copyNet n _ _ (HR.out.below HW2.out)).mono ?_
  rintro e w1 ⟨hg1, HBC⟩
  have HBC0 := Lib.hid HBC
  obtain ⟨qq, v4, v7, v8, rfl, HN0⟩ := hg1
  obtain ⟨b1, b2, b3, b4, b5, b6, b7, b8, d1, d2, d3, d4, d5, d6, d7, d8⟩ := qq
  dsimp only [netCells]
  obtain ⟨w0, e0⟩ : ∃ z, z = w1.alloc (.cells #[.int .i64 n.mesh.g.w, .int .i64 n.mesh.g.h, .slice b1 n.mesh.br.length d1, .slice b2 n.pa.length d2, .slice b3 n.pb.length d3, .slice b4 n.bufs.length d4, .slice b5 n.owners.length d5, .slice b6 n.turns.length d6, .slice b7 n.srcs.length d7, .slice b8 n.arrs.length d8, .int .i64 n.time] 44) := ⟨_, rfl⟩
  have hz0 : w0.heap.size = w1.heap.size + 1 := by rw [e0]; simp only [szs]
  have hw01 : Below w1.heap.size w1 w0 := by rw [e0]; exact bw_alloc _ (bw_refl w1)
  obtain ⟨bx, ebx⟩ : ∃ z, z = w1.heap.size := ⟨_, rfl⟩
  have HBT : Hid (BT w0 bx n ⟨b1, b2, b3, b4, b5, b6, b7, b8, d1, d2, d3, d4, d5, d6, d7, d8⟩) := Lib.hid (by rw [e0, ebx]; exact blk_new w1 _)
  obtain ⟨lo, elo⟩ : ∃ z, z = w2.heap.size := ⟨_, rfl⟩
  have HN : Hid (NX w0 lo n ⟨b1, b2, b3, b4, b5, b6, b7, b8, d1, d2, d3, d4, d5, d6, d7, d8⟩ v4 v7 v8) := Lib.hid ((HN0.lower (by omega)).below hw01)
  have HHB : Hid (Below w.heap.size w w0) := Lib.hid (bw_then (bw_then HW2.out HBC) hw01)
  have sw := bw_size HBC
  have sw2 := bw_size HW2.out
  have sl3 : lo ≤ bx := by omega
  have sl4 : lo ≤ w0.heap.size := by omega
  have sl5 : w.heap.size ≤ lo := by omega
  have hw010 := Lib.hid hw01
  clear HN0 HBC hw01 xbl
  repeat (first | clear x0 | clear x1 | clear x2 | clear x3 | clear x4 | clear x5 | clear x6 | clear x7 | clear x8 | clear x9 | clear x10)
  go_wp2_with fail
  rw [← e0]
  try rw [← ebx]
  clear e0 ebx hz0
  have HX0 : Hid (Box w0 w.heap.size #[.int .i64 n.mesh.g.w, .int .i64 n.mesh.g.h, .slice a1 n.mesh.br.length c1, .slice a2 n.pa.length c2, .slice a3 n.pb.length c3, .slice a4 n.bufs.length c4, .slice a5 n.owners.length c5, .slice a6 n.turns.length c6, .slice a7 n.srcs.length c7, .slice a8 n.arrs.length c8, .int .i64 n.time]) := Lib.hid (by
   have h1 := (Box.below ⟨XB.lt, XB.get⟩ HBC0.out)
   exact Box.below h1 hw010.out)
  have sbn : w.heap.size < lo := by have := XB.lt; omega
  clear XB hb2
  go_loopw [19] (fun i wr => ∃ (k : Nat) (q' : NA) (u4 u7 u8 : List Value), i = .int .i64 k ∧ k ≤ S + 1 ∧ Hid (NX wr lo (runN n k) q' u4 u7 u8) ∧ Hid (BT wr bx (runN n k) q') ∧ Hid (Below lo w0 wr) ∧ Hid (stuckFrom n 0 (S + 1) = stuckFrom n k (S + 1 - k))) (fun i _ => S + 1 - (intOf i).toNat)
  case atStart => exact ⟨0, _, v4, v7, v8, rfl, Nat.zero_le _, Lib.hid HN.out, Lib.hid HBT.out, Lib.hid (Below.cut (Below.refl _ _) sl4), Lib.hid rfl⟩
  case round =>
   clear HN HBT
   obtain ⟨k, q', u4, u7, u8, rfl, hk, HNk, HBk, HLk, HIk⟩ := hrel
   by_cases hlt : k < S + 1
   ·have e41 : S + 1 - k = (S + 1 - (k + 1)) + 1 := by omega
    rw [e41] at HIk
    clear e41
    have xt : wr.cell? ⟨w.heap.size, 10, none⟩ = some (.int .i64 n.time) := (cell_low HLk.out sbn 10).trans (HX0.out.get 10)
    have xtl : w.heap.size < wr.heap.size := by have := HLk.out.size; omega
    by_cases ht : n.time + (k : Int) ≤ 1000000
    ·have HRk := Lib.hid (HNk.out.reads (run_nb NBQ.out HA.out k (by omega) (HOK.out k ht)))
     have ht2 : ¬ (1000000 : Int) < n.time + (k : Int) := by omega
     cases hi : stuckN (runN n k)
     ·have HI2 : Hid (stuckFrom n 0 (S + 1) = stuckFrom n (k + 1) (S + 1 - (k + 1))) := Lib.hid (HIk.out.trans (stuckFrom_no ht hi))
      go_wp2_with fail
      refine (impl_isStuck (runN n k) q' bx _ HRk.out HBk.out.box (HOK.out k ht)).mono ?_
      rintro e w5 ⟨rfl, hb5⟩
      replace HNk := Lib.hid (HNk.out.below hb5)
      replace HBk := Lib.hid (HBk.out.below hb5)
      replace HLk : Hid (Below lo w0 w5) := Lib.hid (below_then HLk.out (Nat.le_trans sl4 HLk.out.size) hb5)
      clear HRk hb5
      go_wp2_with fail
      refine (impl_step (runN n k) q' bx lo u4 u7 u8 _ HNk.out HBk.out (run_nb NBQ.out HA.out k (by omega) (HOK.out k ht)) (HOK.out k ht) sl3 (Nat.le_trans sl4 HLk.out.size)).mono ?_
      rintro e w3 ⟨rfl, ⟨q3, y4, y7, y8, hn3, hb3⟩, hl3⟩
      have HN3 := Lib.hid hn3
      have HB3 := Lib.hid hb3
      have HL3 : Hid (Below lo w0 w3) := Lib.hid (bw_trans HLk.out hl3 (Nat.le_refl _))
      clear hn3 hb3 hl3
      go_wp2
      go_roundw
      case rel => exact ⟨k + 1, q3, y4, y7, y8, by go_num, by omega, Lib.hid HN3.out, Lib.hid HB3.out, Lib.hid HL3.out, Lib.hid HI2.out⟩
      case measure => simp [intOf]; omega

     ·have HI2 : Hid (firstStuckN n (S : Int) = (k : Int)) := Lib.hid (HE.out.trans (HIk.out.trans (stuckFrom_yes ht hi)))
      go_wp2_with fail
      refine (impl_isStuck (runN n k) q' bx _ HRk.out HBk.out.box (HOK.out k ht)).mono ?_
      rintro e w5 ⟨rfl, hb5⟩
      replace HNk := Lib.hid (HNk.out.below hb5)
      replace HBk := Lib.hid (HBk.out.below hb5)
      replace HLk : Hid (Below lo w0 w5) := Lib.hid (below_then HLk.out (Nat.le_trans sl4 HLk.out.size) hb5)
      clear HRk hb5

      go_wp2
      go_ret
      exact ⟨ret_int HI2.out.symm, bw_trans HHB.out HLk.out sl5⟩
    ·have HI2 : Hid (firstStuckN n (S : Int) = -1) := Lib.hid (HE.out.trans (HIk.out.trans (stuckFrom_time ht)))
     have ht2 : (1000000 : Int) < n.time + (k : Int) := by omega
     go_wp2
     go_ret
     exact ⟨ret_int HI2.out.symm, bw_trans HHB.out HLk.out sl5⟩
   ·obtain rfl : k = S + 1 := by omega
    have HI2 : Hid (firstStuckN n (S : Int) = -1) := Lib.hid (by rw [HE.out, HIk.out, Nat.sub_self]; rfl)
    go_wp2
    go_ret
    exact ⟨ret_int HI2.out.symm, bw_trans HHB.out HLk.out sl5⟩
set_option maxHeartbeats 16000000 in
set_option maxRecDepth 100000 in
theorem spec_FirstStuck (n : Net) (s : Int) (q : NA) (w : World) (hr : NetR 121 w n q) (hA : ∀ x ∈ n.arrs, x.length ≤ 1048576) :
  Calls Tryz.prog 18 #[.agg (netCells n q), .int .i64 s] w fun e w' => e = .returned (.int .i64 (firstStuckN n s)) ∧ Below w.heap.size w w' := by
 have HA := Lib.hid hA
 clear hA
 have HR := Lib.hid hr
 have NBQ := Lib.hid hr.nb
 obtain ⟨a1, a2, a3, a4, a5, a6, a7, a8, c1, c2, c3, c4, c5, c6, c7, c8⟩ := q
 clear hr
 dsimp only [netCells]

 cases hi : inside s 0 400
 ·have HE := Lib.hid (first_no1 (n := n) hi)
  go_enter Tryz.func18, Tryz.ntmps18
  go_wp2_with (go_at_call 56; refine (spec_l01In _ _ _ _).mono ?_; rintro e w' ⟨rfl, rfl⟩)
  go_ret
  exact ⟨ret_int HE.out.symm, bel⟩
 cases hk : netOk n
 ·have HE := Lib.hid (first_no2 (s := s) hk)
  go_enter Tryz.func18, Tryz.ntmps18
  go_wp2_with (first | (go_at_call 57; refine (spec_NetOk n _ _ (HR.out.below bel)).mono ?_; rintro e w1 ⟨rfl, hb1⟩; obtain ⟨hc1, hf1, hz1⟩ := bcell hb1; (try simp only [szs] at hz1); have hb2 := (by first | exact bw_then hb2 hb1 | exact bw_then (bw_drewN _ hb2) hb1 | exact bw_then (bw_alloc _ hb2) hb1 | exact bw_then (bw_drew hb2) hb1 | exact bw_then HB hb1 | exact bw_then (bw_drewN _ HB) hb1 | exact bw_then (bw_alloc _ HB) hb1 | exact bw_then (bw_drew HB) hb1 | exact hb1); obtain ⟨hc2, hf2, hz2⟩ := bcell hb2; (try simp only [szs] at hz2); try (first | obtain ⟨hy1, hy2, hy3, hy4⟩ := lts4 hz2 | obtain ⟨hy1, hy2, hy3⟩ := lts3 hz2 | obtain ⟨hy1, hy2⟩ := lts2 hz2 | have hy1 := lts1 hz2); have hb9 := hb1) | (go_at_call 56; refine (spec_l01In _ _ _ _).mono ?_; rintro e w' ⟨rfl, rfl⟩))
  go_ret
  exact ⟨ret_int HE.out.symm, bel⟩
 ·have hi' := inside_iff.1 hi
  obtain ⟨S, hS⟩ : ∃ S : Nat, s = (S : Int) := ⟨s.toNat, by omega⟩
  subst hS
  have HE := Lib.hid (first_yes hk hi)
  have HOK : Hid (∀ k : Nat, n.time + k ≤ 1000000 → netOk (runN n k) = true) := Lib.hid (fun k hkk => runN_ok hk k hkk)
  have hS4 : S ≤ 400 := by omega
  have ti := time_ok hk
  go_enter Tryz.func18, Tryz.ntmps18
  go_wp2_with fail
  refine (spec_l01In (S : Int) 0 400 _).mono ?_
  rintro e w9 ⟨he, rfl⟩
  rw [hi] at he
  subst he
  clear hi hi'
  go_wp2_with fail
  refine (spec_NetOk n _ _ (HR.out.below bel)).mono ?_
  rintro e w2 ⟨he, hb2⟩
  rw [hk] at he
  subst he
  clear hk
  have HX2 : Hid (Box w2 w.heap.size #[.int .i64 n.mesh.g.w, .int .i64 n.mesh.g.h, .slice a1 n.mesh.br.length c1, .slice a2 n.pa.length c2, .slice a3 n.pb.length c3, .slice a4 n.bufs.length c4, .slice a5 n.owners.length c5, .slice a6 n.turns.length c6, .slice a7 n.srcs.length c7, .slice a8 n.arrs.length c8, .int .i64 n.time]) := Lib.hid ((Box.new w w.heap.size #[.int .i64 n.mesh.g.w, .int .i64 n.mesh.g.h, .slice a1 n.mesh.br.length c1, .slice a2 n.pa.length c2, .slice a3 n.pb.length c3, .slice a4 n.bufs.length c4, .slice a5 n.owners.length c5, .slice a6 n.turns.length c6, .slice a7 n.srcs.length c7, .slice a8 n.arrs.length c8, .int .i64 n.time] 44 rfl).below hb2)
  have HWB : Hid (Below w.heap.size w w2) := Lib.hid (bw_then (bw_alloc _ (bw_refl w)) hb2)
  have zz2 := bw_size hb2
  simp only [szs] at zz2
  clear hb2
  have x0 : w2.cell? ⟨w.heap.size, 0, none⟩ = some (.int .i64 n.mesh.g.w) := HX2.out.get 0
  have x1 : w2.cell? ⟨w.heap.size, 1, none⟩ = some (.int .i64 n.mesh.g.h) := HX2.out.get 1
  have x2 : w2.cell? ⟨w.heap.size, 2, none⟩ = some (.slice a1 n.mesh.br.length c1) := HX2.out.get 2
  have x3 : w2.cell? ⟨w.heap.size, 3, none⟩ = some (.slice a2 n.pa.length c2) := HX2.out.get 3
  have x4 : w2.cell? ⟨w.heap.size, 4, none⟩ = some (.slice a3 n.pb.length c3) := HX2.out.get 4
  have x5 : w2.cell? ⟨w.heap.size, 5, none⟩ = some (.slice a4 n.bufs.length c4) := HX2.out.get 5
  have x6 : w2.cell? ⟨w.heap.size, 6, none⟩ = some (.slice a5 n.owners.length c5) := HX2.out.get 6
  have x7 : w2.cell? ⟨w.heap.size, 7, none⟩ = some (.slice a6 n.turns.length c6) := HX2.out.get 7
  have x8 : w2.cell? ⟨w.heap.size, 8, none⟩ = some (.slice a7 n.srcs.length c7) := HX2.out.get 8
  have x9 : w2.cell? ⟨w.heap.size, 9, none⟩ = some (.slice a8 n.arrs.length c8) := HX2.out.get 9
  have x10 : w2.cell? ⟨w.heap.size, 10, none⟩ = some (.int .i64 n.time) := HX2.out.get 10
  have xl := HX2.out.lt
  obtain ⟨w0, e0⟩ : ∃ z, z = w2.alloc (.cells #[.int .i64 n.mesh.g.w, .int .i64 n.mesh.g.h, .slice a1 n.mesh.br.length c1, .slice a2 n.pa.length c2, .slice a3 n.pb.length c3, .slice a4 n.bufs.length c4, .slice a5 n.owners.length c5, .slice a6 n.turns.length c6, .slice a7 n.srcs.length c7, .slice a8 n.arrs.length c8, .int .i64 n.time] 44) := ⟨_, rfl⟩
  have hz0 : w0.heap.size = w2.heap.size + 1 := by rw [e0]; simp only [szs]
  have hw01 : Below w2.heap.size w2 w0 := by rw [e0]; exact bw_alloc _ (bw_refl w2)
  obtain ⟨bx, ebx⟩ : ∃ z, z = w2.heap.size := ⟨_, rfl⟩
  have HBT : Hid (BT w0 bx n ⟨a1, a2, a3, a4, a5, a6, a7, a8, c1, c2, c3, c4, c5, c6, c7, c8⟩) := Lib.hid (by rw [e0, ebx]; exact blk_new w2 _)
  have HHB : Hid (Below w.heap.size w w0) := Lib.hid (bw_then HWB.out hw01)
  have sbx : w.heap.size ≤ bx := by omega
  have sw0 : w.heap.size ≤ w0.heap.size := by omega
  go_wp2_with fail
  rw [← e0]
  try rw [← ebx]
  repeat (first | clear x0 | clear x1 | clear x2 | clear x3 | clear x4 | clear x5 | clear x6 | clear x7 | clear x8 | clear x9 | clear x10)
  have HX0 : Hid (Box w0 w.heap.size #[.int .i64 n.mesh.g.w, .int .i64 n.mesh.g.h, .slice a1 n.mesh.br.length c1, .slice a2 n.pa.length c2, .slice a3 n.pb.length c3, .slice a4 n.bufs.length c4, .slice a5 n.owners.length c5, .slice a6 n.turns.length c6, .slice a7 n.srcs.length c7, .slice a8 n.arrs.length c8, .int .i64 n.time]) := Lib.hid (HX2.out.below hw01)
  have sbn : w.heap.size < bx := by have := HX2.out.lt; omega
  have sb0 : bx ≤ w0.heap.size := by omega
  clear e0 ebx hz0
  go_loopw [6] (fun i wr => ∃ (k : Nat) (q' : NA), i = .int .i64 k ∧ k ≤ S + 1 ∧ Hid (NetR 121 wr (runN n k) q') ∧ Hid (BT wr bx (runN n k) q') ∧ Hid (Below w.heap.size w wr) ∧ Hid (Below bx w0 wr) ∧ Hid (stuckFrom n 0 (S + 1) = stuckFrom n k (S + 1 - k))) (fun i _ => S + 1 - (intOf i).toNat)
  case atStart => exact ⟨0, _, rfl, Nat.zero_le _, Lib.hid (HR.out.below HHB.out), Lib.hid HBT.out, Lib.hid HHB.out, Lib.hid (Below.cut (Below.refl _ _) sb0), Lib.hid rfl⟩
  case round =>
   clear HBT hw01 HX2 HWB
   obtain ⟨k, q', rfl, hk, HRk, HBk, HWk, HLXk, HIk⟩ := hrel
   have HXk := Lib.hid (box_low HX0.out HLXk.out sbn)
   have xt : wr.cell? ⟨w.heap.size, 10, none⟩ = some (.int .i64 n.time) := HXk.out.get 10
   have xtl := HXk.out.lt
   by_cases hlt : k < S + 1
   ·have hle : (k : Int) ≤ (S : Int) := by omega
    have e41 : S + 1 - k = (S + 1 - (k + 1)) + 1 := by omega
    rw [e41] at HIk
    by_cases ht : n.time + (k : Int) ≤ 1000000
    ·skip
     obtain ⟨wk, ewk⟩ : ∃ z, z = wr := ⟨_, rfl⟩
     subst ewk
     obtain ⟨p1, p2, p3, p4, p5, p6, p7, p8, r1, r2, r3, r4, r5, r6, r7, r8⟩ := q'
     obtain ⟨X, hX⟩ : ∃ X, runN n k = X := ⟨_, rfl⟩
     have HOX : Hid (netOk X = true) := Lib.hid (by rw [← hX]; exact HOK.out k ht)
     have HSX : Hid (runN n (k + 1) = stepN X) := Lib.hid (by rw [← hX]; rfl)
     have HNX : Hid (NB (stepN X)) := Lib.hid (by rw [← HSX.out]; exact run_nb1 NBQ.out HA.out k (by omega) (HOK.out k ht))
     have HM1 : Hid (stuckN X = true → firstStuckN n (S : Int) = (k : Int)) := Lib.hid (fun h => by rw [← hX] at h; exact HE.out.trans (HIk.out.trans (stuckFrom_yes ht h)))
     have HM2 : Hid (stuckN X = false → stuckFrom n 0 (S + 1) = stuckFrom n (k + 1) (S + 1 - (k + 1))) := Lib.hid (fun h => by rw [← hX] at h; exact HIk.out.trans (stuckFrom_no ht h))
     rw [hX] at HRk HBk
     clear hX e41
     have z0 : wk.cell? ⟨bx, 0, none⟩ = some (.int .i64 X.mesh.g.w) := HBk.out.box.get 0
     have z1 : wk.cell? ⟨bx, 1, none⟩ = some (.int .i64 X.mesh.g.h) := HBk.out.box.get 1
     have z2 : wk.cell? ⟨bx, 2, none⟩ = some (.slice p1 X.mesh.br.length r1) := HBk.out.box.get 2
     have z3 : wk.cell? ⟨bx, 3, none⟩ = some (.slice p2 X.pa.length r2) := HBk.out.box.get 3
     have z4 : wk.cell? ⟨bx, 4, none⟩ = some (.slice p3 X.pb.length r3) := HBk.out.box.get 4
     have z5 : wk.cell? ⟨bx, 5, none⟩ = some (.slice p4 X.bufs.length r4) := HBk.out.box.get 5
     have z6 : wk.cell? ⟨bx, 6, none⟩ = some (.slice p5 X.owners.length r5) := HBk.out.box.get 6
     have z7 : wk.cell? ⟨bx, 7, none⟩ = some (.slice p6 X.turns.length r6) := HBk.out.box.get 7
     have z8 : wk.cell? ⟨bx, 8, none⟩ = some (.slice p7 X.srcs.length r7) := HBk.out.box.get 8
     have z9 : wk.cell? ⟨bx, 9, none⟩ = some (.slice p8 X.arrs.length r8) := HBk.out.box.get 9
     have z10 : wk.cell? ⟨bx, 10, none⟩ = some (.int .i64 X.time) := HBk.out.box.get 10
     have zl := HBk.out.lt

     cases hi : stuckN X
     ·have HI4 := Lib.hid (HM2.out hi)
      go_wp2_with fail
      refine (spec_l24Stuck X _ _ HRk.out HOX.out).mono ?_
      rintro e w6 ⟨he, hb6⟩
      rw [hi] at he
      subst he
      have HR6 := Lib.hid (HRk.out.below hb6)
      have HB6 := Lib.hid (HBk.out.below hb6)
      have HLX6 : Hid (Below bx w0 w6) := Lib.hid (below_then HLXk.out (by have := HLXk.out.size; omega) hb6)
      have HW6 : Hid (Below w.heap.size w w6) := Lib.hid (bw_then HWk.out hb6)
      clear hb6 hi
      repeat (first | clear z0 | clear z1 | clear z2 | clear z3 | clear z4 | clear z5 | clear z6 | clear z7 | clear z8 | clear z9 | clear z10 | clear zl | clear xt | clear xtl)
      have zq0 : w6.cell? ⟨bx, 0, none⟩ = some (.int .i64 X.mesh.g.w) := HB6.out.box.get 0
      have zq1 : w6.cell? ⟨bx, 1, none⟩ = some (.int .i64 X.mesh.g.h) := HB6.out.box.get 1
      have zq2 : w6.cell? ⟨bx, 2, none⟩ = some (.slice p1 X.mesh.br.length r1) := HB6.out.box.get 2
      have zq3 : w6.cell? ⟨bx, 3, none⟩ = some (.slice p2 X.pa.length r2) := HB6.out.box.get 3
      have zq4 : w6.cell? ⟨bx, 4, none⟩ = some (.slice p3 X.pb.length r3) := HB6.out.box.get 4
      have zq5 : w6.cell? ⟨bx, 5, none⟩ = some (.slice p4 X.bufs.length r4) := HB6.out.box.get 5
      have zq6 : w6.cell? ⟨bx, 6, none⟩ = some (.slice p5 X.owners.length r5) := HB6.out.box.get 6
      have zq7 : w6.cell? ⟨bx, 7, none⟩ = some (.slice p6 X.turns.length r6) := HB6.out.box.get 7
      have zq8 : w6.cell? ⟨bx, 8, none⟩ = some (.slice p7 X.srcs.length r7) := HB6.out.box.get 8
      have zq9 : w6.cell? ⟨bx, 9, none⟩ = some (.slice p8 X.arrs.length r8) := HB6.out.box.get 9
      have zq10 : w6.cell? ⟨bx, 10, none⟩ = some (.int .i64 X.time) := HB6.out.box.get 10
      have zl9 := HB6.out.lt
      go_wp2_with fail
      refine (spec_l19Step X ⟨p1, p2, p3, p4, p5, p6, p7, p8, r1, r2, r3, r4, r5, r6, r7, r8⟩ _ HR6.out HOX.out).mono ?_
      rintro e w4 ⟨hg4, hb4⟩
      obtain ⟨q4, y4, y7, y8, rfl, HN0⟩ := hg4
      obtain ⟨s1, s2, s3, s4, s5, s6, s7, s8, t1, t2, t3, t4, t5, t6, t7, t8⟩ := q4
      dsimp only [netCells]
      have HN4 := Lib.hid HN0
      have HB4 : Hid (BN w4 bx) := Lib.hid ((HB6.out.below hb4).bn)
      have HW4 : Hid (Below w.heap.size w w4) := Lib.hid (bw_then HW6.out hb4)
      have HLX4 : Hid (Below bx w0 w4) := Lib.hid (below_then HLX6.out (by have := HLX6.out.size; omega) hb4)
      clear HN0 hb4
      repeat (first | clear z0 | clear z1 | clear z2 | clear z3 | clear z4 | clear z5 | clear z6 | clear z7 | clear z8 | clear z9 | clear z10 | clear zq0 | clear zq1 | clear zq2 | clear zq3 | clear zq4 | clear zq5 | clear zq6 | clear zq7 | clear zq8 | clear zq9 | clear zq10)
      obtain ⟨ry0, rv0⟩ := HB4.out.get 0 (by omega)
      have rz0 := HB4.out.frozen 0
      obtain ⟨ry1, rv1⟩ := HB4.out.get 1 (by omega)
      have rz1 := HB4.out.frozen 1
      obtain ⟨ry2, rv2⟩ := HB4.out.get 2 (by omega)
      have rz2 := HB4.out.frozen 2
      obtain ⟨ry3, rv3⟩ := HB4.out.get 3 (by omega)
      have rz3 := HB4.out.frozen 3
      obtain ⟨ry4, rv4⟩ := HB4.out.get 4 (by omega)
      have rz4 := HB4.out.frozen 4
      obtain ⟨ry5, rv5⟩ := HB4.out.get 5 (by omega)
      have rz5 := HB4.out.frozen 5
      obtain ⟨ry6, rv6⟩ := HB4.out.get 6 (by omega)
      have rz6 := HB4.out.frozen 6
      obtain ⟨ry7, rv7⟩ := HB4.out.get 7 (by omega)
      have rz7 := HB4.out.frozen 7
      obtain ⟨ry8, rv8⟩ := HB4.out.get 8 (by omega)
      have rz8 := HB4.out.frozen 8
      obtain ⟨ry9, rv9⟩ := HB4.out.get 9 (by omega)
      have rz9 := HB4.out.frozen 9
      obtain ⟨ry10, rv10⟩ := HB4.out.get 10 (by omega)
      have rz10 := HB4.out.frozen 10
      obtain ⟨Y, hY⟩ : ∃ Y, stepN X = Y := ⟨_, rfl⟩
      rw [hY] at HN4 HSX HNX
      try rw [hY]
      clear hY
      go_wp2
      obtain ⟨W9, e9⟩ : ∃ z, z = putN w4 bx Y ⟨s1, s2, s3, s4, s5, s6, s7, s8, t1, t2, t3, t4, t5, t6, t7, t8⟩ := ⟨_, rfl⟩
      have HB9 : Hid (BT W9 bx Y ⟨s1, s2, s3, s4, s5, s6, s7, s8, t1, t2, t3, t4, t5, t6, t7, t8⟩) := Lib.hid (by rw [e9]; exact putN_BT HB4.out)
      have HN9 := Lib.hid (show NX W9 _ Y ⟨s1, s2, s3, s4, s5, s6, s7, s8, t1, t2, t3, t4, t5, t6, t7, t8⟩ y4 y7 y8 from by rw [e9]; exact HN4.out.put HB4.out)
      have HL9 : Hid (Below w.heap.size w W9) := Lib.hid (by rw [e9]; exact below_put HW4.out sbx)
      have HLX9 : Hid (Below bx w0 W9) := Lib.hid (by rw [e9]; exact below_put HLX4.out (Nat.le_refl _))
      unfold putN at e9
      try dsimp only at e9
      rw [← e9]
      clear e9
      go_roundw
      case rel => exact ⟨k + 1, ⟨s1, s2, s3, s4, s5, s6, s7, s8, t1, t2, t3, t4, t5, t6, t7, t8⟩, by go_num, by omega, Lib.hid (by rw [HSX.out]; exact HN9.out.reads HNX.out), Lib.hid (by rw [HSX.out]; exact HB9.out), Lib.hid HL9.out, Lib.hid HLX9.out, Lib.hid HI4.out⟩
      case measure => simp [intOf]; omega

     ·have HI4 := Lib.hid (HM1.out hi)
      go_wp2_with fail
      refine (spec_l24Stuck X _ _ HRk.out HOX.out).mono ?_
      rintro e w6 ⟨he, hb6⟩
      rw [hi] at he
      subst he
      go_wp2
      go_ret
      exact ⟨ret_int HI4.out.symm, bw_then HWk.out hb6⟩
    ·have HI2 : Hid (firstStuckN n (S : Int) = -1) := Lib.hid (HE.out.trans (HIk.out.trans (stuckFrom_time ht)))
     clear e41
     have ht2 : (1000000 : Int) < n.time + (k : Int) := by omega
     go_wp2
     go_ret
     exact ⟨ret_int HI2.out.symm, HWk.out⟩
   ·obtain rfl : k = S + 1 := by omega
    have hle : ¬ ((S + 1 : Nat) : Int) ≤ (S : Int) := by omega
    have HI2 : Hid (firstStuckN n (S : Int) = -1) := Lib.hid (by rw [HE.out, HIk.out, Nat.sub_self]; rfl)
    go_wp2
    go_ret
    exact ⟨ret_int HI2.out.symm, HWk.out⟩
end Go.Proofs.YtmkbmddgkdoaiaaGreat
/- A law's arguments, opened: what the reading of an argument says of the cells that it reaches, for every world. -/
set_option linter.unusedVariables false
set_option linter.unusedSimpArgs false
namespace Go.Proofs.YtmkbmddgkdoaiaaGreat
open Go.ChangeShapes Go.WideShapes Go.ChangeAt Go.RowKit Go.Proofs.YtmkbmddgkdoaiaaGreatW.PrintWords
open NoC

theorem len1 {α : Type} {l : List α} (h : l.length = 1) : ∃ a, l = [a] := by match l, h with | [a], _ => exact ⟨a, rfl⟩
theorem len2 {α : Type} {l : List α} (h : l.length = 2) : ∃ a b, l = [a, b] := by match l, h with | [a, b], _ => exact ⟨a, b, rfl⟩
theorem len3 {α : Type} {l : List α} (h : l.length = 3) : ∃ a b c, l = [a, b, c] := by match l, h with | [a, b, c], _ => exact ⟨a, b, c, rfl⟩
theorem len5 {α : Type} {l : List α} (h : l.length = 5) : ∃ a b c d e, l = [a, b, c, d, e] := by match l, h with | [a, b, c, d, e], _ => exact ⟨a, b, c, d, e, rfl⟩
section
variable {H : Type} {enc : TypeId × Value → H} {W : World} {base : Nat} {spare : Nat → Bool} {held : Bool} {fuel : Nat} {cs : List Value} {x : DataW H × List MemPlace}
def Light (t : TypeId) (d : DataW H) : Prop := ∀ n ∈ d.weights Tryz.prog t, n ≤ reachBytes
theorem light_arg {ts : List TypeId} {ds : List (DataW H)} (h : (DataW.weightsEach Tryz.prog ts ds).all (· ≤ reachBytes) = true) {j : Nat} {t : TypeId} {d : DataW H} (ht : ts[j]? = some t) (hd : ds[j]? = some d) : Light t d :=
  fun n hn => by simpa using List.all_eq_true.1 h n (DataW.weights_mem_each ht hd n hn)
theorem light_field {t : TypeId} {fs : Array Field} {parts : List (DataW H)} (hu : Tryz.prog.underlying t = some (.struct fs)) (h : Light t (.agg parts)) {i : Nat} {f : Field} {d : DataW H} (hf : fs[i]? = some f) (hd : parts[i]? = some d) : Light f.type d :=
  fun n hn => h n (by
    unfold DataW.weights
    rw [hu]
    exact DataW.weights_mem_each (j := i) (by simp [hf]) hd n hn)
theorem op_int (h : DataW.trod enc Tryz.prog W base spare held fuel 3 cs = some x) : ∃ n, cs = [.int .i64 n] := by
  obtain ⟨n, h, _⟩ := DataW.trod_int Tryz.underlying3 h
  exact ⟨n, h⟩
theorem op_ints (h : DataW.trod enc Tryz.prog W base spare held fuel 24 cs = some x) (hl : Light 24 x.1) :
    ∃ A c, ∃ l : List Int, cs = [.slice A l.length c] ∧ Kd.C (Kd.int .i64) W A l.length l ∧ l.length ≤ 140737488355328 := by
  rcases open_ints Tryz.underlying24 Tryz.underlying3 (by kernel_rfl) h with ⟨rfl, _⟩ | ⟨a, len, cap, zs, rfl, _, hle, hm, hz, hx, hc, _⟩
  · exact ⟨none, 0, [], rfl, ⟨rfl, by decide, fun h => absurd h (by decide)⟩, by decide⟩
  · have hlen : len ≤ zs.length := by rw [hz]; split <;> omega
    have e : (zs.take len).length = len := by rw [List.length_take, Nat.min_eq_left hlen]
    have hb : len * 8 ≤ 140737488351232 := by
      subst hx
      have z := hl _ (by unfold DataW.weights; rw [show Tryz.prog.underlying 24 = _ from Tryz.underlying24]; exact List.mem_cons_self)
      rw [show Tryz.prog.bytesOf 3 = 8 by kernel_rfl] at z
      have hr : reachBytes = 140737488351232 := by decide
      have h1 : (lits (H := H) .i64 (zs.take len)).length = len := by simp [lits, hlen]
      rw [h1] at z
      omega
    refine ⟨some a, cap, zs.take len, by rw [e], ⟨rfl, by rw [e]; omega, fun _ => ⟨a, rfl, ?_⟩⟩, by rw [e]; omega⟩
    intro j p hj
    refine ⟨[.int .i64 p], rfl, rfl, ?_⟩
    intro i u hi
    obtain ⟨rfl, rfl⟩ : i = 0 ∧ u = .int .i64 p := by
      cases i with
      | zero => simp at hi; exact ⟨rfl, hi.symm⟩
      | succ i => simp at hi
    have hj2 := List.getElem?_eq_some_iff.1 hj
    obtain ⟨hj3, hj4⟩ := hj2
    have hj5 : j < zs.length := by omega
    have := hc j hj5
    rw [show j * (Kd.int .i64).sz + 0 = j by show j * 1 + 0 = j; omega, this]
    rw [List.getElem_take] at hj4
    simp [hj5, hj4]
theorem op_fields {t : TypeId} {fs : Array Field} (hu : Tryz.prog.underlying t = some (.struct fs)) (h : DataW.trod enc Tryz.prog W base spare held fuel t cs = some x) (hl : Light t x.1) :
    cs.length = Tryz.prog.cellsOf t ∧ ∀ (i : Nat) (f : Field), fs[i]? = some f → ∃ n y, DataW.trod enc Tryz.prog W base spare held n f.type ((cs.drop f.offset).take (Tryz.prog.cellsOf f.type)) = some y ∧ Light f.type y.1 := by
  obtain ⟨xs, n, _, rfl, hlen, hxs, hf⟩ := DataW.trod_struct hu h
  refine ⟨hlen, fun i f hi => ?_⟩
  have hlt : i < xs.length := by rw [hxs]; exact (Array.getElem?_eq_some_iff.1 hi).1
  have e := hf i f hi
  rw [List.getElem?_eq_getElem hlt] at e
  exact ⟨n, xs[i], e, light_field hu hl hi (by simp [hlt])⟩
theorem op_grid (h : DataW.trod enc Tryz.prog W base spare held fuel 23 cs = some x) (hl : Light 23 x.1) :
    ∃ g : Grid, cs = [.int .i64 g.w, .int .i64 g.h] := by
  obtain ⟨hlen, hf⟩ := op_fields Tryz.underlying23 h hl
  rw [show Tryz.prog.cellsOf 23 = 2 by kernel_rfl] at hlen
  obtain ⟨a0, a1, rfl⟩ : ∃ a0 a1, cs = [a0, a1] := len2 hlen
  obtain ⟨n0, y0, h0, l0⟩ := hf 0 _ rfl
  simp only [List.getElem_toArray, List.getElem_cons_zero, List.getElem_cons_succ] at h0 l0
  rw [show Tryz.prog.cellsOf 3 = 1 by kernel_rfl] at h0
  obtain ⟨i0, e0⟩ := op_int h0
  simp at e0
  obtain rfl := e0
  obtain ⟨n1, y1, h1, l1⟩ := hf 1 _ rfl
  simp only [List.getElem_toArray, List.getElem_cons_zero, List.getElem_cons_succ] at h1 l1
  rw [show Tryz.prog.cellsOf 3 = 1 by kernel_rfl] at h1
  obtain ⟨i1, e1⟩ := op_int h1
  simp at e1
  obtain rfl := e1
  exact ⟨⟨i0, i1⟩, rfl⟩
theorem op_mesh (h : DataW.trod enc Tryz.prog W base spare held fuel 26 cs = some x) (hl : Light 26 x.1) :
    ∃ (m : Mesh) (A : Option Addr) (c : Nat), cs = [.int .i64 m.g.w, .int .i64 m.g.h, .slice A m.br.length c] ∧ Kd.C (Kd.int .i64) W A m.br.length m.br ∧ m.br.length ≤ 140737488355328 := by
  obtain ⟨hlen, hf⟩ := op_fields Tryz.underlying26 h hl
  rw [show Tryz.prog.cellsOf 26 = 3 by kernel_rfl] at hlen
  obtain ⟨a0, a1, a2, rfl⟩ : ∃ a0 a1 a2, cs = [a0, a1, a2] := len3 hlen
  obtain ⟨n0, y0, h0, l0⟩ := hf 0 _ rfl
  simp only [List.getElem_toArray, List.getElem_cons_zero, List.getElem_cons_succ] at h0 l0
  rw [show Tryz.prog.cellsOf 23 = 2 by kernel_rfl] at h0
  obtain ⟨g0, e0⟩ := op_grid h0 l0
  simp at e0
  obtain ⟨rfl, rfl⟩ := e0
  obtain ⟨n1, y1, h1, l1⟩ := hf 1 _ rfl
  simp only [List.getElem_toArray, List.getElem_cons_zero, List.getElem_cons_succ] at h1 l1
  rw [show Tryz.prog.cellsOf 24 = 1 by kernel_rfl] at h1
  obtain ⟨A1, c1, r1, e1, hr1, hn1⟩ := op_ints h1 l1
  simp at e1
  obtain rfl := e1
  exact ⟨⟨g0, r1⟩, A1, c1, rfl, hr1, hn1⟩
theorem op_table (h : DataW.trod enc Tryz.prog W base spare held fuel 28 cs = some x) (hl : Light 28 x.1) :
    ∃ A c, ∃ l : List Int, cs = [.slice A l.length c] ∧ Kd.C (Kd.int .i64) W A l.length l ∧ l.length ≤ 140737488355328 := by
  obtain ⟨hlen, hf⟩ := op_fields Tryz.underlying28 h hl
  rw [show Tryz.prog.cellsOf 28 = 1 by kernel_rfl] at hlen
  obtain ⟨a0, rfl⟩ : ∃ a0, cs = [a0] := len1 hlen
  obtain ⟨n0, y0, h0, l0⟩ := hf 0 _ rfl
  simp only [List.getElem_toArray, List.getElem_cons_zero, List.getElem_cons_succ] at h0 l0
  rw [show Tryz.prog.cellsOf 24 = 1 by kernel_rfl] at h0
  obtain ⟨A0, c0, r0, e0, hr0, hn0⟩ := op_ints h0 l0
  simp at e0
  obtain rfl := e0
  exact ⟨A0, c0, r0, rfl, hr0, hn0⟩
theorem op_classes (h : DataW.trod enc Tryz.prog W base spare held fuel 30 cs = some x) (hl : Light 30 x.1) :
    ∃ A c, ∃ l : List Int, ∃ B d, ∃ k : List Int, cs = [.slice A l.length c, .slice B k.length d] ∧ Kd.C (Kd.int .i64) W A l.length l ∧ l.length ≤ 140737488355328 ∧ Kd.C (Kd.int .i64) W B k.length k ∧ k.length ≤ 140737488355328 := by
  obtain ⟨hlen, hf⟩ := op_fields Tryz.underlying30 h hl
  rw [show Tryz.prog.cellsOf 30 = 2 by kernel_rfl] at hlen
  obtain ⟨a0, a1, rfl⟩ : ∃ a0 a1, cs = [a0, a1] := len2 hlen
  obtain ⟨n0, y0, h0, l0⟩ := hf 0 _ rfl
  simp only [List.getElem_toArray, List.getElem_cons_zero, List.getElem_cons_succ] at h0 l0
  rw [show Tryz.prog.cellsOf 28 = 1 by kernel_rfl] at h0
  obtain ⟨A0, c0, r0, e0, hr0, hn0⟩ := op_table h0 l0
  simp at e0
  obtain rfl := e0
  obtain ⟨n1, y1, h1, l1⟩ := hf 1 _ rfl
  simp only [List.getElem_toArray, List.getElem_cons_zero, List.getElem_cons_succ] at h1 l1
  rw [show Tryz.prog.cellsOf 28 = 1 by kernel_rfl] at h1
  obtain ⟨A1, c1, r1, e1, hr1, hn1⟩ := op_table h1 l1
  simp at e1
  obtain rfl := e1
  exact ⟨A0, c0, r0, A1, c1, r1, rfl, hr0, hn0, hr1, hn1⟩
end
end Go.Proofs.YtmkbmddgkdoaiaaGreat
/- A law's rows of records, opened: what the reading of an argument says of the cells that it reaches. -/
set_option linter.unusedVariables false
set_option linter.unusedSimpArgs false
namespace Go.Proofs.YtmkbmddgkdoaiaaGreat
open Go.ChangeShapes Go.WideShapes Go.ChangeAt Go.RowKit Go.Proofs.YtmkbmddgkdoaiaaGreatW.PrintWords
open NoC

theorem build_list {α : Type} {Q : Nat → α → Prop} : ∀ n : Nat, (∀ i, i < n → ∃ p, Q i p) → ∃ l : List α, l.length = n ∧ ∀ i p, l[i]? = some p → Q i p := by
  intro n
  induction n with
  | zero => intro _; exact ⟨[], rfl, fun i p h => by simp at h⟩
  | succ n ih =>
    intro h
    obtain ⟨l, hl, hq⟩ := ih (fun i hi => h i (by omega))
    obtain ⟨p, hp⟩ := h n (by omega)
    refine ⟨l ++ [p], by simp [hl], fun i q hi => ?_⟩
    by_cases hlt : i < n
    · rw [List.getElem?_append_left (by omega)] at hi
      exact hq i q hi
    · have hlen := (List.getElem?_eq_some_iff.1 hi).1
      have : i = n := by simp at hlen; omega
      subst this
      rw [List.getElem?_append_right (by omega), hl, Nat.sub_self] at hi
      simp at hi
      subst hi
      exact hp
section
variable {H : Type} {enc : TypeId × Value → H} {W : World} {base : Nat} {spare : Nat → Bool} {held : Bool} {fuel : Nat} {cs : List Value} {x : DataW H × List MemPlace}
theorem op_fields0 {t : TypeId} {fs : Array Field} (hu : Tryz.prog.underlying t = some (.struct fs)) (h : DataW.trod enc Tryz.prog W base spare held fuel t cs = some x) :
    cs.length = Tryz.prog.cellsOf t ∧ ∀ (i : Nat) (f : Field), fs[i]? = some f → ∃ n y, DataW.trod enc Tryz.prog W base spare held n f.type ((cs.drop f.offset).take (Tryz.prog.cellsOf f.type)) = some y := by
  obtain ⟨xs, n, _, rfl, hlen, hxs, hf⟩ := DataW.trod_struct hu h
  refine ⟨hlen, fun i f hi => ?_⟩
  have hlt : i < xs.length := by rw [hxs]; exact (Array.getElem?_eq_some_iff.1 hi).1
  have e := hf i f hi
  rw [List.getElem?_eq_getElem hlt] at e
  exact ⟨n, xs[i], e⟩
end
end Go.Proofs.YtmkbmddgkdoaiaaGreat
/- A law's network: its measure, and what the reading of it says of its cells. -/
set_option linter.unusedVariables false
set_option linter.unusedSimpArgs false
namespace Go.Proofs.YtmkbmddgkdoaiaaGreat
open Go.ChangeShapes Go.WideShapes Go.ChangeAt Go.RowKit Go.Proofs.YtmkbmddgkdoaiaaGreatW.PrintWords
open NoC

theorem szN_says {n : Nat} {left : Int} (h1 : left ≤ 2097152) (h : 0 ≤ szN n left) : n ≤ 2097152 := by
  unfold szN at h
  split at h <;> omega
theorem szFlitS_any (l : List Flit) (left : Int) (A : Option Addr) (c : Nat) (w : World) (hl : l.length ≤ 9223372036854775807) (h0 : -1 ≤ left) (h1 : left ≤ 2097152) :
    Calls Tryz.prog 77 #[.slice A l.length c, .int .i64 left] w fun e w' => e = .returned (.int .i64 (szN l.length left)) ∧ w = w' := by
  go_enter Tryz.func77, Tryz.ntmps77
  by_cases h : left - l.length < 0
  · go_wp2
    go_ret
    exact ⟨ret_int (by simp [szN]; omega), rfl⟩
  · go_wp2
    go_ret
    exact ⟨ret_int (by simp [szN]; omega), rfl⟩
theorem szN_le {n : Nat} {left : Int} (h0 : -1 ≤ left) : szN n left ≤ left := by
  unfold szN
  split <;> omega
theorem szN_fits {n : Nat} {left : Int} (h : 0 ≤ szN n left) : (n : Int) ≤ left := by
  unfold szN at h
  split at h <;> omega
def Sz (left : Int) (p : Prop) (w w' : World) (e : Ending) : Prop := ∃ r : Int, e = .returned (.int .i64 r) ∧ -1 ≤ r ∧ r ≤ left ∧ Hid (0 ≤ r → p) ∧ Below w.heap.size w w'
theorem laws_szMesh' (m : Mesh) (left : Int) (A : Option Addr) (c : Nat) (w : World) (hl : m.br.length ≤ 140737488355328) (h0 : -1 ≤ left) (h1 : left ≤ 2097152) :
    Calls Tryz.prog 20 #[.agg #[.int .i64 m.g.w, .int .i64 m.g.h, .slice A m.br.length c], .int .i64 left] w fun e w' => Sz left (m.br.length ≤ 2097152) w w' e :=
  (laws_szMesh m left A c w hl h0 h1).mono fun e w' ⟨he, hb⟩ => ⟨_, he, (szN_range h0 h1).1, szN_le h0, Lib.hid (szN_says h1), hb⟩
theorem laws_szClasses' (pa pb : List Int) (left : Int) (A B : Option Addr) (c d : Nat) (w : World) (hl : pa.length ≤ 140737488355328) (hm : pb.length ≤ 140737488355328) (h0 : -1 ≤ left) (h1 : left ≤ 2097152) :
    Calls Tryz.prog 21 #[.agg #[.slice A pa.length c, .slice B pb.length d], .int .i64 left] w fun e w' => Sz left (pa.length ≤ 2097152 ∧ pb.length ≤ 2097152) w w' e :=
  (laws_szClasses pa pb left A B c d w hl hm h0 h1).mono fun e w' ⟨he, hb⟩ => by
    have r1 := szN_range (n := pa.length) h0 h1
    have r2 := szN_range (n := pb.length) r1.1 r1.2
    have s1 := szN_le (n := pa.length) h0
    have s2 := szN_le (n := pb.length) r1.1
    refine ⟨_, he, ?_, ?_, Lib.hid ?_, hb⟩
    · unfold szClsI; split <;> omega
    · unfold szClsI; split <;> omega
    · unfold szClsI
      split
      · omega
      · intro h
        exact ⟨szN_says h1 (by omega), szN_says r1.2 h⟩
theorem laws_szIntS' (l : List Int) (left : Int) (A : Option Addr) (c : Nat) (w : World) (hl : l.length ≤ 140737488355328) (h0 : -1 ≤ left) (h1 : left ≤ 2097152) :
    Calls Tryz.prog 39 #[.slice A l.length c, .int .i64 left] w fun e w' => Sz left (l.length ≤ 2097152) w w' e :=
  (laws_szIntS l left A c w hl h0 h1).mono fun e w' ⟨he, hw⟩ => ⟨_, he, (szN_range h0 h1).1, szN_le h0, Lib.hid (szN_says h1), bw_self hw⟩
theorem C_max {α : Type} {d : Kd α} {w : World} {A : Option Addr} {n : Nat} {l : List α} (h : d.C w A n l) : n ≤ 9223372036854775807 := h.2.1
set_option maxHeartbeats 1000000 in
theorem laws_szFlitSS (l : List (List Flit)) (left : Int) (A : Option Addr) (c : Nat) (w : World) (hr : (kB 121).C w A l.length l) (h0 : -1 ≤ left) (h1 : left ≤ 2097152) :
    Calls Tryz.prog 38 #[.slice A l.length c, .int .i64 left] w fun e w' => Sz left (l.length ≤ 2097152 ∧ (∀ x ∈ l, x.length ≤ 2097152) ∧ ∀ x ∈ l, (x.length : Int) ≤ left) w w' e := by
  have hmax := C_max hr
  go_enter Tryz.func38, Tryz.ntmps38
  by_cases h : left - l.length < 0
  · go_wp2
    go_ret
    exact ⟨-1, rfl, by omega, by omega, Lib.hid (fun h => absurd h (by omega)), bel⟩
  · go_wp2
    go_loopw [5, 1] (fun i r wr => ∃ (k : Nat) (x : Int), i = .int .i64 k ∧ r = .int .i64 x ∧ k ≤ l.length ∧ 0 ≤ x ∧ x ≤ left ∧ Hid (∀ j : Nat, j < k → ((rl l j).length : Int) ≤ left) ∧ wr = w) (fun i _ _ => l.length - (intOf i).toNat)
    case atStart => exact ⟨0, _, rfl, rfl, Nat.zero_le _, by omega, by omega, Lib.hid fun j h => absurd h (Nat.not_lt_zero _), rfl⟩
    case round =>
      obtain ⟨k, x, rfl, rfl, hk, x0, x1, HA, rfl⟩ := hrel
      by_cases hlt : k < l.length
      · obtain ⟨b, off, rfl, hb, Ai, ci, p0, hle, hCi⟩ := rdB_at hr k hlt
        have hmi := C_max hCi
        have y1 := szN_range (n := (rl l k).length) (left := x) (by omega) (by omega)
        by_cases hn : szN (rl l k).length x < 0
        · go_wp2_with (go_at_call 77; refine (szFlitS_any (rl l k) x Ai ci _ hmi (by omega) (by omega)).mono ?_; rintro e w' ⟨rfl, rfl⟩)
          go_ret
          exact ⟨-1, rfl, by omega, by omega, Lib.hid (fun h => absurd h (by omega)), bel⟩
        · have hs := szN_fits (show 0 ≤ szN (rl l k).length x by omega)
          have hle2 := szN_le (n := (rl l k).length) (left := x) (by omega)
          have HS2 : Hid (∀ j : Nat, j < k + 1 → ((rl l j).length : Int) ≤ left) := Lib.hid (fun j hj => by
            rcases Nat.lt_or_ge j k with h1 | h1
            · exact HA.out j h1
            · obtain rfl : j = k := by omega
              omega)
          go_wp2_with (go_at_call 77; refine (szFlitS_any (rl l k) x Ai ci _ hmi (by omega) (by omega)).mono ?_; rintro e w' ⟨rfl, rfl⟩)
          go_roundw
          case rel => exact ⟨k + 1, _, by go_num, rfl, by omega, by omega, by omega, Lib.hid HS2.out, by trivial⟩
          case measure => simp [intOf]; omega
      · go_wp2
        go_ret
        have hall : ∀ y ∈ l, (y.length : Int) ≤ left := fun y hy => by
          obtain ⟨j, hj, rfl⟩ := List.getElem_of_mem hy
          have := HA.out j (by omega)
          simpa [rl, List.getD_eq_getElem?_getD, hj] using this
        exact ⟨x, rfl, by omega, x1, Lib.hid (fun _ => ⟨by omega, fun y hy => by have := hall y hy; omega, hall⟩), bel⟩
structure NetC (w : World) (n : Net) (q : NA) : Prop where
  br : Kd.C (Kd.int .i64) w q.a1 n.mesh.br.length n.mesh.br
  pa : Kd.C (Kd.int .i64) w q.a2 n.pa.length n.pa
  pb : Kd.C (Kd.int .i64) w q.a3 n.pb.length n.pb
  bufs : (kB 121).C w q.a4 n.bufs.length n.bufs
  owners : Kd.C (Kd.int .i64) w q.a5 n.owners.length n.owners
  turns : Kd.C (Kd.int .i64) w q.a6 n.turns.length n.turns
  srcs : (kB 121).C w q.a7 n.srcs.length n.srcs
  arrs : (kB 121).C w q.a8 n.arrs.length n.arrs
  h1 : n.mesh.br.length ≤ 140737488355328
  h2 : n.pa.length ≤ 140737488355328
  h3 : n.pb.length ≤ 140737488355328
  h5 : n.owners.length ≤ 140737488355328
  h6 : n.turns.length ≤ 140737488355328
theorem NetC.below {w w1 : World} {n : Net} {q : NA} (h : NetC w n q) (hb : Below w.heap.size w w1) : NetC w1 n q :=
  ⟨Kd.C_below h.br hb, Kd.C_below h.pa hb, Kd.C_below h.pb hb, Kd.C_below h.bufs hb, Kd.C_below h.owners hb, Kd.C_below h.turns hb, Kd.C_below h.srcs hb, Kd.C_below h.arrs hb, h.h1, h.h2, h.h3, h.h5, h.h6⟩
structure NetB (n : Net) : Prop where
  h1 : n.mesh.br.length ≤ 2097152
  h2 : n.pa.length ≤ 2097152
  h3 : n.pb.length ≤ 2097152
  h4 : n.bufs.length ≤ 2097152
  h5 : n.owners.length ≤ 2097152
  h6 : n.turns.length ≤ 2097152
  h7 : n.srcs.length ≤ 2097152
  h8 : n.arrs.length ≤ 2097152
  h9 : ∀ l ∈ n.bufs, l.length ≤ 2097152
  h10 : ∀ l ∈ n.srcs, l.length ≤ 2097152
  h11 : ∀ l ∈ n.arrs, l.length ≤ 2097152
theorem NetC.bound {w : World} {n : Net} {q : NA} (h : NetC w n q) (b : NetB n) : NetR 121 w n q :=
  ⟨h.br, h.pa, h.pb, h.bufs, h.owners, h.turns, h.srcs, h.arrs, b.h1, b.h2, b.h3, b.h4, b.h5, b.h6, b.h7, b.h8, b.h9, b.h10, b.h11⟩
set_option maxHeartbeats 4000000 in
set_option maxRecDepth 100000 in
theorem laws_szNet (n : Net) (q : NA) (left : Int) (w : World) (hr : NetC w n q) (h0 : -1 ≤ left) (h1 : left ≤ 2097152) :
    Calls Tryz.prog 9 #[.agg (netCells n q), .int .i64 left] w fun e w' => Sz left (NetB n ∧ ∀ l ∈ n.arrs, (l.length : Int) ≤ left) w w' e := by
  have H := Lib.hid hr
  clear hr
  unfold netCells
  go_enter Tryz.func9, Tryz.ntmps9
  go_wp2_with fail
  refine (laws_szMesh' n.mesh left q.a1 q.c1 _ H.out.h1 h0 h1).mono ?_
  rintro e w1 ⟨r1, rfl, x1, y1, K1, hb1⟩
  obtain ⟨hc1, hf1, hz1⟩ := bcell hb1; (try simp only [szs] at hz1); have hb2 := (by first | exact bw_then hb2 hb1 | exact bw_then (bw_drewN _ hb2) hb1 | exact bw_then (bw_alloc _ hb2) hb1 | exact bw_then (bw_drew hb2) hb1 | exact bw_then HB hb1 | exact bw_then (bw_drewN _ HB) hb1 | exact bw_then (bw_alloc _ HB) hb1 | exact bw_then (bw_drew HB) hb1 | exact hb1); obtain ⟨hc2, hf2, hz2⟩ := bcell hb2; (try simp only [szs] at hz2); try (first | obtain ⟨hy1, hy2, hy3, hy4⟩ := lts4 hz2 | obtain ⟨hy1, hy2, hy3⟩ := lts3 hz2 | obtain ⟨hy1, hy2⟩ := lts2 hz2 | have hy1 := lts1 hz2); have hb9 := hb1
  by_cases n1 : r1 < 0
  · go_wp2
    go_ret
    exact ⟨-1, rfl, by omega, by omega, Lib.hid (fun h => absurd h (by omega)), bel⟩
  go_wp2_with fail
  refine (laws_szClasses' n.pa n.pb r1 q.a2 q.a3 q.c2 q.c3 _ H.out.h2 H.out.h3 x1 (by omega)).mono ?_
  rintro e w2 ⟨r2, rfl, x2, y2, K2, hb1⟩
  obtain ⟨hc1, hf1, hz1⟩ := bcell hb1; (try simp only [szs] at hz1); have hb2 := (by first | exact bw_then hb2 hb1 | exact bw_then (bw_drewN _ hb2) hb1 | exact bw_then (bw_alloc _ hb2) hb1 | exact bw_then (bw_drew hb2) hb1 | exact bw_then HB hb1 | exact bw_then (bw_drewN _ HB) hb1 | exact bw_then (bw_alloc _ HB) hb1 | exact bw_then (bw_drew HB) hb1 | exact hb1); obtain ⟨hc2, hf2, hz2⟩ := bcell hb2; (try simp only [szs] at hz2); try (first | obtain ⟨hy1, hy2, hy3, hy4⟩ := lts4 hz2 | obtain ⟨hy1, hy2, hy3⟩ := lts3 hz2 | obtain ⟨hy1, hy2⟩ := lts2 hz2 | have hy1 := lts1 hz2); have hb9 := hb1
  by_cases n2 : r2 < 0
  · go_wp2
    go_ret
    exact ⟨-1, rfl, by omega, by omega, Lib.hid (fun h => absurd h (by omega)), bel⟩
  go_wp2_with fail
  refine (laws_szFlitSS n.bufs r2 q.a4 q.c4 _ (by exact Kd.C_below H.out.bufs bel) x2 (by omega)).mono ?_
  rintro e w3 ⟨r3, rfl, x3, y3, K3, hb1⟩
  obtain ⟨hc1, hf1, hz1⟩ := bcell hb1; (try simp only [szs] at hz1); have hb2 := (by first | exact bw_then hb2 hb1 | exact bw_then (bw_drewN _ hb2) hb1 | exact bw_then (bw_alloc _ hb2) hb1 | exact bw_then (bw_drew hb2) hb1 | exact bw_then HB hb1 | exact bw_then (bw_drewN _ HB) hb1 | exact bw_then (bw_alloc _ HB) hb1 | exact bw_then (bw_drew HB) hb1 | exact hb1); obtain ⟨hc2, hf2, hz2⟩ := bcell hb2; (try simp only [szs] at hz2); try (first | obtain ⟨hy1, hy2, hy3, hy4⟩ := lts4 hz2 | obtain ⟨hy1, hy2, hy3⟩ := lts3 hz2 | obtain ⟨hy1, hy2⟩ := lts2 hz2 | have hy1 := lts1 hz2); have hb9 := hb1
  by_cases n3 : r3 < 0
  · go_wp2
    go_ret
    exact ⟨-1, rfl, by omega, by omega, Lib.hid (fun h => absurd h (by omega)), bel⟩
  go_wp2_with fail
  refine (laws_szIntS' n.owners r3 q.a5 q.c5 _ H.out.h5 x3 (by omega)).mono ?_
  rintro e w4 ⟨r4, rfl, x4, y4, K4, hb1⟩
  obtain ⟨hc1, hf1, hz1⟩ := bcell hb1; (try simp only [szs] at hz1); have hb2 := (by first | exact bw_then hb2 hb1 | exact bw_then (bw_drewN _ hb2) hb1 | exact bw_then (bw_alloc _ hb2) hb1 | exact bw_then (bw_drew hb2) hb1 | exact bw_then HB hb1 | exact bw_then (bw_drewN _ HB) hb1 | exact bw_then (bw_alloc _ HB) hb1 | exact bw_then (bw_drew HB) hb1 | exact hb1); obtain ⟨hc2, hf2, hz2⟩ := bcell hb2; (try simp only [szs] at hz2); try (first | obtain ⟨hy1, hy2, hy3, hy4⟩ := lts4 hz2 | obtain ⟨hy1, hy2, hy3⟩ := lts3 hz2 | obtain ⟨hy1, hy2⟩ := lts2 hz2 | have hy1 := lts1 hz2); have hb9 := hb1
  by_cases n4 : r4 < 0
  · go_wp2
    go_ret
    exact ⟨-1, rfl, by omega, by omega, Lib.hid (fun h => absurd h (by omega)), bel⟩
  go_wp2_with fail
  refine (laws_szIntS' n.turns r4 q.a6 q.c6 _ H.out.h6 x4 (by omega)).mono ?_
  rintro e w5 ⟨r5, rfl, x5, y5, K5, hb1⟩
  obtain ⟨hc1, hf1, hz1⟩ := bcell hb1; (try simp only [szs] at hz1); have hb2 := (by first | exact bw_then hb2 hb1 | exact bw_then (bw_drewN _ hb2) hb1 | exact bw_then (bw_alloc _ hb2) hb1 | exact bw_then (bw_drew hb2) hb1 | exact bw_then HB hb1 | exact bw_then (bw_drewN _ HB) hb1 | exact bw_then (bw_alloc _ HB) hb1 | exact bw_then (bw_drew HB) hb1 | exact hb1); obtain ⟨hc2, hf2, hz2⟩ := bcell hb2; (try simp only [szs] at hz2); try (first | obtain ⟨hy1, hy2, hy3, hy4⟩ := lts4 hz2 | obtain ⟨hy1, hy2, hy3⟩ := lts3 hz2 | obtain ⟨hy1, hy2⟩ := lts2 hz2 | have hy1 := lts1 hz2); have hb9 := hb1
  by_cases n5 : r5 < 0
  · go_wp2
    go_ret
    exact ⟨-1, rfl, by omega, by omega, Lib.hid (fun h => absurd h (by omega)), bel⟩
  go_wp2_with fail
  refine (laws_szFlitSS n.srcs r5 q.a7 q.c7 _ (by exact Kd.C_below H.out.srcs bel) x5 (by omega)).mono ?_
  rintro e w6 ⟨r6, rfl, x6, y6, K6, hb1⟩
  obtain ⟨hc1, hf1, hz1⟩ := bcell hb1; (try simp only [szs] at hz1); have hb2 := (by first | exact bw_then hb2 hb1 | exact bw_then (bw_drewN _ hb2) hb1 | exact bw_then (bw_alloc _ hb2) hb1 | exact bw_then (bw_drew hb2) hb1 | exact bw_then HB hb1 | exact bw_then (bw_drewN _ HB) hb1 | exact bw_then (bw_alloc _ HB) hb1 | exact bw_then (bw_drew HB) hb1 | exact hb1); obtain ⟨hc2, hf2, hz2⟩ := bcell hb2; (try simp only [szs] at hz2); try (first | obtain ⟨hy1, hy2, hy3, hy4⟩ := lts4 hz2 | obtain ⟨hy1, hy2, hy3⟩ := lts3 hz2 | obtain ⟨hy1, hy2⟩ := lts2 hz2 | have hy1 := lts1 hz2); have hb9 := hb1
  by_cases n6 : r6 < 0
  · go_wp2
    go_ret
    exact ⟨-1, rfl, by omega, by omega, Lib.hid (fun h => absurd h (by omega)), bel⟩
  go_wp2_with fail
  refine (laws_szFlitSS n.arrs r6 q.a8 q.c8 _ (by exact Kd.C_below H.out.arrs bel) x6 (by omega)).mono ?_
  rintro e w7 ⟨r7, rfl, x7, y7, K7, hb1⟩
  obtain ⟨hc1, hf1, hz1⟩ := bcell hb1; (try simp only [szs] at hz1); have hb2 := (by first | exact bw_then hb2 hb1 | exact bw_then (bw_drewN _ hb2) hb1 | exact bw_then (bw_alloc _ hb2) hb1 | exact bw_then (bw_drew hb2) hb1 | exact bw_then HB hb1 | exact bw_then (bw_drewN _ HB) hb1 | exact bw_then (bw_alloc _ HB) hb1 | exact bw_then (bw_drew HB) hb1 | exact hb1); obtain ⟨hc2, hf2, hz2⟩ := bcell hb2; (try simp only [szs] at hz2); try (first | obtain ⟨hy1, hy2, hy3, hy4⟩ := lts4 hz2 | obtain ⟨hy1, hy2, hy3⟩ := lts3 hz2 | obtain ⟨hy1, hy2⟩ := lts2 hz2 | have hy1 := lts1 hz2); have hb9 := hb1
  by_cases n7 : r7 < 0
  · go_wp2
    go_ret
    exact ⟨-1, rfl, by omega, by omega, Lib.hid (fun h => absurd h (by omega)), bel⟩
  go_wp2
  go_ret
  exact ⟨r7, rfl, x7, by omega, Lib.hid (fun _ => ⟨⟨K1.out (by omega), (K2.out (by omega)).1, (K2.out (by omega)).2, (K3.out (by omega)).1, K4.out (by omega), K5.out (by omega), (K6.out (by omega)).1, (K7.out (by omega)).1, (K3.out (by omega)).2.1, (K6.out (by omega)).2.1, (K7.out (by omega)).2.1⟩, fun l hl => by have := (K7.out (by omega)).2.2 l hl; omega⟩), bel⟩
section
variable {H : Type} {enc : TypeId × Value → H} {W : World} {base : Nat} {spare : Nat → Bool} {held : Bool} {fuel : Nat} {cs : List Value} {x : DataW H × List MemPlace}
theorem op_bool (h : DataW.trod enc Tryz.prog W base spare held fuel 4 cs = some x) : ∃ b, cs = [.bool b] := by
  obtain ⟨b, h, _⟩ := DataW.trod_bool Tryz.underlying4 h
  exact ⟨b, h⟩
theorem op_flit0 (h : DataW.trod enc Tryz.prog W base spare held fuel 143 cs = some x) : ∃ p : Flit, cs = fCells p := by
  obtain ⟨hlen, hf⟩ := op_fields0 Tryz.underlying143 h
  rw [show Tryz.prog.cellsOf 143 = 5 by kernel_rfl] at hlen
  obtain ⟨a0, a1, a2, a3, a4, rfl⟩ : ∃ a0 a1 a2 a3 a4, cs = [a0, a1, a2, a3, a4] := len5 hlen
  obtain ⟨n0, y0, h0⟩ := hf 0 _ rfl
  obtain ⟨n1, y1, h1⟩ := hf 1 _ rfl
  obtain ⟨n2, y2, h2⟩ := hf 2 _ rfl
  obtain ⟨n3, y3, h3⟩ := hf 3 _ rfl
  obtain ⟨n4, y4, h4⟩ := hf 4 _ rfl
  simp only [List.getElem_toArray, List.getElem_cons_zero, List.getElem_cons_succ] at h0 h1 h2 h3 h4
  rw [show Tryz.prog.cellsOf 3 = 1 by kernel_rfl] at h0 h1 h2
  rw [show Tryz.prog.cellsOf 4 = 1 by kernel_rfl] at h3 h4
  obtain ⟨i0, e0⟩ := op_int h0
  obtain ⟨i1, e1⟩ := op_int h1
  obtain ⟨i2, e2⟩ := op_int h2
  obtain ⟨i3, e3⟩ := op_bool h3
  obtain ⟨i4, e4⟩ := op_bool h4
  simp at e0 e1 e2 e3 e4
  subst e0 e1 e2 e3 e4
  exact ⟨⟨i0, i1, i2, i3, i4⟩, rfl⟩
theorem op_rows0 {α : Type} {n : Nat} {en : α → List Value} {hl : ∀ x, (en x).length = n} {h1 : ∀ x, ∀ u ∈ en x, u.oneCell' = true} {t e : TypeId} (ht : Tryz.prog.underlying t = some (.slice e)) (hc : Tryz.prog.cellsOf e = n)
    (hel : ∀ {fuel : Nat} {cs : List Value} {x : DataW H × List MemPlace}, DataW.trod enc Tryz.prog W base spare held fuel e cs = some x → ∃ p, cs = en p)
    (h : DataW.trod enc Tryz.prog W base spare held fuel t cs = some x) :
    ∃ A c, ∃ l : List α, cs = [.slice A l.length c] ∧ l.length ≤ c ∧ (Kd.flat n en hl h1).C W A l.length l := by
  rcases DataW.trod_slice ht h with ⟨rfl, _⟩ | ⟨a, len, cap, elems, rest, k, _, rfl, hx, hb, hle, hm, hlen, hels, _, _⟩
  · exact ⟨none, 0, [], rfl, Nat.le_refl _, ⟨rfl, by simp, fun h => absurd h (by simp)⟩⟩
  · obtain ⟨l, hll, hq⟩ := build_list (Q := fun i p => W.cells? base (a.add (i * n)) n = some (en p)) len (fun i hi => by
      have e := hels i hi
      rw [List.getElem?_eq_getElem (by omega), Option.bind_eq_some_iff] at e
      obtain ⟨c', hc', hd⟩ := e
      obtain ⟨p, rfl⟩ := hel hd
      rw [hc] at hc'
      exact ⟨p, hc'⟩)
    subst hll
    refine ⟨some a, cap, l, rfl, hle, ⟨rfl, by simp only [maxLen] at hm; omega, fun _ => ⟨a, rfl, ?_⟩⟩⟩
    intro j p hj
    refine ⟨en p, hl p, rfl, fun i u hi => ?_⟩
    have h2 := hq j p hj
    have hin : i < n := by
      have := (List.getElem?_eq_some_iff.1 hi).1
      rwa [hl] at this
    have h3 := (World.cells?_some h2).2.2 i hin
    rw [add_add] at h3
    show W.cell? (a.add (j * n + i)) = some u
    rw [h3, hi]
theorem op_flits0 (h : DataW.trod enc Tryz.prog W base spare held fuel 104 cs = some x) : ∃ A c, ∃ l : List Flit, cs = [.slice A l.length c] ∧ l.length ≤ c ∧ kF.C W A l.length l :=
  op_rows0 Tryz.underlying104 (by kernel_rfl) (fun h => op_flit0 h) h
theorem op_flitss (h : DataW.trod enc Tryz.prog W base spare held fuel 31 cs = some x) : ∃ A c, ∃ l : List (List Flit), cs = [.slice A l.length c] ∧ (kB 121).C W A l.length l := by
  rcases DataW.trod_slice Tryz.underlying31 h with ⟨rfl, _⟩ | ⟨a, len, cap, elems, rest, k, _, rfl, hx, hb, hle, hm, hlen, hels, _, _⟩
  · exact ⟨none, 0, [], rfl, ⟨rfl, by simp, fun h => absurd h (by simp)⟩⟩
  · obtain ⟨l, hll, hq⟩ := build_list (Q := fun i (p : List Flit) => ∃ A c, W.cells? base (a.add (i * 1)) 1 = some [.slice A p.length c] ∧ p.length ≤ c ∧ kF.C W A p.length p) len (fun i hi => by
      have e := hels i hi
      rw [List.getElem?_eq_getElem (by omega), Option.bind_eq_some_iff] at e
      obtain ⟨c', hc', hd⟩ := e
      obtain ⟨A, c, p, rfl, hpc, hC⟩ := op_flits0 hd
      rw [show Tryz.prog.cellsOf 104 = 1 by kernel_rfl] at hc'
      exact ⟨p, A, c, hc', hpc, hC⟩)
    subst hll
    refine ⟨some a, cap, l, rfl, ⟨rfl, by simp only [maxLen] at hm; omega, fun _ => ⟨a, rfl, ?_⟩⟩⟩
    intro j p hj
    obtain ⟨A, c, h2, hpc, hC⟩ := hq j p hj
    refine ⟨[.slice A p.length c], rfl, ⟨A, c, rfl, hpc, hC⟩, fun i u hi => ?_⟩
    have hin : i < 1 := by
      have := (List.getElem?_eq_some_iff.1 hi).1
      simpa using this
    have h3 := (World.cells?_some h2).2.2 i hin
    rw [add_add] at h3
    show W.cell? (a.add (j * 1 + i)) = some u
    rw [h3, hi]
theorem len8 {α : Type} {l : List α} (h : l.length = 11) : ∃ a b c d e f g i j k m, l = [a, b, c, d, e, f, g, i, j, k, m] := by match l, h with | [a, b, c, d, e, f, g, i, j, k, m], _ => exact ⟨a, b, c, d, e, f, g, i, j, k, m, rfl⟩
set_option maxHeartbeats 1000000 in
/-- A network at a law's door. -/
theorem op_net (h : DataW.trod enc Tryz.prog W base spare held fuel 33 cs = some x) (hl : Light 33 x.1) : ∃ (n : Net) (q : NA), cs = (netCells n q).toList ∧ NetC W n q := by
  obtain ⟨hlen, hf⟩ := op_fields Tryz.underlying33 h hl
  rw [show Tryz.prog.cellsOf 33 = 11 by kernel_rfl] at hlen
  obtain ⟨a0, a1, a2, a3, a4, a5, a6, a7, a8, a9, a10, rfl⟩ := len8 hlen
  obtain ⟨n0, y0, h0, l0⟩ := hf 0 _ rfl
  simp only [List.getElem_toArray, List.getElem_cons_zero, List.getElem_cons_succ] at h0 l0
  rw [show Tryz.prog.cellsOf 26 = 3 by kernel_rfl] at h0
  obtain ⟨n1, y1, h1, l1⟩ := hf 1 _ rfl
  simp only [List.getElem_toArray, List.getElem_cons_zero, List.getElem_cons_succ] at h1 l1
  rw [show Tryz.prog.cellsOf 30 = 2 by kernel_rfl] at h1
  obtain ⟨n2, y2, h2, l2⟩ := hf 2 _ rfl
  simp only [List.getElem_toArray, List.getElem_cons_zero, List.getElem_cons_succ] at h2 l2
  rw [show Tryz.prog.cellsOf 31 = 1 by kernel_rfl] at h2
  obtain ⟨n3, y3, h3, l3⟩ := hf 3 _ rfl
  simp only [List.getElem_toArray, List.getElem_cons_zero, List.getElem_cons_succ] at h3 l3
  rw [show Tryz.prog.cellsOf 24 = 1 by kernel_rfl] at h3
  obtain ⟨n4, y4, h4, l4⟩ := hf 4 _ rfl
  simp only [List.getElem_toArray, List.getElem_cons_zero, List.getElem_cons_succ] at h4 l4
  rw [show Tryz.prog.cellsOf 24 = 1 by kernel_rfl] at h4
  obtain ⟨n5, y5, h5, l5⟩ := hf 5 _ rfl
  simp only [List.getElem_toArray, List.getElem_cons_zero, List.getElem_cons_succ] at h5 l5
  rw [show Tryz.prog.cellsOf 31 = 1 by kernel_rfl] at h5
  obtain ⟨n6, y6, h6, l6⟩ := hf 6 _ rfl
  simp only [List.getElem_toArray, List.getElem_cons_zero, List.getElem_cons_succ] at h6 l6
  rw [show Tryz.prog.cellsOf 31 = 1 by kernel_rfl] at h6
  obtain ⟨n7, y7, h7, l7⟩ := hf 7 _ rfl
  simp only [List.getElem_toArray, List.getElem_cons_zero, List.getElem_cons_succ] at h7 l7
  rw [show Tryz.prog.cellsOf 3 = 1 by kernel_rfl] at h7
  obtain ⟨m, A1, c1, e0, hr1, hn1⟩ := op_mesh h0 l0
  simp at e0
  obtain ⟨rfl, rfl, rfl⟩ := e0
  obtain ⟨A2, c2, pa, A3, c3, pb, e1, hr2, hn2, hr3, hn3⟩ := op_classes h1 l1
  simp at e1
  obtain ⟨rfl, rfl⟩ := e1
  obtain ⟨A4, c4, bufs, e2, hr4⟩ := op_flitss h2
  obtain ⟨A5, c5, owners, e3, hr5, hn5⟩ := op_ints h3 l3
  obtain ⟨A6, c6, turns, e4, hr6, hn6⟩ := op_ints h4 l4
  obtain ⟨A7, c7, srcs, e5, hr7⟩ := op_flitss h5
  obtain ⟨A8, c8, arrs, e6, hr8⟩ := op_flitss h6
  obtain ⟨tm, e7⟩ := op_int h7
  simp at e2 e3 e4 e5 e6 e7
  subst e2 e3 e4 e5 e6 e7
  exact ⟨⟨m, pa, pb, bufs, owners, turns, srcs, arrs, tm⟩, ⟨A1, A2, A3, A4, A5, A6, A7, A8, c1, c2, c3, c4, c5, c6, c7, c8⟩, rfl, ⟨hr1, hr2, hr3, hr4, hr5, hr6, hr7, hr8, hn1, hn2, hn3, hn5, hn6⟩⟩
end
end Go.Proofs.YtmkbmddgkdoaiaaGreat
/- Networks of one's own: copied by the laws, marked by them. -/
set_option linter.unusedVariables false
set_option linter.unusedSimpArgs false
namespace Go.Proofs.YtmkbmddgkdoaiaaGreat
open Go.RowKit Go.Proofs.YtmkbmddgkdoaiaaGreatW.PrintWords
open NoC

theorem RU.off {α : Type} {d : Kd α} {e : Nat} {w : World} {lo hi : Nat} {v : Value} {xs : List α} (h : RU d e w lo hi v xs) {g : Nat} (hg : g < lo) (j : Nat) (u : Value) : RU d e (w.setCell ⟨g, j, none⟩ u) lo hi v xs :=
  h.step (fun k h1 _ _ => Below.heap_setCell w ⟨g, j, none⟩ u k (by show k ≠ g; omega))
theorem OB.off {w : World} {lo hi : Nat} {v : Value} {l : List (List Flit)} {vs : List Value} (h : OB w lo hi v l vs) {g : Nat} (hg : g < lo) (j : Nat) (u : Value) : OB (w.setCell ⟨g, j, none⟩ u) lo hi v l vs :=
  h.step (fun k h1 _ _ => Below.heap_setCell w ⟨g, j, none⟩ u k (by show k ≠ g; omega))
theorem RU.bel {α : Type} {d : Kd α} {e : Nat} {w w1 : World} {lo hi : Nat} {v : Value} {xs : List α} (hb : Below w.heap.size w w1) (h : RU d e w lo hi v xs) : RU d e w1 lo hi v xs := h.below hb
theorem OB.bel {w w1 : World} {lo hi : Nat} {v : Value} {l : List (List Flit)} {vs : List Value} (hb : Below w.heap.size w w1) (h : OB w lo hi v l vs) : OB w1 lo hi v l vs := h.below hb
set_option maxHeartbeats 4000000 in
set_option maxRecDepth 100000 in
theorem laws_toNet2 (n : Net) (q : NA) (w : World) (hr : NetR 121 w n q) : Calls Tryz.prog 11 #[.agg (netCells n q)] w fun e w' => GotNI w w' n e ∧ Below w.heap.size w w' := by
  have H := Lib.hid hr
  clear hr
  unfold netCells
  go_enter Tryz.func11, Tryz.ntmps11
  go_wp2_with fail
  refine (laws_toMesh n.mesh q.a1 q.c1 _ (by exact Kd.C_below H.out.br bel) H.out.h1).mono ?_
  rintro e w1 ⟨hg1, hb1⟩
  obtain ⟨v1, rfl, HO1⟩ := hg1
  obtain ⟨A1, c1, rfl⟩ := Kd.R_slice HO1
  obtain ⟨hc1, hf1, hz1⟩ := bcell hb1; (try simp only [szs] at hz1); have hb2 := (by first | exact bw_then hb2 hb1 | exact bw_then (bw_drewN _ hb2) hb1 | exact bw_then (bw_alloc _ hb2) hb1 | exact bw_then (bw_drew hb2) hb1 | exact bw_then HB hb1 | exact bw_then (bw_drewN _ HB) hb1 | exact bw_then (bw_alloc _ HB) hb1 | exact bw_then (bw_drew HB) hb1 | exact hb1); obtain ⟨hc2, hf2, hz2⟩ := bcell hb2; (try simp only [szs] at hz2); try (first | obtain ⟨hy1, hy2, hy3, hy4⟩ := lts4 hz2 | obtain ⟨hy1, hy2, hy3⟩ := lts3 hz2 | obtain ⟨hy1, hy2⟩ := lts2 hz2 | have hy1 := lts1 hz2); have hb9 := hb1
  have za1 : w.heap.size < w1.heap.size := by omega
  have zb1 : w.heap.size + 1 < w1.heap.size := by omega
  have zc1 : w.heap.size + 1 + 1 < w1.heap.size := by omega
  have U1 : RU (Kd.int .i64) 3 w1 (w.heap.size + 1 + 1 + 1) w1.heap.size _ _ := RU.of HO1 (by simp only [szs]; omega) (Nat.le_refl _)
  clear HO1
  go_wp2_with fail
  refine (laws_toClasses n.pa n.pb q.a2 q.a3 q.c2 q.c3 _ (by exact Kd.C_below H.out.pa bel) H.out.h2 (by exact Kd.C_below H.out.pb bel) H.out.h3).mono ?_
  rintro e w2 ⟨hg1, hb1⟩
  obtain ⟨v2, v3, rfl, HO2, HO3, hap⟩ := hg1
  obtain ⟨A2, c2, rfl⟩ := Kd.R_slice HO2
  obtain ⟨A3, c3, rfl⟩ := Kd.R_slice HO3
  obtain ⟨hc1, hf1, hz1⟩ := bcell hb1; (try simp only [szs] at hz1); have hb2 := (by first | exact bw_then hb2 hb1 | exact bw_then (bw_drewN _ hb2) hb1 | exact bw_then (bw_alloc _ hb2) hb1 | exact bw_then (bw_drew hb2) hb1 | exact bw_then HB hb1 | exact bw_then (bw_drewN _ HB) hb1 | exact bw_then (bw_alloc _ HB) hb1 | exact bw_then (bw_drew HB) hb1 | exact hb1); obtain ⟨hc2, hf2, hz2⟩ := bcell hb2; (try simp only [szs] at hz2); try (first | obtain ⟨hy1, hy2, hy3, hy4⟩ := lts4 hz2 | obtain ⟨hy1, hy2, hy3⟩ := lts3 hz2 | obtain ⟨hy1, hy2⟩ := lts2 hz2 | have hy1 := lts1 hz2); have hb9 := hb1
  have za2 : w.heap.size < w2.heap.size := by omega
  have zb2 : w.heap.size + 1 < w2.heap.size := by omega
  have zc2 : w.heap.size + 1 + 1 < w2.heap.size := by omega
  have U2 : RU (Kd.int .i64) 3 w2 w1.heap.size w2.heap.size _ _ := RU.of HO2 (by simp only [szs]; omega) (Nat.le_refl _)
  have U3 : RU (Kd.int .i64) 3 w2 w1.heap.size w2.heap.size _ _ := RU.of HO3 (by simp only [szs]; omega) (Nat.le_refl _)
  have zz2 : w1.heap.size ≤ w2.heap.size := by omega
  clear HO2 HO3
  go_wp2_with fail
  refine (laws_toFlitSS2 n.bufs q.a4 q.c4 _ (by exact Kd.C_below H.out.bufs bel) H.out.h4 (Lib.hid H.out.h9)).mono ?_
  rintro e w3 ⟨hg1, hb1⟩
  obtain ⟨v4, vs4, rfl, HO4⟩ := hg1
  obtain ⟨A4, c4, rfl⟩ := HO4.slice
  obtain ⟨hc1, hf1, hz1⟩ := bcell hb1; (try simp only [szs] at hz1); have hb2 := (by first | exact bw_then hb2 hb1 | exact bw_then (bw_drewN _ hb2) hb1 | exact bw_then (bw_alloc _ hb2) hb1 | exact bw_then (bw_drew hb2) hb1 | exact bw_then HB hb1 | exact bw_then (bw_drewN _ HB) hb1 | exact bw_then (bw_alloc _ HB) hb1 | exact bw_then (bw_drew HB) hb1 | exact hb1); obtain ⟨hc2, hf2, hz2⟩ := bcell hb2; (try simp only [szs] at hz2); try (first | obtain ⟨hy1, hy2, hy3, hy4⟩ := lts4 hz2 | obtain ⟨hy1, hy2, hy3⟩ := lts3 hz2 | obtain ⟨hy1, hy2⟩ := lts2 hz2 | have hy1 := lts1 hz2); have hb9 := hb1
  have za3 : w.heap.size < w3.heap.size := by omega
  have zb3 : w.heap.size + 1 < w3.heap.size := by omega
  have zc3 : w.heap.size + 1 + 1 < w3.heap.size := by omega
  have U4 : OB w3 w2.heap.size w3.heap.size _ _ vs4 := HO4.wide (by simp only [szs]; omega) (Nat.le_refl _)
  have zz3 : w2.heap.size ≤ w3.heap.size := by omega
  clear HO4
  go_wp2_with fail
  refine (laws_toIntS n.owners q.a5 q.c5 _ (by exact Kd.C_below H.out.owners bel) H.out.h5).mono ?_
  rintro e w4 ⟨hg1, hb1⟩
  obtain ⟨v5, rfl, HO5⟩ := hg1
  obtain ⟨A5, c5, rfl⟩ := Kd.R_slice HO5
  obtain ⟨hc1, hf1, hz1⟩ := bcell hb1; (try simp only [szs] at hz1); have hb2 := (by first | exact bw_then hb2 hb1 | exact bw_then (bw_drewN _ hb2) hb1 | exact bw_then (bw_alloc _ hb2) hb1 | exact bw_then (bw_drew hb2) hb1 | exact bw_then HB hb1 | exact bw_then (bw_drewN _ HB) hb1 | exact bw_then (bw_alloc _ HB) hb1 | exact bw_then (bw_drew HB) hb1 | exact hb1); obtain ⟨hc2, hf2, hz2⟩ := bcell hb2; (try simp only [szs] at hz2); try (first | obtain ⟨hy1, hy2, hy3, hy4⟩ := lts4 hz2 | obtain ⟨hy1, hy2, hy3⟩ := lts3 hz2 | obtain ⟨hy1, hy2⟩ := lts2 hz2 | have hy1 := lts1 hz2); have hb9 := hb1
  have za4 : w.heap.size < w4.heap.size := by omega
  have zb4 : w.heap.size + 1 < w4.heap.size := by omega
  have zc4 : w.heap.size + 1 + 1 < w4.heap.size := by omega
  have U5 : RU (Kd.int .i64) 3 w4 w3.heap.size w4.heap.size _ _ := RU.of HO5 (by simp only [szs]; omega) (Nat.le_refl _)
  have zz4 : w3.heap.size ≤ w4.heap.size := by omega
  clear HO5
  go_wp2_with fail
  refine (laws_toIntS n.turns q.a6 q.c6 _ (by exact Kd.C_below H.out.turns bel) H.out.h6).mono ?_
  rintro e w5 ⟨hg1, hb1⟩
  obtain ⟨v6, rfl, HO6⟩ := hg1
  obtain ⟨A6, c6, rfl⟩ := Kd.R_slice HO6
  obtain ⟨hc1, hf1, hz1⟩ := bcell hb1; (try simp only [szs] at hz1); have hb2 := (by first | exact bw_then hb2 hb1 | exact bw_then (bw_drewN _ hb2) hb1 | exact bw_then (bw_alloc _ hb2) hb1 | exact bw_then (bw_drew hb2) hb1 | exact bw_then HB hb1 | exact bw_then (bw_drewN _ HB) hb1 | exact bw_then (bw_alloc _ HB) hb1 | exact bw_then (bw_drew HB) hb1 | exact hb1); obtain ⟨hc2, hf2, hz2⟩ := bcell hb2; (try simp only [szs] at hz2); try (first | obtain ⟨hy1, hy2, hy3, hy4⟩ := lts4 hz2 | obtain ⟨hy1, hy2, hy3⟩ := lts3 hz2 | obtain ⟨hy1, hy2⟩ := lts2 hz2 | have hy1 := lts1 hz2); have hb9 := hb1
  have za5 : w.heap.size < w5.heap.size := by omega
  have zb5 : w.heap.size + 1 < w5.heap.size := by omega
  have zc5 : w.heap.size + 1 + 1 < w5.heap.size := by omega
  have U6 : RU (Kd.int .i64) 3 w5 w4.heap.size w5.heap.size _ _ := RU.of HO6 (by simp only [szs]; omega) (Nat.le_refl _)
  have zz5 : w4.heap.size ≤ w5.heap.size := by omega
  clear HO6
  go_wp2_with fail
  refine (laws_toFlitSS2 n.srcs q.a7 q.c7 _ (by exact Kd.C_below H.out.srcs bel) H.out.h7 (Lib.hid H.out.h10)).mono ?_
  rintro e w6 ⟨hg1, hb1⟩
  obtain ⟨v7, vs7, rfl, HO7⟩ := hg1
  obtain ⟨A7, c7, rfl⟩ := HO7.slice
  obtain ⟨hc1, hf1, hz1⟩ := bcell hb1; (try simp only [szs] at hz1); have hb2 := (by first | exact bw_then hb2 hb1 | exact bw_then (bw_drewN _ hb2) hb1 | exact bw_then (bw_alloc _ hb2) hb1 | exact bw_then (bw_drew hb2) hb1 | exact bw_then HB hb1 | exact bw_then (bw_drewN _ HB) hb1 | exact bw_then (bw_alloc _ HB) hb1 | exact bw_then (bw_drew HB) hb1 | exact hb1); obtain ⟨hc2, hf2, hz2⟩ := bcell hb2; (try simp only [szs] at hz2); try (first | obtain ⟨hy1, hy2, hy3, hy4⟩ := lts4 hz2 | obtain ⟨hy1, hy2, hy3⟩ := lts3 hz2 | obtain ⟨hy1, hy2⟩ := lts2 hz2 | have hy1 := lts1 hz2); have hb9 := hb1
  have za6 : w.heap.size < w6.heap.size := by omega
  have zb6 : w.heap.size + 1 < w6.heap.size := by omega
  have zc6 : w.heap.size + 1 + 1 < w6.heap.size := by omega
  have U7 : OB w6 w5.heap.size w6.heap.size _ _ vs7 := HO7.wide (by simp only [szs]; omega) (Nat.le_refl _)
  have zz6 : w5.heap.size ≤ w6.heap.size := by omega
  clear HO7
  go_wp2_with fail
  refine (laws_toFlitSS2 n.arrs q.a8 q.c8 _ (by exact Kd.C_below H.out.arrs bel) H.out.h8 (Lib.hid H.out.h11)).mono ?_
  rintro e w7 ⟨hg1, hb1⟩
  obtain ⟨v8, vs8, rfl, HO8⟩ := hg1
  obtain ⟨A8, c8, rfl⟩ := HO8.slice
  obtain ⟨hc1, hf1, hz1⟩ := bcell hb1; (try simp only [szs] at hz1); have hb2 := (by first | exact bw_then hb2 hb1 | exact bw_then (bw_drewN _ hb2) hb1 | exact bw_then (bw_alloc _ hb2) hb1 | exact bw_then (bw_drew hb2) hb1 | exact bw_then HB hb1 | exact bw_then (bw_drewN _ HB) hb1 | exact bw_then (bw_alloc _ HB) hb1 | exact bw_then (bw_drew HB) hb1 | exact hb1); obtain ⟨hc2, hf2, hz2⟩ := bcell hb2; (try simp only [szs] at hz2); try (first | obtain ⟨hy1, hy2, hy3, hy4⟩ := lts4 hz2 | obtain ⟨hy1, hy2, hy3⟩ := lts3 hz2 | obtain ⟨hy1, hy2⟩ := lts2 hz2 | have hy1 := lts1 hz2); have hb9 := hb1
  have za7 : w.heap.size < w7.heap.size := by omega
  have zb7 : w.heap.size + 1 < w7.heap.size := by omega
  have zc7 : w.heap.size + 1 + 1 < w7.heap.size := by omega
  have U8 : OB w7 w6.heap.size w7.heap.size _ _ vs8 := HO8.wide (by simp only [szs]; omega) (Nat.le_refl _)
  have zz7 : w6.heap.size ≤ w7.heap.size := by omega
  clear HO8
  go_wp2
  refine bodyPost_ret (v := .agg (netCells n ⟨A1, A2, A3, A4, A5, A6, A7, A8, c1, c2, c3, c4, c5, c6, c7, c8⟩)) (by simp [results, Tryz.results11, go_sem, netCells, *]) rfl ⟨⟨_, seven (w.heap.size + 1 + 1 + 1) w1.heap.size w2.heap.size w3.heap.size w4.heap.size w5.heap.size w6.heap.size, seven w1.heap.size w2.heap.size w3.heap.size w4.heap.size w5.heap.size w6.heap.size w7.heap.size, vs4, vs7, vs8, rfl, lay_seq (by omega) zz2 zz3 zz4 zz5 zz6 zz7 (by omega) (by simp only [szs]; omega), ?_⟩, bel⟩
  refine ⟨?_, ?_, ?_, apart_comm hap, ?_, ?_, ?_, ?_, ?_⟩
  all_goals (simp only [seven]; with_reducible repeat (first | exact U1 | exact U2 | exact U3 | exact U4 | exact U5 | exact U6 | exact U7 | exact U8 | (refine RU.off ?_ (by omega) _ _) | (refine OB.off ?_ (by omega) _ _) | (refine RU.bel (by assumption) ?_) | (refine OB.bel (by assumption) ?_)))
end Go.Proofs.YtmkbmddgkdoaiaaGreat
/- Marks on a network of one's own: what is written lies in its own stretch. -/
set_option linter.unusedVariables false
set_option linter.unusedSimpArgs false
namespace Go.Proofs.YtmkbmddgkdoaiaaGreat
open Go.RowKit Go.Proofs.YtmkbmddgkdoaiaaGreatW.PrintWords
open NoC

end Go.Proofs.YtmkbmddgkdoaiaaGreat
