/- The law FnExactMovesAlways answers true for all arguments, and leaves each as it was. No conditions. -/
import Derived.Test.YteeebfeljjghhaaGreatG9
import Derived.Test.YteeebfeljjghhaaGreatG11
import Derived.Test.YteeebfeljjghhaaGreatG12
import Derived.Test.YteeebfeljjghhaaGreatG14
import Derived.Test.YteeebfeljjghhaaGreatRows
import Derived.WalkKit
import Derived.ProofKit
import Derived.OpenShut
import Derived.ShutString
import Derived.ChangeOld
import Derived.Below
import Derived.SizedLaws
import Derived.Test.YteeebfeljjghhaaGreatG13
/- Steps and runs of a network: the program's side. -/
set_option linter.unusedVariables false
set_option linter.unusedSimpArgs false
namespace Go.Proofs.YteeebfeljjghhaaGreat
open Go.RowKit Go.Proofs.YteeebfeljjghhaaGreatW.PrintWords
open NoC

theorem movesFrom_yes {n : Net} {k f : Nat} (h : stuckN (runN n k) = true) : movesFrom n k (f + 1) = false := by rw [movesFrom, if_pos h]
theorem movesFrom_no {n : Net} {k f : Nat} (h : stuckN (runN n k) = false) : movesFrom n k (f + 1) = movesFrom n (k + 1) f := by rw [movesFrom, if_neg (by simp [h])]
theorem canRun_parts {n : Net} {s : Int} (h : canRunN n s = true) : netOk n = true ∧ 0 ≤ s ∧ s ≤ 400 ∧ n.time + s ≤ 1000000 := by
  simp only [canRunN, Bool.and_eq_true, decide_eq_true_eq] at h
  have h2 := inside_iff.1 h.1.2
  exact ⟨h.1.1, h2.1, h2.2, h.2⟩
set_option maxHeartbeats 8000000 in
set_option maxRecDepth 100000 in
theorem impl_canRun (n : Net) (s : Int) (q : NA) (w : World) (hr : NetR 103 w n q) :
    Calls Tryz.prog 61 #[.agg (netCells n q), .int .i64 s] w fun e w' => e = .returned (.bool (canRunN n s)) ∧ Below w.heap.size w w' := by
  have R := Lib.hid hr
  obtain ⟨a1, a2, a3, a4, a5, a6, a7, a8, c1, c2, c3, c4, c5, c6, c7, c8⟩ := q
  clear hr
  dsimp only [netCells]
  cases hk : netOk n
  · have HE : Hid (canRunN n s = false) := Lib.hid (by simp [canRunN, hk])
    go_enter Tryz.func61, Tryz.ntmps61
    go_wp2_with (go_at_call 45; refine (impl_NetOk n _ _ (R.out.below bel)).mono ?_; rintro e w1 ⟨rfl, hb1⟩; obtain ⟨hc1, hf1, hz1⟩ := bcell hb1; (try simp only [szs] at hz1); have hb2 := (by first | exact bw_then hb2 hb1 | exact bw_then (bw_drewN _ hb2) hb1 | exact bw_then (bw_alloc _ hb2) hb1 | exact bw_then (bw_drew hb2) hb1 | exact bw_then HB hb1 | exact bw_then (bw_drewN _ HB) hb1 | exact bw_then (bw_alloc _ HB) hb1 | exact bw_then (bw_drew HB) hb1 | exact hb1); obtain ⟨hc2, hf2, hz2⟩ := bcell hb2; (try simp only [szs] at hz2); try (first | obtain ⟨hy1, hy2, hy3, hy4⟩ := lts4 hz2 | obtain ⟨hy1, hy2, hy3⟩ := lts3 hz2 | obtain ⟨hy1, hy2⟩ := lts2 hz2 | have hy1 := lts1 hz2); have hb9 := hb1)
    go_ret
    exact ⟨ret_bool HE.out.symm, bel⟩
  cases hi : inside s 0 400
  · have HE : Hid (canRunN n s = false) := Lib.hid (by simp [canRunN, hi])
    go_enter Tryz.func61, Tryz.ntmps61
    go_wp2_with (first | (go_at_call 45; refine (impl_NetOk n _ _ (R.out.below bel)).mono ?_; rintro e w1 ⟨rfl, hb1⟩; obtain ⟨hc1, hf1, hz1⟩ := bcell hb1; (try simp only [szs] at hz1); have hb2 := (by first | exact bw_then hb2 hb1 | exact bw_then (bw_drewN _ hb2) hb1 | exact bw_then (bw_alloc _ hb2) hb1 | exact bw_then (bw_drew hb2) hb1 | exact bw_then HB hb1 | exact bw_then (bw_drewN _ HB) hb1 | exact bw_then (bw_alloc _ HB) hb1 | exact bw_then (bw_drew HB) hb1 | exact hb1); obtain ⟨hc2, hf2, hz2⟩ := bcell hb2; (try simp only [szs] at hz2); try (first | obtain ⟨hy1, hy2, hy3, hy4⟩ := lts4 hz2 | obtain ⟨hy1, hy2, hy3⟩ := lts3 hz2 | obtain ⟨hy1, hy2⟩ := lts2 hz2 | have hy1 := lts1 hz2); have hb9 := hb1) | (go_at_call 94; refine (impl_inside _ _ _ _).mono ?_; rintro e w' ⟨rfl, rfl⟩))
    go_ret
    exact ⟨ret_bool HE.out.symm, bel⟩
  · have hi' := inside_iff.1 hi
    have ti := time_ok hk
    have HE : Hid (canRunN n s = decide (n.time + s ≤ 1000000)) := Lib.hid (by simp [canRunN, hi, hk])
    go_enter Tryz.func61, Tryz.ntmps61
    go_wp2_with (first | (go_at_call 45; refine (impl_NetOk n _ _ (R.out.below bel)).mono ?_; rintro e w1 ⟨rfl, hb1⟩; obtain ⟨hc1, hf1, hz1⟩ := bcell hb1; (try simp only [szs] at hz1); have hb2 := (by first | exact bw_then hb2 hb1 | exact bw_then (bw_drewN _ hb2) hb1 | exact bw_then (bw_alloc _ hb2) hb1 | exact bw_then (bw_drew hb2) hb1 | exact bw_then HB hb1 | exact bw_then (bw_drewN _ HB) hb1 | exact bw_then (bw_alloc _ HB) hb1 | exact bw_then (bw_drew HB) hb1 | exact hb1); obtain ⟨hc2, hf2, hz2⟩ := bcell hb2; (try simp only [szs] at hz2); try (first | obtain ⟨hy1, hy2, hy3, hy4⟩ := lts4 hz2 | obtain ⟨hy1, hy2, hy3⟩ := lts3 hz2 | obtain ⟨hy1, hy2⟩ := lts2 hz2 | have hy1 := lts1 hz2); have hb9 := hb1) | (go_at_call 94; refine (impl_inside _ _ _ _).mono ?_; rintro e w' ⟨rfl, rfl⟩))
    go_ret
    exact ⟨ret_bool HE.out.symm, bel⟩
end Go.Proofs.YteeebfeljjghhaaGreat
/- Steps and runs of a network: the program's side, second part. -/
set_option linter.unusedVariables false
set_option linter.unusedSimpArgs false
namespace Go.Proofs.YteeebfeljjghhaaGreat
open Go.RowKit Go.Proofs.YteeebfeljjghhaaGreatW.PrintWords
open NoC

set_option maxHeartbeats 8000000 in
set_option maxRecDepth 100000 in
theorem impl_MovesAlways (n : Net) (s : Int) (q : NA) (w : World) (hr : NetR 103 w n q) (hA : ∀ x ∈ n.arrs, x.length ≤ 1048576) :
  Calls Tryz.prog 26 #[.agg (netCells n q), .int .i64 s] w fun e w' => e = .returned (.bool (movesAlwaysN n s)) ∧ Below w.heap.size w w' := by
 have HR := Lib.hid hr
 have NBQ := Lib.hid hr.nb
 have HA := Lib.hid hA
 clear hA
 obtain ⟨a1, a2, a3, a4, a5, a6, a7, a8, c1, c2, c3, c4, c5, c6, c7, c8⟩ := q
 clear hr
 dsimp only [netCells]
 cases hk : canRunN n s
 ·have HE : Hid (movesAlwaysN n s = false) := Lib.hid (by simp [movesAlwaysN, hk])
  go_enter Tryz.func26, Tryz.ntmps26
  go_wp2_with (go_at_call 61; refine (impl_canRun n s _ _ (HR.out.below bel)).mono ?_; rintro e w1 ⟨he, hb1⟩; rw [hk] at he; subst he; obtain ⟨hc1, hf1, hz1⟩ := bcell hb1; (try simp only [szs] at hz1); have hb2 := (by first | exact bw_then hb2 hb1 | exact bw_then (bw_drewN _ hb2) hb1 | exact bw_then (bw_alloc _ hb2) hb1 | exact bw_then (bw_drew hb2) hb1 | exact bw_then HB hb1 | exact bw_then (bw_drewN _ HB) hb1 | exact bw_then (bw_alloc _ HB) hb1 | exact bw_then (bw_drew HB) hb1 | exact hb1); obtain ⟨hc2, hf2, hz2⟩ := bcell hb2; (try simp only [szs] at hz2); try (first | obtain ⟨hy1, hy2, hy3, hy4⟩ := lts4 hz2 | obtain ⟨hy1, hy2, hy3⟩ := lts3 hz2 | obtain ⟨hy1, hy2⟩ := lts2 hz2 | have hy1 := lts1 hz2); have hb9 := hb1)
  go_ret
  exact ⟨ret_bool HE.out.symm, bel⟩
 ·have HE : Hid (movesAlwaysN n s = movesFrom n 0 s.toNat) := Lib.hid (by simp [movesAlwaysN, hk])
  obtain ⟨ok, s0, s4, st⟩ := canRun_parts hk
  obtain ⟨S, hS⟩ : ∃ S : Nat, s = (S : Int) := ⟨s.toNat, by omega⟩
  subst hS
  rw [Int.toNat_natCast] at HE
  have HOK : Hid (∀ k : Nat, k ≤ S → netOk (runN n k) = true) := Lib.hid (fun k hk => runN_ok ok k (by omega))
  have hS4 : S ≤ 400 := by omega
  go_enter Tryz.func26, Tryz.ntmps26
  go_wp2_with fail
  refine (impl_canRun n S _ _ (HR.out.below bel)).mono ?_
  rintro e w2 ⟨he, hb2⟩
  rw [hk] at he
  subst he
  clear hk
  have XB : Box w2 w.heap.size #[.int .i64 n.mesh.g.w, .int .i64 n.mesh.g.h, .slice a1 n.mesh.br.length c1, .slice a2 n.pa.length c2, .slice a3 n.pb.length c3, .slice a4 n.bufs.length c4, .slice a5 n.owners.length c5, .slice a6 n.turns.length c6, .slice a7 n.srcs.length c7, .slice a8 n.arrs.length c8, .int .i64 n.time] := (Box.new w w.heap.size #[.int .i64 n.mesh.g.w, .int .i64 n.mesh.g.h, .slice a1 n.mesh.br.length c1, .slice a2 n.pa.length c2, .slice a3 n.pb.length c3, .slice a4 n.bufs.length c4, .slice a5 n.owners.length c5, .slice a6 n.turns.length c6, .slice a7 n.srcs.length c7, .slice a8 n.arrs.length c8, .int .i64 n.time] 43 rfl).below hb2
  have x0 : w2.cell? ⟨w.heap.size, 0, none⟩ = some (.int .i64 n.mesh.g.w) := XB.get 0
  have x1 : w2.cell? ⟨w.heap.size, 1, none⟩ = some (.int .i64 n.mesh.g.h) := XB.get 1
  have x2 : w2.cell? ⟨w.heap.size, 2, none⟩ = some (.slice a1 n.mesh.br.length c1) := XB.get 2
  have x3 : w2.cell? ⟨w.heap.size, 3, none⟩ = some (.slice a2 n.pa.length c2) := XB.get 3
  have x4 : w2.cell? ⟨w.heap.size, 4, none⟩ = some (.slice a3 n.pb.length c3) := XB.get 4
  have x5 : w2.cell? ⟨w.heap.size, 5, none⟩ = some (.slice a4 n.bufs.length c4) := XB.get 5
  have x6 : w2.cell? ⟨w.heap.size, 6, none⟩ = some (.slice a5 n.owners.length c5) := XB.get 6
  have x7 : w2.cell? ⟨w.heap.size, 7, none⟩ = some (.slice a6 n.turns.length c6) := XB.get 7
  have x8 : w2.cell? ⟨w.heap.size, 8, none⟩ = some (.slice a7 n.srcs.length c7) := XB.get 8
  have x9 : w2.cell? ⟨w.heap.size, 9, none⟩ = some (.slice a8 n.arrs.length c8) := XB.get 9
  have x10 : w2.cell? ⟨w.heap.size, 10, none⟩ = some (.int .i64 n.time) := XB.get 10
  have xbl := XB.lt
  have HW2 : Hid (Below w.heap.size w w2) := Lib.hid (bw_then (bw_alloc _ (bw_refl w)) hb2)
  go_wp2_with fail
  refine (impl_copyNet n _ _ (HR.out.below HW2.out)).mono ?_
  rintro e w1 ⟨hg1, HBC⟩
  obtain ⟨qq, v4, v7, v8, rfl, HN0⟩ := hg1
  obtain ⟨b1, b2, b3, b4, b5, b6, b7, b8, d1, d2, d3, d4, d5, d6, d7, d8⟩ := qq
  dsimp only [netCells]
  obtain ⟨w0, e0⟩ : ∃ z, z = w1.alloc (.cells #[.int .i64 n.mesh.g.w, .int .i64 n.mesh.g.h, .slice b1 n.mesh.br.length d1, .slice b2 n.pa.length d2, .slice b3 n.pb.length d3, .slice b4 n.bufs.length d4, .slice b5 n.owners.length d5, .slice b6 n.turns.length d6, .slice b7 n.srcs.length d7, .slice b8 n.arrs.length d8, .int .i64 n.time] 43) := ⟨_, rfl⟩
  have hz0 : w0.heap.size = w1.heap.size + 1 := by rw [e0]; simp only [szs]
  have hw01 : Below w1.heap.size w1 w0 := by rw [e0]; exact bw_alloc _ (bw_refl w1)
  obtain ⟨bx, ebx⟩ : ∃ z, z = w1.heap.size := ⟨_, rfl⟩
  have HBT : Hid (BT w0 bx n ⟨b1, b2, b3, b4, b5, b6, b7, b8, d1, d2, d3, d4, d5, d6, d7, d8⟩) := Lib.hid (by rw [e0, ebx]; exact blk_new w1 _)
  obtain ⟨lo, elo⟩ : ∃ z, z = w2.heap.size := ⟨_, rfl⟩
  have HN : Hid (NX w0 lo n ⟨b1, b2, b3, b4, b5, b6, b7, b8, d1, d2, d3, d4, d5, d6, d7, d8⟩ v4 v7 v8) := Lib.hid ((HN0.lower (by omega)).below hw01)
  have HHB : Hid (Below w.heap.size w w0) := Lib.hid (bw_then (bw_then HW2.out HBC) hw01)
  have sw := bw_size HBC
  have sw2 := bw_size HW2.out
  have sl3 : lo ≤ bx := by omega
  have sl4 : lo ≤ w0.heap.size := by omega
  have sl5 : w.heap.size ≤ lo := by omega
  clear HN0 HBC hw01 XB xbl hb2
  repeat (first | clear x0 | clear x1 | clear x2 | clear x3 | clear x4 | clear x5 | clear x6 | clear x7 | clear x8 | clear x9 | clear x10)
  go_wp2_with fail
  rw [← e0]
  try rw [← ebx]
  clear e0 ebx hz0
  go_loopw [13] (fun i wr => ∃ (k : Nat) (q' : NA) (u4 u7 u8 : List Value), i = .int .i64 k ∧ k ≤ S ∧ Hid (NX wr lo (runN n k) q' u4 u7 u8) ∧ Hid (BT wr bx (runN n k) q') ∧ Hid (Below lo w0 wr) ∧ Hid (movesFrom n 0 S = movesFrom n k (S - k))) (fun i _ => S - (intOf i).toNat)
  case atStart => exact ⟨0, _, v4, v7, v8, rfl, Nat.zero_le _, Lib.hid HN.out, Lib.hid HBT.out, Lib.hid (Below.cut (Below.refl _ _) sl4), Lib.hid rfl⟩
  case round =>
   clear HN HBT
   obtain ⟨k, q', u4, u7, u8, rfl, hk, HNk, HBk, HLk, HIk⟩ := hrel
   by_cases hlt : k < S
   ·have e41 : S - k = (S - (k + 1)) + 1 := by omega
    rw [e41] at HIk
    have HRk := Lib.hid (HNk.out.reads (run_nb NBQ.out HA.out k (by omega) (HOK.out k (by omega))))
    cases hi : stuckN (runN n k)
    ·have HI2 : Hid (movesFrom n 0 S = movesFrom n (k + 1) (S - (k + 1))) := Lib.hid (HIk.out.trans (movesFrom_no hi))
     clear e41
     go_wp2_with fail
     refine (impl_isStuck (runN n k) q' bx _ HRk.out HBk.out.box (HOK.out k (by omega))).mono ?_
     rintro e w5 ⟨rfl, hb5⟩
     replace HNk := Lib.hid (HNk.out.below hb5)
     replace HBk := Lib.hid (HBk.out.below hb5)
     replace HLk : Hid (Below lo w0 w5) := Lib.hid (below_then HLk.out (Nat.le_trans sl4 HLk.out.size) hb5)
     clear HRk hb5
     go_wp2_with fail
     refine (impl_step (runN n k) q' bx lo u4 u7 u8 _ HNk.out HBk.out (run_nb NBQ.out HA.out k (by omega) (HOK.out k (by omega))) (HOK.out k (by omega)) sl3 (Nat.le_trans sl4 HLk.out.size)).mono ?_
     rintro e w3 ⟨rfl, ⟨q3, y4, y7, y8, hn3, hb3⟩, hl3⟩
     have HN3 := Lib.hid hn3
     have HB3 := Lib.hid hb3
     have HL3 : Hid (Below lo w0 w3) := Lib.hid (bw_trans HLk.out hl3 (Nat.le_refl _))
     clear hn3 hb3 hl3
     go_wp2
     go_roundw
     case rel => exact ⟨k + 1, q3, y4, y7, y8, by go_num, by omega, Lib.hid HN3.out, Lib.hid HB3.out, Lib.hid HL3.out, Lib.hid HI2.out⟩
     case measure => simp [intOf]; omega
    ·have HI2 : Hid (movesAlwaysN n (S : Int) = false) := Lib.hid (HE.out.trans (HIk.out.trans (movesFrom_yes hi)))
     clear e41
     go_wp2_with fail
     refine (impl_isStuck (runN n k) q' bx _ HRk.out HBk.out.box (HOK.out k (by omega))).mono ?_
     rintro e w5 ⟨rfl, hb5⟩
     replace HNk := Lib.hid (HNk.out.below hb5)
     replace HBk := Lib.hid (HBk.out.below hb5)
     replace HLk : Hid (Below lo w0 w5) := Lib.hid (below_then HLk.out (Nat.le_trans sl4 HLk.out.size) hb5)
     clear HRk hb5
     go_wp2
     go_ret
     exact ⟨ret_bool HI2.out.symm, bw_trans HHB.out HLk.out sl5⟩
   ·obtain rfl : k = S := by omega
    have HI2 : Hid (movesAlwaysN n (k : Int) = true) := Lib.hid (by rw [HE.out, HIk.out, Nat.sub_self]; rfl)
    go_wp2
    go_ret
    exact ⟨ret_bool HI2.out.symm, bw_trans HHB.out HLk.out sl5⟩
end Go.Proofs.YteeebfeljjghhaaGreat
/- Steps and runs of a network: the reference's side, second part. -/
set_option linter.unusedVariables false
set_option linter.unusedSimpArgs false
namespace Go.Proofs.YteeebfeljjghhaaGreat
open Go.RowKit Go.Proofs.YteeebfeljjghhaaGreatW.PrintWords
open NoC

theorem run_nb1 {n : Net} (nb : NB n) (hA : ∀ x ∈ n.arrs, x.length ≤ 1048576) (k : Nat) (hk : k ≤ 999) (ok : netOk (runN n k) = true) : NB (runN n (k + 1)) := by
  obtain ⟨e1, e2, e3⟩ := run_parts n (k + 1)
  have L := run_lens n (k + 1)
  have L0 := run_lens n k
  refine ⟨by rw [e1]; exact nb.h1, by rw [e2]; exact nb.h2, by rw [e3]; exact nb.h3, by rw [L.b]; exact nb.h4, by rw [L.o]; exact nb.h5, by rw [L.t]; exact nb.h6, by rw [L.s]; exact nb.h7, by rw [L.a]; exact nb.h8, fun x hx => ?_, fun x hx => ?_, fun x hx => ?_⟩
  · obtain ⟨i, hi, rfl⟩ := rl_of_mem hx
    have h1 := step_bufs ok i (by rw [L0.b, ← L.b]; exact hi)
    have h2 : (rl (runN n (k + 1)).bufs (i : Int)).length ≤ 3 := (bufOk_iff.1 h1).2
    omega
  · obtain ⟨i, hi, rfl⟩ := rl_of_mem hx
    obtain ⟨c, s1, s2, s3, s4, s5, hb, hs, _⟩ := netOk_parts ok
    have h1 := hs i (by rw [L0.s, ← L.s]; exact hi)
    simp only [srcOk, Bool.and_eq_true, decide_eq_true_eq] at h1
    have h2 := (enter_rows (runN n k) i (enteringN (runN n k)) (afterPush (runN n k))).2
    have e : (afterPush (runN n k)).srcs = (runN n k).srcs := by unfold afterPush; rw [pushL_srcs]; rfl
    rw [e] at h2
    have h3 : (rl (runN n (k + 1)).srcs (i : Int)).length ≤ (rl (runN n k).srcs (i : Int)).length := h2
    omega
  · obtain ⟨i, hi, rfl⟩ := rl_of_mem hx
    have h1 := run_arrs n i (k + 1)
    have hi2 : i < n.arrs.length := by rw [← L.a]; exact hi
    have h2 := hA _ (rl_mem hi2)
    omega
end Go.Proofs.YteeebfeljjghhaaGreat
/- Steps and runs of a network: the reference's side, third part. -/
set_option linter.unusedVariables false
set_option linter.unusedSimpArgs false
namespace Go.Proofs.YteeebfeljjghhaaGreat
open Go.RowKit Go.Proofs.YteeebfeljjghhaaGreatW.PrintWords
open NoC

set_option maxHeartbeats 16000000 in
set_option maxRecDepth 100000 in
theorem spec_MovesAlways (n : Net) (s : Int) (q : NA) (w : World) (hr : NetR 103 w n q) (hA : ∀ x ∈ n.arrs, x.length ≤ 1048576) :
  Calls Tryz.prog 25 #[.agg (netCells n q), .int .i64 s] w fun e w' => e = .returned (.bool (movesAlwaysN n s)) ∧ Below w.heap.size w w' := by
 have HA := Lib.hid hA
 clear hA
 have HR := Lib.hid hr
 have NBQ := Lib.hid hr.nb
 obtain ⟨a1, a2, a3, a4, a5, a6, a7, a8, c1, c2, c3, c4, c5, c6, c7, c8⟩ := q
 clear hr
 dsimp only [netCells]

 cases hc : canRunN n s
 case false =>
  have HE : Hid (movesAlwaysN n s = false) := Lib.hid (by simp [movesAlwaysN, hc])
  cases hk : netOk n
  ·clear hc
   go_enter Tryz.func25, Tryz.ntmps25
   go_wp2_with (go_at_call 37; refine (spec_NetOk n _ _ (HR.out.below bel)).mono ?_; rintro e w1 ⟨rfl, hb1⟩; obtain ⟨hc1, hf1, hz1⟩ := bcell hb1; (try simp only [szs] at hz1); have hb2 := (by first | exact bw_then hb2 hb1 | exact bw_then (bw_drewN _ hb2) hb1 | exact bw_then (bw_alloc _ hb2) hb1 | exact bw_then (bw_drew hb2) hb1 | exact bw_then HB hb1 | exact bw_then (bw_drewN _ HB) hb1 | exact bw_then (bw_alloc _ HB) hb1 | exact bw_then (bw_drew HB) hb1 | exact hb1); obtain ⟨hc2, hf2, hz2⟩ := bcell hb2; (try simp only [szs] at hz2); try (first | obtain ⟨hy1, hy2, hy3, hy4⟩ := lts4 hz2 | obtain ⟨hy1, hy2, hy3⟩ := lts3 hz2 | obtain ⟨hy1, hy2⟩ := lts2 hz2 | have hy1 := lts1 hz2); have hb9 := hb1)
   go_ret
   exact ⟨ret_bool HE.out.symm, bel⟩
  cases hi : inside s 0 400
  ·clear hc
   go_enter Tryz.func25, Tryz.ntmps25
   go_wp2_with (first | (go_at_call 37; refine (spec_NetOk n _ _ (HR.out.below bel)).mono ?_; rintro e w1 ⟨rfl, hb1⟩; obtain ⟨hc1, hf1, hz1⟩ := bcell hb1; (try simp only [szs] at hz1); have hb2 := (by first | exact bw_then hb2 hb1 | exact bw_then (bw_drewN _ hb2) hb1 | exact bw_then (bw_alloc _ hb2) hb1 | exact bw_then (bw_drew hb2) hb1 | exact bw_then HB hb1 | exact bw_then (bw_drewN _ HB) hb1 | exact bw_then (bw_alloc _ HB) hb1 | exact bw_then (bw_drew HB) hb1 | exact hb1); obtain ⟨hc2, hf2, hz2⟩ := bcell hb2; (try simp only [szs] at hz2); try (first | obtain ⟨hy1, hy2, hy3, hy4⟩ := lts4 hz2 | obtain ⟨hy1, hy2, hy3⟩ := lts3 hz2 | obtain ⟨hy1, hy2⟩ := lts2 hz2 | have hy1 := lts1 hz2); have hb9 := hb1) | (go_at_call 59; refine (spec_l01In _ _ _ _).mono ?_; rintro e w' ⟨rfl, rfl⟩))
   go_ret
   exact ⟨ret_bool HE.out.symm, bel⟩
  ·have ht : ¬ n.time + s ≤ 1000000 := by
    intro h
    simp [canRunN, hk, hi, h] at hc
   have hi' := inside_iff.1 hi
   have ti := time_ok hk
   have ht2 : (1000000 : Int) < n.time + s := by omega
   clear hc ht
   go_enter Tryz.func25, Tryz.ntmps25
   go_wp2_with (first | (go_at_call 37; refine (spec_NetOk n _ _ (HR.out.below bel)).mono ?_; rintro e w1 ⟨rfl, hb1⟩; obtain ⟨hc1, hf1, hz1⟩ := bcell hb1; (try simp only [szs] at hz1); have hb2 := (by first | exact bw_then hb2 hb1 | exact bw_then (bw_drewN _ hb2) hb1 | exact bw_then (bw_alloc _ hb2) hb1 | exact bw_then (bw_drew hb2) hb1 | exact bw_then HB hb1 | exact bw_then (bw_drewN _ HB) hb1 | exact bw_then (bw_alloc _ HB) hb1 | exact bw_then (bw_drew HB) hb1 | exact hb1); obtain ⟨hc2, hf2, hz2⟩ := bcell hb2; (try simp only [szs] at hz2); try (first | obtain ⟨hy1, hy2, hy3, hy4⟩ := lts4 hz2 | obtain ⟨hy1, hy2, hy3⟩ := lts3 hz2 | obtain ⟨hy1, hy2⟩ := lts2 hz2 | have hy1 := lts1 hz2); have hb9 := hb1) | (go_at_call 59; refine (spec_l01In _ _ _ _).mono ?_; rintro e w' ⟨rfl, rfl⟩))
   go_ret
   exact ⟨ret_bool HE.out.symm, bel⟩

 case true =>
  have HE : Hid (movesAlwaysN n s = movesFrom n 0 s.toNat) := Lib.hid (by simp [movesAlwaysN, hc])
  obtain ⟨ok, s0, s4, st⟩ := canRun_parts hc
  have hin : inside s 0 400 = true := inside_iff.2 ⟨s0, s4⟩
  have ti := time_ok ok
  obtain ⟨S, hS⟩ : ∃ S : Nat, s = (S : Int) := ⟨s.toNat, by omega⟩
  subst hS
  rw [Int.toNat_natCast] at HE
  have HOK : Hid (∀ k : Nat, k ≤ S → netOk (runN n k) = true) := Lib.hid (fun k hk => runN_ok ok k (by omega))
  have hS4 : S ≤ 400 := by omega
  clear hc
  go_enter Tryz.func25, Tryz.ntmps25
  go_wp2_with fail
  refine (spec_NetOk n _ _ (HR.out.below bel)).mono ?_
  rintro e w2 ⟨he, hb2⟩
  rw [ok] at he
  subst he
  have HX2 : Hid (Box w2 w.heap.size #[.int .i64 n.mesh.g.w, .int .i64 n.mesh.g.h, .slice a1 n.mesh.br.length c1, .slice a2 n.pa.length c2, .slice a3 n.pb.length c3, .slice a4 n.bufs.length c4, .slice a5 n.owners.length c5, .slice a6 n.turns.length c6, .slice a7 n.srcs.length c7, .slice a8 n.arrs.length c8, .int .i64 n.time]) := Lib.hid ((Box.new w w.heap.size #[.int .i64 n.mesh.g.w, .int .i64 n.mesh.g.h, .slice a1 n.mesh.br.length c1, .slice a2 n.pa.length c2, .slice a3 n.pb.length c3, .slice a4 n.bufs.length c4, .slice a5 n.owners.length c5, .slice a6 n.turns.length c6, .slice a7 n.srcs.length c7, .slice a8 n.arrs.length c8, .int .i64 n.time] 43 rfl).below hb2)
  have HWB : Hid (Below w.heap.size w w2) := Lib.hid (bw_then (bw_alloc _ (bw_refl w)) hb2)
  have zz2 := bw_size hb2
  simp only [szs] at zz2
  clear hb2
  have x0 : w2.cell? ⟨w.heap.size, 0, none⟩ = some (.int .i64 n.mesh.g.w) := HX2.out.get 0
  have x1 : w2.cell? ⟨w.heap.size, 1, none⟩ = some (.int .i64 n.mesh.g.h) := HX2.out.get 1
  have x2 : w2.cell? ⟨w.heap.size, 2, none⟩ = some (.slice a1 n.mesh.br.length c1) := HX2.out.get 2
  have x3 : w2.cell? ⟨w.heap.size, 3, none⟩ = some (.slice a2 n.pa.length c2) := HX2.out.get 3
  have x4 : w2.cell? ⟨w.heap.size, 4, none⟩ = some (.slice a3 n.pb.length c3) := HX2.out.get 4
  have x5 : w2.cell? ⟨w.heap.size, 5, none⟩ = some (.slice a4 n.bufs.length c4) := HX2.out.get 5
  have x6 : w2.cell? ⟨w.heap.size, 6, none⟩ = some (.slice a5 n.owners.length c5) := HX2.out.get 6
  have x7 : w2.cell? ⟨w.heap.size, 7, none⟩ = some (.slice a6 n.turns.length c6) := HX2.out.get 7
  have x8 : w2.cell? ⟨w.heap.size, 8, none⟩ = some (.slice a7 n.srcs.length c7) := HX2.out.get 8
  have x9 : w2.cell? ⟨w.heap.size, 9, none⟩ = some (.slice a8 n.arrs.length c8) := HX2.out.get 9
  have x10 : w2.cell? ⟨w.heap.size, 10, none⟩ = some (.int .i64 n.time) := HX2.out.get 10
  have xl := HX2.out.lt
  go_wp2_with fail
  refine (spec_l01In (S : Int) 0 400 _).mono ?_
  rintro e w3 ⟨he, rfl⟩
  rw [hin] at he
  subst he
  clear hin ok
  obtain ⟨w0, e0⟩ : ∃ z, z = w2.alloc (.cells #[.int .i64 n.mesh.g.w, .int .i64 n.mesh.g.h, .slice a1 n.mesh.br.length c1, .slice a2 n.pa.length c2, .slice a3 n.pb.length c3, .slice a4 n.bufs.length c4, .slice a5 n.owners.length c5, .slice a6 n.turns.length c6, .slice a7 n.srcs.length c7, .slice a8 n.arrs.length c8, .int .i64 n.time] 43) := ⟨_, rfl⟩
  have hz0 : w0.heap.size = w2.heap.size + 1 := by rw [e0]; simp only [szs]
  have hw01 : Below w2.heap.size w2 w0 := by rw [e0]; exact bw_alloc _ (bw_refl w2)
  obtain ⟨bx, ebx⟩ : ∃ z, z = w2.heap.size := ⟨_, rfl⟩
  have HBT : Hid (BT w0 bx n ⟨a1, a2, a3, a4, a5, a6, a7, a8, c1, c2, c3, c4, c5, c6, c7, c8⟩) := Lib.hid (by rw [e0, ebx]; exact blk_new w2 _)
  have HHB : Hid (Below w.heap.size w w0) := Lib.hid (bw_then HWB.out hw01)
  have sbx : w.heap.size ≤ bx := by omega
  have sw0 : w.heap.size ≤ w0.heap.size := by omega
  go_wp2_with fail
  rw [← e0]
  try rw [← ebx]
  repeat (first | clear x0 | clear x1 | clear x2 | clear x3 | clear x4 | clear x5 | clear x6 | clear x7 | clear x8 | clear x9 | clear x10)
  clear e0 ebx hz0
  go_loopw [6] (fun i wr => ∃ (k : Nat) (q' : NA), i = .int .i64 k ∧ k ≤ S ∧ Hid (NetR 103 wr (runN n k) q') ∧ Hid (BT wr bx (runN n k) q') ∧ Hid (Below w.heap.size w wr) ∧ Hid (movesFrom n 0 S = movesFrom n k (S - k))) (fun i _ => S - (intOf i).toNat)
  case atStart => exact ⟨0, _, rfl, Nat.zero_le _, Lib.hid (HR.out.below HHB.out), Lib.hid HBT.out, Lib.hid HHB.out, Lib.hid rfl⟩
  case round =>
   clear HBT hw01 HX2 HWB
   obtain ⟨k, q', rfl, hk, HRk, HBk, HWk, HIk⟩ := hrel
   by_cases hlt : k < S
   ·have e41 : S - k = (S - (k + 1)) + 1 := by omega
    rw [e41] at HIk
    obtain ⟨wk, ewk⟩ : ∃ z, z = wr := ⟨_, rfl⟩
    subst ewk
    obtain ⟨p1, p2, p3, p4, p5, p6, p7, p8, r1, r2, r3, r4, r5, r6, r7, r8⟩ := q'
    obtain ⟨X, hX⟩ : ∃ X, runN n k = X := ⟨_, rfl⟩
    have HOX : Hid (netOk X = true) := Lib.hid (by rw [← hX]; exact HOK.out k (by omega))
    have HSX : Hid (runN n (k + 1) = stepN X) := Lib.hid (by rw [← hX]; rfl)
    have HNX : Hid (NB (stepN X)) := Lib.hid (by rw [← HSX.out]; exact run_nb1 NBQ.out HA.out k (by omega) (HOK.out k (by omega)))
    have HM1 : Hid (stuckN X = true → movesAlwaysN n (S : Int) = false) := Lib.hid (fun h => by rw [← hX] at h; exact HE.out.trans (HIk.out.trans (movesFrom_yes h)))
    have HM2 : Hid (stuckN X = false → movesFrom n 0 S = movesFrom n (k + 1) (S - (k + 1))) := Lib.hid (fun h => by rw [← hX] at h; exact HIk.out.trans (movesFrom_no h))
    rw [hX] at HRk HBk
    clear hX e41
    have z0 : wk.cell? ⟨bx, 0, none⟩ = some (.int .i64 X.mesh.g.w) := HBk.out.box.get 0
    have z1 : wk.cell? ⟨bx, 1, none⟩ = some (.int .i64 X.mesh.g.h) := HBk.out.box.get 1
    have z2 : wk.cell? ⟨bx, 2, none⟩ = some (.slice p1 X.mesh.br.length r1) := HBk.out.box.get 2
    have z3 : wk.cell? ⟨bx, 3, none⟩ = some (.slice p2 X.pa.length r2) := HBk.out.box.get 3
    have z4 : wk.cell? ⟨bx, 4, none⟩ = some (.slice p3 X.pb.length r3) := HBk.out.box.get 4
    have z5 : wk.cell? ⟨bx, 5, none⟩ = some (.slice p4 X.bufs.length r4) := HBk.out.box.get 5
    have z6 : wk.cell? ⟨bx, 6, none⟩ = some (.slice p5 X.owners.length r5) := HBk.out.box.get 6
    have z7 : wk.cell? ⟨bx, 7, none⟩ = some (.slice p6 X.turns.length r6) := HBk.out.box.get 7
    have z8 : wk.cell? ⟨bx, 8, none⟩ = some (.slice p7 X.srcs.length r7) := HBk.out.box.get 8
    have z9 : wk.cell? ⟨bx, 9, none⟩ = some (.slice p8 X.arrs.length r8) := HBk.out.box.get 9
    have z10 : wk.cell? ⟨bx, 10, none⟩ = some (.int .i64 X.time) := HBk.out.box.get 10
    have zl := HBk.out.lt
    have hgl := allGrants_len X
    have hel : (enteringN X).length ≤ 16 := Nat.le_trans (enterTo_len X X.srcs.length) (srcs_len HOX.out).1
    cases hi : idleN X
    ·have HI0 := Lib.hid hi
     by_cases hm : movesV X = 0
     ·have HM5 := Lib.hid (HM1.out (by simp [stuckN, hi, hm]))
      unfold movesV at hm
      have f1 : (IntKind.i64.wrap (((allGrants X).length : Int) + ((enteringN X).length : Int)) == 0) = true := by rw [(moves_wrap HOX.out).1, hm]; rfl
      clear hi hm
      go_wp2_with fail
      go_region_held3 (fun w' => Below (wk).heap.size (wk) w' ∧ ∀ bq oq, bq < (wk).heap.size → w'.cell? ⟨bq, oq, none⟩ = (wk).cell? ⟨bq, oq, none⟩) (first | exact far_of bel) ( first | (go_at_call 62; refine (spec_l20Idle X _ _ (HRk.out.below bel)).mono ?_; rintro e w1 ⟨he, hb1⟩; rw [HI0.out] at he; subst he; obtain ⟨hc1, hf1, hz1⟩ := bcell hb1; (try simp only [szs] at hz1); have hb2 := (by first | exact bw_then hb2 hb1 | exact bw_then (bw_drewN _ hb2) hb1 | exact bw_then (bw_alloc _ hb2) hb1 | exact bw_then (bw_drew hb2) hb1 | exact bw_then HB hb1 | exact bw_then (bw_drewN _ HB) hb1 | exact bw_then (bw_alloc _ HB) hb1 | exact bw_then (bw_drew HB) hb1 | exact hb1); obtain ⟨hc2, hf2, hz2⟩ := bcell hb2; (try simp only [szs] at hz2); try (first | obtain ⟨hy1, hy2, hy3, hy4⟩ := lts4 hz2 | obtain ⟨hy1, hy2, hy3⟩ := lts3 hz2 | obtain ⟨hy1, hy2⟩ := lts2 hz2 | have hy1 := lts1 hz2); have hb9 := hb1) | (go_at_call 63; refine (spec_l18All X _ _ (HRk.out.below bel) HOX.out).mono ?_; rintro e w1 ⟨hg1, hb1⟩; obtain ⟨A1, d1, rfl, hk1, hC1⟩ := hg1.read; obtain ⟨hc1, hf1, hz1⟩ := bcell hb1; (try simp only [szs] at hz1); have hb2 := (by first | exact bw_then hb2 hb1 | exact bw_then (bw_drewN _ hb2) hb1 | exact bw_then (bw_alloc _ hb2) hb1 | exact bw_then (bw_drew hb2) hb1 | exact bw_then HB hb1 | exact bw_then (bw_drewN _ HB) hb1 | exact bw_then (bw_alloc _ HB) hb1 | exact bw_then (bw_drew HB) hb1 | exact hb1); obtain ⟨hc2, hf2, hz2⟩ := bcell hb2; (try simp only [szs] at hz2); try (first | obtain ⟨hy1, hy2, hy3, hy4⟩ := lts4 hz2 | obtain ⟨hy1, hy2, hy3⟩ := lts3 hz2 | obtain ⟨hy1, hy2⟩ := lts2 hz2 | have hy1 := lts1 hz2); have hb9 := hb1) | (go_at_call 64; refine (spec_l19Entering X _ _ (HRk.out.below bel) HOX.out).mono ?_; rintro e w1 ⟨hg1, hb1⟩; obtain ⟨A1, c1, rfl, hk1, hr1⟩ := hg1.read; obtain ⟨hc1, hf1, hz1⟩ := bcell hb1; (try simp only [szs] at hz1); have hb2 := (by first | exact bw_then hb2 hb1 | exact bw_then (bw_drewN _ hb2) hb1 | exact bw_then (bw_alloc _ hb2) hb1 | exact bw_then (bw_drew hb2) hb1 | exact bw_then HB hb1 | exact bw_then (bw_drewN _ HB) hb1 | exact bw_then (bw_alloc _ HB) hb1 | exact bw_then (bw_drew HB) hb1 | exact hb1); obtain ⟨hc2, hf2, hz2⟩ := bcell hb2; (try simp only [szs] at hz2); try (first | obtain ⟨hy1, hy2, hy3, hy4⟩ := lts4 hz2 | obtain ⟨hy1, hy2, hy3⟩ := lts3 hz2 | obtain ⟨hy1, hy2⟩ := lts2 hz2 | have hy1 := lts1 hz2); have hb9 := hb1))
      all_goals
       go_wp2
       go_ret
       exact ⟨ret_bool HM5.out.symm, by have hb3 : Below wk.heap.size wk w1 := bel; exact bw_then HWk.out hb3⟩
     ·have HI4 := Lib.hid (HM2.out (by simp [stuckN, hi, hm]))
      unfold movesV at hm
      have f1 : (IntKind.i64.wrap (((allGrants X).length : Int) + ((enteringN X).length : Int)) == 0) = false := by rw [(moves_wrap HOX.out).1]; exact beq_eq_false_iff_ne.2 hm
      clear hi hm
      go_wp2_with fail
      go_region_held3 (fun w' => Below (wk).heap.size (wk) w' ∧ ∀ bq oq, bq < (wk).heap.size → w'.cell? ⟨bq, oq, none⟩ = (wk).cell? ⟨bq, oq, none⟩) (first | exact far_of bel) ( first | (go_at_call 62; refine (spec_l20Idle X _ _ (HRk.out.below bel)).mono ?_; rintro e w1 ⟨he, hb1⟩; rw [HI0.out] at he; subst he; obtain ⟨hc1, hf1, hz1⟩ := bcell hb1; (try simp only [szs] at hz1); have hb2 := (by first | exact bw_then hb2 hb1 | exact bw_then (bw_drewN _ hb2) hb1 | exact bw_then (bw_alloc _ hb2) hb1 | exact bw_then (bw_drew hb2) hb1 | exact bw_then HB hb1 | exact bw_then (bw_drewN _ HB) hb1 | exact bw_then (bw_alloc _ HB) hb1 | exact bw_then (bw_drew HB) hb1 | exact hb1); obtain ⟨hc2, hf2, hz2⟩ := bcell hb2; (try simp only [szs] at hz2); try (first | obtain ⟨hy1, hy2, hy3, hy4⟩ := lts4 hz2 | obtain ⟨hy1, hy2, hy3⟩ := lts3 hz2 | obtain ⟨hy1, hy2⟩ := lts2 hz2 | have hy1 := lts1 hz2); have hb9 := hb1) | (go_at_call 63; refine (spec_l18All X _ _ (HRk.out.below bel) HOX.out).mono ?_; rintro e w1 ⟨hg1, hb1⟩; obtain ⟨A1, d1, rfl, hk1, hC1⟩ := hg1.read; obtain ⟨hc1, hf1, hz1⟩ := bcell hb1; (try simp only [szs] at hz1); have hb2 := (by first | exact bw_then hb2 hb1 | exact bw_then (bw_drewN _ hb2) hb1 | exact bw_then (bw_alloc _ hb2) hb1 | exact bw_then (bw_drew hb2) hb1 | exact bw_then HB hb1 | exact bw_then (bw_drewN _ HB) hb1 | exact bw_then (bw_alloc _ HB) hb1 | exact bw_then (bw_drew HB) hb1 | exact hb1); obtain ⟨hc2, hf2, hz2⟩ := bcell hb2; (try simp only [szs] at hz2); try (first | obtain ⟨hy1, hy2, hy3, hy4⟩ := lts4 hz2 | obtain ⟨hy1, hy2, hy3⟩ := lts3 hz2 | obtain ⟨hy1, hy2⟩ := lts2 hz2 | have hy1 := lts1 hz2); have hb9 := hb1) | (go_at_call 64; refine (spec_l19Entering X _ _ (HRk.out.below bel) HOX.out).mono ?_; rintro e w1 ⟨hg1, hb1⟩; obtain ⟨A1, c1, rfl, hk1, hr1⟩ := hg1.read; obtain ⟨hc1, hf1, hz1⟩ := bcell hb1; (try simp only [szs] at hz1); have hb2 := (by first | exact bw_then hb2 hb1 | exact bw_then (bw_drewN _ hb2) hb1 | exact bw_then (bw_alloc _ hb2) hb1 | exact bw_then (bw_drew hb2) hb1 | exact bw_then HB hb1 | exact bw_then (bw_drewN _ HB) hb1 | exact bw_then (bw_alloc _ HB) hb1 | exact bw_then (bw_drew HB) hb1 | exact hb1); obtain ⟨hc2, hf2, hz2⟩ := bcell hb2; (try simp only [szs] at hz2); try (first | obtain ⟨hy1, hy2, hy3, hy4⟩ := lts4 hz2 | obtain ⟨hy1, hy2, hy3⟩ := lts3 hz2 | obtain ⟨hy1, hy2⟩ := lts2 hz2 | have hy1 := lts1 hz2); have hb9 := hb1))
      all_goals
       have hb6 : Below wk.heap.size wk w1 := bel
       repeat (first | clear hc1 | clear hf1 | clear hz1 | clear hb1 | clear hb9 | clear hc2 | clear hf2 | clear hz2 | clear hb2 | clear hy1 | clear hy2 | clear hy3 | clear hy4)
       obtain ⟨w6, rfl⟩ : ∃ z, z = w1 := ⟨_, rfl⟩
       have HR6 := Lib.hid (HRk.out.below hb6)
       have HB6 := Lib.hid (HBk.out.below hb6)
       have HW6 : Hid (Below w.heap.size w w6) := Lib.hid (bw_then HWk.out hb6)
       have zq0 : w6.cell? ⟨bx, 0, none⟩ = some (.int .i64 X.mesh.g.w) := HB6.out.box.get 0
       have zq1 : w6.cell? ⟨bx, 1, none⟩ = some (.int .i64 X.mesh.g.h) := HB6.out.box.get 1
       have zq2 : w6.cell? ⟨bx, 2, none⟩ = some (.slice p1 X.mesh.br.length r1) := HB6.out.box.get 2
       have zq3 : w6.cell? ⟨bx, 3, none⟩ = some (.slice p2 X.pa.length r2) := HB6.out.box.get 3
       have zq4 : w6.cell? ⟨bx, 4, none⟩ = some (.slice p3 X.pb.length r3) := HB6.out.box.get 4
       have zq5 : w6.cell? ⟨bx, 5, none⟩ = some (.slice p4 X.bufs.length r4) := HB6.out.box.get 5
       have zq6 : w6.cell? ⟨bx, 6, none⟩ = some (.slice p5 X.owners.length r5) := HB6.out.box.get 6
       have zq7 : w6.cell? ⟨bx, 7, none⟩ = some (.slice p6 X.turns.length r6) := HB6.out.box.get 7
       have zq8 : w6.cell? ⟨bx, 8, none⟩ = some (.slice p7 X.srcs.length r7) := HB6.out.box.get 8
       have zq9 : w6.cell? ⟨bx, 9, none⟩ = some (.slice p8 X.arrs.length r8) := HB6.out.box.get 9
       have zq10 : w6.cell? ⟨bx, 10, none⟩ = some (.int .i64 X.time) := HB6.out.box.get 10
       have zl9 := HB6.out.lt
       go_wp2_with fail
       refine (spec_l19Step X ⟨p1, p2, p3, p4, p5, p6, p7, p8, r1, r2, r3, r4, r5, r6, r7, r8⟩ _ HR6.out HOX.out).mono ?_
       rintro e w4 ⟨hg4, hb4⟩
       obtain ⟨q4, y4, y7, y8, rfl, HN0⟩ := hg4
       obtain ⟨s1, s2, s3, s4, s5, s6, s7, s8, t1, t2, t3, t4, t5, t6, t7, t8⟩ := q4
       dsimp only [netCells]
       have HN4 := Lib.hid HN0
       have HB4 : Hid (BN w4 bx) := Lib.hid ((HB6.out.below hb4).bn)
       have HW4 : Hid (Below w.heap.size w w4) := Lib.hid (bw_then HW6.out hb4)
       clear HN0 hb4
       repeat (first | clear z0 | clear z1 | clear z2 | clear z3 | clear z4 | clear z5 | clear z6 | clear z7 | clear z8 | clear z9 | clear z10 | clear zq0 | clear zq1 | clear zq2 | clear zq3 | clear zq4 | clear zq5 | clear zq6 | clear zq7 | clear zq8 | clear zq9 | clear zq10)
       obtain ⟨ry0, rv0⟩ := HB4.out.get 0 (by omega)
       have rz0 := HB4.out.frozen 0
       obtain ⟨ry1, rv1⟩ := HB4.out.get 1 (by omega)
       have rz1 := HB4.out.frozen 1
       obtain ⟨ry2, rv2⟩ := HB4.out.get 2 (by omega)
       have rz2 := HB4.out.frozen 2
       obtain ⟨ry3, rv3⟩ := HB4.out.get 3 (by omega)
       have rz3 := HB4.out.frozen 3
       obtain ⟨ry4, rv4⟩ := HB4.out.get 4 (by omega)
       have rz4 := HB4.out.frozen 4
       obtain ⟨ry5, rv5⟩ := HB4.out.get 5 (by omega)
       have rz5 := HB4.out.frozen 5
       obtain ⟨ry6, rv6⟩ := HB4.out.get 6 (by omega)
       have rz6 := HB4.out.frozen 6
       obtain ⟨ry7, rv7⟩ := HB4.out.get 7 (by omega)
       have rz7 := HB4.out.frozen 7
       obtain ⟨ry8, rv8⟩ := HB4.out.get 8 (by omega)
       have rz8 := HB4.out.frozen 8
       obtain ⟨ry9, rv9⟩ := HB4.out.get 9 (by omega)
       have rz9 := HB4.out.frozen 9
       obtain ⟨ry10, rv10⟩ := HB4.out.get 10 (by omega)
       have rz10 := HB4.out.frozen 10
       obtain ⟨Y, hY⟩ : ∃ Y, stepN X = Y := ⟨_, rfl⟩
       rw [hY] at HN4 HSX HNX
       try rw [hY]
       clear hY
       go_wp2
       obtain ⟨W9, e9⟩ : ∃ z, z = putN w4 bx Y ⟨s1, s2, s3, s4, s5, s6, s7, s8, t1, t2, t3, t4, t5, t6, t7, t8⟩ := ⟨_, rfl⟩
       have HB9 : Hid (BT W9 bx Y ⟨s1, s2, s3, s4, s5, s6, s7, s8, t1, t2, t3, t4, t5, t6, t7, t8⟩) := Lib.hid (by rw [e9]; exact putN_BT HB4.out)
       have HN9 := Lib.hid (show NX W9 _ Y ⟨s1, s2, s3, s4, s5, s6, s7, s8, t1, t2, t3, t4, t5, t6, t7, t8⟩ y4 y7 y8 from by rw [e9]; exact HN4.out.put HB4.out)
       have HL9 : Hid (Below w.heap.size w W9) := Lib.hid (by rw [e9]; exact below_put HW4.out sbx)
       unfold putN at e9
       try dsimp only at e9
       rw [← e9]
       clear e9
       go_roundw
       case rel => exact ⟨k + 1, ⟨s1, s2, s3, s4, s5, s6, s7, s8, t1, t2, t3, t4, t5, t6, t7, t8⟩, by go_num, by omega, Lib.hid (by rw [HSX.out]; exact HN9.out.reads HNX.out), Lib.hid (by rw [HSX.out]; exact HB9.out), Lib.hid HL9.out, Lib.hid HI4.out⟩
       case measure => simp [intOf]; omega
    ·have HI0 := Lib.hid hi
     have HI4 := Lib.hid (HM2.out (by simp [stuckN, hi]))
     have HCALL : Hid (∀ W : World, Below wk.heap.size wk W → Calls Tryz.prog 62 #[.agg (netCells X ⟨p1, p2, p3, p4, p5, p6, p7, p8, r1, r2, r3, r4, r5, r6, r7, r8⟩)] W fun e w' => e = .returned (.bool true) ∧ Below W.heap.size W w') := Lib.hid (fun W hb => Calls.says (spec_l20Idle X ⟨p1, p2, p3, p4, p5, p6, p7, p8, r1, r2, r3, r4, r5, r6, r7, r8⟩ W (HRk.out.below hb)) (congrArg Value.bool HI0.out))
     dsimp only [netCells] at HCALL
     clear hi
     go_wp2_with fail
     refine wp_region_far (wk) (by kernel_rfl) (by kernel_rfl) bel ?_
     have hqc := far_cell (wk)
     have hqf := far_frozen (wk)
     repeat (first | go_big_quiet_step ((go_at_call 62; exact far_call (HCALL.out _ (Far.h _)))) | quiet_step ((go_at_call 62; exact far_call (HCALL.out _ (Far.h _)))))
     refine wpQuiet_nil ?_
     intro wq hbq
     clear hqc hqf
     obtain ⟨hcq, hfq, hzq⟩ := bcell hbq
     try simp only [szs] at hzq
     have HR6 := Lib.hid (HRk.out.below hbq)
     have HB6 := Lib.hid (HBk.out.below hbq)
     have HW6 : Hid (Below w.heap.size w wq) := Lib.hid (bw_then HWk.out hbq)
     clear hcq hfq hzq hbq
     obtain ⟨w6, rfl⟩ : ∃ z, z = wq := ⟨_, rfl⟩
     have zq0 : w6.cell? ⟨bx, 0, none⟩ = some (.int .i64 X.mesh.g.w) := HB6.out.box.get 0
     have zq1 : w6.cell? ⟨bx, 1, none⟩ = some (.int .i64 X.mesh.g.h) := HB6.out.box.get 1
     have zq2 : w6.cell? ⟨bx, 2, none⟩ = some (.slice p1 X.mesh.br.length r1) := HB6.out.box.get 2
     have zq3 : w6.cell? ⟨bx, 3, none⟩ = some (.slice p2 X.pa.length r2) := HB6.out.box.get 3
     have zq4 : w6.cell? ⟨bx, 4, none⟩ = some (.slice p3 X.pb.length r3) := HB6.out.box.get 4
     have zq5 : w6.cell? ⟨bx, 5, none⟩ = some (.slice p4 X.bufs.length r4) := HB6.out.box.get 5
     have zq6 : w6.cell? ⟨bx, 6, none⟩ = some (.slice p5 X.owners.length r5) := HB6.out.box.get 6
     have zq7 : w6.cell? ⟨bx, 7, none⟩ = some (.slice p6 X.turns.length r6) := HB6.out.box.get 7
     have zq8 : w6.cell? ⟨bx, 8, none⟩ = some (.slice p7 X.srcs.length r7) := HB6.out.box.get 8
     have zq9 : w6.cell? ⟨bx, 9, none⟩ = some (.slice p8 X.arrs.length r8) := HB6.out.box.get 9
     have zq10 : w6.cell? ⟨bx, 10, none⟩ = some (.int .i64 X.time) := HB6.out.box.get 10
     have zl9 := HB6.out.lt
     go_wp2_with fail
     refine (spec_l19Step X ⟨p1, p2, p3, p4, p5, p6, p7, p8, r1, r2, r3, r4, r5, r6, r7, r8⟩ _ HR6.out HOX.out).mono ?_
     rintro e w4 ⟨hg4, hb4⟩
     obtain ⟨q4, y4, y7, y8, rfl, HN0⟩ := hg4
     obtain ⟨s1, s2, s3, s4, s5, s6, s7, s8, t1, t2, t3, t4, t5, t6, t7, t8⟩ := q4
     dsimp only [netCells]
     have HN4 := Lib.hid HN0
     have HB4 : Hid (BN w4 bx) := Lib.hid ((HB6.out.below hb4).bn)
     have HW4 : Hid (Below w.heap.size w w4) := Lib.hid (bw_then HW6.out hb4)
     clear HN0 hb4
     repeat (first | clear z0 | clear z1 | clear z2 | clear z3 | clear z4 | clear z5 | clear z6 | clear z7 | clear z8 | clear z9 | clear z10 | clear zq0 | clear zq1 | clear zq2 | clear zq3 | clear zq4 | clear zq5 | clear zq6 | clear zq7 | clear zq8 | clear zq9 | clear zq10)
     obtain ⟨ry0, rv0⟩ := HB4.out.get 0 (by omega)
     have rz0 := HB4.out.frozen 0
     obtain ⟨ry1, rv1⟩ := HB4.out.get 1 (by omega)
     have rz1 := HB4.out.frozen 1
     obtain ⟨ry2, rv2⟩ := HB4.out.get 2 (by omega)
     have rz2 := HB4.out.frozen 2
     obtain ⟨ry3, rv3⟩ := HB4.out.get 3 (by omega)
     have rz3 := HB4.out.frozen 3
     obtain ⟨ry4, rv4⟩ := HB4.out.get 4 (by omega)
     have rz4 := HB4.out.frozen 4
     obtain ⟨ry5, rv5⟩ := HB4.out.get 5 (by omega)
     have rz5 := HB4.out.frozen 5
     obtain ⟨ry6, rv6⟩ := HB4.out.get 6 (by omega)
     have rz6 := HB4.out.frozen 6
     obtain ⟨ry7, rv7⟩ := HB4.out.get 7 (by omega)
     have rz7 := HB4.out.frozen 7
     obtain ⟨ry8, rv8⟩ := HB4.out.get 8 (by omega)
     have rz8 := HB4.out.frozen 8
     obtain ⟨ry9, rv9⟩ := HB4.out.get 9 (by omega)
     have rz9 := HB4.out.frozen 9
     obtain ⟨ry10, rv10⟩ := HB4.out.get 10 (by omega)
     have rz10 := HB4.out.frozen 10
     obtain ⟨Y, hY⟩ : ∃ Y, stepN X = Y := ⟨_, rfl⟩
     rw [hY] at HN4 HSX HNX
     try rw [hY]
     clear hY
     go_wp2
     obtain ⟨W9, e9⟩ : ∃ z, z = putN w4 bx Y ⟨s1, s2, s3, s4, s5, s6, s7, s8, t1, t2, t3, t4, t5, t6, t7, t8⟩ := ⟨_, rfl⟩
     have HB9 : Hid (BT W9 bx Y ⟨s1, s2, s3, s4, s5, s6, s7, s8, t1, t2, t3, t4, t5, t6, t7, t8⟩) := Lib.hid (by rw [e9]; exact putN_BT HB4.out)
     have HN9 := Lib.hid (show NX W9 _ Y ⟨s1, s2, s3, s4, s5, s6, s7, s8, t1, t2, t3, t4, t5, t6, t7, t8⟩ y4 y7 y8 from by rw [e9]; exact HN4.out.put HB4.out)
     have HL9 : Hid (Below w.heap.size w W9) := Lib.hid (by rw [e9]; exact below_put HW4.out sbx)
     unfold putN at e9
     try dsimp only at e9
     rw [← e9]
     clear e9
     go_roundw
     case rel => exact ⟨k + 1, ⟨s1, s2, s3, s4, s5, s6, s7, s8, t1, t2, t3, t4, t5, t6, t7, t8⟩, by go_num, by omega, Lib.hid (by rw [HSX.out]; exact HN9.out.reads HNX.out), Lib.hid (by rw [HSX.out]; exact HB9.out), Lib.hid HL9.out, Lib.hid HI4.out⟩
     case measure => simp [intOf]; omega
   ·obtain rfl : k = S := by omega
    have HI2 : Hid (movesAlwaysN n (k : Int) = true) := Lib.hid (by rw [HE.out, HIk.out, Nat.sub_self]; rfl)
    go_wp2
    go_ret
    exact ⟨ret_bool HI2.out.symm, HWk.out⟩
end Go.Proofs.YteeebfeljjghhaaGreat
/- The law FnExactMovesAlways, walked: it answers true for all arguments. -/
set_option linter.unusedVariables false
set_option linter.unusedSimpArgs false
namespace Go.Proofs.YteeebfeljjghhaaGreat
open Go.RowKit Go.Proofs.YteeebfeljjghhaaGreatW.PrintWords
open NoC

set_option maxHeartbeats 8000000 in
set_option maxRecDepth 100000 in
theorem law_MovesAlways (n : Net) (steps : Int) (q : NA) (w : World) (hn : NetC w n q) :
    Calls Tryz.prog 8 #[.agg (netCells n q), .int .i64 steps] w fun e w' => e = .returned (.bool true) ∧ Below w.heap.size w w' := by
  have HC := Lib.hid hn
  clear hn
  obtain ⟨a1, a2, a3, a4, a5, a6, a7, a8, c1, c2, c3, c4, c5, c6, c7, c8⟩ := q
  have VD : ∃ res, movesAlwaysN n steps = res := ⟨_, rfl⟩
  obtain ⟨res, hres0⟩ := VD
  have HRES := Lib.hid hres0
  clear hres0
  dsimp only [netCells]
  have B3 : Box (w.alloc (.cells #[.int .i64 n.mesh.g.w, .int .i64 n.mesh.g.h, .slice a1 n.mesh.br.length c1, .slice a2 n.pa.length c2, .slice a3 n.pb.length c3, .slice a4 n.bufs.length c4, .slice a5 n.owners.length c5, .slice a6 n.turns.length c6, .slice a7 n.srcs.length c7, .slice a8 n.arrs.length c8, .int .i64 n.time] 33)) w.heap.size #[.int .i64 n.mesh.g.w, .int .i64 n.mesh.g.h, .slice a1 n.mesh.br.length c1, .slice a2 n.pa.length c2, .slice a3 n.pb.length c3, .slice a4 n.bufs.length c4, .slice a5 n.owners.length c5, .slice a6 n.turns.length c6, .slice a7 n.srcs.length c7, .slice a8 n.arrs.length c8, .int .i64 n.time] := Box.new w _ _ _ rfl
  have H0 : Below w.heap.size w (w.alloc (.cells #[.int .i64 n.mesh.g.w, .int .i64 n.mesh.g.h, .slice a1 n.mesh.br.length c1, .slice a2 n.pa.length c2, .slice a3 n.pb.length c3, .slice a4 n.bufs.length c4, .slice a5 n.owners.length c5, .slice a6 n.turns.length c6, .slice a7 n.srcs.length c7, .slice a8 n.arrs.length c8, .int .i64 n.time] 33)) := bw_alloc _ (bw_refl w)
  obtain ⟨y3, g3⟩ := B3
  go_enter Tryz.func8, Tryz.ntmps8
  go_wp2_with fail
  refine (laws_szNet n _ 1048576 _ (HC.out.below H0) (by omega) (by omega)).mono ?_
  rintro e wa ⟨r, rfl, rlo, rhi, KB, hb1⟩
  have sA := bw_size hb1
  simp only [szs] at sA
  replace H0 := bw_then H0 hb1
  have B3 := Box.below ⟨y3, g3⟩ hb1
  clear y3 g3
  obtain ⟨y3, g3⟩ := B3
  clear hb1
  by_cases hneg : r < 0
  · go_wp2
    go_ret
    exact ⟨rfl, H0⟩
  have R := Lib.hid (HC.out.bound (KB.out (by omega)).1)
  have HA : Hid (∀ l ∈ n.arrs, l.length ≤ 1048576) := Lib.hid (fun l hl => by have := (KB.out (by omega)).2 l hl; omega)
  clear HC KB
  go_wp2_with fail
  refine (laws_toNet n _ _ (R.out.below H0)).mono ?_
  rintro e wb ⟨⟨⟨e1, e2, e3, e4, e5, e6, e7, e8, ec1, ec2, ec3, ec4, ec5, ec6, ec7, ec8⟩, rfl, HT⟩, hb1⟩
  have HT1 := Lib.hid (HT.reads R.out)
  clear HT
  have swb := bw_size hb1
  dsimp only [netCells]
  replace H0 := bw_then H0 hb1
  have B3 := Box.below ⟨y3, g3⟩ hb1
  clear y3 g3
  obtain ⟨y3, g3⟩ := B3
  clear hb1
  go_wp2_with fail
  refine (spec_MovesAlways n steps _ _ HT1.out HA.out).mono ?_
  rintro e wc ⟨he, hb1⟩
  rw [HRES.out] at he
  subst he
  replace H0 := bw_then H0 hb1
  have B3 := Box.below ⟨y3, g3⟩ hb1
  clear y3 g3
  obtain ⟨y3, g3⟩ := B3
  clear hb1
  clear HT1
  go_wp2_with fail
  refine (laws_toNet2 n _ _ (R.out.below H0)).mono ?_
  rintro e wd ⟨⟨⟨p1, p2, p3, p4, p5, p6, p7, p8, d1, d2, d3, d4, d5, d6, d7, d8⟩, aN, bN, v4, v7, v8, rfl, DL, HN⟩, hb1⟩
  have swd := bw_size hb1
  dsimp only [netCells]
  replace H0 := bw_then H0 hb1
  have B3 := Box.below ⟨y3, g3⟩ hb1
  clear y3 g3
  obtain ⟨y3, g3⟩ := B3
  clear hb1
  have hbX : Below wd.heap.size wd (wd.alloc (.cells #[.int .i64 n.mesh.g.w, .int .i64 n.mesh.g.h, .slice p1 n.mesh.br.length d1, .slice p2 n.pa.length d2, .slice p3 n.pb.length d3, .slice p4 n.bufs.length d4, .slice p5 n.owners.length d5, .slice p6 n.turns.length d6, .slice p7 n.srcs.length d7, .slice p8 n.arrs.length d8, .int .i64 n.time] 43)) := bw_alloc _ (bw_refl wd)
  have B5 : Box (wd.alloc (.cells #[.int .i64 n.mesh.g.w, .int .i64 n.mesh.g.h, .slice p1 n.mesh.br.length d1, .slice p2 n.pa.length d2, .slice p3 n.pb.length d3, .slice p4 n.bufs.length d4, .slice p5 n.owners.length d5, .slice p6 n.turns.length d6, .slice p7 n.srcs.length d7, .slice p8 n.arrs.length d8, .int .i64 n.time] 43)) wd.heap.size #[.int .i64 n.mesh.g.w, .int .i64 n.mesh.g.h, .slice p1 n.mesh.br.length d1, .slice p2 n.pa.length d2, .slice p3 n.pb.length d3, .slice p4 n.bufs.length d4, .slice p5 n.owners.length d5, .slice p6 n.turns.length d6, .slice p7 n.srcs.length d7, .slice p8 n.arrs.length d8, .int .i64 n.time] := Box.new wd _ _ _ rfl
  have sX : (wd.alloc (.cells #[.int .i64 n.mesh.g.w, .int .i64 n.mesh.g.h, .slice p1 n.mesh.br.length d1, .slice p2 n.pa.length d2, .slice p3 n.pb.length d3, .slice p4 n.bufs.length d4, .slice p5 n.owners.length d5, .slice p6 n.turns.length d6, .slice p7 n.srcs.length d7, .slice p8 n.arrs.length d8, .int .i64 n.time] 43)).heap.size = wd.heap.size + 1 := World.size_alloc _ _
  replace H0 := bw_then H0 hbX
  have B3 := Box.below ⟨y3, g3⟩ hbX
  clear y3 g3
  obtain ⟨y3, g3⟩ := B3
  replace HN := HN.below hbX
  go_wp2_with fail
  generalize wd.alloc (.cells #[.int .i64 n.mesh.g.w, .int .i64 n.mesh.g.h, .slice p1 n.mesh.br.length d1, .slice p2 n.pa.length d2, .slice p3 n.pb.length d3, .slice p4 n.bufs.length d4, .slice p5 n.owners.length d5, .slice p6 n.turns.length d6, .slice p7 n.srcs.length d7, .slice p8 n.arrs.length d8, .int .i64 n.time] 43) = we at *
  clear hbX
  have sX1 : wd.heap.size + 1 ≤ we.heap.size := Nat.le_of_eq sX.symm
  clear sX
  obtain ⟨y5, g5⟩ := B5
  refine (impl_MovesAlways n steps _ _ (HN.reads R.out) HA.out).mono ?_
  rintro e wf ⟨he, hb1⟩
  rw [HRES.out] at he
  subst he
  replace H0 := bw_then H0 hb1
  have B3 := Box.below ⟨y3, g3⟩ hb1
  clear y3 g3
  obtain ⟨y3, g3⟩ := B3
  have B5 := Box.below ⟨y5, g5⟩ hb1
  clear y5 g5
  obtain ⟨y5, g5⟩ := B5
  replace HN := HN.below hb1
  clear hb1
  have eself : (res != res) = false := by simp
  have RR := Lib.hid (R.out.below H0)
  have XX := Lib.hid (HN.reads R.out)
  go_wp2_with fail
  go_region_held3 (fun w' => Below (wf).heap.size (wf) w' ∧ ∀ bq oq, bq < (wf).heap.size → w'.cell? ⟨bq, oq, none⟩ = (wf).cell? ⟨bq, oq, none⟩) (first | exact far_of bel) ( first | (go_at_call 12; refine (laws_toNet n _ _ (RR.out.below bel)).mono ?_; rintro e w1 ⟨⟨qT, rfl, HT⟩, hb1⟩; obtain ⟨f1, f2, f3, f4, f5, f6, f7, f8, h1, h2, h3, h4, h5, h6, h7, h8⟩ := qT; have HT3 := Lib.hid (HT.reads RR.out); clear HT; dsimp only [netCells]; obtain ⟨hc1, hf1, hz1⟩ := bcell hb1; (try simp only [szs] at hz1); have hb2 := (by first | exact bw_then hb2 hb1 | exact bw_then (bw_drewN _ hb2) hb1 | exact bw_then (bw_alloc _ hb2) hb1 | exact bw_then (bw_drew hb2) hb1 | exact bw_then HB hb1 | exact bw_then (bw_drewN _ HB) hb1 | exact bw_then (bw_alloc _ HB) hb1 | exact bw_then (bw_drew HB) hb1 | exact hb1); obtain ⟨hc2, hf2, hz2⟩ := bcell hb2; (try simp only [szs] at hz2); try (first | obtain ⟨hy1, hy2, hy3, hy4⟩ := lts4 hz2 | obtain ⟨hy1, hy2, hy3⟩ := lts3 hz2 | obtain ⟨hy1, hy2⟩ := lts2 hz2 | have hy1 := lts1 hz2); have hb9 := hb1) | (go_at_call 14; refine (laws_eqNet n _ _ _ (XX.out.below bel) (HT3.out.below bel)).mono ?_; rintro e w1 ⟨rfl, hb1⟩; obtain ⟨hc1, hf1, hz1⟩ := bcell hb1; (try simp only [szs] at hz1); have hb2 := (by first | exact bw_then hb2 hb1 | exact bw_then (bw_drewN _ hb2) hb1 | exact bw_then (bw_alloc _ hb2) hb1 | exact bw_then (bw_drew hb2) hb1 | exact bw_then HB hb1 | exact bw_then (bw_drewN _ HB) hb1 | exact bw_then (bw_alloc _ HB) hb1 | exact bw_then (bw_drew HB) hb1 | exact hb1); obtain ⟨hc2, hf2, hz2⟩ := bcell hb2; (try simp only [szs] at hz2); try (first | obtain ⟨hy1, hy2, hy3, hy4⟩ := lts4 hz2 | obtain ⟨hy1, hy2, hy3⟩ := lts3 hz2 | obtain ⟨hy1, hy2⟩ := lts2 hz2 | have hy1 := lts1 hz2); have hb9 := hb1))
  have hb3 : Below wf.heap.size wf w1 := by first | exact bw_then (bw_drew (bw_refl _)) hb2 | exact hb2
  repeat (first | clear hc1 | clear hf1 | clear hz1 | clear hb1 | clear hb9 | clear hc2 | clear hf2 | clear hz2 | clear hb2 | clear hy1 | clear hy2 | clear hy3 | clear hy4)
  clear RR XX HT3
  go_wp2
  go_ret
  exact ⟨rfl, bw_then H0 hb3⟩
end Go.Proofs.YteeebfeljjghhaaGreat
/- The law FnExactMovesAlways answers true for every input, and each argument reads afterwards as it read before. -/
namespace Go.Proofs.YteeebfeljjghhaaGreat
open Go.ChangeShapes Go.WideShapes Go.ChangeAt Go.RowKit Go.Proofs.YteeebfeljjghhaaGreatW.PrintWords
open NoC
set_option linter.unusedVariables false
theorem own : ownKnob Tryz.prog.godebug = none := by kernel_rfl
theorem laidOut : laidOutB Tryz.prog = true := by kernel_rfl
theorem arr_of {cs : Array Value} {l : List Value} (h : cs.toList = l) : cs = l.toArray := by rw [← h]
set_option maxHeartbeats 1000000 in
set_option maxRecDepth 100000 in
theorem lifted_MovesAlways (os : Os) (started : os.Started) (H : Type) (enc : TypeId × Value → H) :
    ReturnsInHanded {} Tryz.checked os 8 .any (Rows.fnExactMovesAlwaysSpec.pre6 enc Tryz.prog Tryz.f8 Rows.fnExactMovesAlwaysRow.domain false) (Rows.fnExactMovesAlwaysSpec.post enc Tryz.prog Tryz.f8 false true false false) := by
  refine returnsInHanded_of_change_sized (C := Tryz.checked) own started (by kernel_rfl) Tryz.func8
    (ChangeSpec.witness6 (enc := enc) (C := Tryz.checked) false ⟨#[], #[.agg #[.int .i64 0, .int .i64 0, .slice none 0 0, .slice none 0 0, .slice none 0 0, .slice none 0 0, .slice none 0 0, .slice none 0 0, .slice none 0 0, .slice none 0 0, .int .i64 0], .int .i64 0], []⟩ 8 (by kernel_rfl) (by kernel_rfl) (by kernel_rfl) (by kernel_rfl)) ?_
  intro W base args ds gs before hval0 hW hcnd hsz0 _
  have hsz : (DataW.weightsEach Tryz.prog (Tryz.f8.params.toList ++ Rows.fnExactMovesAlwaysSpec.plain.varTypes Tryz.prog) (ds ++ gs)).all (· ≤ reachBytes) = true := hsz0
  have hval : ∀ (j : Nat) t v, Tryz.f8.params[j]? = some t → args[j]? = some v → Value.okWide Tryz.prog W .any base t v := hval0
  have hW' := hW
  obtain ⟨p, q, hA0, hV, rfl, hfz, hnd⟩ := hW
  have hA : DataW.TrodAll enc Tryz.prog W 0 (fun _ => true) true Tryz.f8.params.toList args.toList ds p := hA0
  rw [Tryz.params8] at hA hval hsz
  obtain ⟨v0, vs0, d0, ds0, p0, q0, hargs, rfl, rfl, h0, r0⟩ := trodAll_cons hA
  obtain ⟨v1, vs1, d1, ds1, p1, q1, rfl, rfl, rfl, h1, r1⟩ := trodAll_cons r0
  obtain ⟨rfl, rfl, rfl⟩ := trodAll_nil r1
  obtain rfl : args = #[v0, v1] := by cases args; simp_all
  obtain ⟨rfl, rfl⟩ := trodVars_none hV
  obtain ⟨c0, rfl, _⟩ := okWide_struct Tryz.underlying33 (hval 0 _ v0 rfl rfl)
  obtain ⟨c1, rfl⟩ := okWide_int Tryz.underlying3 (hval 1 _ v1 rfl rfl)
  have k0 := h0
  have lt0 : ∀ x ∈ p0, x.block < W.heap.size := by obtain ⟨m, hm⟩ := k0; exact DataW.trod_lt m _ _ _ hm
  have k1 := h1
  have lt1 : ∀ x ∈ p1, x.block < W.heap.size := by obtain ⟨m, hm⟩ := k1; exact DataW.trod_lt m _ _ _ hm
  obtain ⟨f0, g0⟩ := h0
  obtain ⟨f1, g1⟩ := h1
  obtain ⟨n0, q0', e0, hn0⟩ := op_net g0 (light_arg hsz (j := 0) rfl rfl)
  obtain rfl := arr_of e0
  clear hA0 hval0 hsz0 hsz
  refine (law_MovesAlways n0 c1 q0' W hn0).mono fun e W' ⟨he, bel⟩ => ?_
  subst he
  exact ⟨_, rfl, _, _, _, [], _, [], hW', trodAll_mk1 (shut_bool Tryz.underlying4 _), (trodAll_cons_mk (Below.trod laidOut (by kernel_rfl) (of_decide_eq_true (by kernel_rfl)) k0 bel lt0) (trodAll_cons_mk (Below.trod laidOut (by kernel_rfl) (of_decide_eq_true (by kernel_rfl)) k1 bel lt1) trodAll_mk0)), rfl, bel.frame _, fun h => by cases h⟩
theorem over_MovesAlways : Rows.fnExactMovesAlwaysRow.holds Tryz.pinned (OpenSpec.ofChange Rows.fnExactMovesAlwaysSpec) :=
  OpenClaim.holds_of_wide 8 Tryz.f8 rfl rfl rfl rfl rfl rfl rfl ⟨rfl, rfl, rfl, rfl, rfl⟩ rfl rfl rfl rfl rfl (by kernel_rfl) Tryz.func8 (by kernel_rfl)
    (of_decide_eq_true (by kernel_rfl)) (by unfold Func.isWrapper; first | (rw [if_pos (by decide +kernel)]; kernel_rfl) | (rw [if_neg (by decide +kernel)]; exact ⟨rfl, rfl⟩))
    (fun os started H enc _ => lifted_MovesAlways os started H enc)
theorem fnExactMovesAlways_holds : Rows.FnExactMovesAlwaysSaid := over_MovesAlways
#print axioms fnExactMovesAlways_holds
end Go.Proofs.YteeebfeljjghhaaGreat
