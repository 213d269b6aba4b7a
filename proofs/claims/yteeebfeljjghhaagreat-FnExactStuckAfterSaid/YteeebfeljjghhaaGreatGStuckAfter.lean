/- The law FnExactStuckAfter answers true for all arguments, and leaves each as it was. No conditions. -/
import Derived.Test.YteeebfeljjghhaaGreatGStuckAftera
import Derived.Test.YteeebfeljjghhaaGreatG14
import Derived.Test.YteeebfeljjghhaaGreatRows
import Derived.WalkKit
import Derived.ProofKit
import Derived.OpenShut
import Derived.ShutString
import Derived.ChangeOld
import Derived.Below
import Derived.SizedLaws
/- Steps and runs of a network: the reference's side, third part. -/
set_option linter.unusedVariables false
set_option linter.unusedSimpArgs false
namespace Go.Proofs.YteeebfeljjghhaaGreat
open Go.RowKit Go.Proofs.YteeebfeljjghhaaGreatW.PrintWords
open NoC

set_option maxHeartbeats 8000000 in
set_option maxRecDepth 100000 in
theorem spec_StuckAfter (n : Net) (s : Int) (q : NA) (w : World) (hr : NetR 103 w n q) (hA : ∀ x ∈ n.arrs, x.length ≤ 1048576) :
  Calls Tryz.prog 23 #[.agg (netCells n q), .int .i64 s] w fun e w' => e = .returned (.bool (stuckAfterN n s)) ∧ Below w.heap.size w w' := by
 have HA := Lib.hid hA
 clear hA
 have HR := Lib.hid hr
 have NBQ := Lib.hid hr.nb
 obtain ⟨a1, a2, a3, a4, a5, a6, a7, a8, c1, c2, c3, c4, c5, c6, c7, c8⟩ := q
 clear hr
 dsimp only [netCells]
 have HC : Hid (∀ W : World, Below w.heap.size w W → Calls Tryz.prog 17 #[.agg #[.int .i64 n.mesh.g.w, .int .i64 n.mesh.g.h, .slice a1 n.mesh.br.length c1, .slice a2 n.pa.length c2, .slice a3 n.pb.length c3, .slice a4 n.bufs.length c4, .slice a5 n.owners.length c5, .slice a6 n.turns.length c6, .slice a7 n.srcs.length c7, .slice a8 n.arrs.length c8, .int .i64 n.time], .int .i64 s] W fun e w' => GotNV W w' (runNetN n s) (.bool (canRunN n s)) e ∧ Below W.heap.size W w') := Lib.hid (fun W hb => spec_RunNet n s ⟨a1, a2, a3, a4, a5, a6, a7, a8, c1, c2, c3, c4, c5, c6, c7, c8⟩ W (HR.out.below hb) HA.out)
 have HE1 : Hid (canRunN n s = true → netOk (runNetN n s) = true ∧ NB (runNetN n s) ∧ stuckAfterN n s = stuckN (runNetN n s)) := Lib.hid (fun h => by
  obtain ⟨h1, h2⟩ := runNet_ok h
  obtain ⟨ok, s0, s4, st⟩ := canRun_parts h
  refine ⟨h1, ?_, by unfold stuckAfterN; rw [h, h2]; rfl⟩
  rw [h2] at h1 ⊢
  exact run_nb NBQ.out HA.out _ (by omega) h1)
 have HE2 : Hid (canRunN n s = false → stuckAfterN n s = false) := Lib.hid (fun h => by unfold stuckAfterN; rw [h]; rfl)
 obtain ⟨X, hX⟩ : ∃ X, runNetN n s = X := ⟨_, rfl⟩
 rw [hX] at HC HE1
 clear hX
 cases hk : canRunN n s
 ·have HE := Lib.hid (HE2.out hk)
  rw [hk] at HC
  go_enter Tryz.func23, Tryz.ntmps23
  go_wp2_with fail
  refine (HC.out _ bel).mono ?_
  rintro e w1 ⟨hg1, HBC⟩
  obtain ⟨qq, v4, v7, v8, rfl, HN0⟩ := hg1
  obtain ⟨b1, b2, b3, b4, b5, b6, b7, b8, d1, d2, d3, d4, d5, d6, d7, d8⟩ := qq
  dsimp only [netCells]
  have HN1 := Lib.hid HN0
  clear HN0
  obtain ⟨w0, e0⟩ : ∃ z, z = w1.alloc (.cells #[.int .i64 X.mesh.g.w, .int .i64 X.mesh.g.h, .slice b1 X.mesh.br.length d1, .slice b2 X.pa.length d2, .slice b3 X.pb.length d3, .slice b4 X.bufs.length d4, .slice b5 X.owners.length d5, .slice b6 X.turns.length d6, .slice b7 X.srcs.length d7, .slice b8 X.arrs.length d8, .int .i64 X.time] 43) := ⟨_, rfl⟩
  have hz0 : w0.heap.size = w1.heap.size + 1 := by rw [e0]; simp only [szs]
  have hw01 : Below w1.heap.size w1 w0 := by rw [e0]; exact bw_alloc _ (bw_refl w1)
  obtain ⟨bx, ebx⟩ : ∃ z, z = w1.heap.size := ⟨_, rfl⟩
  have HBT : Hid (BT w0 bx X ⟨b1, b2, b3, b4, b5, b6, b7, b8, d1, d2, d3, d4, d5, d6, d7, d8⟩) := Lib.hid (by rw [e0, ebx]; exact blk_new w1 _)
  obtain ⟨lo, elo⟩ : ∃ z, z = w.heap.size + 1 := ⟨_, rfl⟩
  have HN : Hid (NX w0 lo X ⟨b1, b2, b3, b4, b5, b6, b7, b8, d1, d2, d3, d4, d5, d6, d7, d8⟩ v4 v7 v8) := Lib.hid ((HN1.out.lower (by simp only [szs]; omega)).below hw01)
  have HHB : Hid (Below w.heap.size w w0) := Lib.hid (bw_then (bw_then (bw_alloc _ (bw_refl w)) HBC) hw01)
  have sw : w.heap.size + 1 ≤ w1.heap.size := by have := bw_size HBC; simp only [szs] at this; omega
  have xo0 : (w1.alloc (.cells #[.int .i64 X.mesh.g.w, .int .i64 X.mesh.g.h, .slice b1 X.mesh.br.length d1, .slice b2 X.pa.length d2, .slice b3 X.pb.length d3, .slice b4 X.bufs.length d4, .slice b5 X.owners.length d5, .slice b6 X.turns.length d6, .slice b7 X.srcs.length d7, .slice b8 X.arrs.length d8, .int .i64 X.time] 43)).cell? ⟨w1.heap.size, 0, none⟩ = some (.int .i64 X.mesh.g.w) := by rw [← e0, ← ebx]; exact HBT.out.box.get 0
  have xo1 : (w1.alloc (.cells #[.int .i64 X.mesh.g.w, .int .i64 X.mesh.g.h, .slice b1 X.mesh.br.length d1, .slice b2 X.pa.length d2, .slice b3 X.pb.length d3, .slice b4 X.bufs.length d4, .slice b5 X.owners.length d5, .slice b6 X.turns.length d6, .slice b7 X.srcs.length d7, .slice b8 X.arrs.length d8, .int .i64 X.time] 43)).cell? ⟨w1.heap.size, 1, none⟩ = some (.int .i64 X.mesh.g.h) := by rw [← e0, ← ebx]; exact HBT.out.box.get 1
  have xo2 : (w1.alloc (.cells #[.int .i64 X.mesh.g.w, .int .i64 X.mesh.g.h, .slice b1 X.mesh.br.length d1, .slice b2 X.pa.length d2, .slice b3 X.pb.length d3, .slice b4 X.bufs.length d4, .slice b5 X.owners.length d5, .slice b6 X.turns.length d6, .slice b7 X.srcs.length d7, .slice b8 X.arrs.length d8, .int .i64 X.time] 43)).cell? ⟨w1.heap.size, 2, none⟩ = some (.slice b1 X.mesh.br.length d1) := by rw [← e0, ← ebx]; exact HBT.out.box.get 2
  have xo3 : (w1.alloc (.cells #[.int .i64 X.mesh.g.w, .int .i64 X.mesh.g.h, .slice b1 X.mesh.br.length d1, .slice b2 X.pa.length d2, .slice b3 X.pb.length d3, .slice b4 X.bufs.length d4, .slice b5 X.owners.length d5, .slice b6 X.turns.length d6, .slice b7 X.srcs.length d7, .slice b8 X.arrs.length d8, .int .i64 X.time] 43)).cell? ⟨w1.heap.size, 3, none⟩ = some (.slice b2 X.pa.length d2) := by rw [← e0, ← ebx]; exact HBT.out.box.get 3
  have xo4 : (w1.alloc (.cells #[.int .i64 X.mesh.g.w, .int .i64 X.mesh.g.h, .slice b1 X.mesh.br.length d1, .slice b2 X.pa.length d2, .slice b3 X.pb.length d3, .slice b4 X.bufs.length d4, .slice b5 X.owners.length d5, .slice b6 X.turns.length d6, .slice b7 X.srcs.length d7, .slice b8 X.arrs.length d8, .int .i64 X.time] 43)).cell? ⟨w1.heap.size, 4, none⟩ = some (.slice b3 X.pb.length d3) := by rw [← e0, ← ebx]; exact HBT.out.box.get 4
  have xo5 : (w1.alloc (.cells #[.int .i64 X.mesh.g.w, .int .i64 X.mesh.g.h, .slice b1 X.mesh.br.length d1, .slice b2 X.pa.length d2, .slice b3 X.pb.length d3, .slice b4 X.bufs.length d4, .slice b5 X.owners.length d5, .slice b6 X.turns.length d6, .slice b7 X.srcs.length d7, .slice b8 X.arrs.length d8, .int .i64 X.time] 43)).cell? ⟨w1.heap.size, 5, none⟩ = some (.slice b4 X.bufs.length d4) := by rw [← e0, ← ebx]; exact HBT.out.box.get 5
  have xo6 : (w1.alloc (.cells #[.int .i64 X.mesh.g.w, .int .i64 X.mesh.g.h, .slice b1 X.mesh.br.length d1, .slice b2 X.pa.length d2, .slice b3 X.pb.length d3, .slice b4 X.bufs.length d4, .slice b5 X.owners.length d5, .slice b6 X.turns.length d6, .slice b7 X.srcs.length d7, .slice b8 X.arrs.length d8, .int .i64 X.time] 43)).cell? ⟨w1.heap.size, 6, none⟩ = some (.slice b5 X.owners.length d5) := by rw [← e0, ← ebx]; exact HBT.out.box.get 6
  have xo7 : (w1.alloc (.cells #[.int .i64 X.mesh.g.w, .int .i64 X.mesh.g.h, .slice b1 X.mesh.br.length d1, .slice b2 X.pa.length d2, .slice b3 X.pb.length d3, .slice b4 X.bufs.length d4, .slice b5 X.owners.length d5, .slice b6 X.turns.length d6, .slice b7 X.srcs.length d7, .slice b8 X.arrs.length d8, .int .i64 X.time] 43)).cell? ⟨w1.heap.size, 7, none⟩ = some (.slice b6 X.turns.length d6) := by rw [← e0, ← ebx]; exact HBT.out.box.get 7
  have xo8 : (w1.alloc (.cells #[.int .i64 X.mesh.g.w, .int .i64 X.mesh.g.h, .slice b1 X.mesh.br.length d1, .slice b2 X.pa.length d2, .slice b3 X.pb.length d3, .slice b4 X.bufs.length d4, .slice b5 X.owners.length d5, .slice b6 X.turns.length d6, .slice b7 X.srcs.length d7, .slice b8 X.arrs.length d8, .int .i64 X.time] 43)).cell? ⟨w1.heap.size, 8, none⟩ = some (.slice b7 X.srcs.length d7) := by rw [← e0, ← ebx]; exact HBT.out.box.get 8
  have xo9 : (w1.alloc (.cells #[.int .i64 X.mesh.g.w, .int .i64 X.mesh.g.h, .slice b1 X.mesh.br.length d1, .slice b2 X.pa.length d2, .slice b3 X.pb.length d3, .slice b4 X.bufs.length d4, .slice b5 X.owners.length d5, .slice b6 X.turns.length d6, .slice b7 X.srcs.length d7, .slice b8 X.arrs.length d8, .int .i64 X.time] 43)).cell? ⟨w1.heap.size, 9, none⟩ = some (.slice b8 X.arrs.length d8) := by rw [← e0, ← ebx]; exact HBT.out.box.get 9
  have xo10 : (w1.alloc (.cells #[.int .i64 X.mesh.g.w, .int .i64 X.mesh.g.h, .slice b1 X.mesh.br.length d1, .slice b2 X.pa.length d2, .slice b3 X.pb.length d3, .slice b4 X.bufs.length d4, .slice b5 X.owners.length d5, .slice b6 X.turns.length d6, .slice b7 X.srcs.length d7, .slice b8 X.arrs.length d8, .int .i64 X.time] 43)).cell? ⟨w1.heap.size, 10, none⟩ = some (.int .i64 X.time) := by rw [← e0, ← ebx]; exact HBT.out.box.get 10
  have xol : w1.heap.size < (w1.alloc (.cells #[.int .i64 X.mesh.g.w, .int .i64 X.mesh.g.h, .slice b1 X.mesh.br.length d1, .slice b2 X.pa.length d2, .slice b3 X.pb.length d3, .slice b4 X.bufs.length d4, .slice b5 X.owners.length d5, .slice b6 X.turns.length d6, .slice b7 X.srcs.length d7, .slice b8 X.arrs.length d8, .int .i64 X.time] 43)).heap.size := by rw [← e0, ← ebx]; exact HBT.out.lt
  have sb1 : bx < w0.heap.size := by omega
  have sb2 : w.heap.size + 1 ≤ bx := by omega
  have sl1 : lo ≤ w.heap.size + 1 := by omega
  have sl2 : w.heap.size + 1 ≤ lo := by omega
  have sl3 : lo ≤ bx := by omega
  have sl4 : lo ≤ w0.heap.size := by omega
  go_wp2
  go_ret
  rw [← e0]
  exact ⟨ret_bool HE.out.symm, HHB.out⟩
 ·obtain ⟨ok, nbx, he⟩ := HE1.out hk
  have HE := Lib.hid he
  have OK := Lib.hid ok
  have NBX := Lib.hid nbx
  clear he ok nbx
  rw [hk] at HC
  go_enter Tryz.func23, Tryz.ntmps23
  go_wp2_with fail
  refine (HC.out _ bel).mono ?_
  rintro e w1 ⟨hg1, HBC⟩
  obtain ⟨qq, v4, v7, v8, rfl, HN0⟩ := hg1
  obtain ⟨b1, b2, b3, b4, b5, b6, b7, b8, d1, d2, d3, d4, d5, d6, d7, d8⟩ := qq
  dsimp only [netCells]
  have HN1 := Lib.hid HN0
  clear HN0
  obtain ⟨w0, e0⟩ : ∃ z, z = w1.alloc (.cells #[.int .i64 X.mesh.g.w, .int .i64 X.mesh.g.h, .slice b1 X.mesh.br.length d1, .slice b2 X.pa.length d2, .slice b3 X.pb.length d3, .slice b4 X.bufs.length d4, .slice b5 X.owners.length d5, .slice b6 X.turns.length d6, .slice b7 X.srcs.length d7, .slice b8 X.arrs.length d8, .int .i64 X.time] 43) := ⟨_, rfl⟩
  have hz0 : w0.heap.size = w1.heap.size + 1 := by rw [e0]; simp only [szs]
  have hw01 : Below w1.heap.size w1 w0 := by rw [e0]; exact bw_alloc _ (bw_refl w1)
  obtain ⟨bx, ebx⟩ : ∃ z, z = w1.heap.size := ⟨_, rfl⟩
  have HBT : Hid (BT w0 bx X ⟨b1, b2, b3, b4, b5, b6, b7, b8, d1, d2, d3, d4, d5, d6, d7, d8⟩) := Lib.hid (by rw [e0, ebx]; exact blk_new w1 _)
  obtain ⟨lo, elo⟩ : ∃ z, z = w.heap.size + 1 := ⟨_, rfl⟩
  have HN : Hid (NX w0 lo X ⟨b1, b2, b3, b4, b5, b6, b7, b8, d1, d2, d3, d4, d5, d6, d7, d8⟩ v4 v7 v8) := Lib.hid ((HN1.out.lower (by simp only [szs]; omega)).below hw01)
  have HHB : Hid (Below w.heap.size w w0) := Lib.hid (bw_then (bw_then (bw_alloc _ (bw_refl w)) HBC) hw01)
  have sw : w.heap.size + 1 ≤ w1.heap.size := by have := bw_size HBC; simp only [szs] at this; omega
  have xo0 : (w1.alloc (.cells #[.int .i64 X.mesh.g.w, .int .i64 X.mesh.g.h, .slice b1 X.mesh.br.length d1, .slice b2 X.pa.length d2, .slice b3 X.pb.length d3, .slice b4 X.bufs.length d4, .slice b5 X.owners.length d5, .slice b6 X.turns.length d6, .slice b7 X.srcs.length d7, .slice b8 X.arrs.length d8, .int .i64 X.time] 43)).cell? ⟨w1.heap.size, 0, none⟩ = some (.int .i64 X.mesh.g.w) := by rw [← e0, ← ebx]; exact HBT.out.box.get 0
  have xo1 : (w1.alloc (.cells #[.int .i64 X.mesh.g.w, .int .i64 X.mesh.g.h, .slice b1 X.mesh.br.length d1, .slice b2 X.pa.length d2, .slice b3 X.pb.length d3, .slice b4 X.bufs.length d4, .slice b5 X.owners.length d5, .slice b6 X.turns.length d6, .slice b7 X.srcs.length d7, .slice b8 X.arrs.length d8, .int .i64 X.time] 43)).cell? ⟨w1.heap.size, 1, none⟩ = some (.int .i64 X.mesh.g.h) := by rw [← e0, ← ebx]; exact HBT.out.box.get 1
  have xo2 : (w1.alloc (.cells #[.int .i64 X.mesh.g.w, .int .i64 X.mesh.g.h, .slice b1 X.mesh.br.length d1, .slice b2 X.pa.length d2, .slice b3 X.pb.length d3, .slice b4 X.bufs.length d4, .slice b5 X.owners.length d5, .slice b6 X.turns.length d6, .slice b7 X.srcs.length d7, .slice b8 X.arrs.length d8, .int .i64 X.time] 43)).cell? ⟨w1.heap.size, 2, none⟩ = some (.slice b1 X.mesh.br.length d1) := by rw [← e0, ← ebx]; exact HBT.out.box.get 2
  have xo3 : (w1.alloc (.cells #[.int .i64 X.mesh.g.w, .int .i64 X.mesh.g.h, .slice b1 X.mesh.br.length d1, .slice b2 X.pa.length d2, .slice b3 X.pb.length d3, .slice b4 X.bufs.length d4, .slice b5 X.owners.length d5, .slice b6 X.turns.length d6, .slice b7 X.srcs.length d7, .slice b8 X.arrs.length d8, .int .i64 X.time] 43)).cell? ⟨w1.heap.size, 3, none⟩ = some (.slice b2 X.pa.length d2) := by rw [← e0, ← ebx]; exact HBT.out.box.get 3
  have xo4 : (w1.alloc (.cells #[.int .i64 X.mesh.g.w, .int .i64 X.mesh.g.h, .slice b1 X.mesh.br.length d1, .slice b2 X.pa.length d2, .slice b3 X.pb.length d3, .slice b4 X.bufs.length d4, .slice b5 X.owners.length d5, .slice b6 X.turns.length d6, .slice b7 X.srcs.length d7, .slice b8 X.arrs.length d8, .int .i64 X.time] 43)).cell? ⟨w1.heap.size, 4, none⟩ = some (.slice b3 X.pb.length d3) := by rw [← e0, ← ebx]; exact HBT.out.box.get 4
  have xo5 : (w1.alloc (.cells #[.int .i64 X.mesh.g.w, .int .i64 X.mesh.g.h, .slice b1 X.mesh.br.length d1, .slice b2 X.pa.length d2, .slice b3 X.pb.length d3, .slice b4 X.bufs.length d4, .slice b5 X.owners.length d5, .slice b6 X.turns.length d6, .slice b7 X.srcs.length d7, .slice b8 X.arrs.length d8, .int .i64 X.time] 43)).cell? ⟨w1.heap.size, 5, none⟩ = some (.slice b4 X.bufs.length d4) := by rw [← e0, ← ebx]; exact HBT.out.box.get 5
  have xo6 : (w1.alloc (.cells #[.int .i64 X.mesh.g.w, .int .i64 X.mesh.g.h, .slice b1 X.mesh.br.length d1, .slice b2 X.pa.length d2, .slice b3 X.pb.length d3, .slice b4 X.bufs.length d4, .slice b5 X.owners.length d5, .slice b6 X.turns.length d6, .slice b7 X.srcs.length d7, .slice b8 X.arrs.length d8, .int .i64 X.time] 43)).cell? ⟨w1.heap.size, 6, none⟩ = some (.slice b5 X.owners.length d5) := by rw [← e0, ← ebx]; exact HBT.out.box.get 6
  have xo7 : (w1.alloc (.cells #[.int .i64 X.mesh.g.w, .int .i64 X.mesh.g.h, .slice b1 X.mesh.br.length d1, .slice b2 X.pa.length d2, .slice b3 X.pb.length d3, .slice b4 X.bufs.length d4, .slice b5 X.owners.length d5, .slice b6 X.turns.length d6, .slice b7 X.srcs.length d7, .slice b8 X.arrs.length d8, .int .i64 X.time] 43)).cell? ⟨w1.heap.size, 7, none⟩ = some (.slice b6 X.turns.length d6) := by rw [← e0, ← ebx]; exact HBT.out.box.get 7
  have xo8 : (w1.alloc (.cells #[.int .i64 X.mesh.g.w, .int .i64 X.mesh.g.h, .slice b1 X.mesh.br.length d1, .slice b2 X.pa.length d2, .slice b3 X.pb.length d3, .slice b4 X.bufs.length d4, .slice b5 X.owners.length d5, .slice b6 X.turns.length d6, .slice b7 X.srcs.length d7, .slice b8 X.arrs.length d8, .int .i64 X.time] 43)).cell? ⟨w1.heap.size, 8, none⟩ = some (.slice b7 X.srcs.length d7) := by rw [← e0, ← ebx]; exact HBT.out.box.get 8
  have xo9 : (w1.alloc (.cells #[.int .i64 X.mesh.g.w, .int .i64 X.mesh.g.h, .slice b1 X.mesh.br.length d1, .slice b2 X.pa.length d2, .slice b3 X.pb.length d3, .slice b4 X.bufs.length d4, .slice b5 X.owners.length d5, .slice b6 X.turns.length d6, .slice b7 X.srcs.length d7, .slice b8 X.arrs.length d8, .int .i64 X.time] 43)).cell? ⟨w1.heap.size, 9, none⟩ = some (.slice b8 X.arrs.length d8) := by rw [← e0, ← ebx]; exact HBT.out.box.get 9
  have xo10 : (w1.alloc (.cells #[.int .i64 X.mesh.g.w, .int .i64 X.mesh.g.h, .slice b1 X.mesh.br.length d1, .slice b2 X.pa.length d2, .slice b3 X.pb.length d3, .slice b4 X.bufs.length d4, .slice b5 X.owners.length d5, .slice b6 X.turns.length d6, .slice b7 X.srcs.length d7, .slice b8 X.arrs.length d8, .int .i64 X.time] 43)).cell? ⟨w1.heap.size, 10, none⟩ = some (.int .i64 X.time) := by rw [← e0, ← ebx]; exact HBT.out.box.get 10
  have xol : w1.heap.size < (w1.alloc (.cells #[.int .i64 X.mesh.g.w, .int .i64 X.mesh.g.h, .slice b1 X.mesh.br.length d1, .slice b2 X.pa.length d2, .slice b3 X.pb.length d3, .slice b4 X.bufs.length d4, .slice b5 X.owners.length d5, .slice b6 X.turns.length d6, .slice b7 X.srcs.length d7, .slice b8 X.arrs.length d8, .int .i64 X.time] 43)).heap.size := by rw [← e0, ← ebx]; exact HBT.out.lt
  have sb1 : bx < w0.heap.size := by omega
  have sb2 : w.heap.size + 1 ≤ bx := by omega
  have sl1 : lo ≤ w.heap.size + 1 := by omega
  have sl2 : w.heap.size + 1 ≤ lo := by omega
  have sl3 : lo ≤ bx := by omega
  have sl4 : lo ≤ w0.heap.size := by omega
  go_wp2_with fail
  rw [← e0]
  refine (spec_IsStuck X _ _ (HN.out.reads NBX.out)).mono ?_
  rintro e w3 ⟨he, hb3⟩
  rw [show isStuckN X = stuckN X by simp [isStuckN, OK.out]] at he
  subst he
  go_wp2
  go_ret
  exact ⟨ret_bool HE.out.symm, bw_then HHB.out hb3⟩
end Go.Proofs.YteeebfeljjghhaaGreat
/- The law FnExactStuckAfter, walked: it answers true for all arguments. -/
set_option linter.unusedVariables false
set_option linter.unusedSimpArgs false
namespace Go.Proofs.YteeebfeljjghhaaGreat
open Go.RowKit Go.Proofs.YteeebfeljjghhaaGreatW.PrintWords
open NoC

set_option maxHeartbeats 8000000 in
set_option maxRecDepth 100000 in
theorem law_StuckAfter (n : Net) (steps : Int) (q : NA) (w : World) (hn : NetC w n q) :
    Calls Tryz.prog 7 #[.agg (netCells n q), .int .i64 steps] w fun e w' => e = .returned (.bool true) ∧ Below w.heap.size w w' := by
  have HC := Lib.hid hn
  clear hn
  obtain ⟨a1, a2, a3, a4, a5, a6, a7, a8, c1, c2, c3, c4, c5, c6, c7, c8⟩ := q
  have VD : ∃ res, stuckAfterN n steps = res := ⟨_, rfl⟩
  obtain ⟨res, hres0⟩ := VD
  have HRES := Lib.hid hres0
  clear hres0
  dsimp only [netCells]
  have B3 : Box (w.alloc (.cells #[.int .i64 n.mesh.g.w, .int .i64 n.mesh.g.h, .slice a1 n.mesh.br.length c1, .slice a2 n.pa.length c2, .slice a3 n.pb.length c3, .slice a4 n.bufs.length c4, .slice a5 n.owners.length c5, .slice a6 n.turns.length c6, .slice a7 n.srcs.length c7, .slice a8 n.arrs.length c8, .int .i64 n.time] 33)) w.heap.size #[.int .i64 n.mesh.g.w, .int .i64 n.mesh.g.h, .slice a1 n.mesh.br.length c1, .slice a2 n.pa.length c2, .slice a3 n.pb.length c3, .slice a4 n.bufs.length c4, .slice a5 n.owners.length c5, .slice a6 n.turns.length c6, .slice a7 n.srcs.length c7, .slice a8 n.arrs.length c8, .int .i64 n.time] := Box.new w _ _ _ rfl
  have H0 : Below w.heap.size w (w.alloc (.cells #[.int .i64 n.mesh.g.w, .int .i64 n.mesh.g.h, .slice a1 n.mesh.br.length c1, .slice a2 n.pa.length c2, .slice a3 n.pb.length c3, .slice a4 n.bufs.length c4, .slice a5 n.owners.length c5, .slice a6 n.turns.length c6, .slice a7 n.srcs.length c7, .slice a8 n.arrs.length c8, .int .i64 n.time] 33)) := bw_alloc _ (bw_refl w)
  obtain ⟨y3, g3⟩ := B3
  go_enter Tryz.func7, Tryz.ntmps7
  go_wp2_with fail
  refine (laws_szNet n _ 1048576 _ (HC.out.below H0) (by omega) (by omega)).mono ?_
  rintro e wa ⟨r, rfl, rlo, rhi, KB, hb1⟩
  have sA := bw_size hb1
  simp only [szs] at sA
  replace H0 := bw_then H0 hb1
  have B3 := Box.below ⟨y3, g3⟩ hb1
  clear y3 g3
  obtain ⟨y3, g3⟩ := B3
  clear hb1
  by_cases hneg : r < 0
  · go_wp2
    go_ret
    exact ⟨rfl, H0⟩
  have R := Lib.hid (HC.out.bound (KB.out (by omega)).1)
  have HA : Hid (∀ l ∈ n.arrs, l.length ≤ 1048576) := Lib.hid (fun l hl => by have := (KB.out (by omega)).2 l hl; omega)
  clear HC KB
  go_wp2_with fail
  refine (laws_toNet n _ _ (R.out.below H0)).mono ?_
  rintro e wb ⟨⟨⟨e1, e2, e3, e4, e5, e6, e7, e8, ec1, ec2, ec3, ec4, ec5, ec6, ec7, ec8⟩, rfl, HT⟩, hb1⟩
  have HT1 := Lib.hid (HT.reads R.out)
  clear HT
  have swb := bw_size hb1
  dsimp only [netCells]
  replace H0 := bw_then H0 hb1
  have B3 := Box.below ⟨y3, g3⟩ hb1
  clear y3 g3
  obtain ⟨y3, g3⟩ := B3
  clear hb1
  go_wp2_with fail
  refine (spec_StuckAfter n steps _ _ HT1.out HA.out).mono ?_
  rintro e wc ⟨he, hb1⟩
  rw [HRES.out] at he
  subst he
  replace H0 := bw_then H0 hb1
  have B3 := Box.below ⟨y3, g3⟩ hb1
  clear y3 g3
  obtain ⟨y3, g3⟩ := B3
  clear hb1
  clear HT1
  go_wp2_with fail
  refine (laws_toNet2 n _ _ (R.out.below H0)).mono ?_
  rintro e wd ⟨⟨⟨p1, p2, p3, p4, p5, p6, p7, p8, d1, d2, d3, d4, d5, d6, d7, d8⟩, aN, bN, v4, v7, v8, rfl, DL, HN⟩, hb1⟩
  have swd := bw_size hb1
  dsimp only [netCells]
  replace H0 := bw_then H0 hb1
  have B3 := Box.below ⟨y3, g3⟩ hb1
  clear y3 g3
  obtain ⟨y3, g3⟩ := B3
  clear hb1
  have hbX : Below wd.heap.size wd (wd.alloc (.cells #[.int .i64 n.mesh.g.w, .int .i64 n.mesh.g.h, .slice p1 n.mesh.br.length d1, .slice p2 n.pa.length d2, .slice p3 n.pb.length d3, .slice p4 n.bufs.length d4, .slice p5 n.owners.length d5, .slice p6 n.turns.length d6, .slice p7 n.srcs.length d7, .slice p8 n.arrs.length d8, .int .i64 n.time] 43)) := bw_alloc _ (bw_refl wd)
  have B5 : Box (wd.alloc (.cells #[.int .i64 n.mesh.g.w, .int .i64 n.mesh.g.h, .slice p1 n.mesh.br.length d1, .slice p2 n.pa.length d2, .slice p3 n.pb.length d3, .slice p4 n.bufs.length d4, .slice p5 n.owners.length d5, .slice p6 n.turns.length d6, .slice p7 n.srcs.length d7, .slice p8 n.arrs.length d8, .int .i64 n.time] 43)) wd.heap.size #[.int .i64 n.mesh.g.w, .int .i64 n.mesh.g.h, .slice p1 n.mesh.br.length d1, .slice p2 n.pa.length d2, .slice p3 n.pb.length d3, .slice p4 n.bufs.length d4, .slice p5 n.owners.length d5, .slice p6 n.turns.length d6, .slice p7 n.srcs.length d7, .slice p8 n.arrs.length d8, .int .i64 n.time] := Box.new wd _ _ _ rfl
  have sX : (wd.alloc (.cells #[.int .i64 n.mesh.g.w, .int .i64 n.mesh.g.h, .slice p1 n.mesh.br.length d1, .slice p2 n.pa.length d2, .slice p3 n.pb.length d3, .slice p4 n.bufs.length d4, .slice p5 n.owners.length d5, .slice p6 n.turns.length d6, .slice p7 n.srcs.length d7, .slice p8 n.arrs.length d8, .int .i64 n.time] 43)).heap.size = wd.heap.size + 1 := World.size_alloc _ _
  replace H0 := bw_then H0 hbX
  have B3 := Box.below ⟨y3, g3⟩ hbX
  clear y3 g3
  obtain ⟨y3, g3⟩ := B3
  replace HN := HN.below hbX
  go_wp2_with fail
  generalize wd.alloc (.cells #[.int .i64 n.mesh.g.w, .int .i64 n.mesh.g.h, .slice p1 n.mesh.br.length d1, .slice p2 n.pa.length d2, .slice p3 n.pb.length d3, .slice p4 n.bufs.length d4, .slice p5 n.owners.length d5, .slice p6 n.turns.length d6, .slice p7 n.srcs.length d7, .slice p8 n.arrs.length d8, .int .i64 n.time] 43) = we at *
  clear hbX
  have sX1 : wd.heap.size + 1 ≤ we.heap.size := Nat.le_of_eq sX.symm
  clear sX
  obtain ⟨y5, g5⟩ := B5
  refine (impl_StuckAfter n steps _ _ (HN.reads R.out) HA.out).mono ?_
  rintro e wf ⟨he, hb1⟩
  rw [HRES.out] at he
  subst he
  replace H0 := bw_then H0 hb1
  have B3 := Box.below ⟨y3, g3⟩ hb1
  clear y3 g3
  obtain ⟨y3, g3⟩ := B3
  have B5 := Box.below ⟨y5, g5⟩ hb1
  clear y5 g5
  obtain ⟨y5, g5⟩ := B5
  replace HN := HN.below hb1
  clear hb1
  have eself : (res != res) = false := by simp
  have RR := Lib.hid (R.out.below H0)
  have XX := Lib.hid (HN.reads R.out)
  go_wp2_with fail
  go_region_held3 (fun w' => Below (wf).heap.size (wf) w' ∧ ∀ bq oq, bq < (wf).heap.size → w'.cell? ⟨bq, oq, none⟩ = (wf).cell? ⟨bq, oq, none⟩) (first | exact far_of bel) ( first | (go_at_call 12; refine (laws_toNet n _ _ (RR.out.below bel)).mono ?_; rintro e w1 ⟨⟨qT, rfl, HT⟩, hb1⟩; obtain ⟨f1, f2, f3, f4, f5, f6, f7, f8, h1, h2, h3, h4, h5, h6, h7, h8⟩ := qT; have HT3 := Lib.hid (HT.reads RR.out); clear HT; dsimp only [netCells]; obtain ⟨hc1, hf1, hz1⟩ := bcell hb1; (try simp only [szs] at hz1); have hb2 := (by first | exact bw_then hb2 hb1 | exact bw_then (bw_drewN _ hb2) hb1 | exact bw_then (bw_alloc _ hb2) hb1 | exact bw_then (bw_drew hb2) hb1 | exact bw_then HB hb1 | exact bw_then (bw_drewN _ HB) hb1 | exact bw_then (bw_alloc _ HB) hb1 | exact bw_then (bw_drew HB) hb1 | exact hb1); obtain ⟨hc2, hf2, hz2⟩ := bcell hb2; (try simp only [szs] at hz2); try (first | obtain ⟨hy1, hy2, hy3, hy4⟩ := lts4 hz2 | obtain ⟨hy1, hy2, hy3⟩ := lts3 hz2 | obtain ⟨hy1, hy2⟩ := lts2 hz2 | have hy1 := lts1 hz2); have hb9 := hb1) | (go_at_call 14; refine (laws_eqNet n _ _ _ (XX.out.below bel) (HT3.out.below bel)).mono ?_; rintro e w1 ⟨rfl, hb1⟩; obtain ⟨hc1, hf1, hz1⟩ := bcell hb1; (try simp only [szs] at hz1); have hb2 := (by first | exact bw_then hb2 hb1 | exact bw_then (bw_drewN _ hb2) hb1 | exact bw_then (bw_alloc _ hb2) hb1 | exact bw_then (bw_drew hb2) hb1 | exact bw_then HB hb1 | exact bw_then (bw_drewN _ HB) hb1 | exact bw_then (bw_alloc _ HB) hb1 | exact bw_then (bw_drew HB) hb1 | exact hb1); obtain ⟨hc2, hf2, hz2⟩ := bcell hb2; (try simp only [szs] at hz2); try (first | obtain ⟨hy1, hy2, hy3, hy4⟩ := lts4 hz2 | obtain ⟨hy1, hy2, hy3⟩ := lts3 hz2 | obtain ⟨hy1, hy2⟩ := lts2 hz2 | have hy1 := lts1 hz2); have hb9 := hb1))
  have hb3 : Below wf.heap.size wf w1 := by first | exact bw_then (bw_drew (bw_refl _)) hb2 | exact hb2
  repeat (first | clear hc1 | clear hf1 | clear hz1 | clear hb1 | clear hb9 | clear hc2 | clear hf2 | clear hz2 | clear hb2 | clear hy1 | clear hy2 | clear hy3 | clear hy4)
  clear RR XX HT3
  go_wp2
  go_ret
  exact ⟨rfl, bw_then H0 hb3⟩
end Go.Proofs.YteeebfeljjghhaaGreat
/- The law FnExactStuckAfter answers true for every input, and each argument reads afterwards as it read before. -/
namespace Go.Proofs.YteeebfeljjghhaaGreat
open Go.ChangeShapes Go.WideShapes Go.ChangeAt Go.RowKit Go.Proofs.YteeebfeljjghhaaGreatW.PrintWords
open NoC
set_option linter.unusedVariables false
theorem own : ownKnob Tryz.prog.godebug = none := by kernel_rfl
theorem laidOut : laidOutB Tryz.prog = true := by kernel_rfl
theorem arr_of {cs : Array Value} {l : List Value} (h : cs.toList = l) : cs = l.toArray := by rw [← h]
set_option maxHeartbeats 1000000 in
set_option maxRecDepth 100000 in
theorem lifted_StuckAfter (os : Os) (started : os.Started) (H : Type) (enc : TypeId × Value → H) :
    ReturnsInHanded {} Tryz.checked os 7 .any (Rows.fnExactStuckAfterSpec.pre6 enc Tryz.prog Tryz.f7 Rows.fnExactStuckAfterRow.domain false) (Rows.fnExactStuckAfterSpec.post enc Tryz.prog Tryz.f7 false true false false) := by
  refine returnsInHanded_of_change_sized (C := Tryz.checked) own started (by kernel_rfl) Tryz.func7
    (ChangeSpec.witness6 (enc := enc) (C := Tryz.checked) false ⟨#[], #[.agg #[.int .i64 0, .int .i64 0, .slice none 0 0, .slice none 0 0, .slice none 0 0, .slice none 0 0, .slice none 0 0, .slice none 0 0, .slice none 0 0, .slice none 0 0, .int .i64 0], .int .i64 0], []⟩ 8 (by kernel_rfl) (by kernel_rfl) (by kernel_rfl) (by kernel_rfl)) ?_
  intro W base args ds gs before hval0 hW hcnd hsz0 _
  have hsz : (DataW.weightsEach Tryz.prog (Tryz.f7.params.toList ++ Rows.fnExactStuckAfterSpec.plain.varTypes Tryz.prog) (ds ++ gs)).all (· ≤ reachBytes) = true := hsz0
  have hval : ∀ (j : Nat) t v, Tryz.f7.params[j]? = some t → args[j]? = some v → Value.okWide Tryz.prog W .any base t v := hval0
  have hW' := hW
  obtain ⟨p, q, hA0, hV, rfl, hfz, hnd⟩ := hW
  have hA : DataW.TrodAll enc Tryz.prog W 0 (fun _ => true) true Tryz.f7.params.toList args.toList ds p := hA0
  rw [Tryz.params7] at hA hval hsz
  obtain ⟨v0, vs0, d0, ds0, p0, q0, hargs, rfl, rfl, h0, r0⟩ := trodAll_cons hA
  obtain ⟨v1, vs1, d1, ds1, p1, q1, rfl, rfl, rfl, h1, r1⟩ := trodAll_cons r0
  obtain ⟨rfl, rfl, rfl⟩ := trodAll_nil r1
  obtain rfl : args = #[v0, v1] := by cases args; simp_all
  obtain ⟨rfl, rfl⟩ := trodVars_none hV
  obtain ⟨c0, rfl, _⟩ := okWide_struct Tryz.underlying33 (hval 0 _ v0 rfl rfl)
  obtain ⟨c1, rfl⟩ := okWide_int Tryz.underlying3 (hval 1 _ v1 rfl rfl)
  have k0 := h0
  have lt0 : ∀ x ∈ p0, x.block < W.heap.size := by obtain ⟨m, hm⟩ := k0; exact DataW.trod_lt m _ _ _ hm
  have k1 := h1
  have lt1 : ∀ x ∈ p1, x.block < W.heap.size := by obtain ⟨m, hm⟩ := k1; exact DataW.trod_lt m _ _ _ hm
  obtain ⟨f0, g0⟩ := h0
  obtain ⟨f1, g1⟩ := h1
  obtain ⟨n0, q0', e0, hn0⟩ := op_net g0 (light_arg hsz (j := 0) rfl rfl)
  obtain rfl := arr_of e0
  clear hA0 hval0 hsz0 hsz
  refine (law_StuckAfter n0 c1 q0' W hn0).mono fun e W' ⟨he, bel⟩ => ?_
  subst he
  exact ⟨_, rfl, _, _, _, [], _, [], hW', trodAll_mk1 (shut_bool Tryz.underlying4 _), (trodAll_cons_mk (Below.trod laidOut (by kernel_rfl) (of_decide_eq_true (by kernel_rfl)) k0 bel lt0) (trodAll_cons_mk (Below.trod laidOut (by kernel_rfl) (of_decide_eq_true (by kernel_rfl)) k1 bel lt1) trodAll_mk0)), rfl, bel.frame _, fun h => by cases h⟩
theorem over_StuckAfter : Rows.fnExactStuckAfterRow.holds Tryz.pinned (OpenSpec.ofChange Rows.fnExactStuckAfterSpec) :=
  OpenClaim.holds_of_wide 7 Tryz.f7 rfl rfl rfl rfl rfl rfl rfl ⟨rfl, rfl, rfl, rfl, rfl⟩ rfl rfl rfl rfl rfl (by kernel_rfl) Tryz.func7 (by kernel_rfl)
    (of_decide_eq_true (by kernel_rfl)) (by unfold Func.isWrapper; first | (rw [if_pos (by decide +kernel)]; kernel_rfl) | (rw [if_neg (by decide +kernel)]; exact ⟨rfl, rfl⟩))
    (fun os started H enc _ => lifted_StuckAfter os started H enc)
theorem fnExactStuckAfter_holds : Rows.FnExactStuckAfterSaid := over_StuckAfter
#print axioms fnExactStuckAfter_holds
end Go.Proofs.YteeebfeljjghhaaGreat
