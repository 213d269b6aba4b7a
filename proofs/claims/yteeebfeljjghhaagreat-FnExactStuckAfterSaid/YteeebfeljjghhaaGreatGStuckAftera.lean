/- Lemmas for laws of this seat, for all inputs: RunI RunS RunJ RunT. -/
import Derived.Test.YteeebfeljjghhaaGreatG9
import Derived.Test.YteeebfeljjghhaaGreatG11
import Derived.Test.YteeebfeljjghhaaGreatG12
import Derived.Test.YteeebfeljjghhaaGreatG13
/- Steps and runs of a network: the program's side. -/
set_option linter.unusedVariables false
set_option linter.unusedSimpArgs false
namespace Go.Proofs.YteeebfeljjghhaaGreat
open Go.RowKit Go.Proofs.YteeebfeljjghhaaGreatW.PrintWords
open NoC

theorem results_cell_row2 {P : Program} {fn : Func} {p u : Tmp} {ty : TypeId} (h : fn.results = #[.cell p ty, .tmp u]) (tmps : Array Value) (w : World) (g : Nat) (t : TypeId) (cs : Array Value) (fr : Nat × Nat) (d : TypeDesc)
    (hp : tmps.getD p undef = .pointer (some ⟨g, 0, none⟩)) (hg : w.heap[g]? = some (.cells cs t fr))
    (hu : P.underlying ty = some d) (hd : (match d with | .struct _ | .array _ _ => true | _ => false) = true) (hi : (P.info? ty).map (·.size) = some cs.size) :
    (results fn tmps).run P w = .ok (.tuple #[.agg cs, tmps.getD u undef]) w := by
  have hp' : tmps[p]?.getD undef = .pointer (some ⟨g, 0, none⟩) := by simpa using hp
  rw [results_cell_tmp h]
  simp [hp', asAddr, Result.andThen, run_loadVar_row w g t ty cs fr d hg hu hd hi]
def GotNV (w w' : World) (n : Net) (v : Value) (e : Ending) : Prop := ∃ q v4 v7 v8, e = .returned (.tuple #[.agg (netCells n q), v]) ∧ NX w' w.heap.size n q v4 v7 v8
theorem canRun_parts {n : Net} {s : Int} (h : canRunN n s = true) : netOk n = true ∧ 0 ≤ s ∧ s ≤ 400 ∧ n.time + s ≤ 1000000 := by
  simp only [canRunN, Bool.and_eq_true, decide_eq_true_eq] at h
  have h2 := inside_iff.1 h.1.2
  exact ⟨h.1.1, h2.1, h2.2, h.2⟩
set_option maxHeartbeats 8000000 in
set_option maxRecDepth 100000 in
theorem impl_canRun (n : Net) (s : Int) (q : NA) (w : World) (hr : NetR 103 w n q) :
    Calls Tryz.prog 61 #[.agg (netCells n q), .int .i64 s] w fun e w' => e = .returned (.bool (canRunN n s)) ∧ Below w.heap.size w w' := by
  have R := Lib.hid hr
  obtain ⟨a1, a2, a3, a4, a5, a6, a7, a8, c1, c2, c3, c4, c5, c6, c7, c8⟩ := q
  clear hr
  dsimp only [netCells]
  cases hk : netOk n
  · have HE : Hid (canRunN n s = false) := Lib.hid (by simp [canRunN, hk])
    go_enter Tryz.func61, Tryz.ntmps61
    go_wp2_with (go_at_call 45; refine (impl_NetOk n _ _ (R.out.below bel)).mono ?_; rintro e w1 ⟨rfl, hb1⟩; obtain ⟨hc1, hf1, hz1⟩ := bcell hb1; (try simp only [szs] at hz1); have hb2 := (by first | exact bw_then hb2 hb1 | exact bw_then (bw_drewN _ hb2) hb1 | exact bw_then (bw_alloc _ hb2) hb1 | exact bw_then (bw_drew hb2) hb1 | exact bw_then HB hb1 | exact bw_then (bw_drewN _ HB) hb1 | exact bw_then (bw_alloc _ HB) hb1 | exact bw_then (bw_drew HB) hb1 | exact hb1); obtain ⟨hc2, hf2, hz2⟩ := bcell hb2; (try simp only [szs] at hz2); try (first | obtain ⟨hy1, hy2, hy3, hy4⟩ := lts4 hz2 | obtain ⟨hy1, hy2, hy3⟩ := lts3 hz2 | obtain ⟨hy1, hy2⟩ := lts2 hz2 | have hy1 := lts1 hz2); have hb9 := hb1)
    go_ret
    exact ⟨ret_bool HE.out.symm, bel⟩
  cases hi : inside s 0 400
  · have HE : Hid (canRunN n s = false) := Lib.hid (by simp [canRunN, hi])
    go_enter Tryz.func61, Tryz.ntmps61
    go_wp2_with (first | (go_at_call 45; refine (impl_NetOk n _ _ (R.out.below bel)).mono ?_; rintro e w1 ⟨rfl, hb1⟩; obtain ⟨hc1, hf1, hz1⟩ := bcell hb1; (try simp only [szs] at hz1); have hb2 := (by first | exact bw_then hb2 hb1 | exact bw_then (bw_drewN _ hb2) hb1 | exact bw_then (bw_alloc _ hb2) hb1 | exact bw_then (bw_drew hb2) hb1 | exact bw_then HB hb1 | exact bw_then (bw_drewN _ HB) hb1 | exact bw_then (bw_alloc _ HB) hb1 | exact bw_then (bw_drew HB) hb1 | exact hb1); obtain ⟨hc2, hf2, hz2⟩ := bcell hb2; (try simp only [szs] at hz2); try (first | obtain ⟨hy1, hy2, hy3, hy4⟩ := lts4 hz2 | obtain ⟨hy1, hy2, hy3⟩ := lts3 hz2 | obtain ⟨hy1, hy2⟩ := lts2 hz2 | have hy1 := lts1 hz2); have hb9 := hb1) | (go_at_call 94; refine (impl_inside _ _ _ _).mono ?_; rintro e w' ⟨rfl, rfl⟩))
    go_ret
    exact ⟨ret_bool HE.out.symm, bel⟩
  · have hi' := inside_iff.1 hi
    have ti := time_ok hk
    have HE : Hid (canRunN n s = decide (n.time + s ≤ 1000000)) := Lib.hid (by simp [canRunN, hi, hk])
    go_enter Tryz.func61, Tryz.ntmps61
    go_wp2_with (first | (go_at_call 45; refine (impl_NetOk n _ _ (R.out.below bel)).mono ?_; rintro e w1 ⟨rfl, hb1⟩; obtain ⟨hc1, hf1, hz1⟩ := bcell hb1; (try simp only [szs] at hz1); have hb2 := (by first | exact bw_then hb2 hb1 | exact bw_then (bw_drewN _ hb2) hb1 | exact bw_then (bw_alloc _ hb2) hb1 | exact bw_then (bw_drew hb2) hb1 | exact bw_then HB hb1 | exact bw_then (bw_drewN _ HB) hb1 | exact bw_then (bw_alloc _ HB) hb1 | exact bw_then (bw_drew HB) hb1 | exact hb1); obtain ⟨hc2, hf2, hz2⟩ := bcell hb2; (try simp only [szs] at hz2); try (first | obtain ⟨hy1, hy2, hy3, hy4⟩ := lts4 hz2 | obtain ⟨hy1, hy2, hy3⟩ := lts3 hz2 | obtain ⟨hy1, hy2⟩ := lts2 hz2 | have hy1 := lts1 hz2); have hb9 := hb1) | (go_at_call 94; refine (impl_inside _ _ _ _).mono ?_; rintro e w' ⟨rfl, rfl⟩))
    go_ret
    exact ⟨ret_bool HE.out.symm, bel⟩
set_option maxHeartbeats 8000000 in
set_option maxRecDepth 100000 in
theorem impl_RunNet (n : Net) (s : Int) (q : NA) (w : World) (hr : NetR 103 w n q) (hA : ∀ x ∈ n.arrs, x.length ≤ 1048576) :
  Calls Tryz.prog 18 #[.agg (netCells n q), .int .i64 s] w fun e w' => GotNV w w' (runNetN n s) (.bool (canRunN n s)) e ∧ Below w.heap.size w w' := by
 have HA := Lib.hid hA
 clear hA
 have HR := Lib.hid hr
 have NBQ := Lib.hid hr.nb
 obtain ⟨a1, a2, a3, a4, a5, a6, a7, a8, c1, c2, c3, c4, c5, c6, c7, c8⟩ := q
 clear hr
 dsimp only [netCells]
 go_enter Tryz.func18, Tryz.ntmps18
 go_wp2_with fail

 refine (impl_copyNet n _ _ (HR.out.below bel)).mono ?_
 rintro e w1 ⟨hg1, HBC⟩
 obtain ⟨qq, v4, v7, v8, rfl, HN0⟩ := hg1
 obtain ⟨b1, b2, b3, b4, b5, b6, b7, b8, d1, d2, d3, d4, d5, d6, d7, d8⟩ := qq
 dsimp only [netCells]
 have HN1 := Lib.hid HN0
 clear HN0
 obtain ⟨w0, e0⟩ : ∃ z, z = w1.alloc (.cells #[.int .i64 n.mesh.g.w, .int .i64 n.mesh.g.h, .slice b1 n.mesh.br.length d1, .slice b2 n.pa.length d2, .slice b3 n.pb.length d3, .slice b4 n.bufs.length d4, .slice b5 n.owners.length d5, .slice b6 n.turns.length d6, .slice b7 n.srcs.length d7, .slice b8 n.arrs.length d8, .int .i64 n.time] 43) := ⟨_, rfl⟩
 have hz0 : w0.heap.size = w1.heap.size + 1 := by rw [e0]; simp only [szs]
 have hw01 : Below w1.heap.size w1 w0 := by rw [e0]; exact bw_alloc _ (bw_refl w1)
 obtain ⟨bx, ebx⟩ : ∃ z, z = w1.heap.size := ⟨_, rfl⟩
 have HBT : Hid (BT w0 bx n ⟨b1, b2, b3, b4, b5, b6, b7, b8, d1, d2, d3, d4, d5, d6, d7, d8⟩) := Lib.hid (by rw [e0, ebx]; exact blk_new w1 _)
 obtain ⟨lo, elo⟩ : ∃ z, z = w.heap.size + 2 := ⟨_, rfl⟩
 have HN : Hid (NX w0 lo n ⟨b1, b2, b3, b4, b5, b6, b7, b8, d1, d2, d3, d4, d5, d6, d7, d8⟩ v4 v7 v8) := Lib.hid ((HN1.out.lower (by simp only [szs]; omega)).below hw01)
 have HHB : Hid (Below w.heap.size w w0) := Lib.hid (bw_then (bw_then (bw_alloc _ (bw_alloc _ (bw_refl w))) HBC) hw01)
 have sw : w.heap.size + 2 ≤ w1.heap.size := by have := bw_size HBC; simp only [szs] at this; omega
 have HX0 : Hid (Box w0 w.heap.size #[.int .i64 n.mesh.g.w, .int .i64 n.mesh.g.h, .slice a1 n.mesh.br.length c1, .slice a2 n.pa.length c2, .slice a3 n.pb.length c3, .slice a4 n.bufs.length c4, .slice a5 n.owners.length c5, .slice a6 n.turns.length c6, .slice a7 n.srcs.length c7, .slice a8 n.arrs.length c8, .int .i64 n.time]) := Lib.hid (((((Box.new w w.heap.size #[.int .i64 n.mesh.g.w, .int .i64 n.mesh.g.h, .slice a1 n.mesh.br.length c1, .slice a2 n.pa.length c2, .slice a3 n.pb.length c3, .slice a4 n.bufs.length c4, .slice a5 n.owners.length c5, .slice a6 n.turns.length c6, .slice a7 n.srcs.length c7, .slice a8 n.arrs.length c8, .int .i64 n.time] 43 rfl).alloc _).below HBC)).below hw01)
 have HZB : Hid (BN w0 (w.heap.size + 1)) := Lib.hid (((BT.bn (by have hn := BT.new (w.alloc (.cells #[.int .i64 n.mesh.g.w, .int .i64 n.mesh.g.h, .slice a1 n.mesh.br.length c1, .slice a2 n.pa.length c2, .slice a3 n.pb.length c3, .slice a4 n.bufs.length c4, .slice a5 n.owners.length c5, .slice a6 n.turns.length c6, .slice a7 n.srcs.length c7, .slice a8 n.arrs.length c8, .int .i64 n.time] 43)) ⟨⟨⟨0, 0⟩, []⟩, [], [], [], [], [], [], [], 0⟩ ⟨none, none, none, none, none, none, none, none, 0, 0, 0, 0, 0, 0, 0, 0⟩; rw [World.size_alloc] at hn; exact hn)).below HBC).below hw01)
 have xo0 : (w1.alloc (.cells #[.int .i64 n.mesh.g.w, .int .i64 n.mesh.g.h, .slice b1 n.mesh.br.length d1, .slice b2 n.pa.length d2, .slice b3 n.pb.length d3, .slice b4 n.bufs.length d4, .slice b5 n.owners.length d5, .slice b6 n.turns.length d6, .slice b7 n.srcs.length d7, .slice b8 n.arrs.length d8, .int .i64 n.time] 43)).cell? ⟨w.heap.size, 0, none⟩ = some (.int .i64 n.mesh.g.w) := by rw [← e0]; exact HX0.out.get 0
 have xo1 : (w1.alloc (.cells #[.int .i64 n.mesh.g.w, .int .i64 n.mesh.g.h, .slice b1 n.mesh.br.length d1, .slice b2 n.pa.length d2, .slice b3 n.pb.length d3, .slice b4 n.bufs.length d4, .slice b5 n.owners.length d5, .slice b6 n.turns.length d6, .slice b7 n.srcs.length d7, .slice b8 n.arrs.length d8, .int .i64 n.time] 43)).cell? ⟨w.heap.size, 1, none⟩ = some (.int .i64 n.mesh.g.h) := by rw [← e0]; exact HX0.out.get 1
 have xo2 : (w1.alloc (.cells #[.int .i64 n.mesh.g.w, .int .i64 n.mesh.g.h, .slice b1 n.mesh.br.length d1, .slice b2 n.pa.length d2, .slice b3 n.pb.length d3, .slice b4 n.bufs.length d4, .slice b5 n.owners.length d5, .slice b6 n.turns.length d6, .slice b7 n.srcs.length d7, .slice b8 n.arrs.length d8, .int .i64 n.time] 43)).cell? ⟨w.heap.size, 2, none⟩ = some (.slice a1 n.mesh.br.length c1) := by rw [← e0]; exact HX0.out.get 2
 have xo3 : (w1.alloc (.cells #[.int .i64 n.mesh.g.w, .int .i64 n.mesh.g.h, .slice b1 n.mesh.br.length d1, .slice b2 n.pa.length d2, .slice b3 n.pb.length d3, .slice b4 n.bufs.length d4, .slice b5 n.owners.length d5, .slice b6 n.turns.length d6, .slice b7 n.srcs.length d7, .slice b8 n.arrs.length d8, .int .i64 n.time] 43)).cell? ⟨w.heap.size, 3, none⟩ = some (.slice a2 n.pa.length c2) := by rw [← e0]; exact HX0.out.get 3
 have xo4 : (w1.alloc (.cells #[.int .i64 n.mesh.g.w, .int .i64 n.mesh.g.h, .slice b1 n.mesh.br.length d1, .slice b2 n.pa.length d2, .slice b3 n.pb.length d3, .slice b4 n.bufs.length d4, .slice b5 n.owners.length d5, .slice b6 n.turns.length d6, .slice b7 n.srcs.length d7, .slice b8 n.arrs.length d8, .int .i64 n.time] 43)).cell? ⟨w.heap.size, 4, none⟩ = some (.slice a3 n.pb.length c3) := by rw [← e0]; exact HX0.out.get 4
 have xo5 : (w1.alloc (.cells #[.int .i64 n.mesh.g.w, .int .i64 n.mesh.g.h, .slice b1 n.mesh.br.length d1, .slice b2 n.pa.length d2, .slice b3 n.pb.length d3, .slice b4 n.bufs.length d4, .slice b5 n.owners.length d5, .slice b6 n.turns.length d6, .slice b7 n.srcs.length d7, .slice b8 n.arrs.length d8, .int .i64 n.time] 43)).cell? ⟨w.heap.size, 5, none⟩ = some (.slice a4 n.bufs.length c4) := by rw [← e0]; exact HX0.out.get 5
 have xo6 : (w1.alloc (.cells #[.int .i64 n.mesh.g.w, .int .i64 n.mesh.g.h, .slice b1 n.mesh.br.length d1, .slice b2 n.pa.length d2, .slice b3 n.pb.length d3, .slice b4 n.bufs.length d4, .slice b5 n.owners.length d5, .slice b6 n.turns.length d6, .slice b7 n.srcs.length d7, .slice b8 n.arrs.length d8, .int .i64 n.time] 43)).cell? ⟨w.heap.size, 6, none⟩ = some (.slice a5 n.owners.length c5) := by rw [← e0]; exact HX0.out.get 6
 have xo7 : (w1.alloc (.cells #[.int .i64 n.mesh.g.w, .int .i64 n.mesh.g.h, .slice b1 n.mesh.br.length d1, .slice b2 n.pa.length d2, .slice b3 n.pb.length d3, .slice b4 n.bufs.length d4, .slice b5 n.owners.length d5, .slice b6 n.turns.length d6, .slice b7 n.srcs.length d7, .slice b8 n.arrs.length d8, .int .i64 n.time] 43)).cell? ⟨w.heap.size, 7, none⟩ = some (.slice a6 n.turns.length c6) := by rw [← e0]; exact HX0.out.get 7
 have xo8 : (w1.alloc (.cells #[.int .i64 n.mesh.g.w, .int .i64 n.mesh.g.h, .slice b1 n.mesh.br.length d1, .slice b2 n.pa.length d2, .slice b3 n.pb.length d3, .slice b4 n.bufs.length d4, .slice b5 n.owners.length d5, .slice b6 n.turns.length d6, .slice b7 n.srcs.length d7, .slice b8 n.arrs.length d8, .int .i64 n.time] 43)).cell? ⟨w.heap.size, 8, none⟩ = some (.slice a7 n.srcs.length c7) := by rw [← e0]; exact HX0.out.get 8
 have xo9 : (w1.alloc (.cells #[.int .i64 n.mesh.g.w, .int .i64 n.mesh.g.h, .slice b1 n.mesh.br.length d1, .slice b2 n.pa.length d2, .slice b3 n.pb.length d3, .slice b4 n.bufs.length d4, .slice b5 n.owners.length d5, .slice b6 n.turns.length d6, .slice b7 n.srcs.length d7, .slice b8 n.arrs.length d8, .int .i64 n.time] 43)).cell? ⟨w.heap.size, 9, none⟩ = some (.slice a8 n.arrs.length c8) := by rw [← e0]; exact HX0.out.get 9
 have xo10 : (w1.alloc (.cells #[.int .i64 n.mesh.g.w, .int .i64 n.mesh.g.h, .slice b1 n.mesh.br.length d1, .slice b2 n.pa.length d2, .slice b3 n.pb.length d3, .slice b4 n.bufs.length d4, .slice b5 n.owners.length d5, .slice b6 n.turns.length d6, .slice b7 n.srcs.length d7, .slice b8 n.arrs.length d8, .int .i64 n.time] 43)).cell? ⟨w.heap.size, 10, none⟩ = some (.int .i64 n.time) := by rw [← e0]; exact HX0.out.get 10
 have xol : w.heap.size < (w1.alloc (.cells #[.int .i64 n.mesh.g.w, .int .i64 n.mesh.g.h, .slice b1 n.mesh.br.length d1, .slice b2 n.pa.length d2, .slice b3 n.pb.length d3, .slice b4 n.bufs.length d4, .slice b5 n.owners.length d5, .slice b6 n.turns.length d6, .slice b7 n.srcs.length d7, .slice b8 n.arrs.length d8, .int .i64 n.time] 43)).heap.size := by rw [← e0]; exact HX0.out.lt
 go_wp2_with fail
 rw [← e0]
 try rw [← ebx]
 repeat (first | clear xo0 | clear xo1 | clear xo2 | clear xo3 | clear xo4 | clear xo5 | clear xo6 | clear xo7 | clear xo8 | clear xo9 | clear xo10)
 clear xol
 have sb1 : bx < w0.heap.size := by omega
 have sb2 : w.heap.size + 2 ≤ bx := by omega
 have sl1 : lo ≤ w.heap.size + 2 := by omega
 have sl2 : w.heap.size + 2 ≤ lo := by omega
 have sl3 : lo ≤ bx := by omega
 have sl4 : lo ≤ w0.heap.size := by omega
 clear e0 ebx elo hz0 sw HN1 HBC hw01

 refine (impl_canRun n s _ _ (HR.out.below HHB.out)).mono ?_

 rintro e w2 ⟨rfl, hb2⟩
 have HN2 := Lib.hid (HN.out.below hb2)
 have HB2 := Lib.hid (HBT.out.below hb2)
 have HZ2 := Lib.hid (HZB.out.below hb2)
 have HX2 := Lib.hid (HX0.out.below hb2)
 have HL2 : Hid (Below lo w0 w2) := Lib.hid (Below.cut hb2 sl4)
 have zz2 := bw_size hb2
 have HWB : Hid (Below w.heap.size w w2) := Lib.hid (bw_then HHB.out hb2)
 clear hb2

 cases hk : canRunN n s
 ·have HE : Hid (runNetN n s = n) := Lib.hid (by simp [runNetN, hk])
  have HK := Lib.hid hk
  have z0 : w2.cell? ⟨bx, 0, none⟩ = some (.int .i64 n.mesh.g.w) := HB2.out.box.get 0
  have z1 : w2.cell? ⟨bx, 1, none⟩ = some (.int .i64 n.mesh.g.h) := HB2.out.box.get 1
  have z2 : w2.cell? ⟨bx, 2, none⟩ = some (.slice b1 n.mesh.br.length d1) := HB2.out.box.get 2
  have z3 : w2.cell? ⟨bx, 3, none⟩ = some (.slice b2 n.pa.length d2) := HB2.out.box.get 3
  have z4 : w2.cell? ⟨bx, 4, none⟩ = some (.slice b3 n.pb.length d3) := HB2.out.box.get 4
  have z5 : w2.cell? ⟨bx, 5, none⟩ = some (.slice b4 n.bufs.length d4) := HB2.out.box.get 5
  have z6 : w2.cell? ⟨bx, 6, none⟩ = some (.slice b5 n.owners.length d5) := HB2.out.box.get 6
  have z7 : w2.cell? ⟨bx, 7, none⟩ = some (.slice b6 n.turns.length d6) := HB2.out.box.get 7
  have z8 : w2.cell? ⟨bx, 8, none⟩ = some (.slice b7 n.srcs.length d7) := HB2.out.box.get 8
  have z9 : w2.cell? ⟨bx, 9, none⟩ = some (.slice b8 n.arrs.length d8) := HB2.out.box.get 9
  have z10 : w2.cell? ⟨bx, 10, none⟩ = some (.int .i64 n.time) := HB2.out.box.get 10
  have zx : bx < w2.heap.size := HB2.out.lt

  obtain ⟨ry0, rv0⟩ := HZ2.out.get 0 (by omega)
  have rz0 := HZ2.out.frozen 0
  obtain ⟨ry1, rv1⟩ := HZ2.out.get 1 (by omega)
  have rz1 := HZ2.out.frozen 1
  obtain ⟨ry2, rv2⟩ := HZ2.out.get 2 (by omega)
  have rz2 := HZ2.out.frozen 2
  obtain ⟨ry3, rv3⟩ := HZ2.out.get 3 (by omega)
  have rz3 := HZ2.out.frozen 3
  obtain ⟨ry4, rv4⟩ := HZ2.out.get 4 (by omega)
  have rz4 := HZ2.out.frozen 4
  obtain ⟨ry5, rv5⟩ := HZ2.out.get 5 (by omega)
  have rz5 := HZ2.out.frozen 5
  obtain ⟨ry6, rv6⟩ := HZ2.out.get 6 (by omega)
  have rz6 := HZ2.out.frozen 6
  obtain ⟨ry7, rv7⟩ := HZ2.out.get 7 (by omega)
  have rz7 := HZ2.out.frozen 7
  obtain ⟨ry8, rv8⟩ := HZ2.out.get 8 (by omega)
  have rz8 := HZ2.out.frozen 8
  obtain ⟨ry9, rv9⟩ := HZ2.out.get 9 (by omega)
  have rz9 := HZ2.out.frozen 9
  obtain ⟨ry10, rv10⟩ := HZ2.out.get 10 (by omega)
  have rz10 := HZ2.out.frozen 10
  go_wp2
  obtain ⟨W9, e9⟩ : ∃ z, z = putN w2 (w.heap.size + 1) n ⟨b1, b2, b3, b4, b5, b6, b7, b8, d1, d2, d3, d4, d5, d6, d7, d8⟩ := ⟨_, rfl⟩
  have HB9 : Hid (BT W9 (w.heap.size + 1) n ⟨b1, b2, b3, b4, b5, b6, b7, b8, d1, d2, d3, d4, d5, d6, d7, d8⟩) := Lib.hid (by rw [e9]; exact putN_BT HZ2.out)
  have HN9 := Lib.hid (show NX W9 _ n ⟨b1, b2, b3, b4, b5, b6, b7, b8, d1, d2, d3, d4, d5, d6, d7, d8⟩ v4 v7 v8 from by rw [e9]; exact HN2.out.put HZ2.out)
  have HL9 : Hid (Below w.heap.size w W9) := Lib.hid (by rw [e9]; exact below_put HWB.out (by omega))
  unfold putN at e9
  try dsimp only at e9
  rw [← e9]
  clear e9
  exact bodyPost_ret (results_cell_row2 Tryz.results18 _ _ ((w.heap.size + 1)) 43 _ (0, 0) _ rfl HB9.out Tryz.underlying43 rfl (by kernel_rfl)) rfl (by dsimp only; rw [HE.out, HK.out]; exact ⟨⟨_, _, _, _, rfl, HN9.out.lower (by omega)⟩, HL9.out⟩)
 ·have HE : Hid (runNetN n s = runN n s.toNat) := Lib.hid (by simp [runNetN, hk])
  obtain ⟨ok, s0, s4, st⟩ := canRun_parts hk
  have HK := Lib.hid hk
  clear hk
  obtain ⟨S, hS⟩ : ∃ S : Nat, s = (S : Int) := ⟨s.toNat, by omega⟩
  subst hS
  rw [Int.toNat_natCast] at HE
  have HOK : Hid (∀ k : Nat, k ≤ S → netOk (runN n k) = true) := Lib.hid (fun k hk => runN_ok ok k (by omega))
  have hS4 : S ≤ 400 := by omega
  go_wp2_with fail
  go_loopw [15] (fun i wr => ∃ (k : Nat) (q' : NA) (u4 u7 u8 : List Value), i = .int .i64 k ∧ k ≤ S ∧ Hid (NX wr lo (runN n k) q' u4 u7 u8) ∧ Hid (BT wr bx (runN n k) q') ∧ Hid (Below lo w0 wr)) (fun i _ => S - (intOf i).toNat)
  case atStart => exact ⟨0, _, v4, v7, v8, rfl, Nat.zero_le _, Lib.hid HN2.out, Lib.hid HB2.out, Lib.hid HL2.out⟩
  case round =>
   clear HN2 HB2 HL2 HZ2 HX2 HWB
   obtain ⟨k, q', u4, u7, u8, rfl, hk, HNk, HBk, HLk⟩ := hrel
   by_cases hlt : k < S
   ·skip
    go_wp2_with fail
    refine (impl_step (runN n k) q' bx lo u4 u7 u8 _ HNk.out HBk.out (run_nb NBQ.out HA.out k (by omega) (HOK.out k (by omega))) (HOK.out k (by omega)) sl3 (Nat.le_trans sl4 HLk.out.size)).mono ?_
    rintro e w3 ⟨rfl, ⟨q3, y4, y7, y8, hn3, hb3⟩, hl3⟩
    have HN3 := Lib.hid hn3
    have HB3 := Lib.hid hb3
    have HL3 : Hid (Below lo w0 w3) := Lib.hid (bw_trans HLk.out hl3 (Nat.le_refl _))
    clear hn3 hb3 hl3
    go_wp2
    go_roundw
    case rel => exact ⟨k + 1, q3, y4, y7, y8, by go_num, by omega, Lib.hid HN3.out, Lib.hid HB3.out, Lib.hid HL3.out⟩
    case measure => simp [intOf]; omega
   ·obtain rfl : k = S := by omega
    obtain ⟨p1, p2, p3, p4, p5, p6, p7, p8, r1, r2, r3, r4, r5, r6, r7, r8⟩ := q'
    obtain ⟨wk, ewk⟩ : ∃ z, z = wr := ⟨_, rfl⟩
    subst ewk
    have HZk : Hid (BN wk (w.heap.size + 1)) := Lib.hid (HZB.out.low HLk.out (by omega))
    have HWBk : Hid (Below w.heap.size w wk) := Lib.hid (bw_trans HHB.out HLk.out (by omega))
    have zzk := HLk.out.size
    obtain ⟨X, hX⟩ : ∃ X, runN n k = X := ⟨_, rfl⟩
    rw [hX] at HNk HBk
    rw [hX] at HE
    clear hX
    have z0 : wk.cell? ⟨bx, 0, none⟩ = some (.int .i64 X.mesh.g.w) := HBk.out.box.get 0
    have z1 : wk.cell? ⟨bx, 1, none⟩ = some (.int .i64 X.mesh.g.h) := HBk.out.box.get 1
    have z2 : wk.cell? ⟨bx, 2, none⟩ = some (.slice p1 X.mesh.br.length r1) := HBk.out.box.get 2
    have z3 : wk.cell? ⟨bx, 3, none⟩ = some (.slice p2 X.pa.length r2) := HBk.out.box.get 3
    have z4 : wk.cell? ⟨bx, 4, none⟩ = some (.slice p3 X.pb.length r3) := HBk.out.box.get 4
    have z5 : wk.cell? ⟨bx, 5, none⟩ = some (.slice p4 X.bufs.length r4) := HBk.out.box.get 5
    have z6 : wk.cell? ⟨bx, 6, none⟩ = some (.slice p5 X.owners.length r5) := HBk.out.box.get 6
    have z7 : wk.cell? ⟨bx, 7, none⟩ = some (.slice p6 X.turns.length r6) := HBk.out.box.get 7
    have z8 : wk.cell? ⟨bx, 8, none⟩ = some (.slice p7 X.srcs.length r7) := HBk.out.box.get 8
    have z9 : wk.cell? ⟨bx, 9, none⟩ = some (.slice p8 X.arrs.length r8) := HBk.out.box.get 9
    have z10 : wk.cell? ⟨bx, 10, none⟩ = some (.int .i64 X.time) := HBk.out.box.get 10
    have zx : bx < wk.heap.size := HBk.out.lt

    obtain ⟨ry0, rv0⟩ := HZk.out.get 0 (by omega)
    have rz0 := HZk.out.frozen 0
    obtain ⟨ry1, rv1⟩ := HZk.out.get 1 (by omega)
    have rz1 := HZk.out.frozen 1
    obtain ⟨ry2, rv2⟩ := HZk.out.get 2 (by omega)
    have rz2 := HZk.out.frozen 2
    obtain ⟨ry3, rv3⟩ := HZk.out.get 3 (by omega)
    have rz3 := HZk.out.frozen 3
    obtain ⟨ry4, rv4⟩ := HZk.out.get 4 (by omega)
    have rz4 := HZk.out.frozen 4
    obtain ⟨ry5, rv5⟩ := HZk.out.get 5 (by omega)
    have rz5 := HZk.out.frozen 5
    obtain ⟨ry6, rv6⟩ := HZk.out.get 6 (by omega)
    have rz6 := HZk.out.frozen 6
    obtain ⟨ry7, rv7⟩ := HZk.out.get 7 (by omega)
    have rz7 := HZk.out.frozen 7
    obtain ⟨ry8, rv8⟩ := HZk.out.get 8 (by omega)
    have rz8 := HZk.out.frozen 8
    obtain ⟨ry9, rv9⟩ := HZk.out.get 9 (by omega)
    have rz9 := HZk.out.frozen 9
    obtain ⟨ry10, rv10⟩ := HZk.out.get 10 (by omega)
    have rz10 := HZk.out.frozen 10
    go_wp2
    obtain ⟨W9, e9⟩ : ∃ z, z = putN wk (w.heap.size + 1) X ⟨p1, p2, p3, p4, p5, p6, p7, p8, r1, r2, r3, r4, r5, r6, r7, r8⟩ := ⟨_, rfl⟩
    have HB9 : Hid (BT W9 (w.heap.size + 1) X ⟨p1, p2, p3, p4, p5, p6, p7, p8, r1, r2, r3, r4, r5, r6, r7, r8⟩) := Lib.hid (by rw [e9]; exact putN_BT HZk.out)
    have HN9 := Lib.hid (show NX W9 _ X ⟨p1, p2, p3, p4, p5, p6, p7, p8, r1, r2, r3, r4, r5, r6, r7, r8⟩ u4 u7 u8 from by rw [e9]; exact HNk.out.put HZk.out)
    have HL9 : Hid (Below w.heap.size w W9) := Lib.hid (by rw [e9]; exact below_put HWBk.out (by omega))
    unfold putN at e9
    try dsimp only at e9
    rw [← e9]
    clear e9
    exact bodyPost_ret (results_cell_row2 Tryz.results18 _ _ ((w.heap.size + 1)) 43 _ (0, 0) _ rfl HB9.out Tryz.underlying43 rfl (by kernel_rfl)) rfl (by dsimp only; rw [HE.out, HK.out]; exact ⟨⟨_, _, _, _, rfl, HN9.out.lower (by omega)⟩, HL9.out⟩)
end Go.Proofs.YteeebfeljjghhaaGreat
/- Steps and runs of a network: the reference's side. -/
set_option linter.unusedVariables false
set_option linter.unusedSimpArgs false
namespace Go.Proofs.YteeebfeljjghhaaGreat
open Go.RowKit Go.Proofs.YteeebfeljjghhaaGreatW.PrintWords
open NoC

def GotNL (lo : Nat) (w' : World) (n : Net) (e : Ending) : Prop := ∃ q v4 v7 v8, e = .returned (.agg (netCells n q)) ∧ NX w' lo n q v4 v7 v8
theorem putN_other {w : World} {b c : Nat} {n : Net} {q : NA} (h : BN w c) (hne : c ≠ b) : BN (putN w b n q) c := by
  unfold putN
  exact BN.off (BN.off (BN.off (BN.off (BN.off (BN.off (BN.off (BN.off (BN.off (BN.off (BN.off h hne 0 _) hne 1 _) hne 2 _) hne 3 _) hne 4 _) hne 5 _) hne 6 _) hne 7 _) hne 8 _) hne 9 _) hne 10 _
theorem run_idle_at {n : Net} {k S : Nat} (hk : k ≤ S) (h : idleN (runN n k) = true) : runN n S = { runN n k with time := (runN n k).time + (S : Int) - (k : Int) } := by
  have e : S = k + (S - k) := by omega
  rw [e, runN_add, idle_run h]
  congr 1
  omega
set_option maxHeartbeats 8000000 in
set_option maxRecDepth 100000 in
theorem spec_l20Run (n : Net) (S : Nat) (q : NA) (v4 v7 v8 : List Value) (lo : Nat) (w : World) (hN : NX w lo n q v4 v7 v8) (nb : NB n) (hA : ∀ x ∈ n.arrs, x.length ≤ 1048576) (ok : netOk n = true) (hS : S ≤ 400) (ht : n.time + S ≤ 1000000) (hlo : lo ≤ w.heap.size) :
  Calls Tryz.prog 60 #[.agg (netCells n q), .int .i64 S] w fun e w' => GotNL lo w' (runN n S) e ∧ Below w.heap.size w w' := by
 have HN := Lib.hid hN
 have HA := Lib.hid hA
 have NBQ := Lib.hid nb
 clear hN hA nb
 obtain ⟨a1, a2, a3, a4, a5, a6, a7, a8, c1, c2, c3, c4, c5, c6, c7, c8⟩ := q
 dsimp only [netCells]
 have ti := time_ok ok
 have HOK : Hid (∀ k : Nat, k ≤ S → netOk (runN n k) = true) := Lib.hid (fun k hk => runN_ok ok k (by omega))
 clear ok
 have HB0 : Hid (BT ((w.alloc (.cells #[.int .i64 n.mesh.g.w, .int .i64 n.mesh.g.h, .slice a1 n.mesh.br.length c1, .slice a2 n.pa.length c2, .slice a3 n.pb.length c3, .slice a4 n.bufs.length c4, .slice a5 n.owners.length c5, .slice a6 n.turns.length c6, .slice a7 n.srcs.length c7, .slice a8 n.arrs.length c8, .int .i64 n.time] 43)).alloc (.cells #[.int .i64 0, .int .i64 0, .slice none 0 0, .slice none 0 0, .slice none 0 0, .slice none 0 0, .slice none 0 0, .slice none 0 0, .slice none 0 0, .slice none 0 0, .int .i64 0] 43)) w.heap.size n ⟨a1, a2, a3, a4, a5, a6, a7, a8, c1, c2, c3, c4, c5, c6, c7, c8⟩) := Lib.hid ((BT.new w n ⟨a1, a2, a3, a4, a5, a6, a7, a8, c1, c2, c3, c4, c5, c6, c7, c8⟩).below (bw_alloc _ (bw_refl _)))
 have HZ0 : Hid (BN ((w.alloc (.cells #[.int .i64 n.mesh.g.w, .int .i64 n.mesh.g.h, .slice a1 n.mesh.br.length c1, .slice a2 n.pa.length c2, .slice a3 n.pb.length c3, .slice a4 n.bufs.length c4, .slice a5 n.owners.length c5, .slice a6 n.turns.length c6, .slice a7 n.srcs.length c7, .slice a8 n.arrs.length c8, .int .i64 n.time] 43)).alloc (.cells #[.int .i64 0, .int .i64 0, .slice none 0 0, .slice none 0 0, .slice none 0 0, .slice none 0 0, .slice none 0 0, .slice none 0 0, .slice none 0 0, .slice none 0 0, .int .i64 0] 43)) (w.heap.size + 1)) := Lib.hid ((BT.bn (by have hn := BT.new (w.alloc (.cells #[.int .i64 n.mesh.g.w, .int .i64 n.mesh.g.h, .slice a1 n.mesh.br.length c1, .slice a2 n.pa.length c2, .slice a3 n.pb.length c3, .slice a4 n.bufs.length c4, .slice a5 n.owners.length c5, .slice a6 n.turns.length c6, .slice a7 n.srcs.length c7, .slice a8 n.arrs.length c8, .int .i64 n.time] 43)) ⟨⟨⟨0, 0⟩, []⟩, [], [], [], [], [], [], [], 0⟩ ⟨none, none, none, none, none, none, none, none, 0, 0, 0, 0, 0, 0, 0, 0⟩; rw [World.size_alloc] at hn; exact hn)))
 have HW0 : Hid (Below w.heap.size w ((w.alloc (.cells #[.int .i64 n.mesh.g.w, .int .i64 n.mesh.g.h, .slice a1 n.mesh.br.length c1, .slice a2 n.pa.length c2, .slice a3 n.pb.length c3, .slice a4 n.bufs.length c4, .slice a5 n.owners.length c5, .slice a6 n.turns.length c6, .slice a7 n.srcs.length c7, .slice a8 n.arrs.length c8, .int .i64 n.time] 43)).alloc (.cells #[.int .i64 0, .int .i64 0, .slice none 0 0, .slice none 0 0, .slice none 0 0, .slice none 0 0, .slice none 0 0, .slice none 0 0, .slice none 0 0, .slice none 0 0, .int .i64 0] 43))) := Lib.hid (bw_alloc _ (bw_alloc _ (bw_refl w)))
 go_enter Tryz.func60, Tryz.ntmps60
 go_wp2_with fail
 go_loopw [5] (fun i wr => ∃ (k : Nat) (q' : NA) (u4 u7 u8 : List Value), i = .int .i64 k ∧ k ≤ S ∧ Hid (NX wr lo (runN n k) q' u4 u7 u8) ∧ Hid (BT wr w.heap.size (runN n k) q') ∧ Hid (BN wr (w.heap.size + 1)) ∧ Hid (Below w.heap.size w wr)) (fun i _ => S - (intOf i).toNat)
 case atStart => exact ⟨0, ⟨a1, a2, a3, a4, a5, a6, a7, a8, c1, c2, c3, c4, c5, c6, c7, c8⟩, v4, v7, v8, rfl, Nat.zero_le _, Lib.hid (HN.out.below HW0.out), Lib.hid HB0.out, Lib.hid HZ0.out, Lib.hid HW0.out⟩
 case round =>
  clear HB0 HZ0 HW0
  obtain ⟨k, q', u4, u7, u8, rfl, hk, HNk, HBk, HZk, HWk⟩ := hrel
  obtain ⟨wk, ewk⟩ : ∃ z, z = wr := ⟨_, rfl⟩
  subst ewk
  obtain ⟨p1, p2, p3, p4, p5, p6, p7, p8, r1, r2, r3, r4, r5, r6, r7, r8⟩ := q'
  obtain ⟨X, hX⟩ : ∃ X, runN n k = X := ⟨_, rfl⟩
  have OKX : Hid (netOk X = true) := Lib.hid (by rw [← hX]; exact HOK.out k hk)
  have NBX : Hid (NB X) := Lib.hid (by rw [← hX]; exact run_nb NBQ.out HA.out k (by omega) (HOK.out k hk))
  have HIX : Hid (idleN X = true → runN n S = { X with time := X.time + (S : Int) - (k : Int) }) := Lib.hid (fun h => by rw [← hX] at h ⊢; exact run_idle_at hk h)
  have HSX : Hid (runN n (k + 1) = stepN X) := Lib.hid (by rw [← hX]; rfl)
  have HSE : Hid (k = S → runN n S = X) := Lib.hid (fun e => by rw [← e]; exact hX)
  have tX0 := (time_ok OKX.out).1
  have tX1 := (time_ok OKX.out).2
  rw [hX] at HNk HBk
  clear hX
  have HRX := Lib.hid (HNk.out.reads NBX.out)
  have zl := HBk.out.lt
  have zw := bw_size HWk.out
  have z0 : wk.cell? ⟨w.heap.size, 0, none⟩ = some (.int .i64 X.mesh.g.w) := HBk.out.box.get 0
  have z1 : wk.cell? ⟨w.heap.size, 1, none⟩ = some (.int .i64 X.mesh.g.h) := HBk.out.box.get 1
  have z2 : wk.cell? ⟨w.heap.size, 2, none⟩ = some (.slice p1 X.mesh.br.length r1) := HBk.out.box.get 2
  have z3 : wk.cell? ⟨w.heap.size, 3, none⟩ = some (.slice p2 X.pa.length r2) := HBk.out.box.get 3
  have z4 : wk.cell? ⟨w.heap.size, 4, none⟩ = some (.slice p3 X.pb.length r3) := HBk.out.box.get 4
  have z5 : wk.cell? ⟨w.heap.size, 5, none⟩ = some (.slice p4 X.bufs.length r4) := HBk.out.box.get 5
  have z6 : wk.cell? ⟨w.heap.size, 6, none⟩ = some (.slice p5 X.owners.length r5) := HBk.out.box.get 6
  have z7 : wk.cell? ⟨w.heap.size, 7, none⟩ = some (.slice p6 X.turns.length r6) := HBk.out.box.get 7
  have z8 : wk.cell? ⟨w.heap.size, 8, none⟩ = some (.slice p7 X.srcs.length r7) := HBk.out.box.get 8
  have z9 : wk.cell? ⟨w.heap.size, 9, none⟩ = some (.slice p8 X.arrs.length r8) := HBk.out.box.get 9
  have z10 : wk.cell? ⟨w.heap.size, 10, none⟩ = some (.int .i64 X.time) := HBk.out.box.get 10
  by_cases hlt : k < S
  ·cases hi : idleN X
   ·go_wp2_with fail
    refine (spec_l20Idle X ⟨p1, p2, p3, p4, p5, p6, p7, p8, r1, r2, r3, r4, r5, r6, r7, r8⟩ _ HRX.out).mono ?_
    rintro e w5 ⟨he, hb5⟩
    rw [hi] at he
    subst he
    have HN5 := Lib.hid (HNk.out.below hb5)
    have HB5 := Lib.hid (HBk.out.below hb5)
    have HZ5 := Lib.hid (HZk.out.below hb5)
    have HW5 : Hid (Below w.heap.size w w5) := Lib.hid (bw_then HWk.out hb5)
    repeat (first | clear z0 | clear z1 | clear z2 | clear z3 | clear z4 | clear z5 | clear z6 | clear z7 | clear z8 | clear z9 | clear z10)
    clear HNk HBk HZk HRX hb5 hi zl
    have z0 : w5.cell? ⟨w.heap.size, 0, none⟩ = some (.int .i64 X.mesh.g.w) := HB5.out.box.get 0
    have z1 : w5.cell? ⟨w.heap.size, 1, none⟩ = some (.int .i64 X.mesh.g.h) := HB5.out.box.get 1
    have z2 : w5.cell? ⟨w.heap.size, 2, none⟩ = some (.slice p1 X.mesh.br.length r1) := HB5.out.box.get 2
    have z3 : w5.cell? ⟨w.heap.size, 3, none⟩ = some (.slice p2 X.pa.length r2) := HB5.out.box.get 3
    have z4 : w5.cell? ⟨w.heap.size, 4, none⟩ = some (.slice p3 X.pb.length r3) := HB5.out.box.get 4
    have z5 : w5.cell? ⟨w.heap.size, 5, none⟩ = some (.slice p4 X.bufs.length r4) := HB5.out.box.get 5
    have z6 : w5.cell? ⟨w.heap.size, 6, none⟩ = some (.slice p5 X.owners.length r5) := HB5.out.box.get 6
    have z7 : w5.cell? ⟨w.heap.size, 7, none⟩ = some (.slice p6 X.turns.length r6) := HB5.out.box.get 7
    have z8 : w5.cell? ⟨w.heap.size, 8, none⟩ = some (.slice p7 X.srcs.length r7) := HB5.out.box.get 8
    have z9 : w5.cell? ⟨w.heap.size, 9, none⟩ = some (.slice p8 X.arrs.length r8) := HB5.out.box.get 9
    have z10 : w5.cell? ⟨w.heap.size, 10, none⟩ = some (.int .i64 X.time) := HB5.out.box.get 10
    have zl := HB5.out.lt
    go_wp2_with fail
    refine (spec_l19Step X ⟨p1, p2, p3, p4, p5, p6, p7, p8, r1, r2, r3, r4, r5, r6, r7, r8⟩ _ (HN5.out.reads NBX.out) OKX.out).mono ?_
    rintro e w4 ⟨hg4, hb4⟩
    obtain ⟨q4, y4, y7, y8, rfl, HN0⟩ := hg4
    obtain ⟨s1, s2, s3, s4, s5, s6, s7, s8, t1, t2, t3, t4, t5, t6, t7, t8⟩ := q4
    dsimp only [netCells]
    have zw5 := bw_size HW5.out
    have HN4 := Lib.hid (HN0.lower (show lo ≤ w5.heap.size by omega))
    have HB4 : Hid (BN w4 w.heap.size) := Lib.hid ((HB5.out.below hb4).bn)
    have HZ4 : Hid (BN w4 (w.heap.size + 1)) := Lib.hid (HZ5.out.below hb4)
    have HW4 : Hid (Below w.heap.size w w4) := Lib.hid (bw_then HW5.out hb4)
    clear HN0 hb4
    repeat (first | clear z0 | clear z1 | clear z2 | clear z3 | clear z4 | clear z5 | clear z6 | clear z7 | clear z8 | clear z9 | clear z10)
    obtain ⟨ry0, rv0⟩ := HB4.out.get 0 (by omega)
    have rz0 := HB4.out.frozen 0
    obtain ⟨ry1, rv1⟩ := HB4.out.get 1 (by omega)
    have rz1 := HB4.out.frozen 1
    obtain ⟨ry2, rv2⟩ := HB4.out.get 2 (by omega)
    have rz2 := HB4.out.frozen 2
    obtain ⟨ry3, rv3⟩ := HB4.out.get 3 (by omega)
    have rz3 := HB4.out.frozen 3
    obtain ⟨ry4, rv4⟩ := HB4.out.get 4 (by omega)
    have rz4 := HB4.out.frozen 4
    obtain ⟨ry5, rv5⟩ := HB4.out.get 5 (by omega)
    have rz5 := HB4.out.frozen 5
    obtain ⟨ry6, rv6⟩ := HB4.out.get 6 (by omega)
    have rz6 := HB4.out.frozen 6
    obtain ⟨ry7, rv7⟩ := HB4.out.get 7 (by omega)
    have rz7 := HB4.out.frozen 7
    obtain ⟨ry8, rv8⟩ := HB4.out.get 8 (by omega)
    have rz8 := HB4.out.frozen 8
    obtain ⟨ry9, rv9⟩ := HB4.out.get 9 (by omega)
    have rz9 := HB4.out.frozen 9
    obtain ⟨ry10, rv10⟩ := HB4.out.get 10 (by omega)
    have rz10 := HB4.out.frozen 10
    obtain ⟨Y, hY⟩ : ∃ Y, stepN X = Y := ⟨_, rfl⟩
    rw [hY] at HN4 HSX
    try rw [hY]
    clear hY
    have nz : ¬ w.heap.size + 1 = w.heap.size := by omega
    go_wp2
    obtain ⟨W9, e9⟩ : ∃ z, z = putN w4 w.heap.size Y ⟨s1, s2, s3, s4, s5, s6, s7, s8, t1, t2, t3, t4, t5, t6, t7, t8⟩ := ⟨_, rfl⟩
    have HB9 : Hid (BT W9 w.heap.size Y ⟨s1, s2, s3, s4, s5, s6, s7, s8, t1, t2, t3, t4, t5, t6, t7, t8⟩) := Lib.hid (by rw [e9]; exact putN_BT HB4.out)
    have HN9 := Lib.hid (show NX W9 lo Y ⟨s1, s2, s3, s4, s5, s6, s7, s8, t1, t2, t3, t4, t5, t6, t7, t8⟩ y4 y7 y8 from by rw [e9]; exact HN4.out.put HB4.out)
    have HL9 : Hid (Below w.heap.size w W9) := Lib.hid (by rw [e9]; exact below_put HW4.out (Nat.le_refl _))
    have HZ9 : Hid (BN W9 (w.heap.size + 1)) := Lib.hid (by rw [e9]; exact putN_other HZ4.out nz)
    unfold putN at e9
    try dsimp only at e9
    rw [← e9]
    clear e9
    go_roundw
    case rel => exact ⟨k + 1, ⟨s1, s2, s3, s4, s5, s6, s7, s8, t1, t2, t3, t4, t5, t6, t7, t8⟩, y4, y7, y8, by go_num, by omega, Lib.hid (by rw [HSX.out]; exact HN9.out), Lib.hid (by rw [HSX.out]; exact HB9.out), Lib.hid HZ9.out, Lib.hid HL9.out⟩
    case measure => simp [intOf]; omega
   ·have HE := Lib.hid (HIX.out hi)
    go_wp2_with fail
    refine (spec_l20Idle X ⟨p1, p2, p3, p4, p5, p6, p7, p8, r1, r2, r3, r4, r5, r6, r7, r8⟩ _ HRX.out).mono ?_
    rintro e w5 ⟨he, hb5⟩
    rw [hi] at he
    subst he
    have HN5 := Lib.hid (HNk.out.below hb5)
    have HB5 := Lib.hid (HBk.out.below hb5)
    have HZ5 := Lib.hid (HZk.out.below hb5)
    have HW5 : Hid (Below w.heap.size w w5) := Lib.hid (bw_then HWk.out hb5)
    repeat (first | clear z0 | clear z1 | clear z2 | clear z3 | clear z4 | clear z5 | clear z6 | clear z7 | clear z8 | clear z9 | clear z10)
    clear HNk HBk HZk HRX hb5 hi zl
    have z0 : w5.cell? ⟨w.heap.size, 0, none⟩ = some (.int .i64 X.mesh.g.w) := HB5.out.box.get 0
    have z1 : w5.cell? ⟨w.heap.size, 1, none⟩ = some (.int .i64 X.mesh.g.h) := HB5.out.box.get 1
    have z2 : w5.cell? ⟨w.heap.size, 2, none⟩ = some (.slice p1 X.mesh.br.length r1) := HB5.out.box.get 2
    have z3 : w5.cell? ⟨w.heap.size, 3, none⟩ = some (.slice p2 X.pa.length r2) := HB5.out.box.get 3
    have z4 : w5.cell? ⟨w.heap.size, 4, none⟩ = some (.slice p3 X.pb.length r3) := HB5.out.box.get 4
    have z5 : w5.cell? ⟨w.heap.size, 5, none⟩ = some (.slice p4 X.bufs.length r4) := HB5.out.box.get 5
    have z6 : w5.cell? ⟨w.heap.size, 6, none⟩ = some (.slice p5 X.owners.length r5) := HB5.out.box.get 6
    have z7 : w5.cell? ⟨w.heap.size, 7, none⟩ = some (.slice p6 X.turns.length r6) := HB5.out.box.get 7
    have z8 : w5.cell? ⟨w.heap.size, 8, none⟩ = some (.slice p7 X.srcs.length r7) := HB5.out.box.get 8
    have z9 : w5.cell? ⟨w.heap.size, 9, none⟩ = some (.slice p8 X.arrs.length r8) := HB5.out.box.get 9
    have z10 : w5.cell? ⟨w.heap.size, 10, none⟩ = some (.int .i64 X.time) := HB5.out.box.get 10
    have zl := HB5.out.lt
    have f10 := HB5.out.frozen 10
    obtain ⟨ry0, rv0⟩ := HZ5.out.get 0 (by omega)
    have rz0 := HZ5.out.frozen 0
    obtain ⟨ry1, rv1⟩ := HZ5.out.get 1 (by omega)
    have rz1 := HZ5.out.frozen 1
    obtain ⟨ry2, rv2⟩ := HZ5.out.get 2 (by omega)
    have rz2 := HZ5.out.frozen 2
    obtain ⟨ry3, rv3⟩ := HZ5.out.get 3 (by omega)
    have rz3 := HZ5.out.frozen 3
    obtain ⟨ry4, rv4⟩ := HZ5.out.get 4 (by omega)
    have rz4 := HZ5.out.frozen 4
    obtain ⟨ry5, rv5⟩ := HZ5.out.get 5 (by omega)
    have rz5 := HZ5.out.frozen 5
    obtain ⟨ry6, rv6⟩ := HZ5.out.get 6 (by omega)
    have rz6 := HZ5.out.frozen 6
    obtain ⟨ry7, rv7⟩ := HZ5.out.get 7 (by omega)
    have rz7 := HZ5.out.frozen 7
    obtain ⟨ry8, rv8⟩ := HZ5.out.get 8 (by omega)
    have rz8 := HZ5.out.frozen 8
    obtain ⟨ry9, rv9⟩ := HZ5.out.get 9 (by omega)
    have rz9 := HZ5.out.frozen 9
    obtain ⟨ry10, rv10⟩ := HZ5.out.get 10 (by omega)
    have rz10 := HZ5.out.frozen 10
    have nz : ¬ w.heap.size + 1 = w.heap.size := by omega
    have nz' : ¬ w.heap.size = w.heap.size + 1 := by omega
    go_wp2
    obtain ⟨W8, e8⟩ : ∃ z, z = w5.setCell ⟨w.heap.size, 10, none⟩ (.int .i64 (X.time + (S : Int) - (k : Int))) := ⟨_, rfl⟩
    rw [← e8]
    have HN8 : Hid (NX W8 lo { X with time := X.time + (S : Int) - (k : Int) } ⟨p1, p2, p3, p4, p5, p6, p7, p8, r1, r2, r3, r4, r5, r6, r7, r8⟩ u4 u7 u8) := Lib.hid (by rw [e8]; exact (HN5.out.typed HB5.out.blk (by decide) (by decide) (by decide) 10 _).time _)
    have HZ8 : Hid (BN W8 (w.heap.size + 1)) := Lib.hid (by rw [e8]; exact HZ5.out.off nz 10 _)
    have HL8 : Hid (Below w.heap.size w W8) := Lib.hid (by rw [e8]; exact below_setc HW5.out (Nat.le_refl _) 10 _)
    obtain ⟨W9, e9⟩ : ∃ z, z = putN W8 (w.heap.size + 1) { X with time := X.time + (S : Int) - (k : Int) } ⟨p1, p2, p3, p4, p5, p6, p7, p8, r1, r2, r3, r4, r5, r6, r7, r8⟩ := ⟨_, rfl⟩
    have HB9 : Hid (BT W9 (w.heap.size + 1) { X with time := X.time + (S : Int) - (k : Int) } ⟨p1, p2, p3, p4, p5, p6, p7, p8, r1, r2, r3, r4, r5, r6, r7, r8⟩) := Lib.hid (by rw [e9]; exact putN_BT HZ8.out)
    have HN9 : Hid (NX W9 lo { X with time := X.time + (S : Int) - (k : Int) } ⟨p1, p2, p3, p4, p5, p6, p7, p8, r1, r2, r3, r4, r5, r6, r7, r8⟩ u4 u7 u8) := Lib.hid (by rw [e9]; exact HN8.out.put HZ8.out)
    have HL9 : Hid (Below w.heap.size w W9) := Lib.hid (by rw [e9]; exact below_put HL8.out (by omega))
    unfold putN at e9
    try dsimp only at e9
    rw [← e9]
    clear e9 e8
    exact bodyPost_ret (results_cell_row Tryz.results60 _ _ (w.heap.size + 1) 43 _ (0, 0) _ rfl HB9.out Tryz.underlying43 rfl (by kernel_rfl)) rfl (by rw [HE.out]; exact ⟨⟨_, _, _, _, rfl, HN9.out⟩, HL9.out⟩)
  ·obtain rfl : k = S := by omega
   have HE := Lib.hid (HSE.out rfl)
   obtain ⟨ry0, rv0⟩ := HZk.out.get 0 (by omega)
   have rz0 := HZk.out.frozen 0
   obtain ⟨ry1, rv1⟩ := HZk.out.get 1 (by omega)
   have rz1 := HZk.out.frozen 1
   obtain ⟨ry2, rv2⟩ := HZk.out.get 2 (by omega)
   have rz2 := HZk.out.frozen 2
   obtain ⟨ry3, rv3⟩ := HZk.out.get 3 (by omega)
   have rz3 := HZk.out.frozen 3
   obtain ⟨ry4, rv4⟩ := HZk.out.get 4 (by omega)
   have rz4 := HZk.out.frozen 4
   obtain ⟨ry5, rv5⟩ := HZk.out.get 5 (by omega)
   have rz5 := HZk.out.frozen 5
   obtain ⟨ry6, rv6⟩ := HZk.out.get 6 (by omega)
   have rz6 := HZk.out.frozen 6
   obtain ⟨ry7, rv7⟩ := HZk.out.get 7 (by omega)
   have rz7 := HZk.out.frozen 7
   obtain ⟨ry8, rv8⟩ := HZk.out.get 8 (by omega)
   have rz8 := HZk.out.frozen 8
   obtain ⟨ry9, rv9⟩ := HZk.out.get 9 (by omega)
   have rz9 := HZk.out.frozen 9
   obtain ⟨ry10, rv10⟩ := HZk.out.get 10 (by omega)
   have rz10 := HZk.out.frozen 10
   go_wp2
   obtain ⟨W9, e9⟩ : ∃ z, z = putN wk (w.heap.size + 1) X ⟨p1, p2, p3, p4, p5, p6, p7, p8, r1, r2, r3, r4, r5, r6, r7, r8⟩ := ⟨_, rfl⟩
   have HB9 : Hid (BT W9 (w.heap.size + 1) X ⟨p1, p2, p3, p4, p5, p6, p7, p8, r1, r2, r3, r4, r5, r6, r7, r8⟩) := Lib.hid (by rw [e9]; exact putN_BT HZk.out)
   have HN9 : Hid (NX W9 lo X ⟨p1, p2, p3, p4, p5, p6, p7, p8, r1, r2, r3, r4, r5, r6, r7, r8⟩ u4 u7 u8) := Lib.hid (by rw [e9]; exact HNk.out.put HZk.out)
   have HL9 : Hid (Below w.heap.size w W9) := Lib.hid (by rw [e9]; exact below_put HWk.out (by omega))
   unfold putN at e9
   try dsimp only at e9
   rw [← e9]
   clear e9
   exact bodyPost_ret (results_cell_row Tryz.results60 _ _ (w.heap.size + 1) 43 _ (0, 0) _ rfl HB9.out Tryz.underlying43 rfl (by kernel_rfl)) rfl (by rw [HE.out]; exact ⟨⟨_, _, _, _, rfl, HN9.out⟩, HL9.out⟩)
end Go.Proofs.YteeebfeljjghhaaGreat
/- Steps and runs of a network: the program's side, second part. -/
set_option linter.unusedVariables false
set_option linter.unusedSimpArgs false
namespace Go.Proofs.YteeebfeljjghhaaGreat
open Go.RowKit Go.Proofs.YteeebfeljjghhaaGreatW.PrintWords
open NoC

theorem runNet_ok {n : Net} {s : Int} (h : canRunN n s = true) : netOk (runNetN n s) = true ∧ runNetN n s = runN n s.toNat := by
  obtain ⟨ok, s0, s4, st⟩ := canRun_parts h
  have e : runNetN n s = runN n s.toNat := by unfold runNetN; rw [if_pos h]
  exact ⟨by rw [e]; exact runN_ok ok _ (by omega), e⟩
set_option maxHeartbeats 8000000 in
set_option maxRecDepth 100000 in
theorem impl_StuckAfter (n : Net) (s : Int) (q : NA) (w : World) (hr : NetR 103 w n q) (hA : ∀ x ∈ n.arrs, x.length ≤ 1048576) :
  Calls Tryz.prog 24 #[.agg (netCells n q), .int .i64 s] w fun e w' => e = .returned (.bool (stuckAfterN n s)) ∧ Below w.heap.size w w' := by
 have HR := Lib.hid hr
 have NBQ := Lib.hid hr.nb
 have HA := Lib.hid hA
 clear hA
 obtain ⟨a1, a2, a3, a4, a5, a6, a7, a8, c1, c2, c3, c4, c5, c6, c7, c8⟩ := q
 clear hr
 dsimp only [netCells]
 have HC : Hid (∀ W : World, Below w.heap.size w W → Calls Tryz.prog 18 #[.agg #[.int .i64 n.mesh.g.w, .int .i64 n.mesh.g.h, .slice a1 n.mesh.br.length c1, .slice a2 n.pa.length c2, .slice a3 n.pb.length c3, .slice a4 n.bufs.length c4, .slice a5 n.owners.length c5, .slice a6 n.turns.length c6, .slice a7 n.srcs.length c7, .slice a8 n.arrs.length c8, .int .i64 n.time], .int .i64 s] W fun e w' => GotNV W w' (runNetN n s) (.bool (canRunN n s)) e ∧ Below W.heap.size W w') := Lib.hid (fun W hb => impl_RunNet n s ⟨a1, a2, a3, a4, a5, a6, a7, a8, c1, c2, c3, c4, c5, c6, c7, c8⟩ W (HR.out.below hb) HA.out)
 have HE1 : Hid (canRunN n s = true → netOk (runNetN n s) = true ∧ NB (runNetN n s) ∧ stuckAfterN n s = stuckN (runNetN n s)) := Lib.hid (fun h => by
  obtain ⟨h1, h2⟩ := runNet_ok h
  obtain ⟨ok, s0, s4, st⟩ := canRun_parts h
  refine ⟨h1, ?_, by unfold stuckAfterN; rw [h, h2]; rfl⟩
  rw [h2] at h1 ⊢
  exact run_nb NBQ.out HA.out _ (by omega) h1)
 have HE2 : Hid (canRunN n s = false → stuckAfterN n s = false) := Lib.hid (fun h => by unfold stuckAfterN; rw [h]; rfl)
 obtain ⟨X, hX⟩ : ∃ X, runNetN n s = X := ⟨_, rfl⟩
 rw [hX] at HC HE1
 clear hX
 cases hk : canRunN n s
 ·have HE := Lib.hid (HE2.out hk)
  rw [hk] at HC
  go_enter Tryz.func24, Tryz.ntmps24
  go_wp2_with fail
  refine (HC.out _ bel).mono ?_
  rintro e w1 ⟨hg1, HBC⟩
  obtain ⟨qq, v4, v7, v8, rfl, HN0⟩ := hg1
  obtain ⟨b1, b2, b3, b4, b5, b6, b7, b8, d1, d2, d3, d4, d5, d6, d7, d8⟩ := qq
  dsimp only [netCells]
  have HN1 := Lib.hid HN0
  clear HN0
  obtain ⟨w0, e0⟩ : ∃ z, z = w1.alloc (.cells #[.int .i64 X.mesh.g.w, .int .i64 X.mesh.g.h, .slice b1 X.mesh.br.length d1, .slice b2 X.pa.length d2, .slice b3 X.pb.length d3, .slice b4 X.bufs.length d4, .slice b5 X.owners.length d5, .slice b6 X.turns.length d6, .slice b7 X.srcs.length d7, .slice b8 X.arrs.length d8, .int .i64 X.time] 43) := ⟨_, rfl⟩
  have hz0 : w0.heap.size = w1.heap.size + 1 := by rw [e0]; simp only [szs]
  have hw01 : Below w1.heap.size w1 w0 := by rw [e0]; exact bw_alloc _ (bw_refl w1)
  obtain ⟨bx, ebx⟩ : ∃ z, z = w1.heap.size := ⟨_, rfl⟩
  have HBT : Hid (BT w0 bx X ⟨b1, b2, b3, b4, b5, b6, b7, b8, d1, d2, d3, d4, d5, d6, d7, d8⟩) := Lib.hid (by rw [e0, ebx]; exact blk_new w1 _)
  obtain ⟨lo, elo⟩ : ∃ z, z = w.heap.size + 1 := ⟨_, rfl⟩
  have HN : Hid (NX w0 lo X ⟨b1, b2, b3, b4, b5, b6, b7, b8, d1, d2, d3, d4, d5, d6, d7, d8⟩ v4 v7 v8) := Lib.hid ((HN1.out.lower (by simp only [szs]; omega)).below hw01)
  have HHB : Hid (Below w.heap.size w w0) := Lib.hid (bw_then (bw_then (bw_alloc _ (bw_refl w)) HBC) hw01)
  have sw : w.heap.size + 1 ≤ w1.heap.size := by have := bw_size HBC; simp only [szs] at this; omega
  have xo0 : (w1.alloc (.cells #[.int .i64 X.mesh.g.w, .int .i64 X.mesh.g.h, .slice b1 X.mesh.br.length d1, .slice b2 X.pa.length d2, .slice b3 X.pb.length d3, .slice b4 X.bufs.length d4, .slice b5 X.owners.length d5, .slice b6 X.turns.length d6, .slice b7 X.srcs.length d7, .slice b8 X.arrs.length d8, .int .i64 X.time] 43)).cell? ⟨w1.heap.size, 0, none⟩ = some (.int .i64 X.mesh.g.w) := by rw [← e0, ← ebx]; exact HBT.out.box.get 0
  have xo1 : (w1.alloc (.cells #[.int .i64 X.mesh.g.w, .int .i64 X.mesh.g.h, .slice b1 X.mesh.br.length d1, .slice b2 X.pa.length d2, .slice b3 X.pb.length d3, .slice b4 X.bufs.length d4, .slice b5 X.owners.length d5, .slice b6 X.turns.length d6, .slice b7 X.srcs.length d7, .slice b8 X.arrs.length d8, .int .i64 X.time] 43)).cell? ⟨w1.heap.size, 1, none⟩ = some (.int .i64 X.mesh.g.h) := by rw [← e0, ← ebx]; exact HBT.out.box.get 1
  have xo2 : (w1.alloc (.cells #[.int .i64 X.mesh.g.w, .int .i64 X.mesh.g.h, .slice b1 X.mesh.br.length d1, .slice b2 X.pa.length d2, .slice b3 X.pb.length d3, .slice b4 X.bufs.length d4, .slice b5 X.owners.length d5, .slice b6 X.turns.length d6, .slice b7 X.srcs.length d7, .slice b8 X.arrs.length d8, .int .i64 X.time] 43)).cell? ⟨w1.heap.size, 2, none⟩ = some (.slice b1 X.mesh.br.length d1) := by rw [← e0, ← ebx]; exact HBT.out.box.get 2
  have xo3 : (w1.alloc (.cells #[.int .i64 X.mesh.g.w, .int .i64 X.mesh.g.h, .slice b1 X.mesh.br.length d1, .slice b2 X.pa.length d2, .slice b3 X.pb.length d3, .slice b4 X.bufs.length d4, .slice b5 X.owners.length d5, .slice b6 X.turns.length d6, .slice b7 X.srcs.length d7, .slice b8 X.arrs.length d8, .int .i64 X.time] 43)).cell? ⟨w1.heap.size, 3, none⟩ = some (.slice b2 X.pa.length d2) := by rw [← e0, ← ebx]; exact HBT.out.box.get 3
  have xo4 : (w1.alloc (.cells #[.int .i64 X.mesh.g.w, .int .i64 X.mesh.g.h, .slice b1 X.mesh.br.length d1, .slice b2 X.pa.length d2, .slice b3 X.pb.length d3, .slice b4 X.bufs.length d4, .slice b5 X.owners.length d5, .slice b6 X.turns.length d6, .slice b7 X.srcs.length d7, .slice b8 X.arrs.length d8, .int .i64 X.time] 43)).cell? ⟨w1.heap.size, 4, none⟩ = some (.slice b3 X.pb.length d3) := by rw [← e0, ← ebx]; exact HBT.out.box.get 4
  have xo5 : (w1.alloc (.cells #[.int .i64 X.mesh.g.w, .int .i64 X.mesh.g.h, .slice b1 X.mesh.br.length d1, .slice b2 X.pa.length d2, .slice b3 X.pb.length d3, .slice b4 X.bufs.length d4, .slice b5 X.owners.length d5, .slice b6 X.turns.length d6, .slice b7 X.srcs.length d7, .slice b8 X.arrs.length d8, .int .i64 X.time] 43)).cell? ⟨w1.heap.size, 5, none⟩ = some (.slice b4 X.bufs.length d4) := by rw [← e0, ← ebx]; exact HBT.out.box.get 5
  have xo6 : (w1.alloc (.cells #[.int .i64 X.mesh.g.w, .int .i64 X.mesh.g.h, .slice b1 X.mesh.br.length d1, .slice b2 X.pa.length d2, .slice b3 X.pb.length d3, .slice b4 X.bufs.length d4, .slice b5 X.owners.length d5, .slice b6 X.turns.length d6, .slice b7 X.srcs.length d7, .slice b8 X.arrs.length d8, .int .i64 X.time] 43)).cell? ⟨w1.heap.size, 6, none⟩ = some (.slice b5 X.owners.length d5) := by rw [← e0, ← ebx]; exact HBT.out.box.get 6
  have xo7 : (w1.alloc (.cells #[.int .i64 X.mesh.g.w, .int .i64 X.mesh.g.h, .slice b1 X.mesh.br.length d1, .slice b2 X.pa.length d2, .slice b3 X.pb.length d3, .slice b4 X.bufs.length d4, .slice b5 X.owners.length d5, .slice b6 X.turns.length d6, .slice b7 X.srcs.length d7, .slice b8 X.arrs.length d8, .int .i64 X.time] 43)).cell? ⟨w1.heap.size, 7, none⟩ = some (.slice b6 X.turns.length d6) := by rw [← e0, ← ebx]; exact HBT.out.box.get 7
  have xo8 : (w1.alloc (.cells #[.int .i64 X.mesh.g.w, .int .i64 X.mesh.g.h, .slice b1 X.mesh.br.length d1, .slice b2 X.pa.length d2, .slice b3 X.pb.length d3, .slice b4 X.bufs.length d4, .slice b5 X.owners.length d5, .slice b6 X.turns.length d6, .slice b7 X.srcs.length d7, .slice b8 X.arrs.length d8, .int .i64 X.time] 43)).cell? ⟨w1.heap.size, 8, none⟩ = some (.slice b7 X.srcs.length d7) := by rw [← e0, ← ebx]; exact HBT.out.box.get 8
  have xo9 : (w1.alloc (.cells #[.int .i64 X.mesh.g.w, .int .i64 X.mesh.g.h, .slice b1 X.mesh.br.length d1, .slice b2 X.pa.length d2, .slice b3 X.pb.length d3, .slice b4 X.bufs.length d4, .slice b5 X.owners.length d5, .slice b6 X.turns.length d6, .slice b7 X.srcs.length d7, .slice b8 X.arrs.length d8, .int .i64 X.time] 43)).cell? ⟨w1.heap.size, 9, none⟩ = some (.slice b8 X.arrs.length d8) := by rw [← e0, ← ebx]; exact HBT.out.box.get 9
  have xo10 : (w1.alloc (.cells #[.int .i64 X.mesh.g.w, .int .i64 X.mesh.g.h, .slice b1 X.mesh.br.length d1, .slice b2 X.pa.length d2, .slice b3 X.pb.length d3, .slice b4 X.bufs.length d4, .slice b5 X.owners.length d5, .slice b6 X.turns.length d6, .slice b7 X.srcs.length d7, .slice b8 X.arrs.length d8, .int .i64 X.time] 43)).cell? ⟨w1.heap.size, 10, none⟩ = some (.int .i64 X.time) := by rw [← e0, ← ebx]; exact HBT.out.box.get 10
  have xol : w1.heap.size < (w1.alloc (.cells #[.int .i64 X.mesh.g.w, .int .i64 X.mesh.g.h, .slice b1 X.mesh.br.length d1, .slice b2 X.pa.length d2, .slice b3 X.pb.length d3, .slice b4 X.bufs.length d4, .slice b5 X.owners.length d5, .slice b6 X.turns.length d6, .slice b7 X.srcs.length d7, .slice b8 X.arrs.length d8, .int .i64 X.time] 43)).heap.size := by rw [← e0, ← ebx]; exact HBT.out.lt
  have sb1 : bx < w0.heap.size := by omega
  have sb2 : w.heap.size + 1 ≤ bx := by omega
  have sl1 : lo ≤ w.heap.size + 1 := by omega
  have sl2 : w.heap.size + 1 ≤ lo := by omega
  have sl3 : lo ≤ bx := by omega
  have sl4 : lo ≤ w0.heap.size := by omega
  go_wp2
  go_ret
  rw [← e0]
  exact ⟨ret_bool HE.out.symm, HHB.out⟩
 ·obtain ⟨ok, nbx, he⟩ := HE1.out hk
  have HE := Lib.hid he
  have OK := Lib.hid ok
  have NBX := Lib.hid nbx
  clear he ok nbx
  rw [hk] at HC
  go_enter Tryz.func24, Tryz.ntmps24
  go_wp2_with fail
  refine (HC.out _ bel).mono ?_
  rintro e w1 ⟨hg1, HBC⟩
  obtain ⟨qq, v4, v7, v8, rfl, HN0⟩ := hg1
  obtain ⟨b1, b2, b3, b4, b5, b6, b7, b8, d1, d2, d3, d4, d5, d6, d7, d8⟩ := qq
  dsimp only [netCells]
  have HN1 := Lib.hid HN0
  clear HN0
  obtain ⟨w0, e0⟩ : ∃ z, z = w1.alloc (.cells #[.int .i64 X.mesh.g.w, .int .i64 X.mesh.g.h, .slice b1 X.mesh.br.length d1, .slice b2 X.pa.length d2, .slice b3 X.pb.length d3, .slice b4 X.bufs.length d4, .slice b5 X.owners.length d5, .slice b6 X.turns.length d6, .slice b7 X.srcs.length d7, .slice b8 X.arrs.length d8, .int .i64 X.time] 43) := ⟨_, rfl⟩
  have hz0 : w0.heap.size = w1.heap.size + 1 := by rw [e0]; simp only [szs]
  have hw01 : Below w1.heap.size w1 w0 := by rw [e0]; exact bw_alloc _ (bw_refl w1)
  obtain ⟨bx, ebx⟩ : ∃ z, z = w1.heap.size := ⟨_, rfl⟩
  have HBT : Hid (BT w0 bx X ⟨b1, b2, b3, b4, b5, b6, b7, b8, d1, d2, d3, d4, d5, d6, d7, d8⟩) := Lib.hid (by rw [e0, ebx]; exact blk_new w1 _)
  obtain ⟨lo, elo⟩ : ∃ z, z = w.heap.size + 1 := ⟨_, rfl⟩
  have HN : Hid (NX w0 lo X ⟨b1, b2, b3, b4, b5, b6, b7, b8, d1, d2, d3, d4, d5, d6, d7, d8⟩ v4 v7 v8) := Lib.hid ((HN1.out.lower (by simp only [szs]; omega)).below hw01)
  have HHB : Hid (Below w.heap.size w w0) := Lib.hid (bw_then (bw_then (bw_alloc _ (bw_refl w)) HBC) hw01)
  have sw : w.heap.size + 1 ≤ w1.heap.size := by have := bw_size HBC; simp only [szs] at this; omega
  have xo0 : (w1.alloc (.cells #[.int .i64 X.mesh.g.w, .int .i64 X.mesh.g.h, .slice b1 X.mesh.br.length d1, .slice b2 X.pa.length d2, .slice b3 X.pb.length d3, .slice b4 X.bufs.length d4, .slice b5 X.owners.length d5, .slice b6 X.turns.length d6, .slice b7 X.srcs.length d7, .slice b8 X.arrs.length d8, .int .i64 X.time] 43)).cell? ⟨w1.heap.size, 0, none⟩ = some (.int .i64 X.mesh.g.w) := by rw [← e0, ← ebx]; exact HBT.out.box.get 0
  have xo1 : (w1.alloc (.cells #[.int .i64 X.mesh.g.w, .int .i64 X.mesh.g.h, .slice b1 X.mesh.br.length d1, .slice b2 X.pa.length d2, .slice b3 X.pb.length d3, .slice b4 X.bufs.length d4, .slice b5 X.owners.length d5, .slice b6 X.turns.length d6, .slice b7 X.srcs.length d7, .slice b8 X.arrs.length d8, .int .i64 X.time] 43)).cell? ⟨w1.heap.size, 1, none⟩ = some (.int .i64 X.mesh.g.h) := by rw [← e0, ← ebx]; exact HBT.out.box.get 1
  have xo2 : (w1.alloc (.cells #[.int .i64 X.mesh.g.w, .int .i64 X.mesh.g.h, .slice b1 X.mesh.br.length d1, .slice b2 X.pa.length d2, .slice b3 X.pb.length d3, .slice b4 X.bufs.length d4, .slice b5 X.owners.length d5, .slice b6 X.turns.length d6, .slice b7 X.srcs.length d7, .slice b8 X.arrs.length d8, .int .i64 X.time] 43)).cell? ⟨w1.heap.size, 2, none⟩ = some (.slice b1 X.mesh.br.length d1) := by rw [← e0, ← ebx]; exact HBT.out.box.get 2
  have xo3 : (w1.alloc (.cells #[.int .i64 X.mesh.g.w, .int .i64 X.mesh.g.h, .slice b1 X.mesh.br.length d1, .slice b2 X.pa.length d2, .slice b3 X.pb.length d3, .slice b4 X.bufs.length d4, .slice b5 X.owners.length d5, .slice b6 X.turns.length d6, .slice b7 X.srcs.length d7, .slice b8 X.arrs.length d8, .int .i64 X.time] 43)).cell? ⟨w1.heap.size, 3, none⟩ = some (.slice b2 X.pa.length d2) := by rw [← e0, ← ebx]; exact HBT.out.box.get 3
  have xo4 : (w1.alloc (.cells #[.int .i64 X.mesh.g.w, .int .i64 X.mesh.g.h, .slice b1 X.mesh.br.length d1, .slice b2 X.pa.length d2, .slice b3 X.pb.length d3, .slice b4 X.bufs.length d4, .slice b5 X.owners.length d5, .slice b6 X.turns.length d6, .slice b7 X.srcs.length d7, .slice b8 X.arrs.length d8, .int .i64 X.time] 43)).cell? ⟨w1.heap.size, 4, none⟩ = some (.slice b3 X.pb.length d3) := by rw [← e0, ← ebx]; exact HBT.out.box.get 4
  have xo5 : (w1.alloc (.cells #[.int .i64 X.mesh.g.w, .int .i64 X.mesh.g.h, .slice b1 X.mesh.br.length d1, .slice b2 X.pa.length d2, .slice b3 X.pb.length d3, .slice b4 X.bufs.length d4, .slice b5 X.owners.length d5, .slice b6 X.turns.length d6, .slice b7 X.srcs.length d7, .slice b8 X.arrs.length d8, .int .i64 X.time] 43)).cell? ⟨w1.heap.size, 5, none⟩ = some (.slice b4 X.bufs.length d4) := by rw [← e0, ← ebx]; exact HBT.out.box.get 5
  have xo6 : (w1.alloc (.cells #[.int .i64 X.mesh.g.w, .int .i64 X.mesh.g.h, .slice b1 X.mesh.br.length d1, .slice b2 X.pa.length d2, .slice b3 X.pb.length d3, .slice b4 X.bufs.length d4, .slice b5 X.owners.length d5, .slice b6 X.turns.length d6, .slice b7 X.srcs.length d7, .slice b8 X.arrs.length d8, .int .i64 X.time] 43)).cell? ⟨w1.heap.size, 6, none⟩ = some (.slice b5 X.owners.length d5) := by rw [← e0, ← ebx]; exact HBT.out.box.get 6
  have xo7 : (w1.alloc (.cells #[.int .i64 X.mesh.g.w, .int .i64 X.mesh.g.h, .slice b1 X.mesh.br.length d1, .slice b2 X.pa.length d2, .slice b3 X.pb.length d3, .slice b4 X.bufs.length d4, .slice b5 X.owners.length d5, .slice b6 X.turns.length d6, .slice b7 X.srcs.length d7, .slice b8 X.arrs.length d8, .int .i64 X.time] 43)).cell? ⟨w1.heap.size, 7, none⟩ = some (.slice b6 X.turns.length d6) := by rw [← e0, ← ebx]; exact HBT.out.box.get 7
  have xo8 : (w1.alloc (.cells #[.int .i64 X.mesh.g.w, .int .i64 X.mesh.g.h, .slice b1 X.mesh.br.length d1, .slice b2 X.pa.length d2, .slice b3 X.pb.length d3, .slice b4 X.bufs.length d4, .slice b5 X.owners.length d5, .slice b6 X.turns.length d6, .slice b7 X.srcs.length d7, .slice b8 X.arrs.length d8, .int .i64 X.time] 43)).cell? ⟨w1.heap.size, 8, none⟩ = some (.slice b7 X.srcs.length d7) := by rw [← e0, ← ebx]; exact HBT.out.box.get 8
  have xo9 : (w1.alloc (.cells #[.int .i64 X.mesh.g.w, .int .i64 X.mesh.g.h, .slice b1 X.mesh.br.length d1, .slice b2 X.pa.length d2, .slice b3 X.pb.length d3, .slice b4 X.bufs.length d4, .slice b5 X.owners.length d5, .slice b6 X.turns.length d6, .slice b7 X.srcs.length d7, .slice b8 X.arrs.length d8, .int .i64 X.time] 43)).cell? ⟨w1.heap.size, 9, none⟩ = some (.slice b8 X.arrs.length d8) := by rw [← e0, ← ebx]; exact HBT.out.box.get 9
  have xo10 : (w1.alloc (.cells #[.int .i64 X.mesh.g.w, .int .i64 X.mesh.g.h, .slice b1 X.mesh.br.length d1, .slice b2 X.pa.length d2, .slice b3 X.pb.length d3, .slice b4 X.bufs.length d4, .slice b5 X.owners.length d5, .slice b6 X.turns.length d6, .slice b7 X.srcs.length d7, .slice b8 X.arrs.length d8, .int .i64 X.time] 43)).cell? ⟨w1.heap.size, 10, none⟩ = some (.int .i64 X.time) := by rw [← e0, ← ebx]; exact HBT.out.box.get 10
  have xol : w1.heap.size < (w1.alloc (.cells #[.int .i64 X.mesh.g.w, .int .i64 X.mesh.g.h, .slice b1 X.mesh.br.length d1, .slice b2 X.pa.length d2, .slice b3 X.pb.length d3, .slice b4 X.bufs.length d4, .slice b5 X.owners.length d5, .slice b6 X.turns.length d6, .slice b7 X.srcs.length d7, .slice b8 X.arrs.length d8, .int .i64 X.time] 43)).heap.size := by rw [← e0, ← ebx]; exact HBT.out.lt
  have sb1 : bx < w0.heap.size := by omega
  have sb2 : w.heap.size + 1 ≤ bx := by omega
  have sl1 : lo ≤ w.heap.size + 1 := by omega
  have sl2 : w.heap.size + 1 ≤ lo := by omega
  have sl3 : lo ≤ bx := by omega
  have sl4 : lo ≤ w0.heap.size := by omega
  go_wp2_with fail
  rw [← e0]
  rw [← ebx]
  refine (impl_isStuck X _ bx _ (HN.out.reads NBX.out) HBT.out.box OK.out).mono ?_
  rintro e w3 ⟨rfl, hb3⟩
  go_wp2
  go_ret
  exact ⟨ret_bool HE.out.symm, bw_then HHB.out hb3⟩
end Go.Proofs.YteeebfeljjghhaaGreat
/- Steps and runs of a network: the reference's side, second part. -/
set_option linter.unusedVariables false
set_option linter.unusedSimpArgs false
namespace Go.Proofs.YteeebfeljjghhaaGreat
open Go.RowKit Go.Proofs.YteeebfeljjghhaaGreatW.PrintWords
open NoC

set_option maxHeartbeats 8000000 in
set_option maxRecDepth 100000 in
theorem spec_RunNet (n : Net) (s : Int) (q : NA) (w : World) (hr : NetR 103 w n q) (hA : ∀ x ∈ n.arrs, x.length ≤ 1048576) :
  Calls Tryz.prog 17 #[.agg (netCells n q), .int .i64 s] w fun e w' => GotNV w w' (runNetN n s) (.bool (canRunN n s)) e ∧ Below w.heap.size w w' := by
 have HA := Lib.hid hA
 clear hA
 have HR := Lib.hid hr
 have NBQ := Lib.hid hr.nb
 obtain ⟨a1, a2, a3, a4, a5, a6, a7, a8, c1, c2, c3, c4, c5, c6, c7, c8⟩ := q
 clear hr
 dsimp only [netCells]
 cases hc : canRunN n s
 case false =>
  have HE : Hid (runNetN n s = n) := Lib.hid (by simp [runNetN, hc])
  have HC := Lib.hid hc
  cases hk : netOk n
  ·clear hc
   go_enter Tryz.func17, Tryz.ntmps17
   go_wp2_with fail
   refine (spec_NetOk n _ _ (HR.out.below bel)).mono ?_
   rintro e w2 ⟨rfl, hb2⟩
   have HX2 : Hid (Box w2 w.heap.size #[.int .i64 n.mesh.g.w, .int .i64 n.mesh.g.h, .slice a1 n.mesh.br.length c1, .slice a2 n.pa.length c2, .slice a3 n.pb.length c3, .slice a4 n.bufs.length c4, .slice a5 n.owners.length c5, .slice a6 n.turns.length c6, .slice a7 n.srcs.length c7, .slice a8 n.arrs.length c8, .int .i64 n.time]) := Lib.hid (((Box.new w w.heap.size #[.int .i64 n.mesh.g.w, .int .i64 n.mesh.g.h, .slice a1 n.mesh.br.length c1, .slice a2 n.pa.length c2, .slice a3 n.pb.length c3, .slice a4 n.bufs.length c4, .slice a5 n.owners.length c5, .slice a6 n.turns.length c6, .slice a7 n.srcs.length c7, .slice a8 n.arrs.length c8, .int .i64 n.time] 43 rfl).alloc _).below hb2)
   have HZ0 : Hid (BN ((w.alloc (.cells #[.int .i64 n.mesh.g.w, .int .i64 n.mesh.g.h, .slice a1 n.mesh.br.length c1, .slice a2 n.pa.length c2, .slice a3 n.pb.length c3, .slice a4 n.bufs.length c4, .slice a5 n.owners.length c5, .slice a6 n.turns.length c6, .slice a7 n.srcs.length c7, .slice a8 n.arrs.length c8, .int .i64 n.time] 43)).alloc (.cells #[.int .i64 0, .int .i64 0, .slice none 0 0, .slice none 0 0, .slice none 0 0, .slice none 0 0, .slice none 0 0, .slice none 0 0, .slice none 0 0, .slice none 0 0, .int .i64 0] 43)) (w.heap.size + 1)) := Lib.hid ((BT.bn (by have hn := BT.new (w.alloc (.cells #[.int .i64 n.mesh.g.w, .int .i64 n.mesh.g.h, .slice a1 n.mesh.br.length c1, .slice a2 n.pa.length c2, .slice a3 n.pb.length c3, .slice a4 n.bufs.length c4, .slice a5 n.owners.length c5, .slice a6 n.turns.length c6, .slice a7 n.srcs.length c7, .slice a8 n.arrs.length c8, .int .i64 n.time] 43)) ⟨⟨⟨0, 0⟩, []⟩, [], [], [], [], [], [], [], 0⟩ ⟨none, none, none, none, none, none, none, none, 0, 0, 0, 0, 0, 0, 0, 0⟩; rw [World.size_alloc] at hn; exact hn)))
   have HZ2 : Hid (BN w2 (w.heap.size + 1)) := Lib.hid (HZ0.out.below hb2)
   have HWB : Hid (Below w.heap.size w w2) := Lib.hid (bw_then (bw_alloc _ (bw_alloc _ (bw_refl w))) hb2)
   have zz2 := bw_size hb2
   simp only [szs] at zz2
   clear hb2 HZ0
   have x0 : w2.cell? ⟨w.heap.size, 0, none⟩ = some (.int .i64 n.mesh.g.w) := HX2.out.get 0
   have x1 : w2.cell? ⟨w.heap.size, 1, none⟩ = some (.int .i64 n.mesh.g.h) := HX2.out.get 1
   have x2 : w2.cell? ⟨w.heap.size, 2, none⟩ = some (.slice a1 n.mesh.br.length c1) := HX2.out.get 2
   have x3 : w2.cell? ⟨w.heap.size, 3, none⟩ = some (.slice a2 n.pa.length c2) := HX2.out.get 3
   have x4 : w2.cell? ⟨w.heap.size, 4, none⟩ = some (.slice a3 n.pb.length c3) := HX2.out.get 4
   have x5 : w2.cell? ⟨w.heap.size, 5, none⟩ = some (.slice a4 n.bufs.length c4) := HX2.out.get 5
   have x6 : w2.cell? ⟨w.heap.size, 6, none⟩ = some (.slice a5 n.owners.length c5) := HX2.out.get 6
   have x7 : w2.cell? ⟨w.heap.size, 7, none⟩ = some (.slice a6 n.turns.length c6) := HX2.out.get 7
   have x8 : w2.cell? ⟨w.heap.size, 8, none⟩ = some (.slice a7 n.srcs.length c7) := HX2.out.get 8
   have x9 : w2.cell? ⟨w.heap.size, 9, none⟩ = some (.slice a8 n.arrs.length c8) := HX2.out.get 9
   have x10 : w2.cell? ⟨w.heap.size, 10, none⟩ = some (.int .i64 n.time) := HX2.out.get 10
   have xl := HX2.out.lt
   go_wp2_with fail
   refine (spec_l15Copy n _ _ (HR.out.below HWB.out)).mono ?_
   rintro e w4 ⟨hg4, hb4⟩
   obtain ⟨q4, y4, y7, y8, rfl, HN0⟩ := hg4
   obtain ⟨p1, p2, p3, p4, p5, p6, p7, p8, r1, r2, r3, r4, r5, r6, r7, r8⟩ := q4
   dsimp only [netCells]
   have HN4 := Lib.hid HN0
   have HZ4 : Hid (BN w4 (w.heap.size + 1)) := Lib.hid (HZ2.out.below hb4)
   have HWB4 : Hid (Below w.heap.size w w4) := Lib.hid (bw_then HWB.out hb4)
   have zz4 := bw_size hb4
   have zz5 := bw_size HWB.out
   clear HN0 hb4
   repeat (first | clear x0 | clear x1 | clear x2 | clear x3 | clear x4 | clear x5 | clear x6 | clear x7 | clear x8 | clear x9 | clear x10)

   obtain ⟨ry0, rv0⟩ := HZ4.out.get 0 (by omega)
   have rz0 := HZ4.out.frozen 0
   obtain ⟨ry1, rv1⟩ := HZ4.out.get 1 (by omega)
   have rz1 := HZ4.out.frozen 1
   obtain ⟨ry2, rv2⟩ := HZ4.out.get 2 (by omega)
   have rz2 := HZ4.out.frozen 2
   obtain ⟨ry3, rv3⟩ := HZ4.out.get 3 (by omega)
   have rz3 := HZ4.out.frozen 3
   obtain ⟨ry4, rv4⟩ := HZ4.out.get 4 (by omega)
   have rz4 := HZ4.out.frozen 4
   obtain ⟨ry5, rv5⟩ := HZ4.out.get 5 (by omega)
   have rz5 := HZ4.out.frozen 5
   obtain ⟨ry6, rv6⟩ := HZ4.out.get 6 (by omega)
   have rz6 := HZ4.out.frozen 6
   obtain ⟨ry7, rv7⟩ := HZ4.out.get 7 (by omega)
   have rz7 := HZ4.out.frozen 7
   obtain ⟨ry8, rv8⟩ := HZ4.out.get 8 (by omega)
   have rz8 := HZ4.out.frozen 8
   obtain ⟨ry9, rv9⟩ := HZ4.out.get 9 (by omega)
   have rz9 := HZ4.out.frozen 9
   obtain ⟨ry10, rv10⟩ := HZ4.out.get 10 (by omega)
   have rz10 := HZ4.out.frozen 10
   go_wp2
   obtain ⟨W9, e9⟩ : ∃ z, z = putN w4 (w.heap.size + 1) n ⟨p1, p2, p3, p4, p5, p6, p7, p8, r1, r2, r3, r4, r5, r6, r7, r8⟩ := ⟨_, rfl⟩
   have HB9 : Hid (BT W9 (w.heap.size + 1) n ⟨p1, p2, p3, p4, p5, p6, p7, p8, r1, r2, r3, r4, r5, r6, r7, r8⟩) := Lib.hid (by rw [e9]; exact putN_BT HZ4.out)
   have HN9 := Lib.hid (show NX W9 _ n ⟨p1, p2, p3, p4, p5, p6, p7, p8, r1, r2, r3, r4, r5, r6, r7, r8⟩ y4 y7 y8 from by rw [e9]; exact HN4.out.put HZ4.out)
   have HL9 : Hid (Below w.heap.size w W9) := Lib.hid (by rw [e9]; exact below_put HWB4.out (by omega))
   unfold putN at e9
   try dsimp only at e9
   rw [← e9]
   clear e9
   exact bodyPost_ret (results_cell_row2 Tryz.results17 _ _ ((w.heap.size + 1)) 43 _ (0, 0) _ rfl HB9.out Tryz.underlying43 rfl (by kernel_rfl)) rfl (by dsimp only; rw [HE.out]; exact ⟨⟨_, _, _, _, rfl, HN9.out.lower (by omega)⟩, HL9.out⟩)
  cases hi : inside s 0 400
  ·clear hc
   go_enter Tryz.func17, Tryz.ntmps17
   go_wp2_with fail
   refine (spec_NetOk n _ _ (HR.out.below bel)).mono ?_
   rintro e w2 ⟨rfl, hb2⟩
   have HX2 : Hid (Box w2 w.heap.size #[.int .i64 n.mesh.g.w, .int .i64 n.mesh.g.h, .slice a1 n.mesh.br.length c1, .slice a2 n.pa.length c2, .slice a3 n.pb.length c3, .slice a4 n.bufs.length c4, .slice a5 n.owners.length c5, .slice a6 n.turns.length c6, .slice a7 n.srcs.length c7, .slice a8 n.arrs.length c8, .int .i64 n.time]) := Lib.hid (((Box.new w w.heap.size #[.int .i64 n.mesh.g.w, .int .i64 n.mesh.g.h, .slice a1 n.mesh.br.length c1, .slice a2 n.pa.length c2, .slice a3 n.pb.length c3, .slice a4 n.bufs.length c4, .slice a5 n.owners.length c5, .slice a6 n.turns.length c6, .slice a7 n.srcs.length c7, .slice a8 n.arrs.length c8, .int .i64 n.time] 43 rfl).alloc _).below hb2)
   have HZ0 : Hid (BN ((w.alloc (.cells #[.int .i64 n.mesh.g.w, .int .i64 n.mesh.g.h, .slice a1 n.mesh.br.length c1, .slice a2 n.pa.length c2, .slice a3 n.pb.length c3, .slice a4 n.bufs.length c4, .slice a5 n.owners.length c5, .slice a6 n.turns.length c6, .slice a7 n.srcs.length c7, .slice a8 n.arrs.length c8, .int .i64 n.time] 43)).alloc (.cells #[.int .i64 0, .int .i64 0, .slice none 0 0, .slice none 0 0, .slice none 0 0, .slice none 0 0, .slice none 0 0, .slice none 0 0, .slice none 0 0, .slice none 0 0, .int .i64 0] 43)) (w.heap.size + 1)) := Lib.hid ((BT.bn (by have hn := BT.new (w.alloc (.cells #[.int .i64 n.mesh.g.w, .int .i64 n.mesh.g.h, .slice a1 n.mesh.br.length c1, .slice a2 n.pa.length c2, .slice a3 n.pb.length c3, .slice a4 n.bufs.length c4, .slice a5 n.owners.length c5, .slice a6 n.turns.length c6, .slice a7 n.srcs.length c7, .slice a8 n.arrs.length c8, .int .i64 n.time] 43)) ⟨⟨⟨0, 0⟩, []⟩, [], [], [], [], [], [], [], 0⟩ ⟨none, none, none, none, none, none, none, none, 0, 0, 0, 0, 0, 0, 0, 0⟩; rw [World.size_alloc] at hn; exact hn)))
   have HZ2 : Hid (BN w2 (w.heap.size + 1)) := Lib.hid (HZ0.out.below hb2)
   have HWB : Hid (Below w.heap.size w w2) := Lib.hid (bw_then (bw_alloc _ (bw_alloc _ (bw_refl w))) hb2)
   have zz2 := bw_size hb2
   simp only [szs] at zz2
   clear hb2 HZ0
   have x0 : w2.cell? ⟨w.heap.size, 0, none⟩ = some (.int .i64 n.mesh.g.w) := HX2.out.get 0
   have x1 : w2.cell? ⟨w.heap.size, 1, none⟩ = some (.int .i64 n.mesh.g.h) := HX2.out.get 1
   have x2 : w2.cell? ⟨w.heap.size, 2, none⟩ = some (.slice a1 n.mesh.br.length c1) := HX2.out.get 2
   have x3 : w2.cell? ⟨w.heap.size, 3, none⟩ = some (.slice a2 n.pa.length c2) := HX2.out.get 3
   have x4 : w2.cell? ⟨w.heap.size, 4, none⟩ = some (.slice a3 n.pb.length c3) := HX2.out.get 4
   have x5 : w2.cell? ⟨w.heap.size, 5, none⟩ = some (.slice a4 n.bufs.length c4) := HX2.out.get 5
   have x6 : w2.cell? ⟨w.heap.size, 6, none⟩ = some (.slice a5 n.owners.length c5) := HX2.out.get 6
   have x7 : w2.cell? ⟨w.heap.size, 7, none⟩ = some (.slice a6 n.turns.length c6) := HX2.out.get 7
   have x8 : w2.cell? ⟨w.heap.size, 8, none⟩ = some (.slice a7 n.srcs.length c7) := HX2.out.get 8
   have x9 : w2.cell? ⟨w.heap.size, 9, none⟩ = some (.slice a8 n.arrs.length c8) := HX2.out.get 9
   have x10 : w2.cell? ⟨w.heap.size, 10, none⟩ = some (.int .i64 n.time) := HX2.out.get 10
   have xl := HX2.out.lt
   go_wp2_with fail
   refine (spec_l01In s 0 400 _).mono ?_
   rintro e w3 ⟨rfl, rfl⟩
   go_wp2_with fail
   refine (spec_l15Copy n _ _ (HR.out.below HWB.out)).mono ?_
   rintro e w4 ⟨hg4, hb4⟩
   obtain ⟨q4, y4, y7, y8, rfl, HN0⟩ := hg4
   obtain ⟨p1, p2, p3, p4, p5, p6, p7, p8, r1, r2, r3, r4, r5, r6, r7, r8⟩ := q4
   dsimp only [netCells]
   have HN4 := Lib.hid HN0
   have HZ4 : Hid (BN w4 (w.heap.size + 1)) := Lib.hid (HZ2.out.below hb4)
   have HWB4 : Hid (Below w.heap.size w w4) := Lib.hid (bw_then HWB.out hb4)
   have zz4 := bw_size hb4
   have zz5 := bw_size HWB.out
   clear HN0 hb4
   repeat (first | clear x0 | clear x1 | clear x2 | clear x3 | clear x4 | clear x5 | clear x6 | clear x7 | clear x8 | clear x9 | clear x10)

   obtain ⟨ry0, rv0⟩ := HZ4.out.get 0 (by omega)
   have rz0 := HZ4.out.frozen 0
   obtain ⟨ry1, rv1⟩ := HZ4.out.get 1 (by omega)
   have rz1 := HZ4.out.frozen 1
   obtain ⟨ry2, rv2⟩ := HZ4.out.get 2 (by omega)
   have rz2 := HZ4.out.frozen 2
   obtain ⟨ry3, rv3⟩ := HZ4.out.get 3 (by omega)
   have rz3 := HZ4.out.frozen 3
   obtain ⟨ry4, rv4⟩ := HZ4.out.get 4 (by omega)
   have rz4 := HZ4.out.frozen 4
   obtain ⟨ry5, rv5⟩ := HZ4.out.get 5 (by omega)
   have rz5 := HZ4.out.frozen 5
   obtain ⟨ry6, rv6⟩ := HZ4.out.get 6 (by omega)
   have rz6 := HZ4.out.frozen 6
   obtain ⟨ry7, rv7⟩ := HZ4.out.get 7 (by omega)
   have rz7 := HZ4.out.frozen 7
   obtain ⟨ry8, rv8⟩ := HZ4.out.get 8 (by omega)
   have rz8 := HZ4.out.frozen 8
   obtain ⟨ry9, rv9⟩ := HZ4.out.get 9 (by omega)
   have rz9 := HZ4.out.frozen 9
   obtain ⟨ry10, rv10⟩ := HZ4.out.get 10 (by omega)
   have rz10 := HZ4.out.frozen 10
   go_wp2
   obtain ⟨W9, e9⟩ : ∃ z, z = putN w4 (w.heap.size + 1) n ⟨p1, p2, p3, p4, p5, p6, p7, p8, r1, r2, r3, r4, r5, r6, r7, r8⟩ := ⟨_, rfl⟩
   have HB9 : Hid (BT W9 (w.heap.size + 1) n ⟨p1, p2, p3, p4, p5, p6, p7, p8, r1, r2, r3, r4, r5, r6, r7, r8⟩) := Lib.hid (by rw [e9]; exact putN_BT HZ4.out)
   have HN9 := Lib.hid (show NX W9 _ n ⟨p1, p2, p3, p4, p5, p6, p7, p8, r1, r2, r3, r4, r5, r6, r7, r8⟩ y4 y7 y8 from by rw [e9]; exact HN4.out.put HZ4.out)
   have HL9 : Hid (Below w.heap.size w W9) := Lib.hid (by rw [e9]; exact below_put HWB4.out (by omega))
   unfold putN at e9
   try dsimp only at e9
   rw [← e9]
   clear e9
   exact bodyPost_ret (results_cell_row2 Tryz.results17 _ _ ((w.heap.size + 1)) 43 _ (0, 0) _ rfl HB9.out Tryz.underlying43 rfl (by kernel_rfl)) rfl (by dsimp only; rw [HE.out]; exact ⟨⟨_, _, _, _, rfl, HN9.out.lower (by omega)⟩, HL9.out⟩)
  ·have ht : ¬ n.time + s ≤ 1000000 := by
    intro h
    simp [canRunN, hk, hi, h] at hc
   have hi' := inside_iff.1 hi
   have ti := time_ok hk
   have ht2 : (1000000 : Int) < n.time + s := by omega
   clear hc ht
   go_enter Tryz.func17, Tryz.ntmps17
   go_wp2_with fail
   refine (spec_NetOk n _ _ (HR.out.below bel)).mono ?_
   rintro e w2 ⟨rfl, hb2⟩
   have HX2 : Hid (Box w2 w.heap.size #[.int .i64 n.mesh.g.w, .int .i64 n.mesh.g.h, .slice a1 n.mesh.br.length c1, .slice a2 n.pa.length c2, .slice a3 n.pb.length c3, .slice a4 n.bufs.length c4, .slice a5 n.owners.length c5, .slice a6 n.turns.length c6, .slice a7 n.srcs.length c7, .slice a8 n.arrs.length c8, .int .i64 n.time]) := Lib.hid (((Box.new w w.heap.size #[.int .i64 n.mesh.g.w, .int .i64 n.mesh.g.h, .slice a1 n.mesh.br.length c1, .slice a2 n.pa.length c2, .slice a3 n.pb.length c3, .slice a4 n.bufs.length c4, .slice a5 n.owners.length c5, .slice a6 n.turns.length c6, .slice a7 n.srcs.length c7, .slice a8 n.arrs.length c8, .int .i64 n.time] 43 rfl).alloc _).below hb2)
   have HZ0 : Hid (BN ((w.alloc (.cells #[.int .i64 n.mesh.g.w, .int .i64 n.mesh.g.h, .slice a1 n.mesh.br.length c1, .slice a2 n.pa.length c2, .slice a3 n.pb.length c3, .slice a4 n.bufs.length c4, .slice a5 n.owners.length c5, .slice a6 n.turns.length c6, .slice a7 n.srcs.length c7, .slice a8 n.arrs.length c8, .int .i64 n.time] 43)).alloc (.cells #[.int .i64 0, .int .i64 0, .slice none 0 0, .slice none 0 0, .slice none 0 0, .slice none 0 0, .slice none 0 0, .slice none 0 0, .slice none 0 0, .slice none 0 0, .int .i64 0] 43)) (w.heap.size + 1)) := Lib.hid ((BT.bn (by have hn := BT.new (w.alloc (.cells #[.int .i64 n.mesh.g.w, .int .i64 n.mesh.g.h, .slice a1 n.mesh.br.length c1, .slice a2 n.pa.length c2, .slice a3 n.pb.length c3, .slice a4 n.bufs.length c4, .slice a5 n.owners.length c5, .slice a6 n.turns.length c6, .slice a7 n.srcs.length c7, .slice a8 n.arrs.length c8, .int .i64 n.time] 43)) ⟨⟨⟨0, 0⟩, []⟩, [], [], [], [], [], [], [], 0⟩ ⟨none, none, none, none, none, none, none, none, 0, 0, 0, 0, 0, 0, 0, 0⟩; rw [World.size_alloc] at hn; exact hn)))
   have HZ2 : Hid (BN w2 (w.heap.size + 1)) := Lib.hid (HZ0.out.below hb2)
   have HWB : Hid (Below w.heap.size w w2) := Lib.hid (bw_then (bw_alloc _ (bw_alloc _ (bw_refl w))) hb2)
   have zz2 := bw_size hb2
   simp only [szs] at zz2
   clear hb2 HZ0
   have x0 : w2.cell? ⟨w.heap.size, 0, none⟩ = some (.int .i64 n.mesh.g.w) := HX2.out.get 0
   have x1 : w2.cell? ⟨w.heap.size, 1, none⟩ = some (.int .i64 n.mesh.g.h) := HX2.out.get 1
   have x2 : w2.cell? ⟨w.heap.size, 2, none⟩ = some (.slice a1 n.mesh.br.length c1) := HX2.out.get 2
   have x3 : w2.cell? ⟨w.heap.size, 3, none⟩ = some (.slice a2 n.pa.length c2) := HX2.out.get 3
   have x4 : w2.cell? ⟨w.heap.size, 4, none⟩ = some (.slice a3 n.pb.length c3) := HX2.out.get 4
   have x5 : w2.cell? ⟨w.heap.size, 5, none⟩ = some (.slice a4 n.bufs.length c4) := HX2.out.get 5
   have x6 : w2.cell? ⟨w.heap.size, 6, none⟩ = some (.slice a5 n.owners.length c5) := HX2.out.get 6
   have x7 : w2.cell? ⟨w.heap.size, 7, none⟩ = some (.slice a6 n.turns.length c6) := HX2.out.get 7
   have x8 : w2.cell? ⟨w.heap.size, 8, none⟩ = some (.slice a7 n.srcs.length c7) := HX2.out.get 8
   have x9 : w2.cell? ⟨w.heap.size, 9, none⟩ = some (.slice a8 n.arrs.length c8) := HX2.out.get 9
   have x10 : w2.cell? ⟨w.heap.size, 10, none⟩ = some (.int .i64 n.time) := HX2.out.get 10
   have xl := HX2.out.lt
   go_wp2_with fail
   refine (spec_l01In s 0 400 _).mono ?_
   rintro e w3 ⟨rfl, rfl⟩
   go_wp2_with fail
   refine (spec_l15Copy n _ _ (HR.out.below HWB.out)).mono ?_
   rintro e w4 ⟨hg4, hb4⟩
   obtain ⟨q4, y4, y7, y8, rfl, HN0⟩ := hg4
   obtain ⟨p1, p2, p3, p4, p5, p6, p7, p8, r1, r2, r3, r4, r5, r6, r7, r8⟩ := q4
   dsimp only [netCells]
   have HN4 := Lib.hid HN0
   have HZ4 : Hid (BN w4 (w.heap.size + 1)) := Lib.hid (HZ2.out.below hb4)
   have HWB4 : Hid (Below w.heap.size w w4) := Lib.hid (bw_then HWB.out hb4)
   have zz4 := bw_size hb4
   have zz5 := bw_size HWB.out
   clear HN0 hb4
   repeat (first | clear x0 | clear x1 | clear x2 | clear x3 | clear x4 | clear x5 | clear x6 | clear x7 | clear x8 | clear x9 | clear x10)

   obtain ⟨ry0, rv0⟩ := HZ4.out.get 0 (by omega)
   have rz0 := HZ4.out.frozen 0
   obtain ⟨ry1, rv1⟩ := HZ4.out.get 1 (by omega)
   have rz1 := HZ4.out.frozen 1
   obtain ⟨ry2, rv2⟩ := HZ4.out.get 2 (by omega)
   have rz2 := HZ4.out.frozen 2
   obtain ⟨ry3, rv3⟩ := HZ4.out.get 3 (by omega)
   have rz3 := HZ4.out.frozen 3
   obtain ⟨ry4, rv4⟩ := HZ4.out.get 4 (by omega)
   have rz4 := HZ4.out.frozen 4
   obtain ⟨ry5, rv5⟩ := HZ4.out.get 5 (by omega)
   have rz5 := HZ4.out.frozen 5
   obtain ⟨ry6, rv6⟩ := HZ4.out.get 6 (by omega)
   have rz6 := HZ4.out.frozen 6
   obtain ⟨ry7, rv7⟩ := HZ4.out.get 7 (by omega)
   have rz7 := HZ4.out.frozen 7
   obtain ⟨ry8, rv8⟩ := HZ4.out.get 8 (by omega)
   have rz8 := HZ4.out.frozen 8
   obtain ⟨ry9, rv9⟩ := HZ4.out.get 9 (by omega)
   have rz9 := HZ4.out.frozen 9
   obtain ⟨ry10, rv10⟩ := HZ4.out.get 10 (by omega)
   have rz10 := HZ4.out.frozen 10
   go_wp2
   obtain ⟨W9, e9⟩ : ∃ z, z = putN w4 (w.heap.size + 1) n ⟨p1, p2, p3, p4, p5, p6, p7, p8, r1, r2, r3, r4, r5, r6, r7, r8⟩ := ⟨_, rfl⟩
   have HB9 : Hid (BT W9 (w.heap.size + 1) n ⟨p1, p2, p3, p4, p5, p6, p7, p8, r1, r2, r3, r4, r5, r6, r7, r8⟩) := Lib.hid (by rw [e9]; exact putN_BT HZ4.out)
   have HN9 := Lib.hid (show NX W9 _ n ⟨p1, p2, p3, p4, p5, p6, p7, p8, r1, r2, r3, r4, r5, r6, r7, r8⟩ y4 y7 y8 from by rw [e9]; exact HN4.out.put HZ4.out)
   have HL9 : Hid (Below w.heap.size w W9) := Lib.hid (by rw [e9]; exact below_put HWB4.out (by omega))
   unfold putN at e9
   try dsimp only at e9
   rw [← e9]
   clear e9
   exact bodyPost_ret (results_cell_row2 Tryz.results17 _ _ ((w.heap.size + 1)) 43 _ (0, 0) _ rfl HB9.out Tryz.underlying43 rfl (by kernel_rfl)) rfl (by dsimp only; rw [HE.out]; exact ⟨⟨_, _, _, _, rfl, HN9.out.lower (by omega)⟩, HL9.out⟩)
 case true =>
  have HE : Hid (runNetN n s = runN n s.toNat) := Lib.hid (by simp [runNetN, hc])
  have HC := Lib.hid hc
  obtain ⟨ok, s0, s4, st⟩ := canRun_parts hc
  have hi : inside s 0 400 = true := inside_iff.2 ⟨s0, s4⟩
  have ti := time_ok ok
  obtain ⟨S, hS⟩ : ∃ S : Nat, s = (S : Int) := ⟨s.toNat, by omega⟩
  subst hS
  rw [Int.toNat_natCast] at HE
  have OK := Lib.hid ok
  clear hc
  go_enter Tryz.func17, Tryz.ntmps17
  go_wp2_with fail
  refine (spec_NetOk n _ _ (HR.out.below bel)).mono ?_
  rintro e w2 ⟨rfl, hb2⟩
  have HX2 : Hid (Box w2 w.heap.size #[.int .i64 n.mesh.g.w, .int .i64 n.mesh.g.h, .slice a1 n.mesh.br.length c1, .slice a2 n.pa.length c2, .slice a3 n.pb.length c3, .slice a4 n.bufs.length c4, .slice a5 n.owners.length c5, .slice a6 n.turns.length c6, .slice a7 n.srcs.length c7, .slice a8 n.arrs.length c8, .int .i64 n.time]) := Lib.hid (((Box.new w w.heap.size #[.int .i64 n.mesh.g.w, .int .i64 n.mesh.g.h, .slice a1 n.mesh.br.length c1, .slice a2 n.pa.length c2, .slice a3 n.pb.length c3, .slice a4 n.bufs.length c4, .slice a5 n.owners.length c5, .slice a6 n.turns.length c6, .slice a7 n.srcs.length c7, .slice a8 n.arrs.length c8, .int .i64 n.time] 43 rfl).alloc _).below hb2)
  have HZ0 : Hid (BN ((w.alloc (.cells #[.int .i64 n.mesh.g.w, .int .i64 n.mesh.g.h, .slice a1 n.mesh.br.length c1, .slice a2 n.pa.length c2, .slice a3 n.pb.length c3, .slice a4 n.bufs.length c4, .slice a5 n.owners.length c5, .slice a6 n.turns.length c6, .slice a7 n.srcs.length c7, .slice a8 n.arrs.length c8, .int .i64 n.time] 43)).alloc (.cells #[.int .i64 0, .int .i64 0, .slice none 0 0, .slice none 0 0, .slice none 0 0, .slice none 0 0, .slice none 0 0, .slice none 0 0, .slice none 0 0, .slice none 0 0, .int .i64 0] 43)) (w.heap.size + 1)) := Lib.hid ((BT.bn (by have hn := BT.new (w.alloc (.cells #[.int .i64 n.mesh.g.w, .int .i64 n.mesh.g.h, .slice a1 n.mesh.br.length c1, .slice a2 n.pa.length c2, .slice a3 n.pb.length c3, .slice a4 n.bufs.length c4, .slice a5 n.owners.length c5, .slice a6 n.turns.length c6, .slice a7 n.srcs.length c7, .slice a8 n.arrs.length c8, .int .i64 n.time] 43)) ⟨⟨⟨0, 0⟩, []⟩, [], [], [], [], [], [], [], 0⟩ ⟨none, none, none, none, none, none, none, none, 0, 0, 0, 0, 0, 0, 0, 0⟩; rw [World.size_alloc] at hn; exact hn)))
  have HZ2 : Hid (BN w2 (w.heap.size + 1)) := Lib.hid (HZ0.out.below hb2)
  have HWB : Hid (Below w.heap.size w w2) := Lib.hid (bw_then (bw_alloc _ (bw_alloc _ (bw_refl w))) hb2)
  have zz2 := bw_size hb2
  simp only [szs] at zz2
  clear hb2 HZ0
  have x0 : w2.cell? ⟨w.heap.size, 0, none⟩ = some (.int .i64 n.mesh.g.w) := HX2.out.get 0
  have x1 : w2.cell? ⟨w.heap.size, 1, none⟩ = some (.int .i64 n.mesh.g.h) := HX2.out.get 1
  have x2 : w2.cell? ⟨w.heap.size, 2, none⟩ = some (.slice a1 n.mesh.br.length c1) := HX2.out.get 2
  have x3 : w2.cell? ⟨w.heap.size, 3, none⟩ = some (.slice a2 n.pa.length c2) := HX2.out.get 3
  have x4 : w2.cell? ⟨w.heap.size, 4, none⟩ = some (.slice a3 n.pb.length c3) := HX2.out.get 4
  have x5 : w2.cell? ⟨w.heap.size, 5, none⟩ = some (.slice a4 n.bufs.length c4) := HX2.out.get 5
  have x6 : w2.cell? ⟨w.heap.size, 6, none⟩ = some (.slice a5 n.owners.length c5) := HX2.out.get 6
  have x7 : w2.cell? ⟨w.heap.size, 7, none⟩ = some (.slice a6 n.turns.length c6) := HX2.out.get 7
  have x8 : w2.cell? ⟨w.heap.size, 8, none⟩ = some (.slice a7 n.srcs.length c7) := HX2.out.get 8
  have x9 : w2.cell? ⟨w.heap.size, 9, none⟩ = some (.slice a8 n.arrs.length c8) := HX2.out.get 9
  have x10 : w2.cell? ⟨w.heap.size, 10, none⟩ = some (.int .i64 n.time) := HX2.out.get 10
  have xl := HX2.out.lt
  go_wp2_with fail
  refine (spec_l01In (S : Int) 0 400 _).mono ?_
  rintro e w3 ⟨rfl, rfl⟩
  go_wp2_with fail
  refine (spec_l15Copy n _ _ (HR.out.below HWB.out)).mono ?_
  rintro e w4 ⟨hg4, hb4⟩
  obtain ⟨q4, y4, y7, y8, rfl, HN0⟩ := hg4
  obtain ⟨p1, p2, p3, p4, p5, p6, p7, p8, r1, r2, r3, r4, r5, r6, r7, r8⟩ := q4
  dsimp only [netCells]
  have HN4 := Lib.hid HN0
  have HZ4 : Hid (BN w4 (w.heap.size + 1)) := Lib.hid (HZ2.out.below hb4)
  have HWB4 : Hid (Below w.heap.size w w4) := Lib.hid (bw_then HWB.out hb4)
  have zz4 := bw_size hb4
  have zz5 := bw_size HWB.out
  clear HN0 hb4
  repeat (first | clear x0 | clear x1 | clear x2 | clear x3 | clear x4 | clear x5 | clear x6 | clear x7 | clear x8 | clear x9 | clear x10)
  go_wp2_with fail
  refine (spec_l20Run n S _ y4 y7 y8 w2.heap.size _ HN4.out NBQ.out HA.out OK.out (by omega) st zz4).mono ?_
  rintro e w6 ⟨hg6, hb6⟩
  obtain ⟨q6, i4, i7, i8, rfl, HN60⟩ := hg6
  obtain ⟨s1, s2, s3, s4, s5, s6, s7, s8, t1, t2, t3, t4, t5, t6, t7, t8⟩ := q6
  dsimp only [netCells]
  have HN6 := Lib.hid HN60
  have HZ6 : Hid (BN w6 (w.heap.size + 1)) := Lib.hid (HZ4.out.below hb6)
  have HWB6 : Hid (Below w.heap.size w w6) := Lib.hid (bw_then HWB4.out hb6)
  have zz6 := bw_size hb6
  clear HN60 hb6 HN4 HZ4 HWB4
  obtain ⟨X, hX⟩ : ∃ X, runN n S = X := ⟨_, rfl⟩
  rw [hX] at HN6 HE
  try rw [hX]
  clear hX

  obtain ⟨ry0, rv0⟩ := HZ6.out.get 0 (by omega)
  have rz0 := HZ6.out.frozen 0
  obtain ⟨ry1, rv1⟩ := HZ6.out.get 1 (by omega)
  have rz1 := HZ6.out.frozen 1
  obtain ⟨ry2, rv2⟩ := HZ6.out.get 2 (by omega)
  have rz2 := HZ6.out.frozen 2
  obtain ⟨ry3, rv3⟩ := HZ6.out.get 3 (by omega)
  have rz3 := HZ6.out.frozen 3
  obtain ⟨ry4, rv4⟩ := HZ6.out.get 4 (by omega)
  have rz4 := HZ6.out.frozen 4
  obtain ⟨ry5, rv5⟩ := HZ6.out.get 5 (by omega)
  have rz5 := HZ6.out.frozen 5
  obtain ⟨ry6, rv6⟩ := HZ6.out.get 6 (by omega)
  have rz6 := HZ6.out.frozen 6
  obtain ⟨ry7, rv7⟩ := HZ6.out.get 7 (by omega)
  have rz7 := HZ6.out.frozen 7
  obtain ⟨ry8, rv8⟩ := HZ6.out.get 8 (by omega)
  have rz8 := HZ6.out.frozen 8
  obtain ⟨ry9, rv9⟩ := HZ6.out.get 9 (by omega)
  have rz9 := HZ6.out.frozen 9
  obtain ⟨ry10, rv10⟩ := HZ6.out.get 10 (by omega)
  have rz10 := HZ6.out.frozen 10
  go_wp2
  obtain ⟨W9, e9⟩ : ∃ z, z = putN w6 (w.heap.size + 1) X ⟨s1, s2, s3, s4, s5, s6, s7, s8, t1, t2, t3, t4, t5, t6, t7, t8⟩ := ⟨_, rfl⟩
  have HB9 : Hid (BT W9 (w.heap.size + 1) X ⟨s1, s2, s3, s4, s5, s6, s7, s8, t1, t2, t3, t4, t5, t6, t7, t8⟩) := Lib.hid (by rw [e9]; exact putN_BT HZ6.out)
  have HN9 := Lib.hid (show NX W9 _ X ⟨s1, s2, s3, s4, s5, s6, s7, s8, t1, t2, t3, t4, t5, t6, t7, t8⟩ i4 i7 i8 from by rw [e9]; exact HN6.out.put HZ6.out)
  have HL9 : Hid (Below w.heap.size w W9) := Lib.hid (by rw [e9]; exact below_put HWB6.out (by omega))
  unfold putN at e9
  try dsimp only at e9
  rw [← e9]
  clear e9
  exact bodyPost_ret (results_cell_row2 Tryz.results17 _ _ ((w.heap.size + 1)) 43 _ (0, 0) _ rfl HB9.out Tryz.underlying43 rfl (by kernel_rfl)) rfl (by dsimp only; rw [HE.out]; exact ⟨⟨_, _, _, _, rfl, HN9.out.lower (by omega)⟩, HL9.out⟩)
end Go.Proofs.YteeebfeljjghhaaGreat
