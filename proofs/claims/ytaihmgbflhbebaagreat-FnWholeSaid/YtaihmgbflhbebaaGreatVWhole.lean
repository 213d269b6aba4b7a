/- The law FnExactWhole answers true for all arguments, and leaves each as it was. No conditions. -/
import Derived.Test.YtaihmgbflhbebaaGreatV17
import Derived.Test.YtaihmgbflhbebaaGreatV18
import Derived.Test.YtaihmgbflhbebaaGreatV5
import Derived.Test.YtaihmgbflhbebaaGreatV14
import Derived.Test.YtaihmgbflhbebaaGreatRows
import Derived.WalkKit
import Derived.ProofKit
import Derived.OpenShut
import Derived.ShutString
import Derived.ChangeOld
import Derived.Below
import Derived.SizedLaws
set_option linter.unusedVariables false
set_option linter.unusedSimpArgs false
namespace Go.Proofs.YtaihmgbflhbebaaGreat
open Go.RowKit Go.Proofs.YtaihmgbflhbebaaGreatW.PrintWords
open NoC
set_option maxHeartbeats 4000000 in
theorem impl_CountPackets (l : List Flit) (A : Option Addr) (c : Nat) (w : World) (hr : kF.C w A l.length l) (hn : l.length ≤ 2097152) :
    Calls Tryz.prog 25 #[.slice A l.length c] w fun e w' => e = .returned (.int .i64 ((tailsTo l l.length : Nat) : Int)) ∧ Below w.heap.size w w' := by
  have HT : Hid (∀ k : Nat, tailsTo l k ≤ k) := Lib.hid (fun k => by
    induction k with
    | zero => simp [tailsTo]
    | succ k ih => rw [tailsTo]; split <;> omega)
  go_enter Tryz.func25, Tryz.ntmps25
  go_wp2
  go_loopw [3, 8] (fun s i wr => ∃ k : Nat, i = .int .i64 k ∧ k ≤ l.length ∧ s = .int .i64 ((tailsTo l k : Nat) : Int) ∧ Hid (Below w.heap.size w wr)) (fun _ i _ => l.length - (intOf i).toNat)
  case atStart => exact ⟨0, rfl, Nat.zero_le _, rfl, Lib.hid (bw_refl _)⟩
  case round =>
    obtain ⟨k, rfl, hk, rfl, HB⟩ := hrel
    have htk := HT.out k
    by_cases hlt : k < l.length
    · obtain ⟨b1, o1, rfl, hb1, p0, p1, p2, p3, p4⟩ := rdFl_at (Kd.C_below hr HB.out) k hlt
      have i0 : (k : Int) < (l.length : Int) := by omega
      have i9 : (0 : Int) ≤ (k : Int) := by omega
      cases ht : (rf l (k : Int)).tail
      · rw [ht] at p4
        have HS : Hid (tailsTo l (k + 1) = tailsTo l k) := Lib.hid (by rw [tailsTo, ht]; simp)
        clear ht
        go_wp2
        go_roundw
        case rel => exact ⟨k + 1, by go_num, by omega, by rw [HS.out], Lib.hid (bw_then HB.out (bw_alloc _ (bw_refl _)))⟩
        case measure => simp [intOf]; omega
      · rw [ht] at p4
        have HS : Hid (tailsTo l (k + 1) = tailsTo l k + 1) := Lib.hid (by rw [tailsTo, ht]; simp)
        clear ht
        go_wp2
        go_roundw
        case rel => exact ⟨k + 1, by go_num, by omega, by rw [HS.out]; go_num, Lib.hid (bw_then HB.out (bw_alloc _ (bw_refl _)))⟩
        case measure => simp [intOf]; omega
    · obtain rfl : k = l.length := by omega
      go_wp2
      go_ret
      exact ⟨rfl, HB.out⟩
set_option maxRecDepth 100000 in
set_option maxHeartbeats 16000000 in
theorem law_Whole (A : Option Addr) (N c : Nat) (w : World) (HXB : Byt w A N) : Calls Tryz.prog 7 #[.slice A N c] w fun e w' => e = .returned (.bool true) ∧ Below w.heap.size w w' := by
 go_enter Tryz.func7, Tryz.ntmps7
 by_cases hbig : (1048576 : Int) < (N : Int)
 ·go_wp2_with (go_at_call 10; refine (laws_big _ _ _ _).mono ?_; rintro e w' ⟨rfl, rfl⟩)
  go_ret
  exact ⟨rfl, bel⟩
 go_wp2_with (go_at_call 10; refine (laws_big _ _ _ _).mono ?_; rintro e w' ⟨rfl, rfl⟩)
 refine (spec_DrawNet A N c _ HXB).mono ?_
 rintro e w1 ⟨⟨n, q, rfl, HD, hr⟩, hb1⟩
 have RR0 := Lib.hid hr
 have HWW := Lib.hid hb1
 have HXB1 := Lib.hid (HXB.below hb1)
 have HDN := Lib.hid HD
 obtain ⟨a1, a2, a3, a4, a5, a6, a7, a8, c1, c2, c3, c4, c5, c6, c7, c8⟩ := q
 clear hr hb1 HD HXB
 dsimp only [netCells]
 obtain ⟨ok, we, t0, t1, hA, g, hm, hg2⟩ := HDN.out.facts
 have HMM := Lib.hid hm
 clear hm
 have HCR : Hid (∀ k : Nat, k < 30 → canRunN n (k : Int) = true ∧ runNetN n (k : Int) = runN n k) := Lib.hid (fun k hk => by
  have h : canRunN n (k : Int) = true := by unfold canRunN; rw [ok, inside_iff.2 ⟨by omega, by omega⟩, decide_eq_true (by omega)]; rfl
  exact ⟨h, by unfold runNetN; rw [if_pos h, Int.toNat_natCast]⟩)
 have HOKX : Hid (∀ k : Nat, k < 30 → netOk (runN n k) = true) := Lib.hid (fun k hk => runN_ok ok k (by omega))
 have HWEX : Hid (∀ k : Nat, k < 30 → WE (runN n k)) := Lib.hid (fun k hk => WE_run ok we k (by omega))
 have HNBX : Hid (∀ k : Nat, k < 30 → NB (runN n k)) := Lib.hid (fun k hk => run_nb RR0.out.nb hA k (by omega) (HOKX.out k hk))
 have HMS : Hid (∀ k : Nat, (runN n k).mesh = n.mesh) := Lib.hid (fun k => (run_parts n k).1)
 have HNA := Lib.hid hA
 have HNC : Hid (n.mesh.g.w * n.mesh.g.h = nodeCount n.mesh.g ∧ 1 ≤ n.mesh.g.w ∧ n.mesh.g.w ≤ 4 ∧ 1 ≤ n.mesh.g.h ∧ n.mesh.g.h ≤ 4) := Lib.hid (by rw [HMM.out]; exact grid_count hg2)
 clear hA we ok
 have hbx : Below w1.heap.size w1 (w1.alloc (.cells #[.int .i64 n.mesh.g.w, .int .i64 n.mesh.g.h, .slice a1 n.mesh.br.length c1, .slice a2 n.pa.length c2, .slice a3 n.pb.length c3, .slice a4 n.bufs.length c4, .slice a5 n.owners.length c5, .slice a6 n.turns.length c6, .slice a7 n.srcs.length c7, .slice a8 n.arrs.length c8, .int .i64 n.time] 35)) := bw_alloc _ (bw_refl w1)
 have BX0 := Lib.hid (show Box (w1.alloc (.cells #[.int .i64 n.mesh.g.w, .int .i64 n.mesh.g.h, .slice a1 n.mesh.br.length c1, .slice a2 n.pa.length c2, .slice a3 n.pb.length c3, .slice a4 n.bufs.length c4, .slice a5 n.owners.length c5, .slice a6 n.turns.length c6, .slice a7 n.srcs.length c7, .slice a8 n.arrs.length c8, .int .i64 n.time] 35)) w1.heap.size #[.int .i64 n.mesh.g.w, .int .i64 n.mesh.g.h, .slice a1 n.mesh.br.length c1, .slice a2 n.pa.length c2, .slice a3 n.pb.length c3, .slice a4 n.bufs.length c4, .slice a5 n.owners.length c5, .slice a6 n.turns.length c6, .slice a7 n.srcs.length c7, .slice a8 n.arrs.length c8, .int .i64 n.time] from Box.new w1 _ _ _ rfl)
 obtain ⟨y0, g0⟩ := BX0.out
 replace RR0 := Lib.hid (RR0.out.below hbx)
 replace HXB1 := Lib.hid (HXB1.out.below hbx)
 replace HWW := Lib.hid (bw_then HWW.out hbx)
 clear hbx
 have zzw2 : w1.heap.size + 1 ≤ (w1.alloc (.cells #[.int .i64 n.mesh.g.w, .int .i64 n.mesh.g.h, .slice a1 n.mesh.br.length c1, .slice a2 n.pa.length c2, .slice a3 n.pb.length c3, .slice a4 n.bufs.length c4, .slice a5 n.owners.length c5, .slice a6 n.turns.length c6, .slice a7 n.srcs.length c7, .slice a8 n.arrs.length c8, .int .i64 n.time] 35)).heap.size := Nat.le_of_eq (World.size_alloc _ _).symm
 go_wp2_with fail
 generalize w1.alloc (.cells #[.int .i64 n.mesh.g.w, .int .i64 n.mesh.g.h, .slice a1 n.mesh.br.length c1, .slice a2 n.pa.length c2, .slice a3 n.pb.length c3, .slice a4 n.bufs.length c4, .slice a5 n.owners.length c5, .slice a6 n.turns.length c6, .slice a7 n.srcs.length c7, .slice a8 n.arrs.length c8, .int .i64 n.time] 35) = w2 at *
 refine (spec_DrawPlaces A N c _ HXB1.out).mono ?_
 rintro e w3 ⟨⟨xs, hg, hxl, hxr⟩, hbc⟩
 obtain ⟨pb, po, pc, x0, x1, x2, rfl, hpl, q0, q1, q2, q3, q4, q5⟩ := places3 hg hxl hxr
 have HPL := Lib.hid hpl
 clear hpl hg hxr hxl
 have zzw3 := bw_size hbc
 replace RR0 := Lib.hid (RR0.out.below hbc)
 replace BX0 := Lib.hid (Box.below BX0.out hbc)
 clear y0 g0
 obtain ⟨y0, g0⟩ := BX0.out
 replace HXB1 := Lib.hid (HXB1.out.below hbc)
 replace HWW := Lib.hid (bw_then HWW.out hbc)
 clear hbc
 obtain ⟨kk, hkk⟩ : ∃ k : Nat, x0 % 30 = (k : Int) := ⟨(x0 % 30).toNat, by omega⟩
 have hk30 : kk < 30 := by omega
 have h9 := HCR.out kk hk30
 have HC1 := Lib.hid h9.1
 have HR1 := Lib.hid h9.2
 have HOK2 := Lib.hid (HOKX.out kk hk30)
 have HWE2 := Lib.hid (HWEX.out kk hk30)
 have NBX := Lib.hid (HNBX.out kk hk30)
 have HMS2 := Lib.hid (HMS.out kk)
 obtain ⟨X, hX⟩ : ∃ z, runN n kk = z := ⟨_, rfl⟩
 rw [hX] at HR1 HOK2 HWE2 NBX HMS2
 have tm0 : x0.tmod 30 = x0 % 30 := Int.tmod_eq_emod_of_nonneg (by omega)
 have HKK := Lib.hid hkk
 clear h9 hX HCR HOKX HWEX HNBX HMS hkk
 go_wp2_with fail
 refine wp_region_tz w3.heap.size (fun i => if i = 9 then .cells #[.int .i64 0, .int .i64 0, .slice none 0 0, .slice none 0 0, .slice none 0 0, .slice none 0 0, .slice none 0 0, .slice none 0 0, .slice none 0 0, .slice none 0 0, .int .i64 0] 35 else .cells #[] 0) (fun i g => if i = 9 then .pointer (some ⟨g, 0, none⟩) else undef) (fun W => Below w3.heap.size w3 W) 11 [(0, .quiet), (1, .quiet), (2, .quiet), (3, .quiet), (4, .quiet), (5, .chain), (6, .quiet), (7, .quiet), (8, .quiet), (9, .lit), (10, .chain)] (by kernel_rfl) (by kernel_rfl) (by kernel_rfl) (by kernel_rfl) (by kernel_rfl) (by kernel_rfl) (by kernel_rfl) (by kernel_rfl) (bw_drew (bw_refl _)) ⟨fun W o h => bw_alloc _ h, fun W h => bw_size h⟩ (fun _ => True) trivial (fun _ _ _ _ _ => trivial) ?_
 refine wpTz_v (some 19) (.agg #[.int .i64 n.mesh.g.w, .int .i64 n.mesh.g.h, .slice a1 n.mesh.br.length c1, .slice a2 n.pa.length c2, .slice a3 n.pb.length c3, .slice a4 n.bufs.length c4, .slice a5 n.owners.length c5, .slice a6 n.turns.length c6, .slice a7 n.srcs.length c7, .slice a8 n.arrs.length c8, .int .i64 n.time]) rfl rfl (by rfl) (fun W hC => ?_) ?_
 ·have hx := Box.below BX0.out hC
  have box11 : Box W w1.heap.size #[.int .i64 n.mesh.g.w, .int .i64 n.mesh.g.h, .slice a1 n.mesh.br.length c1, .slice a2 n.pa.length c2, .slice a3 n.pb.length c3, .slice a4 n.bufs.length c4, .slice a5 n.owners.length c5, .slice a6 n.turns.length c6, .slice a7 n.srcs.length c7, .slice a8 n.arrs.length c8, .int .i64 n.time] := hx
  obtain ⟨h0, h1, h2, h3, h4, h5, h6, h7, h8, h9, h10⟩ := all11 box11
  clear box11
  have hl := hx.lt
  clear hx
  clear hC
  go_simp
  try rfl
 try simp only [Act.put, nms]
 refine wpTz_v (some 20) (.slice (some ⟨pb, po, none⟩) 12 pc) rfl rfl (by rfl) (fun W hC => ?_) ?_
 ·clear hC
  go_simp
  try rfl
 try simp only [Act.put, nms]
 refine wpTz_v (some 21) (.pointer (some ⟨pb, po, none⟩)) rfl rfl (by rfl) (fun W hC => ?_) ?_
 ·have hpl := (HPL.out.below hC).1
  clear hC
  go_simp
  try rfl
 try simp only [Act.put, nms]
 refine wpTz_v (some 22) (.int .i64 x0) rfl rfl (by rfl) (fun W hC => ?_) ?_
 ·have hp0 := (HPL.out.below hC).2.1
  have hpl := (HPL.out.below hC).1
  clear hC
  go_simp
  try rfl
 try simp only [Act.put, nms]
 refine wpTz_v (some 23) (.int .i64 (kk : Int)) rfl rfl (by rfl) (fun W hC => ?_) ?_
 ·have hkk := HKK.out
  clear hC
  go_simp
  try rfl
 try simp only [Act.put, nms]
 refine wpTz_d (some 24) rfl rfl (by rfl) NAV.zero (fun y => .tuple #[.agg (netCells X y.q), .bool true]) (fun y W => GX w3.heap.size X y W) (fun y => (y.lo, y.hi)) (fun W hF hC => ?_) (fun y W W' h hb => h.below hb) (fun ny => ?_)
 ·refine LoOp.enter (by go_simp; first | done | exact ⟨rfl, rfl⟩ | rfl) ?_
  refine (impl_RunNet n (kk : Int) _ W (RR0.out.below hC) HNA.out).mono ?_
  rintro e W1 ⟨hg, hb1⟩
  rw [HC1.out, HR1.out] at hg
  obtain ⟨y, rfl, hy, h1, h2⟩ := GX.of hg hb1 (bw_size hC)
  exact ⟨_, rfl, y, rfl, bw_then hC hb1, hy, hb1, h1, h2⟩
 obtain ⟨nq, n4, n7, n8, nlo, nhi⟩ := ny
 obtain ⟨p1, p2, p3, p4, p5, p6, p7, p8, d1, d2, d3, d4, d5, d6, d7, d8⟩ := nq
 dsimp only [netCells]
 try simp only [Act.put, nms]
 refine wpTz_v (some 18) (.tuple #[.agg #[.int .i64 X.mesh.g.w, .int .i64 X.mesh.g.h, .slice p1 X.mesh.br.length d1, .slice p2 X.pa.length d2, .slice p3 X.pb.length d3, .slice p4 X.bufs.length d4, .slice p5 X.owners.length d5, .slice p6 X.turns.length d6, .slice p7 X.srcs.length d7, .slice p8 X.arrs.length d8, .int .i64 X.time], .bool true]) rfl rfl (by rfl) (fun W hC => ?_) ?_
 ·clear hC
  go_simp
  try rfl
 try simp only [Act.put, nms]
 refine wpTz_v (some 25) (.agg #[.int .i64 X.mesh.g.w, .int .i64 X.mesh.g.h, .slice p1 X.mesh.br.length d1, .slice p2 X.pa.length d2, .slice p3 X.pb.length d3, .slice p4 X.bufs.length d4, .slice p5 X.owners.length d5, .slice p6 X.turns.length d6, .slice p7 X.srcs.length d7, .slice p8 X.arrs.length d8, .int .i64 X.time]) rfl rfl (by rfl) (fun W hC => ?_) ?_
 ·clear hC
  go_simp
  try rfl
 try simp only [Act.put, nms]
 refine wpTz_v (some 26) (.bool true) rfl rfl (by rfl) (fun W hC => ?_) ?_
 ·clear hC
  go_simp
  try rfl
 try simp only [Act.put, nms]
 refine wpTz_l (some 5) rfl rfl (by rfl) (fun W => ?_) (fun gb => ?_)
 ·go_simp
  try rfl
 try simp only [Act.put, nms]
 refine wpTz_c none rfl rfl (by rfl) () (fun _ => undef) (fun _ W => Out w3.heap.size X ⟨⟨p1, p2, p3, p4, p5, p6, p7, p8, d1, d2, d3, d4, d5, d6, d7, d8⟩, n4, n7, n8, nlo, nhi⟩ gb w3 W) (fun W hF hC => ?_) (fun _ => ?_)
 ·have hn := litBN hF rfl
  obtain ⟨⟨ry0, rv0⟩, ⟨ry1, rv1⟩, ⟨ry2, rv2⟩, ⟨ry3, rv3⟩, ⟨ry4, rv4⟩, ⟨ry5, rv5⟩, ⟨ry6, rv6⟩, ⟨ry7, rv7⟩, ⟨ry8, rv8⟩, ⟨ry9, rv9⟩, ⟨ry10, rv10⟩, rz0, rz1, rz2, rz3, rz4, rz5, rz6, rz7, rz8, rz9, rz10⟩ := allBN hn
  have hO := out_of (X := X) (y := ⟨⟨p1, p2, p3, p4, p5, p6, p7, p8, d1, d2, d3, d4, d5, d6, d7, d8⟩, n4, n7, n8, nlo, nhi⟩) (wa := w3) hF rfl rfl hC
  refine LoOp.skip rfl (w1 := putN W gb X ⟨p1, p2, p3, p4, p5, p6, p7, p8, d1, d2, d3, d4, d5, d6, d7, d8⟩) ?_ ⟨(), rfl, hO.below, hO⟩
  clear hO hF hC hn
  unfold putN
  go_simp
  try rfl
 try simp only [Act.put, nms]
 refine wpTz_z (fun w9 hO hC => ?_)
 clear hC
 have HO := Lib.hid hO
 clear hO
 refine ⟨_, rfl, by rfl, ?_⟩
 go_simp
 have hbc := HO.out.below
 have RR1 := Lib.hid (HO.out.nx.reads NBX.out)
 have BX1 := Lib.hid (show Box w9 gb #[.int .i64 X.mesh.g.w, .int .i64 X.mesh.g.h, .slice p1 X.mesh.br.length d1, .slice p2 X.pa.length d2, .slice p3 X.pb.length d3, .slice p4 X.bufs.length d4, .slice p5 X.owners.length d5, .slice p6 X.turns.length d6, .slice p7 X.srcs.length d7, .slice p8 X.arrs.length d8, .int .i64 X.time] from HO.out.bt.box)
 have gB4 := HO.out.bg
 have zz9 := bw_size hbc
 clear HO
 replace RR0 := Lib.hid (RR0.out.below hbc)
 replace BX0 := Lib.hid (Box.below BX0.out hbc)
 clear y0 g0
 obtain ⟨y0, g0⟩ := BX0.out
 replace HXB1 := Lib.hid (HXB1.out.below hbc)
 replace HPL := Lib.hid (HPL.out.below hbc)
 replace HWW := Lib.hid (bw_then HWW.out hbc)
 clear hbc
 obtain ⟨y1, g1⟩ := BX1.out
 obtain ⟨hNc, gw1, gw4, gh1, gh4⟩ := HNC.out
 obtain ⟨hp9, hq0, hq1, hq2⟩ := HPL.out
 have wrN : IntKind.i64.wrap (n.mesh.g.w * n.mesh.g.h) = n.mesh.g.w * n.mesh.g.h := IntWalk.i64_in _ (by have := (count_le n.mesh.g).2; have := (count_le n.mesh.g).1; omega)
 obtain ⟨NC, hNC2⟩ : ∃ z, n.mesh.g.w * n.mesh.g.h = z := ⟨_, rfl⟩
 rw [hNC2] at hNc
 clear wrN
 have HNC2 := Lib.hid hNC2
 have ncp : 2 ≤ NC := by rw [hNc, HMM.out]; exact hg2
 have ncl : NC ≤ 16 := by rw [hNc]; exact (count_le _).2
 have tm1 : x1.tmod NC = x1 % NC := Int.tmod_eq_emod_of_nonneg (by omega)
 have nz : ¬ NC = 0 := by omega
 have nz2 : (NC == 0) = false := by simpa using nz
 have wr64 : wrap64 (n.mesh.g.w * n.mesh.g.h) = NC := by rw [hNC2]; unfold wrap64; omega
 have wri : IntKind.i64.wrap (n.mesh.g.w * n.mesh.g.h) = NC := by rw [hNC2]; exact IntWalk.i64_in _ (by omega)
 clear hNc hNC2
 go_wp2_with fail
 clear y0 g0
 clear y1 g1
 have box11 : Box w9 w1.heap.size #[.int .i64 n.mesh.g.w, .int .i64 n.mesh.g.h, .slice a1 n.mesh.br.length c1, .slice a2 n.pa.length c2, .slice a3 n.pb.length c3, .slice a4 n.bufs.length c4, .slice a5 n.owners.length c5, .slice a6 n.turns.length c6, .slice a7 n.srcs.length c7, .slice a8 n.arrs.length c8, .int .i64 n.time] := BX0.out
 obtain ⟨x0_0, x0_1, x0_2, x0_3, x0_4, x0_5, x0_6, x0_7, x0_8, x0_9, x0_10⟩ := all11 box11
 clear box11
 have xl0 := BX0.out.lt
 have box11 : Box w9 gb #[.int .i64 X.mesh.g.w, .int .i64 X.mesh.g.h, .slice p1 X.mesh.br.length d1, .slice p2 X.pa.length d2, .slice p3 X.pb.length d3, .slice p4 X.bufs.length d4, .slice p5 X.owners.length d5, .slice p6 X.turns.length d6, .slice p7 X.srcs.length d7, .slice p8 X.arrs.length d8, .int .i64 X.time] := BX1.out
 obtain ⟨x1_0, x1_1, x1_2, x1_3, x1_4, x1_5, x1_6, x1_7, x1_8, x1_9, x1_10⟩ := all11 box11
 clear box11
 have xl1 := BX1.out.lt
 refine wp_region_far (w9) (by kernel_rfl) (by kernel_rfl) bel ?_
 have hqc := far_cell (w9)
 have hqf := far_frozen (w9)
 repeat (first | go_big_quiet_step (fail) | quiet_step (fail))
 refine wpQuiet_nil ?_
 intro wq hbq
 clear hqc hqf
 obtain ⟨hcq, hfq, hzq⟩ := bcell hbq
 try simp only [szs] at hzq
 clear x0_0 x0_1 x0_2 x0_3 x0_4 x0_5 x0_6 x0_7 x0_8 x0_9 x0_10 xl0
 clear x1_0 x1_1 x1_2 x1_3 x1_4 x1_5 x1_6 x1_7 x1_8 x1_9 x1_10 xl1
 have hbc := hbq
 clear hbq hcq hfq hp9 hq0 hq1 hq2
 obtain ⟨y0, g0⟩ := BX0.out
 obtain ⟨y1, g1⟩ := BX1.out
 replace RR0 := Lib.hid (RR0.out.below hbc)
 replace BX0 := Lib.hid (Box.below BX0.out hbc)
 clear y0 g0
 obtain ⟨y0, g0⟩ := BX0.out
 replace RR1 := Lib.hid (RR1.out.below hbc)
 replace BX1 := Lib.hid (Box.below BX1.out hbc)
 clear y1 g1
 obtain ⟨y1, g1⟩ := BX1.out
 replace HXB1 := Lib.hid (HXB1.out.below hbc)
 replace HPL := Lib.hid (HPL.out.below hbc)
 replace HWW := Lib.hid (bw_then HWW.out hbc)
 clear hbc
 obtain ⟨av, hav⟩ : ∃ z, x1 % NC = z := ⟨_, rfl⟩
 obtain ⟨cv, hcv⟩ : ∃ z, x2 % 2 = z := ⟨_, rfl⟩
 have av0 : 0 ≤ av := by rw [← hav]; exact Int.emod_nonneg _ (by omega)
 have av1 : av < NC := by rw [← hav]; exact Int.emod_lt_of_pos _ (by omega)
 have cv0 : 0 ≤ cv := by omega
 have cv1 : cv ≤ 1 := by omega
 have tm2 : x2.tmod 2 = x2 % 2 := Int.tmod_eq_emod_of_nonneg (by omega)
 have HND : Hid (isNode X.mesh.g av = true) := Lib.hid (isNode_iff.2 ⟨av0, by rw [HMS2.out, ← HNC.out.1, HNC2.out]; exact av1⟩)
 have HLA : Hid (((X.arrs.length : Nat) : Int) = NC) := Lib.hid (by
  obtain ⟨_, _, _, _, _, h5, _⟩ := netOk_parts HOK2.out
  rw [h5, HMS2.out, ← HNC.out.1, HNC2.out])
 have HIN : Hid (inside cv 0 1 = true) := Lib.hid (inside_iff.2 ⟨cv0, cv1⟩)
 have HARR : Hid (arrIds X av cv = wholeP (arrF X av cv) ∧ arrB X av cv = wholeB (arrF X av cv)) := Lib.hid (arr_yes (by rw [HOK2.out, HND.out, HIN.out]; rfl))
 obtain ⟨so, si, ss, sa, hwi, hwx⟩ := HWE2.out
 have hst := whole_stream (hwi.arr av cv av0 (by rw [HLA.out]; exact av1))
 have HB : Hid (arrB X av cv = true) := Lib.hid (by rw [HARR.out.2]; exact hst.1)
 have HLN : Hid ((arrIds X av cv).length = tailsTo (clsOnly (rl X.arrs av) cv) (clsOnly (rl X.arrs av) cv).length) := Lib.hid (by rw [HARR.out.1]; exact hst.2)
 obtain ⟨ids, hids⟩ : ∃ z, arrIds X av cv = z := ⟨_, rfl⟩
 rw [hids] at HLN
 have HIDS := Lib.hid hids
 clear hids hst hwi hwx so si ss sa HARR HIN
 obtain ⟨pp0, pp1, pp2, pp3⟩ := HPL.out
 rw [hav]
 go_wp2_with fail
 refine (impl_ArrivedAt X _ av cv _ RR1.out).mono ?_
 rintro e w4 ⟨hg, hbc⟩
 obtain ⟨v1, rfl, HO1⟩ := hg
 rw [HB.out]
 rw [HIDS.out] at HO1
 obtain ⟨A1, d1, rfl, hk1, hC1⟩ := Kd.R_reads HO1
 clear HO1 hC1
 have zzw4 := bw_size hbc
 replace RR0 := Lib.hid (RR0.out.below hbc)
 replace BX0 := Lib.hid (Box.below BX0.out hbc)
 clear y0 g0
 obtain ⟨y0, g0⟩ := BX0.out
 replace RR1 := Lib.hid (RR1.out.below hbc)
 replace BX1 := Lib.hid (Box.below BX1.out hbc)
 clear y1 g1
 obtain ⟨y1, g1⟩ := BX1.out
 replace HXB1 := Lib.hid (HXB1.out.below hbc)
 replace HPL := Lib.hid (HPL.out.below hbc)
 replace HWW := Lib.hid (bw_then HWW.out hbc)
 clear hbc
 clear pp0 pp1 pp2 pp3
 have hla := HLA.out
 have d3 : ¬ NC ≤ av := by omega
 obtain ⟨ak, hak⟩ : ∃ k : Nat, av = (k : Int) := ⟨av.toNat, by omega⟩
 have hakl : ak < X.arrs.length := by omega
 subst hak
 obtain ⟨b2, o2, hp8, hb2, Ai, ci, p0, hle, hCi⟩ := rdB_at RR1.out.arrs ak hakl
 dsimp only at hp8
 subst hp8
 have hki := RR1.out.h11 _ (rl_mem hakl)
 have HCI := Lib.hid hCi
 clear hCi
 go_wp2_with fail
 refine (impl_ClassOnly (rl X.arrs (ak : Int)) cv Ai ci _ HCI.out hki).mono ?_
 rintro e w5 ⟨hgz, hbc⟩
 obtain ⟨Az, dz, rfl, hkz, hCz⟩ := hgz.read
 clear hgz
 have zzw5 := bw_size hbc
 replace RR0 := Lib.hid (RR0.out.below hbc)
 replace BX0 := Lib.hid (Box.below BX0.out hbc)
 clear y0 g0
 obtain ⟨y0, g0⟩ := BX0.out
 replace RR1 := Lib.hid (RR1.out.below hbc)
 replace BX1 := Lib.hid (Box.below BX1.out hbc)
 clear y1 g1
 obtain ⟨y1, g1⟩ := BX1.out
 replace HXB1 := Lib.hid (HXB1.out.below hbc)
 replace HPL := Lib.hid (HPL.out.below hbc)
 replace HWW := Lib.hid (bw_then HWW.out hbc)
 clear hbc
 have hfl : (clsOnly (rl X.arrs (ak : Int)) cv).length ≤ 2097152 := Nat.le_trans (List.length_filter_le _ _) hki
 obtain ⟨fl, hfl2⟩ : ∃ z, clsOnly (rl X.arrs (ak : Int)) cv = z := ⟨_, rfl⟩
 rw [hfl2] at hfl HLN hCz
 rw [hfl2]
 clear hfl2
 go_wp2_with fail
 refine (impl_CountPackets fl Az dz _ hCz hfl).mono ?_
 rintro e w6 ⟨rfl, hbc⟩
 have zzw6 := bw_size hbc
 replace RR0 := Lib.hid (RR0.out.below hbc)
 replace BX0 := Lib.hid (Box.below BX0.out hbc)
 clear y0 g0
 obtain ⟨y0, g0⟩ := BX0.out
 replace RR1 := Lib.hid (RR1.out.below hbc)
 replace BX1 := Lib.hid (Box.below BX1.out hbc)
 clear y1 g1
 obtain ⟨y1, g1⟩ := BX1.out
 replace HXB1 := Lib.hid (HXB1.out.below hbc)
 replace HPL := Lib.hid (HPL.out.below hbc)
 replace HWW := Lib.hid (bw_then HWW.out hbc)
 clear hbc
 go_wp2
 go_ret
 exact ⟨ret_bool (by rw [HLN.out]; simp), HWW.out⟩
end Go.Proofs.YtaihmgbflhbebaaGreat
namespace Go.Proofs.YtaihmgbflhbebaaGreat
open Go.ChangeShapes Go.WideShapes Go.ChangeAt Go.RowKit Go.Proofs.YtaihmgbflhbebaaGreatW.PrintWords
open NoC
set_option linter.unusedVariables false
theorem own : ownKnob Tryz.prog.godebug = none := by kernel_rfl
theorem laidOut : laidOutB Tryz.prog = true := by kernel_rfl
theorem arr_of {cs : Array Value} {l : List Value} (h : cs.toList = l) : cs = l.toArray := by rw [← h]
set_option maxHeartbeats 1000000 in
set_option maxRecDepth 100000 in
theorem lifted_Whole (os : Os) (started : os.Started) (H : Type) (enc : TypeId × Value → H) :
    ReturnsInHanded {} Tryz.checked os 7 .any (Rows.fnWholeSpec.pre6 enc Tryz.prog Tryz.f7 Rows.fnWholeRow.domain false) (Rows.fnWholeSpec.post enc Tryz.prog Tryz.f7 false true false false) := by
  refine returnsInHanded_of_change_sized (C := Tryz.checked) own started (by kernel_rfl) Tryz.func7
    (ChangeSpec.witness6 (enc := enc) (C := Tryz.checked) false ⟨#[], #[.slice none 0 0], []⟩ 8 (by kernel_rfl) (by kernel_rfl) (by kernel_rfl) (by kernel_rfl)) ?_
  intro W base args ds gs before hval0 hW hcnd hsz0 _
  have hsz : (DataW.weightsEach Tryz.prog (Tryz.f7.params.toList ++ Rows.fnWholeSpec.plain.varTypes Tryz.prog) (ds ++ gs)).all (· ≤ reachBytes) = true := hsz0
  have hval : ∀ (j : Nat) t v, Tryz.f7.params[j]? = some t → args[j]? = some v → Value.okWide Tryz.prog W .any base t v := hval0
  have hW' := hW
  obtain ⟨p, q, hA0, hV, rfl, hfz, hnd⟩ := hW
  have hA : DataW.TrodAll enc Tryz.prog W 0 (fun _ => true) true Tryz.f7.params.toList args.toList ds p := hA0
  rw [Tryz.params7] at hA hval hsz
  obtain ⟨v0, vs0, d0, ds0, p0, q0, hargs, rfl, rfl, h0, r0⟩ := trodAll_cons hA
  obtain ⟨rfl, rfl, rfl⟩ := trodAll_nil r0
  obtain rfl : args = #[v0] := by cases args; simp_all
  obtain ⟨rfl, rfl⟩ := trodVars_none hV
  obtain ⟨c0, n0, o0, rfl⟩ := okWide_slice Tryz.underlying22 (hval 0 _ v0 rfl rfl)
  have k0 := h0
  have lt0 : ∀ x ∈ p0, x.block < W.heap.size := by obtain ⟨m, hm⟩ := k0; exact DataW.trod_lt m _ _ _ hm
  obtain ⟨f0, g0⟩ := h0
  obtain ⟨A0, a0, N0, e0, hl0⟩ := op_bytes g0 (light_arg hsz (j := 0) rfl rfl)
  simp [Value.cells] at e0
  obtain ⟨rfl, rfl, rfl⟩ := e0
  clear hA0 hval0 hsz0 hsz
  refine (law_Whole c0 n0 o0 W hl0).mono fun e W' ⟨he, bel⟩ => ?_
  subst he
  exact ⟨_, rfl, _, _, _, [], _, [], hW', trodAll_mk1 (shut_bool Tryz.underlying4 _), (trodAll_cons_mk (Below.trod laidOut (by kernel_rfl) (of_decide_eq_true (by kernel_rfl)) k0 bel lt0) trodAll_mk0), rfl, bel.frame _, fun h => by cases h⟩
theorem over_Whole : Rows.fnWholeRow.holds Tryz.pinned (OpenSpec.ofChange Rows.fnWholeSpec) :=
  OpenClaim.holds_of_wide 7 Tryz.f7 rfl rfl rfl rfl rfl rfl rfl ⟨rfl, rfl, rfl, rfl, rfl⟩ rfl rfl rfl rfl rfl (by kernel_rfl) Tryz.func7 (by kernel_rfl)
    (of_decide_eq_true (by kernel_rfl)) (by unfold Func.isWrapper; first | (rw [if_pos (by decide +kernel)]; kernel_rfl) | (rw [if_neg (by decide +kernel)]; exact ⟨rfl, rfl⟩))
    (fun os started H enc _ => lifted_Whole os started H enc)
theorem fnWhole_holds : Rows.FnWholeSaid := over_Whole
#print axioms fnWhole_holds
end Go.Proofs.YtaihmgbflhbebaaGreat
