/- Moves of a network: both sides. -/
import Derived.Test.YtopoemnkeodkgaaGreatGrS
set_option linter.unusedVariables false
set_option linter.unusedSimpArgs false
namespace Go.Proofs.YtopoemnkeodkgaaGreat
open Go.RowKit Go.Proofs.YtopoemnkeodkgaaGreatW.PrintWords
open NoC

theorem enters_0 {n : Net} {a : Nat} (h : ¬ 0 < (rl n.srcs a).length) : enters n a = false := by simp only [enters, decide_eq_false h, Bool.false_and]
theorem enters_1 {n : Net} {a : Nat} {t : Int} (h : 0 < (rl n.srcs a).length) (ht : 10 * (a : Int) + 8 + (rf (rl n.srcs a) 0).cls = t) : enters n a = decide ((rl n.bufs t).length < 3) := by simp only [enters, decide_eq_true h, Bool.true_and, ht]
set_option maxHeartbeats 8000000 in
set_option maxRecDepth 100000 in
theorem impl_entering (n : Net) (q : NA) (bx : Nat) (w : World) (hr : NetR 115 w n q) (hx : Box w bx (netCells n q)) (ok : netOk n = true) :
    Calls Tryz.prog 126 #[.pointer (some ⟨bx, 0, none⟩)] w fun e w' => GotI w w' (enteringN n) e ∧ Below w.heap.size w w' := by
  have OK := Lib.hid ok
  have s16 := (srcs_len ok).1
  clear ok
  obtain ⟨a1, a2, a3, a4, a5, a6, a7, a8, c1, c2, c3, c4, c5, c6, c7, c8⟩ := q; obtain ⟨Rbr, Rpa, Rpb, Rbu, Row, Rtu, Rso, Rar, L1, L2, L3, L4, L5, L6, L7, L8, L9, L10, L11⟩ := hr; have M9 := Lib.hid L9; have M10 := Lib.hid L10; have M11 := Lib.hid L11; clear L9 L10 L11; dsimp only [netCells] at *
  have xl := hx.lt; have x0 : w.cell? ⟨bx, 0, none⟩ = some (.int .i64 n.mesh.g.w) := hx.get 0; have x1 : w.cell? ⟨bx, 1, none⟩ = some (.int .i64 n.mesh.g.h) := hx.get 1; have x2 : w.cell? ⟨bx, 2, none⟩ = some (.slice a1 n.mesh.br.length c1) := hx.get 2; have x3 : w.cell? ⟨bx, 3, none⟩ = some (.slice a2 n.pa.length c2) := hx.get 3; have x4 : w.cell? ⟨bx, 4, none⟩ = some (.slice a3 n.pb.length c3) := hx.get 4; have x5 : w.cell? ⟨bx, 5, none⟩ = some (.slice a4 n.bufs.length c4) := hx.get 5; have x6 : w.cell? ⟨bx, 6, none⟩ = some (.slice a5 n.owners.length c5) := hx.get 6; have x7 : w.cell? ⟨bx, 7, none⟩ = some (.slice a6 n.turns.length c6) := hx.get 7; have x8 : w.cell? ⟨bx, 8, none⟩ = some (.slice a7 n.srcs.length c7) := hx.get 8; have x9 : w.cell? ⟨bx, 9, none⟩ = some (.slice a8 n.arrs.length c8) := hx.get 9; have x10 : w.cell? ⟨bx, 10, none⟩ = some (.int .i64 n.time) := hx.get 10; clear hx
  go_enter Tryz.func126, Tryz.ntmps126
  go_wp2
  go_loopw [3, 12] (fun v i wr => ∃ k : Nat, i = .int .i64 k ∧ k ≤ n.srcs.length ∧ Kd.R (Kd.int .i64) 3 wr w.heap.size (fun _ => True) v (enterTo n k) ∧ Below w.heap.size w wr) (fun _ i _ => n.srcs.length - (intOf i).toNat)
  case atStart => exact ⟨0, rfl, Nat.zero_le _, R_empty (W0 := w) _ _ (bw_size (by with_reducible repeat (first | assumption | exact bw_refl _ | apply bw_alloc | apply bw_drew | apply bw_drewN | refine bw_set _ ?_ (by omega) | refine bw_then ?_ (by assumption)))), (by with_reducible repeat (first | assumption | exact bw_refl _ | apply bw_alloc | apply bw_drew | apply bw_drewN | refine bw_set _ ?_ (by omega) | refine bw_then ?_ (by assumption)))⟩
  case round =>
    obtain ⟨k, rfl, hk, HO, HB⟩ := hrel
    obtain ⟨Ao, co, rfl⟩ := Kd.R_slice HO
    have hlen := enterTo_len n k
    obtain ⟨hcr, hfr, hzr⟩ := bcell HB
    by_cases hlt : k < n.srcs.length
    · have i0 : (k : Int) < (n.srcs.length : Int) := by omega
      obtain ⟨b7, o7, rfl, hb7, Ai, ci, p0, hle, hCi⟩ := rdB_at Rso k hlt
      obtain ⟨hnd, h15, h60, hcl⟩ := src_buf OK.out k hlt
      clear hnd
      have yx : bx < wr.heap.size := by omega
      have y7 : b7 < wr.heap.size := by omega
      by_cases hl0 : 0 < (rl n.srcs k).length
      · obtain ⟨d0, d1, d2⟩ := hcl hl0
        obtain ⟨b1, o1, rfl, hb1, q0, q1, q2, q3, q4⟩ := rdFl_0 hCi hl0
        have hl1 : (0 : Int) < ((rl n.srcs k).length : Int) := by omega
        have HE := Lib.hid (fun t => enters_1 (n := n) (a := k) (t := t) hl0)
        obtain ⟨d, hd⟩ : ∃ d, (rf (rl n.srcs k) 0).cls = d := ⟨_, rfl⟩
        rw [hd] at HE d0 d1 d2 q2
        obtain ⟨t, ht⟩ : ∃ t, 10 * (k : Int) + 8 + d = t := ⟨_, rfl⟩
        have HV := Lib.hid (HE.out t ht)
        have t0 : 0 ≤ t := by omega
        have t1 : t < (n.bufs.length : Int) := by omega
        have HT : Hid (10 * (k : Int) + 2 * 4 + d = t) := Lib.hid (by omega)
        obtain ⟨b4, o4, rfl, hb4, Bi, di, r0, hlf, hDi⟩ := rdB_int Rbu t t0 t1
        have y1 : b1 < wr.heap.size := by omega
        have y4 : b4 < wr.heap.size := by omega
        clear hd ht hcl HE
        by_cases h3 : (rl n.bufs t).length < 3
        · have f3 : ((rl n.bufs t).length : Int) < 3 := by omega
          have HS := Lib.hid (enterTo_yes (n := n) (k := k) (by rw [HV.out]; exact decide_eq_true h3))
          go_wp2_with fail
          refine wp_region_far (wr) (by kernel_rfl) (by kernel_rfl) (by with_reducible repeat (first | assumption | exact bw_refl _ | apply bw_alloc | apply bw_drew | apply bw_drewN | refine bw_set _ ?_ (by omega) | refine bw_then ?_ (by assumption))) ?_
          have hqc := far_cell (wr)
          have hqf := far_frozen (wr)
          repeat (first | go_big_quiet_step ((go_at_call 128; exact far_same (Calls.says (impl_BufferAt k 4 d _ (by omega) (by omega) (by omega) (by omega) d0 d1) (congrArg (Value.int .i64) HT.out)))) | quiet_step ((go_at_call 128; exact far_same (Calls.says (impl_BufferAt k 4 d _ (by omega) (by omega) (by omega) (by omega) d0 d1) (congrArg (Value.int .i64) HT.out)))))
          refine wpQuiet_nil ?_
          intro wq hbq
          clear hqc hqf
          obtain ⟨hcq, hfq, hzq⟩ := bcell hbq
          try simp only [World.size_alloc, World.size_setCell, World.size_drew, sz_drewN] at hzq
          go_wp2_with (at_builtin; refine app_int (W0 := w) rfl (.tmp 36) (.tmp 38) 24 3 rfl Tryz.underlying24 info_int _ (enterTo n k) _ rfl (by first | rfl | exact congrArg (fun z => Value.slice (some ⟨z, 0, none⟩) 1 1) (World.size_alloc _ _).symm) (by exact Kd.R_below HO (by with_reducible repeat (first | assumption | exact bw_refl _ | apply bw_alloc | apply bw_drew | apply bw_drewN | refine bw_set _ ?_ (by omega) | refine bw_then ?_ (by assumption)))) (by with_reducible repeat (first | assumption | exact bw_refl _ | apply bw_alloc | apply bw_drew | apply bw_drewN | refine bw_set _ ?_ (by omega) | refine bw_then ?_ (by assumption))) (by omega) ?_; intro v1 w1 HO1 HB1; obtain ⟨hc1, hf1, hz1⟩ := bcell HB1; (try simp only [World.size_alloc, World.size_setCell, World.size_drew, sz_drewN] at hz1); have hb2 := HB1; have hb9 := HB1)
          go_roundw
          case rel => exact ⟨k + 1, by go_num, by omega, by rw [HS.out]; exact (by exact Kd.R_below HO1 (by with_reducible repeat (first | assumption | exact bw_refl _ | apply bw_alloc | apply bw_drew | apply bw_drewN | refine bw_set _ ?_ (by omega) | refine bw_then ?_ (by assumption)))), (by with_reducible repeat (first | assumption | exact bw_refl _ | apply bw_alloc | apply bw_drew | apply bw_drewN | refine bw_set _ ?_ (by omega) | refine bw_then ?_ (by assumption)))⟩
          case measure => simp [intOf]; omega
        · have f3 : ¬ ((rl n.bufs t).length : Int) < 3 := by omega
          have HS := Lib.hid (enterTo_no (n := n) (k := k) (by rw [HV.out]; exact decide_eq_false h3))
          go_wp2_with fail
          refine wp_region_far (wr) (by kernel_rfl) (by kernel_rfl) (by with_reducible repeat (first | assumption | exact bw_refl _ | apply bw_alloc | apply bw_drew | apply bw_drewN | refine bw_set _ ?_ (by omega) | refine bw_then ?_ (by assumption))) ?_
          have hqc := far_cell (wr)
          have hqf := far_frozen (wr)
          repeat (first | go_big_quiet_step ((go_at_call 128; exact far_same (Calls.says (impl_BufferAt k 4 d _ (by omega) (by omega) (by omega) (by omega) d0 d1) (congrArg (Value.int .i64) HT.out)))) | quiet_step ((go_at_call 128; exact far_same (Calls.says (impl_BufferAt k 4 d _ (by omega) (by omega) (by omega) (by omega) d0 d1) (congrArg (Value.int .i64) HT.out)))))
          refine wpQuiet_nil ?_
          intro wq hbq
          clear hqc hqf
          obtain ⟨hcq, hfq, hzq⟩ := bcell hbq
          try simp only [World.size_alloc, World.size_setCell, World.size_drew, sz_drewN] at hzq
          go_wp2
          go_roundw
          case rel => exact ⟨k + 1, by go_num, by omega, by rw [HS.out]; exact (by exact Kd.R_below HO (by with_reducible repeat (first | assumption | exact bw_refl _ | apply bw_alloc | apply bw_drew | apply bw_drewN | refine bw_set _ ?_ (by omega) | refine bw_then ?_ (by assumption)))), (by with_reducible repeat (first | assumption | exact bw_refl _ | apply bw_alloc | apply bw_drew | apply bw_drewN | refine bw_set _ ?_ (by omega) | refine bw_then ?_ (by assumption)))⟩
          case measure => simp [intOf]; omega
      · have hl1 : ¬ (0 : Int) < ((rl n.srcs k).length : Int) := by omega
        have HS := Lib.hid (enterTo_no (enters_0 hl0))
        go_wp2_with fail
        refine wp_region_far (wr) (by kernel_rfl) (by kernel_rfl) (by with_reducible repeat (first | assumption | exact bw_refl _ | apply bw_alloc | apply bw_drew | apply bw_drewN | refine bw_set _ ?_ (by omega) | refine bw_then ?_ (by assumption))) ?_
        have hqc := far_cell (wr)
        have hqf := far_frozen (wr)
        repeat (first | go_big_quiet_step (fail) | quiet_step (fail))
        refine wpQuiet_nil ?_
        intro wq hbq
        clear hqc hqf
        obtain ⟨hcq, hfq, hzq⟩ := bcell hbq
        try simp only [World.size_alloc, World.size_setCell, World.size_drew, sz_drewN] at hzq
        go_wp2
        go_roundw
        case rel => exact ⟨k + 1, by go_num, by omega, by rw [HS.out]; exact (by exact Kd.R_below HO (by with_reducible repeat (first | assumption | exact bw_refl _ | apply bw_alloc | apply bw_drew | apply bw_drewN | refine bw_set _ ?_ (by omega) | refine bw_then ?_ (by assumption)))), (by with_reducible repeat (first | assumption | exact bw_refl _ | apply bw_alloc | apply bw_drew | apply bw_drewN | refine bw_set _ ?_ (by omega) | refine bw_then ?_ (by assumption)))⟩
        case measure => simp [intOf]; omega
    · have i0 : ¬ (k : Int) < (n.srcs.length : Int) := by omega
      obtain rfl : k = n.srcs.length := by omega
      go_wp2
      go_ret
      exact ⟨⟨_, rfl, HO⟩, HB⟩
set_option maxHeartbeats 8000000 in
set_option maxRecDepth 100000 in
theorem spec_l19Entering (n : Net) (q : NA) (w : World) (hr : NetR 115 w n q) (ok : netOk n = true) :
    Calls Tryz.prog 73 #[.agg (netCells n q)] w fun e w' => GotI w w' (enteringN n) e ∧ Below w.heap.size w w' := by
  have OK := Lib.hid ok
  have s16 := (srcs_len ok).1
  clear ok
  obtain ⟨a1, a2, a3, a4, a5, a6, a7, a8, c1, c2, c3, c4, c5, c6, c7, c8⟩ := q; obtain ⟨Rbr, Rpa, Rpb, Rbu, Row, Rtu, Rso, Rar, L1, L2, L3, L4, L5, L6, L7, L8, L9, L10, L11⟩ := hr; have M9 := Lib.hid L9; have M10 := Lib.hid L10; have M11 := Lib.hid L11; clear L9 L10 L11; dsimp only [netCells] at *
  go_enter Tryz.func73, Tryz.ntmps73
  go_wp2
  go_loopw [3, 4] (fun v i wr => ∃ k : Nat, i = .int .i64 k ∧ k ≤ n.srcs.length ∧ Kd.R (Kd.int .i64) 3 wr (w.alloc (.cells #[.int .i64 n.mesh.g.w, .int .i64 n.mesh.g.h, .slice a1 n.mesh.br.length c1, .slice a2 n.pa.length c2, .slice a3 n.pb.length c3, .slice a4 n.bufs.length c4, .slice a5 n.owners.length c5, .slice a6 n.turns.length c6, .slice a7 n.srcs.length c7, .slice a8 n.arrs.length c8, .int .i64 n.time] 45)).heap.size (fun _ => True) v (enterTo n k) ∧ Below (w.alloc (.cells #[.int .i64 n.mesh.g.w, .int .i64 n.mesh.g.h, .slice a1 n.mesh.br.length c1, .slice a2 n.pa.length c2, .slice a3 n.pb.length c3, .slice a4 n.bufs.length c4, .slice a5 n.owners.length c5, .slice a6 n.turns.length c6, .slice a7 n.srcs.length c7, .slice a8 n.arrs.length c8, .int .i64 n.time] 45)).heap.size (w.alloc (.cells #[.int .i64 n.mesh.g.w, .int .i64 n.mesh.g.h, .slice a1 n.mesh.br.length c1, .slice a2 n.pa.length c2, .slice a3 n.pb.length c3, .slice a4 n.bufs.length c4, .slice a5 n.owners.length c5, .slice a6 n.turns.length c6, .slice a7 n.srcs.length c7, .slice a8 n.arrs.length c8, .int .i64 n.time] 45)) wr) (fun _ i _ => n.srcs.length - (intOf i).toNat)
  case atStart => exact ⟨0, rfl, Nat.zero_le _, R_empty' (Kd.int .i64) 3 (W0 := w.alloc (.cells #[.int .i64 n.mesh.g.w, .int .i64 n.mesh.g.h, .slice a1 n.mesh.br.length c1, .slice a2 n.pa.length c2, .slice a3 n.pb.length c3, .slice a4 n.bufs.length c4, .slice a5 n.owners.length c5, .slice a6 n.turns.length c6, .slice a7 n.srcs.length c7, .slice a8 n.arrs.length c8, .int .i64 n.time] 45)) (W := w.alloc (.cells #[.int .i64 n.mesh.g.w, .int .i64 n.mesh.g.h, .slice a1 n.mesh.br.length c1, .slice a2 n.pa.length c2, .slice a3 n.pb.length c3, .slice a4 n.bufs.length c4, .slice a5 n.owners.length c5, .slice a6 n.turns.length c6, .slice a7 n.srcs.length c7, .slice a8 n.arrs.length c8, .int .i64 n.time] 45)) (Nat.le_refl _) (w.heap.size + 1) (by simp only [World.size_alloc, World.size_setCell, World.size_drew, sz_drewN]), (by with_reducible repeat (first | assumption | exact bw_refl _ | apply bw_alloc | apply bw_drew | apply bw_drewN | refine bw_set _ ?_ (by omega) | refine bw_then ?_ (by assumption)))⟩
  case round =>
    obtain ⟨k, rfl, hk, HO, HB⟩ := hrel
    obtain ⟨Ao, co, rfl⟩ := Kd.R_slice HO
    have hlen := enterTo_len n k
    obtain ⟨hcr, hfr, hzr⟩ := bcell HB
    simp only [World.size_alloc, World.size_setCell, World.size_drew, sz_drewN] at hzr
    have yy1 := lts1 hzr
    by_cases hlt : k < n.srcs.length
    · have i0 : (k : Int) < (n.srcs.length : Int) := by omega
      have k0 : (0 : Int) ≤ (k : Int) := by omega
      obtain ⟨b7, o7, rfl, hb7, Ai, ci, p0, hle, hCi⟩ := rdB_at Rso k hlt
      obtain ⟨hnd, h15, h60, hcl⟩ := src_buf OK.out k hlt
      clear hnd
      have y7 : b7 < wr.heap.size := by omega
      have z7 : b7 < w.heap.size + 1 := by omega
      by_cases hl0 : 0 < (rl n.srcs k).length
      · obtain ⟨d0, d1, d2⟩ := hcl hl0
        obtain ⟨b1, o1, rfl, hb1, q0, q1, q2, q3, q4⟩ := rdFl_0 hCi hl0
        have hl1 : (0 : Int) < ((rl n.srcs k).length : Int) := by omega
        have HE := Lib.hid (fun t => enters_1 (n := n) (a := k) (t := t) hl0)
        obtain ⟨d, hd⟩ : ∃ d, (rf (rl n.srcs k) 0).cls = d := ⟨_, rfl⟩
        rw [hd] at HE d0 d1 d2 q2
        have HV := Lib.hid (HE.out _ rfl)
        have t0 : 0 ≤ 10 * (k : Int) + 8 + d := by omega
        obtain ⟨b4, o4, rfl, hb4, Bi, di, r0, hlf, hDi⟩ := rdB_int Rbu (10 * (k : Int) + 8 + d) t0 d2
        have y1 : b1 < wr.heap.size := by omega
        have y4 : b4 < wr.heap.size := by omega
        have z1 : b1 < w.heap.size + 1 := by omega
        have z4 : b4 < w.heap.size + 1 := by omega
        have x5 : wr.cell? ⟨w.heap.size, 5, none⟩ = some (.slice (some ⟨b4, o4, none⟩) n.bufs.length c4) := (hcr _ 5 (by simp only [World.size_alloc, World.size_setCell, World.size_drew, sz_drewN]; omega)).trans ((Box.new w _ #[.int .i64 n.mesh.g.w, .int .i64 n.mesh.g.h, .slice a1 n.mesh.br.length c1, .slice a2 n.pa.length c2, .slice a3 n.pb.length c3, .slice (some ⟨b4, o4, none⟩) n.bufs.length c4, .slice a5 n.owners.length c5, .slice a6 n.turns.length c6, .slice (some ⟨b7, o7, none⟩) n.srcs.length c7, .slice a8 n.arrs.length c8, .int .i64 n.time] 45 rfl).get 5)
        have x8 : wr.cell? ⟨w.heap.size, 8, none⟩ = some (.slice (some ⟨b7, o7, none⟩) n.srcs.length c7) := (hcr _ 8 (by simp only [World.size_alloc, World.size_setCell, World.size_drew, sz_drewN]; omega)).trans ((Box.new w _ #[.int .i64 n.mesh.g.w, .int .i64 n.mesh.g.h, .slice a1 n.mesh.br.length c1, .slice a2 n.pa.length c2, .slice a3 n.pb.length c3, .slice (some ⟨b4, o4, none⟩) n.bufs.length c4, .slice a5 n.owners.length c5, .slice a6 n.turns.length c6, .slice (some ⟨b7, o7, none⟩) n.srcs.length c7, .slice a8 n.arrs.length c8, .int .i64 n.time] 45 rfl).get 8)
        clear hd hcl HE
        by_cases h3 : (rl n.bufs (10 * (k : Int) + 8 + d)).length < 3
        · have f3 : ((rl n.bufs (10 * (k : Int) + 8 + d)).length : Int) < 3 := by omega
          have HS := Lib.hid (enterTo_yes (n := n) (k := k) (by rw [HV.out]; exact decide_eq_true h3))
          go_wp2_with fail
          refine wp_region_far (wr) (by kernel_rfl) (by kernel_rfl) (by with_reducible repeat (first | assumption | exact bw_refl _ | apply bw_alloc | apply bw_drew | apply bw_drewN | refine bw_set _ ?_ (by omega) | refine bw_then ?_ (by assumption))) ?_
          have hqc := far_cell (wr)
          have hqf := far_frozen (wr)
          repeat (first | go_big_quiet_step (fail) | quiet_step (fail))
          refine wpQuiet_nil ?_
          intro wq hbq
          clear hqc hqf
          obtain ⟨hcq, hfq, hzq⟩ := bcell hbq
          try simp only [World.size_alloc, World.size_setCell, World.size_drew, sz_drewN] at hzq
          go_wp2_with (at_builtin; refine app_int (W0 := w.alloc (.cells #[.int .i64 n.mesh.g.w, .int .i64 n.mesh.g.h, .slice a1 n.mesh.br.length c1, .slice a2 n.pa.length c2, .slice a3 n.pb.length c3, .slice (some ⟨b4, o4, none⟩) n.bufs.length c4, .slice a5 n.owners.length c5, .slice a6 n.turns.length c6, .slice (some ⟨b7, o7, none⟩) n.srcs.length c7, .slice a8 n.arrs.length c8, .int .i64 n.time] 45)) rfl (.tmp 40) (.tmp 42) 24 3 rfl Tryz.underlying24 info_int _ (enterTo n k) _ rfl (by first | rfl | exact congrArg (fun z => Value.slice (some ⟨z, 0, none⟩) 1 1) (World.size_alloc _ _).symm) (by exact Kd.R_below HO (by with_reducible repeat (first | assumption | exact bw_refl _ | apply bw_alloc | apply bw_drew | apply bw_drewN | refine bw_set _ ?_ (by omega) | refine bw_then ?_ (by assumption)))) (by with_reducible repeat (first | assumption | exact bw_refl _ | apply bw_alloc | apply bw_drew | apply bw_drewN | refine bw_set _ ?_ (by omega) | refine bw_then ?_ (by assumption))) (by omega) ?_; intro v1 w1 HO1 HB1; obtain ⟨hc1, hf1, hz1⟩ := bcell HB1; (try simp only [World.size_alloc, World.size_setCell, World.size_drew, sz_drewN] at hz1); have hb2 := HB1; have hb9 := HB1)
          go_roundw
          case rel => exact ⟨k + 1, by go_num, by omega, by rw [HS.out]; exact (by exact Kd.R_below HO1 (by with_reducible repeat (first | assumption | exact bw_refl _ | apply bw_alloc | apply bw_drew | apply bw_drewN | refine bw_set _ ?_ (by omega) | refine bw_then ?_ (by assumption)))), (by with_reducible repeat (first | assumption | exact bw_refl _ | apply bw_alloc | apply bw_drew | apply bw_drewN | refine bw_set _ ?_ (by omega) | refine bw_then ?_ (by assumption)))⟩
          case measure => simp [intOf]; omega
        · have f3 : ¬ ((rl n.bufs (10 * (k : Int) + 8 + d)).length : Int) < 3 := by omega
          have HS := Lib.hid (enterTo_no (n := n) (k := k) (by rw [HV.out]; exact decide_eq_false h3))
          go_wp2_with fail
          refine wp_region_far (wr) (by kernel_rfl) (by kernel_rfl) (by with_reducible repeat (first | assumption | exact bw_refl _ | apply bw_alloc | apply bw_drew | apply bw_drewN | refine bw_set _ ?_ (by omega) | refine bw_then ?_ (by assumption))) ?_
          have hqc := far_cell (wr)
          have hqf := far_frozen (wr)
          repeat (first | go_big_quiet_step (fail) | quiet_step (fail))
          refine wpQuiet_nil ?_
          intro wq hbq
          clear hqc hqf
          obtain ⟨hcq, hfq, hzq⟩ := bcell hbq
          try simp only [World.size_alloc, World.size_setCell, World.size_drew, sz_drewN] at hzq
          go_wp2
          go_roundw
          case rel => exact ⟨k + 1, by go_num, by omega, by rw [HS.out]; exact (by exact Kd.R_below HO (by with_reducible repeat (first | assumption | exact bw_refl _ | apply bw_alloc | apply bw_drew | apply bw_drewN | refine bw_set _ ?_ (by omega) | refine bw_then ?_ (by assumption)))), (by with_reducible repeat (first | assumption | exact bw_refl _ | apply bw_alloc | apply bw_drew | apply bw_drewN | refine bw_set _ ?_ (by omega) | refine bw_then ?_ (by assumption)))⟩
          case measure => simp [intOf]; omega
      · have hl1 : ¬ (0 : Int) < ((rl n.srcs k).length : Int) := by omega
        have x8 : wr.cell? ⟨w.heap.size, 8, none⟩ = some (.slice (some ⟨b7, o7, none⟩) n.srcs.length c7) := (hcr _ 8 (by simp only [World.size_alloc, World.size_setCell, World.size_drew, sz_drewN]; omega)).trans ((Box.new w _ #[.int .i64 n.mesh.g.w, .int .i64 n.mesh.g.h, .slice a1 n.mesh.br.length c1, .slice a2 n.pa.length c2, .slice a3 n.pb.length c3, .slice a4 n.bufs.length c4, .slice a5 n.owners.length c5, .slice a6 n.turns.length c6, .slice (some ⟨b7, o7, none⟩) n.srcs.length c7, .slice a8 n.arrs.length c8, .int .i64 n.time] 45 rfl).get 8)
        have HS := Lib.hid (enterTo_no (enters_0 hl0))
        go_wp2_with fail
        refine wp_region_far (wr) (by kernel_rfl) (by kernel_rfl) (by with_reducible repeat (first | assumption | exact bw_refl _ | apply bw_alloc | apply bw_drew | apply bw_drewN | refine bw_set _ ?_ (by omega) | refine bw_then ?_ (by assumption))) ?_
        have hqc := far_cell (wr)
        have hqf := far_frozen (wr)
        repeat (first | go_big_quiet_step (fail) | quiet_step (fail))
        refine wpQuiet_nil ?_
        intro wq hbq
        clear hqc hqf
        obtain ⟨hcq, hfq, hzq⟩ := bcell hbq
        try simp only [World.size_alloc, World.size_setCell, World.size_drew, sz_drewN] at hzq
        go_wp2
        go_roundw
        case rel => exact ⟨k + 1, by go_num, by omega, by rw [HS.out]; exact (by exact Kd.R_below HO (by with_reducible repeat (first | assumption | exact bw_refl _ | apply bw_alloc | apply bw_drew | apply bw_drewN | refine bw_set _ ?_ (by omega) | refine bw_then ?_ (by assumption)))), (by with_reducible repeat (first | assumption | exact bw_refl _ | apply bw_alloc | apply bw_drew | apply bw_drewN | refine bw_set _ ?_ (by omega) | refine bw_then ?_ (by assumption)))⟩
        case measure => simp [intOf]; omega
    · have i0 : ¬ (k : Int) < (n.srcs.length : Int) := by omega
      obtain rfl : k = n.srcs.length := by omega
      go_wp2
      go_ret
      exact ⟨⟨_, rfl, Kd.R_lower (by exact Kd.R_below HO (by with_reducible repeat (first | assumption | exact bw_refl _ | apply bw_alloc | apply bw_drew | apply bw_drewN | refine bw_set _ ?_ (by omega) | refine bw_then ?_ (by assumption)))) (by simp only [World.size_alloc, World.size_setCell, World.size_drew, sz_drewN]; omega)⟩, (by with_reducible repeat (first | assumption | exact bw_refl _ | apply bw_alloc | apply bw_drew | apply bw_drewN | refine bw_set _ ?_ (by omega) | refine bw_then ?_ (by assumption)))⟩
theorem moves_wrap {n : Net} (ok : netOk n = true) : IntKind.i64.wrap (((allGrants n).length : Int) + ((enteringN n).length : Int)) = ((allGrants n).length : Int) + ((enteringN n).length : Int) ∧ wrap64 (((allGrants n).length : Int) + ((enteringN n).length : Int)) = ((allGrants n).length : Int) + ((enteringN n).length : Int) := by
  have h1 := allTo_len n (nodeCount n.mesh.g).toNat
  have h2 := count_le n.mesh.g
  have g1 : (allGrants n).length ≤ 80 := by unfold allGrants; omega
  have g2 : (enteringN n).length ≤ 16 := Nat.le_trans (enterTo_len n n.srcs.length) (srcs_len ok).1
  exact ⟨IntWalk.i64_in _ (by omega), by unfold wrap64; omega⟩
theorem allGrants_len (n : Net) : (allGrants n).length ≤ 80 := by
  have h1 := allTo_len n (nodeCount n.mesh.g).toNat
  have h2 := count_le n.mesh.g
  unfold allGrants
  omega
set_option maxHeartbeats 2000000 in
theorem impl_moves (n : Net) (q : NA) (bx : Nat) (w : World) (hr : NetR 115 w n q) (hx : Box w bx (netCells n q)) (ok : netOk n = true) :
    Calls Tryz.prog 125 #[.pointer (some ⟨bx, 0, none⟩)] w fun e w' => e = .returned (.int .i64 (((allGrants n).length : Int) + ((enteringN n).length : Int))) ∧ Below w.heap.size w w' := by
  have R := Lib.hid hr
  have X := Lib.hid hx
  have OK := Lib.hid ok
  have HW := Lib.hid (moves_wrap ok)
  clear hr hx ok
  go_enter Tryz.func125, Tryz.ntmps125
  go_wp2_with (first | (go_at_call 67; refine (impl_allGrants n q bx _ (R.out.below (by with_reducible repeat (first | assumption | exact bw_refl _ | apply bw_alloc | apply bw_drew | apply bw_drewN | refine bw_set _ ?_ (by omega) | refine bw_then ?_ (by assumption)))) (X.out.below (by with_reducible repeat (first | assumption | exact bw_refl _ | apply bw_alloc | apply bw_drew | apply bw_drewN | refine bw_set _ ?_ (by omega) | refine bw_then ?_ (by assumption)))) OK.out).mono ?_; rintro e w1 ⟨hg1, hb1⟩; obtain ⟨A1, d1, rfl, hk1, hC1⟩ := hg1.read; obtain ⟨hc1, hf1, hz1⟩ := bcell hb1; (try simp only [World.size_alloc, World.size_setCell, World.size_drew, sz_drewN] at hz1); have hb2 := (by first | exact bw_then hb2 hb1 | exact bw_then (bw_drewN _ hb2) hb1 | exact bw_then (bw_alloc _ hb2) hb1 | exact bw_then (bw_drew hb2) hb1 | exact bw_then HB hb1 | exact bw_then (bw_drewN _ HB) hb1 | exact bw_then (bw_alloc _ HB) hb1 | exact bw_then (bw_drew HB) hb1 | exact hb1); obtain ⟨hc2, hf2, hz2⟩ := bcell hb2; (try simp only [World.size_alloc, World.size_setCell, World.size_drew, sz_drewN] at hz2); try (first | obtain ⟨hy1, hy2, hy3, hy4⟩ := lts4 hz2 | obtain ⟨hy1, hy2, hy3⟩ := lts3 hz2 | obtain ⟨hy1, hy2⟩ := lts2 hz2 | have hy1 := lts1 hz2); have hb9 := hb1) | (go_at_call 126; refine (impl_entering n q bx _ (R.out.below (by with_reducible repeat (first | assumption | exact bw_refl _ | apply bw_alloc | apply bw_drew | apply bw_drewN | refine bw_set _ ?_ (by omega) | refine bw_then ?_ (by assumption)))) (X.out.below (by with_reducible repeat (first | assumption | exact bw_refl _ | apply bw_alloc | apply bw_drew | apply bw_drewN | refine bw_set _ ?_ (by omega) | refine bw_then ?_ (by assumption)))) OK.out).mono ?_; rintro e w1 ⟨hg1, hb1⟩; obtain ⟨A1, c1, rfl, hk1, hr1⟩ := hg1.read; obtain ⟨hc1, hf1, hz1⟩ := bcell hb1; (try simp only [World.size_alloc, World.size_setCell, World.size_drew, sz_drewN] at hz1); have hb2 := (by first | exact bw_then hb2 hb1 | exact bw_then (bw_drewN _ hb2) hb1 | exact bw_then (bw_alloc _ hb2) hb1 | exact bw_then (bw_drew hb2) hb1 | exact bw_then HB hb1 | exact bw_then (bw_drewN _ HB) hb1 | exact bw_then (bw_alloc _ HB) hb1 | exact bw_then (bw_drew HB) hb1 | exact hb1); obtain ⟨hc2, hf2, hz2⟩ := bcell hb2; (try simp only [World.size_alloc, World.size_setCell, World.size_drew, sz_drewN] at hz2); try (first | obtain ⟨hy1, hy2, hy3, hy4⟩ := lts4 hz2 | obtain ⟨hy1, hy2, hy3⟩ := lts3 hz2 | obtain ⟨hy1, hy2⟩ := lts2 hz2 | have hy1 := lts1 hz2); have hb9 := hb1))
  go_ret
  exact ⟨ret_int (by first | rfl | exact HW.out.1 | exact HW.out.2), (by with_reducible repeat (first | assumption | exact bw_refl _ | apply bw_alloc | apply bw_drew | apply bw_drewN | refine bw_set _ ?_ (by omega) | refine bw_then ?_ (by assumption)))⟩
end Go.Proofs.YtopoemnkeodkgaaGreat
