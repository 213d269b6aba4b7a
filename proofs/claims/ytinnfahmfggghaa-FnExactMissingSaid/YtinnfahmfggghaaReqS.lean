/- Requests: the reference's side; for all networks. -/
import Derived.Test.YtinnfahmfggghaaReqI
import Derived.Test.YtinnfahmfggghaaNetOkS
set_option linter.unusedVariables false
set_option linter.unusedSimpArgs false
namespace Go.Proofs.Ytinnfahmfggghaa
open Go.RowKit Go.Proofs.YtinnfahmfggghaaW.PrintWords
open NoC

theorem tab_place {n : Net} {a i : Int} (h : At n a i) (h0 : 0 < (bufOf n a i).length) (c : Int) :
    0 ≤ a * nodeCount n.mesh.g ∧ a * nodeCount n.mesh.g ≤ 240 ∧ 0 ≤ a * nodeCount n.mesh.g + (rf (bufOf n a i) 0).dst ∧ a * nodeCount n.mesh.g + (rf (bufOf n a i) 0).dst < ((tabOf n.pa n.pb c).length : Int) ∧ 0 ≤ (rf (bufOf n a i) 0).dst ∧ (rf (bufOf n a i) 0).dst ≤ 15 := by
  have h1 := (h.buf0 h0).1
  have h2 := (entry_in (ok_tab h.ok c) h.nd h1).1
  rw [sized_iff] at h2
  obtain ⟨p1, p2, p3, p4⟩ := entry_place h.nd h1
  have h3 := isNode_iff.1 h1
  have := count_le n.mesh.g
  omega
set_option maxHeartbeats 8000000 in
set_option maxRecDepth 100000 in
theorem spec_l17Wanted (n : Net) (q : NA) (a i : Int) (w : World) (hr : NetR 142 w n q) (ha : At n a i) :
    Calls Try.prog 97 #[.agg (netCells n q), .int .i64 a, .int .i64 i] w fun e w' => e = .returned (.int .i64 (wantedN n a i)) ∧ Below w.heap.size w w' := by
  obtain ⟨a1, a2, a3, a4, a5, a6, a7, a8, c1, c2, c3, c4, c5, c6, c7, c8⟩ := q; obtain ⟨Rbr, Rpa, Rpb, Rbu, Row, Rtu, Rso, Rar, L1, L2, L3, L4, L5, L6, L7, L8, L9, L10, L11⟩ := hr; have M9 := Lib.hid L9; have M10 := Lib.hid L10; have M11 := Lib.hid L11; clear L9 L10 L11; dsimp only [netCells] at *
  have HA := Lib.hid ha
  obtain ⟨a0, a15, j0, j1, j2, j3, j4, j5⟩ := ha.idx
  have i0 := ha.i0
  have i9 := ha.i9
  obtain ⟨n0, n1⟩ := count_le n.mesh.g
  clear ha
  by_cases hl : (bufOf n a i).length = 0
  · have HW := Lib.hid (wanted_1 hl)
    unfold bufOf at hl
    obtain ⟨b, off, rfl, hb, Ai, ci, p0, hle, hCi⟩ := rdB_int Rbu (10 * a + i) j0 j1
    obtain ⟨l, el⟩ : ∃ l, rl n.bufs (10 * a + i) = l := ⟨_, rfl⟩
    rw [el] at hl p0 hle hCi
    have hl' : ((l.length : Int) == 0) = true := by simp [hl]
    have HL := Lib.hid hl
    clear hl el
    go_enter Try.func97, Try.ntmps97
    go_wp2
    go_ret
    exact ⟨ret_int HW.out.symm, (by with_reducible repeat (first | assumption | exact bw_refl _ | apply bw_alloc | apply bw_drew | apply bw_drewN | refine bw_set _ ?_ (by omega) | refine bw_then ?_ (by assumption)))⟩
  have hl0 : 0 < (bufOf n a i).length := by omega
  have HT := Lib.hid (tab_place HA.out hl0)
  clear hl
  cases hh : (rf (bufOf n a i) 0).head
  · have HW := Lib.hid (wanted_3 hl0 hh)
    unfold bufOf at hl0 hh
    obtain ⟨b, off, rfl, hb, Ai, ci, p0, hle, hCi⟩ := rdB_int Rbu (10 * a + i) j0 j1
    obtain ⟨b1, o1, rfl, hb1, q0, q1, q2, q3, q4⟩ := rdFl_0 hCi hl0
    obtain ⟨l, el⟩ : ∃ l, rl n.bufs (10 * a + i) = l := ⟨_, rfl⟩
    rw [el] at hl0 hh p0 hle q0 q1 q2 q3 q4
    have hl' : ((l.length : Int) == 0) = false := by simp; intro h; simp [h] at hl0
    have hl1 : (0 : Int) < (l.length : Int) := by omega
    rw [hh] at q3
    clear hCi el hh
    go_enter Try.func97, Try.ntmps97
    go_wp2
    go_loopw [10] (fun j wr => ∃ k : Nat, j = .int .i64 k ∧ k ≤ 5 ∧ Hid (∀ j : Nat, j < k → ¬ ownAt n a j (i % 2) = i / 2) ∧ Below (w.alloc (.cells #[.int .i64 n.mesh.g.w, .int .i64 n.mesh.g.h, .slice a1 n.mesh.br.length c1, .slice a2 n.pa.length c2, .slice a3 n.pb.length c3, .slice (some ⟨b, off, none⟩) n.bufs.length c4, .slice a5 n.owners.length c5, .slice a6 n.turns.length c6, .slice a7 n.srcs.length c7, .slice a8 n.arrs.length c8, .int .i64 n.time] 33)).heap.size (w.alloc (.cells #[.int .i64 n.mesh.g.w, .int .i64 n.mesh.g.h, .slice a1 n.mesh.br.length c1, .slice a2 n.pa.length c2, .slice a3 n.pb.length c3, .slice (some ⟨b, off, none⟩) n.bufs.length c4, .slice a5 n.owners.length c5, .slice a6 n.turns.length c6, .slice a7 n.srcs.length c7, .slice a8 n.arrs.length c8, .int .i64 n.time] 33)) wr) (fun j _ => 5 - (intOf j).toNat)
    case atStart => exact ⟨0, rfl, Nat.zero_le _, Lib.hid fun j h => absurd h (Nat.not_lt_zero _), (by with_reducible repeat (first | assumption | exact bw_refl _ | apply bw_alloc | apply bw_drew | apply bw_drewN | refine bw_set _ ?_ (by omega) | refine bw_then ?_ (by assumption)))⟩
    case round =>
      obtain ⟨k, rfl, hk, HK, HB⟩ := hrel
      obtain ⟨hcr, hfr, hzr⟩ := bcell HB
      simp only [World.size_alloc, World.size_setCell, World.size_drew, sz_drewN] at hzr
      have yy1 := lts1 hzr
      by_cases hlt : k < 5
      · have k0 : (k : Int) ≤ 4 := by omega
        have m0 : 0 ≤ 10 * a + 2 * (k : Int) + i % 2 := by omega
        have m1 : 10 * a + 2 * (k : Int) + i % 2 < (n.owners.length : Int) := by omega
        obtain ⟨b5, o5, rfl, hb5, r0⟩ := rdI_int Row (10 * a + 2 * (k : Int) + i % 2) m0 m1
        obtain ⟨z1, z2, z3, z4, z5, z6⟩ := more hb5
        obtain ⟨o, ho⟩ : ∃ o, ri n.owners (10 * a + 2 * (k : Int) + i % 2) = o := ⟨_, rfl⟩
        rw [ho] at r0
        have HO := Lib.hid (show ownAt n a k (i % 2) = o from ho)
        clear ho
        by_cases e1 : o = i / 2
        · have f1 : (o == i / 2) = true := beq_iff_eq.2 e1
          have E1 := Lib.hid (ownPort_yes (n := n) (a := a) (i := i) k hlt (HO.out.trans e1) HK.out)
          clear e1
          go_wp2
          go_ret
          exact ⟨ret_int (by rw [HW.out, E1.out]), (by with_reducible repeat (first | assumption | exact bw_refl _ | apply bw_alloc | apply bw_drew | apply bw_drewN | refine bw_set _ ?_ (by omega) | refine bw_then ?_ (by assumption)))⟩
        · have f1 : (o == i / 2) = false := beq_eq_false_iff_ne.2 e1
          have E1 : Hid (¬ ownAt n a k (i % 2) = i / 2) := Lib.hid (fun h => e1 (HO.out.symm.trans h))
          clear e1
          go_wp2
          go_roundw
          case rel => exact ⟨k + 1, by go_num, by omega, Lib.hid (upto HK.out E1.out), (by with_reducible repeat (first | assumption | exact bw_refl _ | apply bw_alloc | apply bw_drew | apply bw_drewN | refine bw_set _ ?_ (by omega) | refine bw_then ?_ (by assumption)))⟩
          case measure => simp [intOf]; omega
      · have k0 : ¬ (k : Int) ≤ 4 := by omega
        go_wp2
        go_ret
        exact ⟨ret_int (by rw [HW.out, ownPort_no (fun j hj => HK.out j (by omega))]), (by with_reducible repeat (first | assumption | exact bw_refl _ | apply bw_alloc | apply bw_drew | apply bw_drewN | refine bw_set _ ?_ (by omega) | refine bw_then ?_ (by assumption)))⟩
  · have HW := Lib.hid (wanted_2 hl0 hh)
    unfold bufOf at hl0 hh
    obtain ⟨b, off, rfl, hb, Ai, ci, p0, hle, hCi⟩ := rdB_int Rbu (10 * a + i) j0 j1
    obtain ⟨b1, o1, rfl, hb1, q0, q1, q2, q3, q4⟩ := rdFl_0 hCi hl0
    obtain ⟨l, el⟩ : ∃ l, rl n.bufs (10 * a + i) = l := ⟨_, rfl⟩
    unfold bufOf at HW HT
    rw [el] at hl0 hh p0 hle q0 q1 q2 q3 q4 HW HT
    have hl' : ((l.length : Int) == 0) = false := by simp; intro h; simp [h] at hl0
    have hl1 : (0 : Int) < (l.length : Int) := by omega
    rw [hh] at q3
    clear hCi el hh
    obtain ⟨d, ed⟩ : ∃ d, (rf l 0).dst = d := ⟨_, rfl⟩
    rw [ed] at q1 HW HT
    clear ed
    obtain ⟨z1, z2, z3, z4, z5, z6⟩ := more hb1
    by_cases hc : i % 2 = 1
    · have hc1 : (i % 2 == 1) = true := beq_iff_eq.2 hc
      obtain ⟨t0, t1, t2, t3, t4, t5⟩ := HT.out 1
      have HV : Hid (wantedN n a i = ri n.pb (a * nodeCount n.mesh.g + d)) := Lib.hid (by rw [HW.out, hc]; rfl)
      rw [show tabOf n.pa n.pb 1 = n.pb from rfl] at t3
      obtain ⟨b5, o5, rfl, hb5, r0⟩ := rdI_int Rpb (a * nodeCount n.mesh.g + d) t2 t3
      obtain ⟨z7, z8, z9, z10, z11, z12⟩ := more hb5
      have x4 : (w.alloc (.cells #[.int .i64 n.mesh.g.w, .int .i64 n.mesh.g.h, .slice a1 n.mesh.br.length c1, .slice a2 n.pa.length c2, .slice (some ⟨b5, o5, none⟩) n.pb.length c3, .slice (some ⟨b, off, none⟩) n.bufs.length c4, .slice a5 n.owners.length c5, .slice a6 n.turns.length c6, .slice a7 n.srcs.length c7, .slice a8 n.arrs.length c8, .int .i64 n.time] 33)).cell? ⟨w.heap.size, 4, none⟩ = some (.slice (some ⟨b5, o5, none⟩) n.pb.length c3) := (Box.new w _ #[.int .i64 n.mesh.g.w, .int .i64 n.mesh.g.h, .slice a1 n.mesh.br.length c1, .slice a2 n.pa.length c2, .slice (some ⟨b5, o5, none⟩) n.pb.length c3, .slice (some ⟨b, off, none⟩) n.bufs.length c4, .slice a5 n.owners.length c5, .slice a6 n.turns.length c6, .slice a7 n.srcs.length c7, .slice a8 n.arrs.length c8, .int .i64 n.time] 33 rfl).get 4
      clear hc
      go_enter Try.func97, Try.ntmps97
      go_wp2_with (go_at_call 71; refine (spec_NodeCount n.mesh.g _).mono ?_; rintro e w1 ⟨rfl, hb1⟩; obtain ⟨hc1, hf1, hz1⟩ := bcell hb1; (try simp only [World.size_alloc, World.size_setCell, World.size_drew, sz_drewN] at hz1); have hb2 := (by first | exact bw_then hb2 hb1 | exact bw_then (bw_drewN _ hb2) hb1 | exact bw_then (bw_alloc _ hb2) hb1 | exact bw_then (bw_drew hb2) hb1 | exact bw_then HB hb1 | exact bw_then (bw_drewN _ HB) hb1 | exact bw_then (bw_alloc _ HB) hb1 | exact bw_then (bw_drew HB) hb1 | exact hb1); obtain ⟨hc2, hf2, hz2⟩ := bcell hb2; (try simp only [World.size_alloc, World.size_setCell, World.size_drew, sz_drewN] at hz2); try (first | obtain ⟨hy1, hy2, hy3, hy4⟩ := lts4 hz2 | obtain ⟨hy1, hy2, hy3⟩ := lts3 hz2 | obtain ⟨hy1, hy2⟩ := lts2 hz2 | have hy1 := lts1 hz2); have hb9 := hb1)
      refine wp_region_far ((w.alloc (.cells #[.int .i64 n.mesh.g.w, .int .i64 n.mesh.g.h, .slice a1 n.mesh.br.length c1, .slice a2 n.pa.length c2, .slice (some ⟨b5, o5, none⟩) n.pb.length c3, .slice (some ⟨b, off, none⟩) n.bufs.length c4, .slice a5 n.owners.length c5, .slice a6 n.turns.length c6, .slice a7 n.srcs.length c7, .slice a8 n.arrs.length c8, .int .i64 n.time] 33))) (by kernel_rfl) (by kernel_rfl) (by with_reducible repeat (first | assumption | exact bw_refl _ | apply bw_alloc | apply bw_drew | apply bw_drewN | refine bw_set _ ?_ (by omega) | refine bw_then ?_ (by assumption))) ?_
      have hqc := far_cell ((w.alloc (.cells #[.int .i64 n.mesh.g.w, .int .i64 n.mesh.g.h, .slice a1 n.mesh.br.length c1, .slice a2 n.pa.length c2, .slice (some ⟨b5, o5, none⟩) n.pb.length c3, .slice (some ⟨b, off, none⟩) n.bufs.length c4, .slice a5 n.owners.length c5, .slice a6 n.turns.length c6, .slice a7 n.srcs.length c7, .slice a8 n.arrs.length c8, .int .i64 n.time] 33)))
      have hqf := far_frozen ((w.alloc (.cells #[.int .i64 n.mesh.g.w, .int .i64 n.mesh.g.h, .slice a1 n.mesh.br.length c1, .slice a2 n.pa.length c2, .slice (some ⟨b5, o5, none⟩) n.pb.length c3, .slice (some ⟨b, off, none⟩) n.bufs.length c4, .slice a5 n.owners.length c5, .slice a6 n.turns.length c6, .slice a7 n.srcs.length c7, .slice a8 n.arrs.length c8, .int .i64 n.time] 33)))
      repeat (first | go_big_quiet_step (fail) | quiet_step (fail))
      refine wpQuiet_nil ?_
      intro wq hbq
      clear hqc hqf
      obtain ⟨hcq, hfq, hzq⟩ := bcell hbq
      try simp only [World.size_alloc, World.size_setCell, World.size_drew, sz_drewN] at hzq
      go_wp2
      go_ret
      exact ⟨ret_int HV.out.symm, (by with_reducible repeat (first | assumption | exact bw_refl _ | apply bw_alloc | apply bw_drew | apply bw_drewN | refine bw_set _ ?_ (by omega) | refine bw_then ?_ (by assumption)))⟩
    · have hc1 : (i % 2 == 1) = false := beq_eq_false_iff_ne.2 hc
      obtain ⟨t0, t1, t2, t3, t4, t5⟩ := HT.out 0
      have HV : Hid (wantedN n a i = ri n.pa (a * nodeCount n.mesh.g + d)) := Lib.hid (by rw [HW.out, show tabOf n.pa n.pb (i % 2) = n.pa from if_neg hc]; rfl)
      rw [show tabOf n.pa n.pb 0 = n.pa from rfl] at t3
      obtain ⟨b5, o5, rfl, hb5, r0⟩ := rdI_int Rpa (a * nodeCount n.mesh.g + d) t2 t3
      obtain ⟨z7, z8, z9, z10, z11, z12⟩ := more hb5
      have x3 : (w.alloc (.cells #[.int .i64 n.mesh.g.w, .int .i64 n.mesh.g.h, .slice a1 n.mesh.br.length c1, .slice (some ⟨b5, o5, none⟩) n.pa.length c2, .slice a3 n.pb.length c3, .slice (some ⟨b, off, none⟩) n.bufs.length c4, .slice a5 n.owners.length c5, .slice a6 n.turns.length c6, .slice a7 n.srcs.length c7, .slice a8 n.arrs.length c8, .int .i64 n.time] 33)).cell? ⟨w.heap.size, 3, none⟩ = some (.slice (some ⟨b5, o5, none⟩) n.pa.length c2) := (Box.new w _ #[.int .i64 n.mesh.g.w, .int .i64 n.mesh.g.h, .slice a1 n.mesh.br.length c1, .slice (some ⟨b5, o5, none⟩) n.pa.length c2, .slice a3 n.pb.length c3, .slice (some ⟨b, off, none⟩) n.bufs.length c4, .slice a5 n.owners.length c5, .slice a6 n.turns.length c6, .slice a7 n.srcs.length c7, .slice a8 n.arrs.length c8, .int .i64 n.time] 33 rfl).get 3
      clear hc
      go_enter Try.func97, Try.ntmps97
      go_wp2_with (go_at_call 71; refine (spec_NodeCount n.mesh.g _).mono ?_; rintro e w1 ⟨rfl, hb1⟩; obtain ⟨hc1, hf1, hz1⟩ := bcell hb1; (try simp only [World.size_alloc, World.size_setCell, World.size_drew, sz_drewN] at hz1); have hb2 := (by first | exact bw_then hb2 hb1 | exact bw_then (bw_drewN _ hb2) hb1 | exact bw_then (bw_alloc _ hb2) hb1 | exact bw_then (bw_drew hb2) hb1 | exact bw_then HB hb1 | exact bw_then (bw_drewN _ HB) hb1 | exact bw_then (bw_alloc _ HB) hb1 | exact bw_then (bw_drew HB) hb1 | exact hb1); obtain ⟨hc2, hf2, hz2⟩ := bcell hb2; (try simp only [World.size_alloc, World.size_setCell, World.size_drew, sz_drewN] at hz2); try (first | obtain ⟨hy1, hy2, hy3, hy4⟩ := lts4 hz2 | obtain ⟨hy1, hy2, hy3⟩ := lts3 hz2 | obtain ⟨hy1, hy2⟩ := lts2 hz2 | have hy1 := lts1 hz2); have hb9 := hb1)
      refine wp_region_far ((w.alloc (.cells #[.int .i64 n.mesh.g.w, .int .i64 n.mesh.g.h, .slice a1 n.mesh.br.length c1, .slice (some ⟨b5, o5, none⟩) n.pa.length c2, .slice a3 n.pb.length c3, .slice (some ⟨b, off, none⟩) n.bufs.length c4, .slice a5 n.owners.length c5, .slice a6 n.turns.length c6, .slice a7 n.srcs.length c7, .slice a8 n.arrs.length c8, .int .i64 n.time] 33))) (by kernel_rfl) (by kernel_rfl) (by with_reducible repeat (first | assumption | exact bw_refl _ | apply bw_alloc | apply bw_drew | apply bw_drewN | refine bw_set _ ?_ (by omega) | refine bw_then ?_ (by assumption))) ?_
      have hqc := far_cell ((w.alloc (.cells #[.int .i64 n.mesh.g.w, .int .i64 n.mesh.g.h, .slice a1 n.mesh.br.length c1, .slice (some ⟨b5, o5, none⟩) n.pa.length c2, .slice a3 n.pb.length c3, .slice (some ⟨b, off, none⟩) n.bufs.length c4, .slice a5 n.owners.length c5, .slice a6 n.turns.length c6, .slice a7 n.srcs.length c7, .slice a8 n.arrs.length c8, .int .i64 n.time] 33)))
      have hqf := far_frozen ((w.alloc (.cells #[.int .i64 n.mesh.g.w, .int .i64 n.mesh.g.h, .slice a1 n.mesh.br.length c1, .slice (some ⟨b5, o5, none⟩) n.pa.length c2, .slice a3 n.pb.length c3, .slice (some ⟨b, off, none⟩) n.bufs.length c4, .slice a5 n.owners.length c5, .slice a6 n.turns.length c6, .slice a7 n.srcs.length c7, .slice a8 n.arrs.length c8, .int .i64 n.time] 33)))
      repeat (first | go_big_quiet_step (fail) | quiet_step (fail))
      refine wpQuiet_nil ?_
      intro wq hbq
      clear hqc hqf
      obtain ⟨hcq, hfq, hzq⟩ := bcell hbq
      try simp only [World.size_alloc, World.size_setCell, World.size_drew, sz_drewN] at hzq
      go_wp2
      go_ret
      exact ⟨ret_int HV.out.symm, (by with_reducible repeat (first | assumption | exact bw_refl _ | apply bw_alloc | apply bw_drew | apply bw_drewN | refine bw_set _ ?_ (by omega) | refine bw_then ?_ (by assumption)))⟩
set_option maxHeartbeats 4000000 in
set_option maxRecDepth 100000 in
theorem spec_l17Room (n : Net) (q : NA) (a p c : Int) (w : World) (hr : NetR 142 w n q) (ok : netOk n = true) (nd : isNode n.mesh.g a = true) (p0 : 0 ≤ p) (p4 : p ≤ 4) (g0 : 0 ≤ c) (g1 : c ≤ 1) :
    Calls Try.prog 101 #[.agg (netCells n q), .int .i64 a, .int .i64 p, .int .i64 c] w fun e w' => e = .returned (.bool (roomN n a p c)) ∧ Below w.heap.size w w' := by
  obtain ⟨_, _, _, a15⟩ := node_bounds nd
  have a0 := (isNode_iff.1 nd).1
  have OK := Lib.hid ok
  have ND := Lib.hid nd
  clear nd ok
  obtain ⟨a1, a2, a3, a4, a5, a6, a7, a8, c1, c2, c3, c4, c5, c6, c7, c8⟩ := q; obtain ⟨Rbr, Rpa, Rpb, Rbu, Row, Rtu, Rso, Rar, L1, L2, L3, L4, L5, L6, L7, L8, L9, L10, L11⟩ := hr; have M9 := Lib.hid L9; have M10 := Lib.hid L10; have M11 := Lib.hid L11; clear L9 L10 L11; dsimp only [netCells] at *
  by_cases h4 : p = 4
  · subst h4
    go_enter Try.func101, Try.ntmps101
    go_wp2
    go_ret
    exact ⟨rfl, (by with_reducible repeat (first | assumption | exact bw_refl _ | apply bw_alloc | apply bw_drew | apply bw_drewN | refine bw_set _ ?_ (by omega) | refine bw_then ?_ (by assumption)))⟩
  have p3 : p ≤ 3 := by omega
  have e4 : (p == 4) = false := beq_eq_false_iff_ne.2 h4
  clear h4 p4
  cases hl : live n.mesh (4 * a + p)
  · have HN := Lib.hid (room_no (c := c) p3 hl)
    go_enter Try.func101, Try.ntmps101
    go_wp2_with (go_at_call 98; refine (spec_l03Has n.mesh (4 * a + p) a1 _ _ (by exact Kd.C_below Rbr (by with_reducible repeat (first | assumption | exact bw_refl _ | apply bw_alloc | apply bw_drew | apply bw_drewN | refine bw_set _ ?_ (by omega) | refine bw_then ?_ (by assumption)))) L1).mono ?_; rintro e w1 ⟨rfl, hb1⟩; obtain ⟨hc1, hf1, hz1⟩ := bcell hb1; (try simp only [World.size_alloc, World.size_setCell, World.size_drew, sz_drewN] at hz1); have hb2 := (by first | exact bw_then hb2 hb1 | exact bw_then (bw_drewN _ hb2) hb1 | exact bw_then (bw_alloc _ hb2) hb1 | exact bw_then (bw_drew hb2) hb1 | exact bw_then HB hb1 | exact bw_then (bw_drewN _ HB) hb1 | exact bw_then (bw_alloc _ HB) hb1 | exact bw_then (bw_drew HB) hb1 | exact hb1); obtain ⟨hc2, hf2, hz2⟩ := bcell hb2; (try simp only [World.size_alloc, World.size_setCell, World.size_drew, sz_drewN] at hz2); try (first | obtain ⟨hy1, hy2, hy3, hy4⟩ := lts4 hz2 | obtain ⟨hy1, hy2, hy3⟩ := lts3 hz2 | obtain ⟨hy1, hy2⟩ := lts2 hz2 | have hy1 := lts1 hz2); have hb9 := hb1)
    go_ret
    exact ⟨ret_bool HN.out.symm, (by with_reducible repeat (first | assumption | exact bw_refl _ | apply bw_alloc | apply bw_drew | apply bw_drewN | refine bw_set _ ?_ (by omega) | refine bw_then ?_ (by assumption)))⟩
  · have HN := Lib.hid (room_yes (c := c) p3 hl)
    obtain ⟨_, v0, v1, v2, v3, v4, v5⟩ := behind_idx (c := c) OK.out p0 p3 hl g0 g1
    unfold behindI at HN v4 v5
    obtain ⟨t, ht⟩ : ∃ t, nextNode n.mesh.g a p = t := ⟨_, rfl⟩
    rw [ht] at HN v0 v1 v4 v5
    have HX := Lib.hid ht
    clear ht
    obtain ⟨s, hs⟩ : ∃ s, opposite p = s := ⟨_, rfl⟩
    rw [hs] at HN v2 v3 v4 v5
    have HS := Lib.hid hs
    clear hs
    obtain ⟨b, off, rfl, hb, Ai, ci, r0, hle, hCi⟩ := rdB_int Rbu (10 * t + 2 * s + c) v4 v5
    obtain ⟨z1, z2, z3, z4, z5, z6⟩ := more hb
    have x5 : (w.alloc (.cells #[.int .i64 n.mesh.g.w, .int .i64 n.mesh.g.h, .slice a1 n.mesh.br.length c1, .slice a2 n.pa.length c2, .slice a3 n.pb.length c3, .slice (some ⟨b, off, none⟩) n.bufs.length c4, .slice a5 n.owners.length c5, .slice a6 n.turns.length c6, .slice a7 n.srcs.length c7, .slice a8 n.arrs.length c8, .int .i64 n.time] 33)).cell? ⟨w.heap.size, 5, none⟩ = some (.slice (some ⟨b, off, none⟩) n.bufs.length c4) := (Box.new w _ #[.int .i64 n.mesh.g.w, .int .i64 n.mesh.g.h, .slice a1 n.mesh.br.length c1, .slice a2 n.pa.length c2, .slice a3 n.pb.length c3, .slice (some ⟨b, off, none⟩) n.bufs.length c4, .slice a5 n.owners.length c5, .slice a6 n.turns.length c6, .slice a7 n.srcs.length c7, .slice a8 n.arrs.length c8, .int .i64 n.time] 33 rfl).get 5
    obtain ⟨l, el⟩ : ∃ l, rl n.bufs (10 * t + 2 * s + c) = l := ⟨_, rfl⟩
    rw [el] at HN r0
    clear el hCi hle
    go_enter Try.func101, Try.ntmps101
    go_wp2_with (first | (go_at_call 98; refine (spec_l03Has n.mesh (4 * a + p) a1 _ _ (by exact Kd.C_below Rbr (by with_reducible repeat (first | assumption | exact bw_refl _ | apply bw_alloc | apply bw_drew | apply bw_drewN | refine bw_set _ ?_ (by omega) | refine bw_then ?_ (by assumption)))) L1).mono ?_; rintro e w1 ⟨rfl, hb1⟩; obtain ⟨hc1, hf1, hz1⟩ := bcell hb1; (try simp only [World.size_alloc, World.size_setCell, World.size_drew, sz_drewN] at hz1); have hb2 := (by first | exact bw_then hb2 hb1 | exact bw_then (bw_drewN _ hb2) hb1 | exact bw_then (bw_alloc _ hb2) hb1 | exact bw_then (bw_drew hb2) hb1 | exact bw_then HB hb1 | exact bw_then (bw_drewN _ HB) hb1 | exact bw_then (bw_alloc _ HB) hb1 | exact bw_then (bw_drew HB) hb1 | exact hb1); obtain ⟨hc2, hf2, hz2⟩ := bcell hb2; (try simp only [World.size_alloc, World.size_setCell, World.size_drew, sz_drewN] at hz2); try (first | obtain ⟨hy1, hy2, hy3, hy4⟩ := lts4 hz2 | obtain ⟨hy1, hy2, hy3⟩ := lts3 hz2 | obtain ⟨hy1, hy2⟩ := lts2 hz2 | have hy1 := lts1 hz2); have hb9 := hb1) | (go_at_call 99; refine (spec_NextNode n.mesh.g a p _).mono ?_; rintro e w1 ⟨he, hb1⟩; rw [HX.out] at he; subst he; obtain ⟨hc1, hf1, hz1⟩ := bcell hb1; (try simp only [World.size_alloc, World.size_setCell, World.size_drew, sz_drewN] at hz1); have hb2 := (by first | exact bw_then hb2 hb1 | exact bw_then (bw_drewN _ hb2) hb1 | exact bw_then (bw_alloc _ hb2) hb1 | exact bw_then (bw_drew hb2) hb1 | exact bw_then HB hb1 | exact bw_then (bw_drewN _ HB) hb1 | exact bw_then (bw_alloc _ HB) hb1 | exact bw_then (bw_drew HB) hb1 | exact hb1); obtain ⟨hc2, hf2, hz2⟩ := bcell hb2; (try simp only [World.size_alloc, World.size_setCell, World.size_drew, sz_drewN] at hz2); try (first | obtain ⟨hy1, hy2, hy3, hy4⟩ := lts4 hz2 | obtain ⟨hy1, hy2, hy3⟩ := lts3 hz2 | obtain ⟨hy1, hy2⟩ := lts2 hz2 | have hy1 := lts1 hz2); have hb9 := hb1))
    refine wp_region_far ((w.alloc (.cells #[.int .i64 n.mesh.g.w, .int .i64 n.mesh.g.h, .slice a1 n.mesh.br.length c1, .slice a2 n.pa.length c2, .slice a3 n.pb.length c3, .slice (some ⟨b, off, none⟩) n.bufs.length c4, .slice a5 n.owners.length c5, .slice a6 n.turns.length c6, .slice a7 n.srcs.length c7, .slice a8 n.arrs.length c8, .int .i64 n.time] 33))) (by kernel_rfl) (by kernel_rfl) (by with_reducible repeat (first | assumption | exact bw_refl _ | apply bw_alloc | apply bw_drew | apply bw_drewN | refine bw_set _ ?_ (by omega) | refine bw_then ?_ (by assumption))) ?_
    have hqc := far_cell ((w.alloc (.cells #[.int .i64 n.mesh.g.w, .int .i64 n.mesh.g.h, .slice a1 n.mesh.br.length c1, .slice a2 n.pa.length c2, .slice a3 n.pb.length c3, .slice (some ⟨b, off, none⟩) n.bufs.length c4, .slice a5 n.owners.length c5, .slice a6 n.turns.length c6, .slice a7 n.srcs.length c7, .slice a8 n.arrs.length c8, .int .i64 n.time] 33)))
    have hqf := far_frozen ((w.alloc (.cells #[.int .i64 n.mesh.g.w, .int .i64 n.mesh.g.h, .slice a1 n.mesh.br.length c1, .slice a2 n.pa.length c2, .slice a3 n.pb.length c3, .slice (some ⟨b, off, none⟩) n.bufs.length c4, .slice a5 n.owners.length c5, .slice a6 n.turns.length c6, .slice a7 n.srcs.length c7, .slice a8 n.arrs.length c8, .int .i64 n.time] 33)))
    repeat (first | go_big_quiet_step ((go_at_call 100; exact far_call (Calls.says (spec_Opposite p _) (congrArg (Value.int .i64) HS.out)))) | quiet_step ((go_at_call 100; exact far_call (Calls.says (spec_Opposite p _) (congrArg (Value.int .i64) HS.out)))))
    refine wpQuiet_nil ?_
    intro wq hbq
    clear hqc hqf
    obtain ⟨hcq, hfq, hzq⟩ := bcell hbq
    try simp only [World.size_alloc, World.size_setCell, World.size_drew, sz_drewN] at hzq
    go_wp2
    go_ret
    exact ⟨ret_bool (by rw [HN.out]; first | rfl | exact decide_eq_decide.2 (by omega)), (by with_reducible repeat (first | assumption | exact bw_refl _ | apply bw_alloc | apply bw_drew | apply bw_drewN | refine bw_set _ ?_ (by omega) | refine bw_then ?_ (by assumption)))⟩
set_option maxHeartbeats 8000000 in
set_option maxRecDepth 100000 in
theorem spec_l17Request (n : Net) (q : NA) (a i p : Int) (w : World) (hr : NetR 142 w n q) (ha : At n a i) (p0 : 0 ≤ p) (p4 : p ≤ 4) :
    Calls Try.prog 63 #[.agg (netCells n q), .int .i64 a, .int .i64 i, .int .i64 p] w fun e w' => e = .returned (.bool (requestN n a i p)) ∧ Below w.heap.size w w' := by
  have R := Lib.hid hr
  have HA := Lib.hid ha
  obtain ⟨a0, a15, j0, j1, j2, j3, j4, j5⟩ := ha.idx
  have i0 := ha.i0
  have i9 := ha.i9
  clear ha
  obtain ⟨a1, a2, a3, a4, a5, a6, a7, a8, c1, c2, c3, c4, c5, c6, c7, c8⟩ := q; obtain ⟨Rbr, Rpa, Rpb, Rbu, Row, Rtu, Rso, Rar, L1, L2, L3, L4, L5, L6, L7, L8, L9, L10, L11⟩ := hr; have M9 := Lib.hid L9; have M10 := Lib.hid L10; have M11 := Lib.hid L11; clear L9 L10 L11; dsimp only [netCells] at *
  by_cases h1 : wantedN n a i = p
  case neg =>
    have HN := Lib.hid (request_no1 h1)
    have f1 : (wantedN n a i != p) = true := bne_iff_ne.2 h1
    clear h1
    go_enter Try.func63, Try.ntmps63
    go_wp2_with (go_at_call 97; refine (spec_l17Wanted n _ a i _ (R.out.below (by with_reducible repeat (first | assumption | exact bw_refl _ | apply bw_alloc | apply bw_drew | apply bw_drewN | refine bw_set _ ?_ (by omega) | refine bw_then ?_ (by assumption)))) HA.out).mono ?_; rintro e w1 ⟨rfl, hb1⟩; obtain ⟨hc1, hf1, hz1⟩ := bcell hb1; (try simp only [World.size_alloc, World.size_setCell, World.size_drew, sz_drewN] at hz1); have hb2 := (by first | exact bw_then hb2 hb1 | exact bw_then (bw_drewN _ hb2) hb1 | exact bw_then (bw_alloc _ hb2) hb1 | exact bw_then (bw_drew hb2) hb1 | exact bw_then HB hb1 | exact bw_then (bw_drewN _ HB) hb1 | exact bw_then (bw_alloc _ HB) hb1 | exact bw_then (bw_drew HB) hb1 | exact hb1); obtain ⟨hc2, hf2, hz2⟩ := bcell hb2; (try simp only [World.size_alloc, World.size_setCell, World.size_drew, sz_drewN] at hz2); try (first | obtain ⟨hy1, hy2, hy3, hy4⟩ := lts4 hz2 | obtain ⟨hy1, hy2, hy3⟩ := lts3 hz2 | obtain ⟨hy1, hy2⟩ := lts2 hz2 | have hy1 := lts1 hz2); have hb9 := hb1)
    go_ret
    exact ⟨ret_bool HN.out.symm, (by with_reducible repeat (first | assumption | exact bw_refl _ | apply bw_alloc | apply bw_drew | apply bw_drewN | refine bw_set _ ?_ (by omega) | refine bw_then ?_ (by assumption)))⟩
  have H1 := Lib.hid h1
  have hl0 := wanted_len (n := n) (a := a) (i := i) (by omega)
  have f1 : (p != p) = false := bne_eq_false_iff_eq.2 rfl
  clear h1
  cases h2 : roomN n a p (i % 2)
  · have H2 := Lib.hid h2
    go_enter Try.func63, Try.ntmps63
    go_wp2_with (first | (go_at_call 97; refine (spec_l17Wanted n _ a i _ (R.out.below (by with_reducible repeat (first | assumption | exact bw_refl _ | apply bw_alloc | apply bw_drew | apply bw_drewN | refine bw_set _ ?_ (by omega) | refine bw_then ?_ (by assumption)))) HA.out).mono ?_; rintro e w1 ⟨he, hb1⟩; rw [H1.out] at he; subst he; obtain ⟨hc1, hf1, hz1⟩ := bcell hb1; (try simp only [World.size_alloc, World.size_setCell, World.size_drew, sz_drewN] at hz1); have hb2 := (by first | exact bw_then hb2 hb1 | exact bw_then (bw_drewN _ hb2) hb1 | exact bw_then (bw_alloc _ hb2) hb1 | exact bw_then (bw_drew hb2) hb1 | exact bw_then HB hb1 | exact bw_then (bw_drewN _ HB) hb1 | exact bw_then (bw_alloc _ HB) hb1 | exact bw_then (bw_drew HB) hb1 | exact hb1); obtain ⟨hc2, hf2, hz2⟩ := bcell hb2; (try simp only [World.size_alloc, World.size_setCell, World.size_drew, sz_drewN] at hz2); try (first | obtain ⟨hy1, hy2, hy3, hy4⟩ := lts4 hz2 | obtain ⟨hy1, hy2, hy3⟩ := lts3 hz2 | obtain ⟨hy1, hy2⟩ := lts2 hz2 | have hy1 := lts1 hz2); have hb9 := hb1) | (go_at_call 101; refine (spec_l17Room n _ a p (i % 2) _ (R.out.below (by with_reducible repeat (first | assumption | exact bw_refl _ | apply bw_alloc | apply bw_drew | apply bw_drewN | refine bw_set _ ?_ (by omega) | refine bw_then ?_ (by assumption)))) HA.out.ok HA.out.nd p0 p4 (by omega) (by omega)).mono ?_; rintro e w1 ⟨rfl, hb1⟩; obtain ⟨hc1, hf1, hz1⟩ := bcell hb1; (try simp only [World.size_alloc, World.size_setCell, World.size_drew, sz_drewN] at hz1); have hb2 := (by first | exact bw_then hb2 hb1 | exact bw_then (bw_drewN _ hb2) hb1 | exact bw_then (bw_alloc _ hb2) hb1 | exact bw_then (bw_drew hb2) hb1 | exact bw_then HB hb1 | exact bw_then (bw_drewN _ HB) hb1 | exact bw_then (bw_alloc _ HB) hb1 | exact bw_then (bw_drew HB) hb1 | exact hb1); obtain ⟨hc2, hf2, hz2⟩ := bcell hb2; (try simp only [World.size_alloc, World.size_setCell, World.size_drew, sz_drewN] at hz2); try (first | obtain ⟨hy1, hy2, hy3, hy4⟩ := lts4 hz2 | obtain ⟨hy1, hy2, hy3⟩ := lts3 hz2 | obtain ⟨hy1, hy2⟩ := lts2 hz2 | have hy1 := lts1 hz2); have hb9 := hb1))
    go_ret
    exact ⟨ret_bool (by rw [request_no2 H2.out]), (by with_reducible repeat (first | assumption | exact bw_refl _ | apply bw_alloc | apply bw_drew | apply bw_drewN | refine bw_set _ ?_ (by omega) | refine bw_then ?_ (by assumption)))⟩
  have H2 := Lib.hid h2
  have m0 : 0 ≤ 10 * a + 2 * p + i % 2 := by omega
  have m1 : 10 * a + 2 * p + i % 2 < (n.owners.length : Int) := by omega
  obtain ⟨b5, o5, rfl, hb5, r0⟩ := rdI_int Row (10 * a + 2 * p + i % 2) m0 m1
  obtain ⟨z1, z2, z3, z4, z5, z6⟩ := more hb5
  obtain ⟨o, ho⟩ : ∃ o, ri n.owners (10 * a + 2 * p + i % 2) = o := ⟨_, rfl⟩
  rw [ho] at r0
  have HO := Lib.hid (show ownAt n a p (i % 2) = o from ho)
  clear ho
  cases hh : (rf (bufOf n a i) 0).head
  all_goals
    have HQ := Lib.hid hh
    unfold bufOf at hl0 hh
    obtain ⟨b, off, rfl, hb, Ai, ci, u0, hle, hCi⟩ := rdB_int Rbu (10 * a + i) j0 j1
    obtain ⟨b1, o1, rfl, hb1, q0, q1, q2, q3, q4⟩ := rdFl_0 hCi hl0
    obtain ⟨z7, z8, z9, z10, z11, z12⟩ := more hb
    obtain ⟨z13, z14, z15, z16, z17, z18⟩ := more hb1
    obtain ⟨l, el⟩ : ∃ l, rl n.bufs (10 * a + i) = l := ⟨_, rfl⟩
    rw [el] at hl0 hh u0 hle q0 q1 q2 q3 q4
    have hl1 : (0 : Int) < (l.length : Int) := by omega
    rw [hh] at q3
    clear hCi el hh
    go_enter Try.func63, Try.ntmps63
    go_wp2_with (first | (go_at_call 97; refine (spec_l17Wanted n _ a i _ (R.out.below (by with_reducible repeat (first | assumption | exact bw_refl _ | apply bw_alloc | apply bw_drew | apply bw_drewN | refine bw_set _ ?_ (by omega) | refine bw_then ?_ (by assumption)))) HA.out).mono ?_; rintro e w1 ⟨he, hb1⟩; rw [H1.out] at he; subst he; obtain ⟨hc1, hf1, hz1⟩ := bcell hb1; (try simp only [World.size_alloc, World.size_setCell, World.size_drew, sz_drewN] at hz1); have hb2 := (by first | exact bw_then hb2 hb1 | exact bw_then (bw_drewN _ hb2) hb1 | exact bw_then (bw_alloc _ hb2) hb1 | exact bw_then (bw_drew hb2) hb1 | exact bw_then HB hb1 | exact bw_then (bw_drewN _ HB) hb1 | exact bw_then (bw_alloc _ HB) hb1 | exact bw_then (bw_drew HB) hb1 | exact hb1); obtain ⟨hc2, hf2, hz2⟩ := bcell hb2; (try simp only [World.size_alloc, World.size_setCell, World.size_drew, sz_drewN] at hz2); try (first | obtain ⟨hy1, hy2, hy3, hy4⟩ := lts4 hz2 | obtain ⟨hy1, hy2, hy3⟩ := lts3 hz2 | obtain ⟨hy1, hy2⟩ := lts2 hz2 | have hy1 := lts1 hz2); have hb9 := hb1) | (go_at_call 101; refine (spec_l17Room n _ a p (i % 2) _ (R.out.below (by with_reducible repeat (first | assumption | exact bw_refl _ | apply bw_alloc | apply bw_drew | apply bw_drewN | refine bw_set _ ?_ (by omega) | refine bw_then ?_ (by assumption)))) HA.out.ok HA.out.nd p0 p4 (by omega) (by omega)).mono ?_; rintro e w1 ⟨rfl, hb1⟩; obtain ⟨hc1, hf1, hz1⟩ := bcell hb1; (try simp only [World.size_alloc, World.size_setCell, World.size_drew, sz_drewN] at hz1); have hb2 := (by first | exact bw_then hb2 hb1 | exact bw_then (bw_drewN _ hb2) hb1 | exact bw_then (bw_alloc _ hb2) hb1 | exact bw_then (bw_drew hb2) hb1 | exact bw_then HB hb1 | exact bw_then (bw_drewN _ HB) hb1 | exact bw_then (bw_alloc _ HB) hb1 | exact bw_then (bw_drew HB) hb1 | exact hb1); obtain ⟨hc2, hf2, hz2⟩ := bcell hb2; (try simp only [World.size_alloc, World.size_setCell, World.size_drew, sz_drewN] at hz2); try (first | obtain ⟨hy1, hy2, hy3, hy4⟩ := lts4 hz2 | obtain ⟨hy1, hy2, hy3⟩ := lts3 hz2 | obtain ⟨hy1, hy2⟩ := lts2 hz2 | have hy1 := lts1 hz2); have hb9 := hb1))
    go_ret
    exact ⟨ret_bool (by first | rw [request_1 H1.out H2.out HQ.out, HO.out] | rw [request_2 H1.out H2.out HQ.out, HO.out]), (by with_reducible repeat (first | assumption | exact bw_refl _ | apply bw_alloc | apply bw_drew | apply bw_drewN | refine bw_set _ ?_ (by omega) | refine bw_then ?_ (by assumption)))⟩
set_option maxHeartbeats 1000000 in
theorem spec_l17Ok (n : Net) (q : NA) (a p : Int) (w : World) (hr : NetR 142 w n q) : Calls Try.prog 62 #[.agg (netCells n q), .int .i64 a, .int .i64 p] w fun e w' => e = .returned (.bool (netOk n && isNode n.mesh.g a && inside p 0 4)) ∧ Below w.heap.size w w' := by
  have R := Lib.hid hr
  obtain ⟨a1, a2, a3, a4, a5, a6, a7, a8, c1, c2, c3, c4, c5, c6, c7, c8⟩ := q
  clear hr
  dsimp only [netCells]
  go_enter Try.func62, Try.ntmps62
  cases hk : netOk n
  · go_wp2_with (go_at_call 70; refine (spec_NetOk n _ _ (R.out.below (by with_reducible repeat (first | assumption | exact bw_refl _ | apply bw_alloc | apply bw_drew | apply bw_drewN | refine bw_set _ ?_ (by omega) | refine bw_then ?_ (by assumption))))).mono ?_; rintro e w1 ⟨rfl, hb1⟩; obtain ⟨hc1, hf1, hz1⟩ := bcell hb1; (try simp only [World.size_alloc, World.size_setCell, World.size_drew, sz_drewN] at hz1); have hb2 := (by first | exact bw_then hb2 hb1 | exact bw_then (bw_drewN _ hb2) hb1 | exact bw_then (bw_alloc _ hb2) hb1 | exact bw_then (bw_drew hb2) hb1 | exact bw_then HB hb1 | exact bw_then (bw_drewN _ HB) hb1 | exact bw_then (bw_alloc _ HB) hb1 | exact bw_then (bw_drew HB) hb1 | exact hb1); obtain ⟨hc2, hf2, hz2⟩ := bcell hb2; (try simp only [World.size_alloc, World.size_setCell, World.size_drew, sz_drewN] at hz2); try (first | obtain ⟨hy1, hy2, hy3, hy4⟩ := lts4 hz2 | obtain ⟨hy1, hy2, hy3⟩ := lts3 hz2 | obtain ⟨hy1, hy2⟩ := lts2 hz2 | have hy1 := lts1 hz2); have hb9 := hb1)
    go_ret
    exact ⟨rfl, (by with_reducible repeat (first | assumption | exact bw_refl _ | apply bw_alloc | apply bw_drew | apply bw_drewN | refine bw_set _ ?_ (by omega) | refine bw_then ?_ (by assumption)))⟩
  cases hd : isNode n.mesh.g a
  · go_wp2_with (first | (go_at_call 70; refine (spec_NetOk n _ _ (R.out.below (by with_reducible repeat (first | assumption | exact bw_refl _ | apply bw_alloc | apply bw_drew | apply bw_drewN | refine bw_set _ ?_ (by omega) | refine bw_then ?_ (by assumption))))).mono ?_; rintro e w1 ⟨rfl, hb1⟩; obtain ⟨hc1, hf1, hz1⟩ := bcell hb1; (try simp only [World.size_alloc, World.size_setCell, World.size_drew, sz_drewN] at hz1); have hb2 := (by first | exact bw_then hb2 hb1 | exact bw_then (bw_drewN _ hb2) hb1 | exact bw_then (bw_alloc _ hb2) hb1 | exact bw_then (bw_drew hb2) hb1 | exact bw_then HB hb1 | exact bw_then (bw_drewN _ HB) hb1 | exact bw_then (bw_alloc _ HB) hb1 | exact bw_then (bw_drew HB) hb1 | exact hb1); obtain ⟨hc2, hf2, hz2⟩ := bcell hb2; (try simp only [World.size_alloc, World.size_setCell, World.size_drew, sz_drewN] at hz2); try (first | obtain ⟨hy1, hy2, hy3, hy4⟩ := lts4 hz2 | obtain ⟨hy1, hy2, hy3⟩ := lts3 hz2 | obtain ⟨hy1, hy2⟩ := lts2 hz2 | have hy1 := lts1 hz2); have hb9 := hb1) | (go_at_call 121; refine (spec_l02Has n.mesh.g a _).mono ?_; rintro e w1 ⟨rfl, hb1⟩; obtain ⟨hc1, hf1, hz1⟩ := bcell hb1; (try simp only [World.size_alloc, World.size_setCell, World.size_drew, sz_drewN] at hz1); have hb2 := (by first | exact bw_then hb2 hb1 | exact bw_then (bw_drewN _ hb2) hb1 | exact bw_then (bw_alloc _ hb2) hb1 | exact bw_then (bw_drew hb2) hb1 | exact bw_then HB hb1 | exact bw_then (bw_drewN _ HB) hb1 | exact bw_then (bw_alloc _ HB) hb1 | exact bw_then (bw_drew HB) hb1 | exact hb1); obtain ⟨hc2, hf2, hz2⟩ := bcell hb2; (try simp only [World.size_alloc, World.size_setCell, World.size_drew, sz_drewN] at hz2); try (first | obtain ⟨hy1, hy2, hy3, hy4⟩ := lts4 hz2 | obtain ⟨hy1, hy2, hy3⟩ := lts3 hz2 | obtain ⟨hy1, hy2⟩ := lts2 hz2 | have hy1 := lts1 hz2); have hb9 := hb1))
    go_ret
    exact ⟨rfl, (by with_reducible repeat (first | assumption | exact bw_refl _ | apply bw_alloc | apply bw_drew | apply bw_drewN | refine bw_set _ ?_ (by omega) | refine bw_then ?_ (by assumption)))⟩
  · go_wp2_with (first | (go_at_call 70; refine (spec_NetOk n _ _ (R.out.below (by with_reducible repeat (first | assumption | exact bw_refl _ | apply bw_alloc | apply bw_drew | apply bw_drewN | refine bw_set _ ?_ (by omega) | refine bw_then ?_ (by assumption))))).mono ?_; rintro e w1 ⟨rfl, hb1⟩; obtain ⟨hc1, hf1, hz1⟩ := bcell hb1; (try simp only [World.size_alloc, World.size_setCell, World.size_drew, sz_drewN] at hz1); have hb2 := (by first | exact bw_then hb2 hb1 | exact bw_then (bw_drewN _ hb2) hb1 | exact bw_then (bw_alloc _ hb2) hb1 | exact bw_then (bw_drew hb2) hb1 | exact bw_then HB hb1 | exact bw_then (bw_drewN _ HB) hb1 | exact bw_then (bw_alloc _ HB) hb1 | exact bw_then (bw_drew HB) hb1 | exact hb1); obtain ⟨hc2, hf2, hz2⟩ := bcell hb2; (try simp only [World.size_alloc, World.size_setCell, World.size_drew, sz_drewN] at hz2); try (first | obtain ⟨hy1, hy2, hy3, hy4⟩ := lts4 hz2 | obtain ⟨hy1, hy2, hy3⟩ := lts3 hz2 | obtain ⟨hy1, hy2⟩ := lts2 hz2 | have hy1 := lts1 hz2); have hb9 := hb1) | (go_at_call 121; refine (spec_l02Has n.mesh.g a _).mono ?_; rintro e w1 ⟨rfl, hb1⟩; obtain ⟨hc1, hf1, hz1⟩ := bcell hb1; (try simp only [World.size_alloc, World.size_setCell, World.size_drew, sz_drewN] at hz1); have hb2 := (by first | exact bw_then hb2 hb1 | exact bw_then (bw_drewN _ hb2) hb1 | exact bw_then (bw_alloc _ hb2) hb1 | exact bw_then (bw_drew hb2) hb1 | exact bw_then HB hb1 | exact bw_then (bw_drewN _ HB) hb1 | exact bw_then (bw_alloc _ HB) hb1 | exact bw_then (bw_drew HB) hb1 | exact hb1); obtain ⟨hc2, hf2, hz2⟩ := bcell hb2; (try simp only [World.size_alloc, World.size_setCell, World.size_drew, sz_drewN] at hz2); try (first | obtain ⟨hy1, hy2, hy3, hy4⟩ := lts4 hz2 | obtain ⟨hy1, hy2, hy3⟩ := lts3 hz2 | obtain ⟨hy1, hy2⟩ := lts2 hz2 | have hy1 := lts1 hz2); have hb9 := hb1) | (go_at_call 122; refine (spec_l01In _ _ _ _).mono ?_; rintro e w' ⟨rfl, rfl⟩))
    go_ret
    exact ⟨rfl, (by with_reducible repeat (first | assumption | exact bw_refl _ | apply bw_alloc | apply bw_drew | apply bw_drewN | refine bw_set _ ?_ (by omega) | refine bw_then ?_ (by assumption)))⟩
theorem box_new {w W : World} {cs : Array Value} {T : TypeId} (h : Below (w.alloc (.cells cs T)).heap.size (w.alloc (.cells cs T)) W) : Box W w.heap.size cs := (Box.new w _ cs T rfl).below h
set_option maxHeartbeats 4000000 in
set_option maxRecDepth 100000 in
theorem spec_RequestsAt (n : Net) (q : NA) (a p : Int) (w : World) (hr : NetR 142 w n q) : Calls Try.prog 17 #[.agg (netCells n q), .int .i64 a, .int .i64 p] w fun e w' => GotI w w' (requestsAt n a p) e ∧ Below w.heap.size w w' := by
  have R := Lib.hid hr
  obtain ⟨a1, a2, a3, a4, a5, a6, a7, a8, c1, c2, c3, c4, c5, c6, c7, c8⟩ := q
  clear hr
  dsimp only [netCells]
  cases hk : (netOk n && isNode n.mesh.g a && inside p 0 4)
  · have HE : Hid (requestsAt n a p = []) := Lib.hid (by
      unfold requestsAt
      split
      · rename_i h
        rw [h, Bool.true_and] at hk
        exact requests_out hk
      · rfl)
    have HK := Lib.hid hk
    clear hk
    go_enter Try.func17, Try.ntmps17
    go_wp2_with (go_at_call 62; refine (spec_l17Ok n _ a p _ (R.out.below (by with_reducible repeat (first | assumption | exact bw_refl _ | apply bw_alloc | apply bw_drew | apply bw_drewN | refine bw_set _ ?_ (by omega) | refine bw_then ?_ (by assumption))))).mono ?_; rintro e w1 ⟨he, hb1⟩; rw [HK.out] at he; subst he; obtain ⟨hc1, hf1, hz1⟩ := bcell hb1; (try simp only [World.size_alloc, World.size_setCell, World.size_drew, sz_drewN] at hz1); have hb2 := (by first | exact bw_then hb2 hb1 | exact bw_then (bw_drewN _ hb2) hb1 | exact bw_then (bw_alloc _ hb2) hb1 | exact bw_then (bw_drew hb2) hb1 | exact bw_then HB hb1 | exact bw_then (bw_drewN _ HB) hb1 | exact bw_then (bw_alloc _ HB) hb1 | exact bw_then (bw_drew HB) hb1 | exact hb1); obtain ⟨hc2, hf2, hz2⟩ := bcell hb2; (try simp only [World.size_alloc, World.size_setCell, World.size_drew, sz_drewN] at hz2); try (first | obtain ⟨hy1, hy2, hy3, hy4⟩ := lts4 hz2 | obtain ⟨hy1, hy2, hy3⟩ := lts3 hz2 | obtain ⟨hy1, hy2⟩ := lts2 hz2 | have hy1 := lts1 hz2); have hb9 := hb1)
    have HO := Kd.R_below (Kd.R_below (R_empty' (Kd.int .i64) 3 (W0 := w.alloc (.cells #[.int .i64 n.mesh.g.w, .int .i64 n.mesh.g.h, .slice a1 n.mesh.br.length c1, .slice a2 n.pa.length c2, .slice a3 n.pb.length c3, .slice a4 n.bufs.length c4, .slice a5 n.owners.length c5, .slice a6 n.turns.length c6, .slice a7 n.srcs.length c7, .slice a8 n.arrs.length c8, .int .i64 n.time] 33)) (W := w.alloc (.cells #[.int .i64 n.mesh.g.w, .int .i64 n.mesh.g.h, .slice a1 n.mesh.br.length c1, .slice a2 n.pa.length c2, .slice a3 n.pb.length c3, .slice a4 n.bufs.length c4, .slice a5 n.owners.length c5, .slice a6 n.turns.length c6, .slice a7 n.srcs.length c7, .slice a8 n.arrs.length c8, .int .i64 n.time] 33)) (Nat.le_refl _) (w.heap.size + 1) (by simp only [World.size_alloc, World.size_setCell, World.size_drew, sz_drewN])) hb1) (bw_refl _)
    go_loopw [7, 9] (fun v j wr => j = .int .i64 0 ∧ v = .slice (some ⟨w.heap.size + 1, 0, none⟩) 0 0 ∧ Below w1.heap.size w1 wr) (fun _ j _ => 0)
    case atStart => exact ⟨rfl, by first | rfl | (simp; done), (by with_reducible repeat (first | assumption | exact bw_refl _ | apply bw_alloc | apply bw_drew | apply bw_drewN | refine bw_set _ ?_ (by omega) | refine bw_then ?_ (by assumption)))⟩
    case round =>
      obtain ⟨rfl, rfl, HB⟩ := hrel
      go_wp2
      go_ret
      exact ⟨by rw [HE.out]; exact ⟨_, rfl, Kd.R_lower (Kd.R_below (by first | exact HO | simpa only [World.size_alloc, World.size_setCell, World.size_drew, sz_drewN] using HO) HB) (by simp only [World.size_alloc, World.size_setCell, World.size_drew, sz_drewN]; omega)⟩, (by with_reducible repeat (first | assumption | exact bw_refl _ | apply bw_alloc | apply bw_drew | apply bw_drewN | refine bw_set _ ?_ (by omega) | refine bw_then ?_ (by assumption)))⟩
  · have HE : Hid (requestsAt n a p = requestsN n a p) := Lib.hid (by
      rw [Bool.and_eq_true] at hk
      rw [requestsAt, hk.1]; rfl)
    have HK := Lib.hid hk
    rw [Bool.and_eq_true, Bool.and_eq_true, inside_iff] at hk
    obtain ⟨⟨k1, k2⟩, k3, k4⟩ := hk
    have K1 := Lib.hid k1
    have K2 := Lib.hid k2
    clear k1 k2
    go_enter Try.func17, Try.ntmps17
    go_wp2_with (go_at_call 62; refine (spec_l17Ok n _ a p _ (R.out.below (by with_reducible repeat (first | assumption | exact bw_refl _ | apply bw_alloc | apply bw_drew | apply bw_drewN | refine bw_set _ ?_ (by omega) | refine bw_then ?_ (by assumption))))).mono ?_; rintro e w1 ⟨he, hb1⟩; rw [HK.out] at he; subst he; obtain ⟨hc1, hf1, hz1⟩ := bcell hb1; (try simp only [World.size_alloc, World.size_setCell, World.size_drew, sz_drewN] at hz1); have hb2 := (by first | exact bw_then hb2 hb1 | exact bw_then (bw_drewN _ hb2) hb1 | exact bw_then (bw_alloc _ hb2) hb1 | exact bw_then (bw_drew hb2) hb1 | exact bw_then HB hb1 | exact bw_then (bw_drewN _ HB) hb1 | exact bw_then (bw_alloc _ HB) hb1 | exact bw_then (bw_drew HB) hb1 | exact hb1); obtain ⟨hc2, hf2, hz2⟩ := bcell hb2; (try simp only [World.size_alloc, World.size_setCell, World.size_drew, sz_drewN] at hz2); try (first | obtain ⟨hy1, hy2, hy3, hy4⟩ := lts4 hz2 | obtain ⟨hy1, hy2, hy3⟩ := lts3 hz2 | obtain ⟨hy1, hy2⟩ := lts2 hz2 | have hy1 := lts1 hz2); have hb9 := hb1)
    go_loopw [7, 9] (fun v j wr => ∃ k : Nat, j = .int .i64 k ∧ k ≤ 10 ∧ Kd.R (Kd.int .i64) 3 wr (w.alloc (.cells #[.int .i64 n.mesh.g.w, .int .i64 n.mesh.g.h, .slice a1 n.mesh.br.length c1, .slice a2 n.pa.length c2, .slice a3 n.pb.length c3, .slice a4 n.bufs.length c4, .slice a5 n.owners.length c5, .slice a6 n.turns.length c6, .slice a7 n.srcs.length c7, .slice a8 n.arrs.length c8, .int .i64 n.time] 33)).heap.size (fun _ => True) v (requestsTo n a p k) ∧ Below (w.alloc (.cells #[.int .i64 n.mesh.g.w, .int .i64 n.mesh.g.h, .slice a1 n.mesh.br.length c1, .slice a2 n.pa.length c2, .slice a3 n.pb.length c3, .slice a4 n.bufs.length c4, .slice a5 n.owners.length c5, .slice a6 n.turns.length c6, .slice a7 n.srcs.length c7, .slice a8 n.arrs.length c8, .int .i64 n.time] 33)).heap.size (w.alloc (.cells #[.int .i64 n.mesh.g.w, .int .i64 n.mesh.g.h, .slice a1 n.mesh.br.length c1, .slice a2 n.pa.length c2, .slice a3 n.pb.length c3, .slice a4 n.bufs.length c4, .slice a5 n.owners.length c5, .slice a6 n.turns.length c6, .slice a7 n.srcs.length c7, .slice a8 n.arrs.length c8, .int .i64 n.time] 33)) wr) (fun _ j _ => 10 - (intOf j).toNat)
    case atStart => exact ⟨0, rfl, Nat.zero_le _, Kd.R_below (R_empty' (Kd.int .i64) 3 (W0 := w.alloc (.cells #[.int .i64 n.mesh.g.w, .int .i64 n.mesh.g.h, .slice a1 n.mesh.br.length c1, .slice a2 n.pa.length c2, .slice a3 n.pb.length c3, .slice a4 n.bufs.length c4, .slice a5 n.owners.length c5, .slice a6 n.turns.length c6, .slice a7 n.srcs.length c7, .slice a8 n.arrs.length c8, .int .i64 n.time] 33)) (W := w.alloc (.cells #[.int .i64 n.mesh.g.w, .int .i64 n.mesh.g.h, .slice a1 n.mesh.br.length c1, .slice a2 n.pa.length c2, .slice a3 n.pb.length c3, .slice a4 n.bufs.length c4, .slice a5 n.owners.length c5, .slice a6 n.turns.length c6, .slice a7 n.srcs.length c7, .slice a8 n.arrs.length c8, .int .i64 n.time] 33)) (Nat.le_refl _) _ (by simp only [World.size_alloc, World.size_setCell, World.size_drew, sz_drewN])) hb1, by exact bw_then (bw_alloc _ (bw_refl _)) hb1⟩
    case round =>
      clear hb1 hc1 hf1 hz1 hb2 hc2 hf2 hz2 hb9
      obtain ⟨k, rfl, hk, HO, HB⟩ := hrel
      obtain ⟨Ao, co, rfl⟩ := Kd.R_slice HO
      have hlen := requestsTo_len n a p k
      obtain ⟨hcr, hfr, hzr⟩ := bcell HB
      simp only [World.size_alloc, World.size_setCell, World.size_drew, sz_drewN] at hzr
      have yy1 := lts1 hzr
      by_cases hlt : k < 10
      · have i0 : (k : Int) < 10 := by omega
        have HI := Lib.hid (reqI_in (n := n) (a := a) (i := (k : Int)) k3 k4)
        cases h1 : requestN n a k p
        · have HS := Lib.hid (requestsTo_no (HI.out.trans h1))
          go_wp2_with (go_at_call 63; refine (spec_l17Request n _ a k p _ (R.out.below (by with_reducible repeat (first | assumption | exact bw_refl _ | apply bw_alloc | apply bw_drew | apply bw_drewN | refine bw_set _ ?_ (by omega) | refine bw_then ?_ (by assumption)))) ⟨K1.out, K2.out, by omega, by omega⟩ k3 k4).mono ?_; rintro e w1 ⟨rfl, hb1⟩; obtain ⟨hc1, hf1, hz1⟩ := bcell hb1; (try simp only [World.size_alloc, World.size_setCell, World.size_drew, sz_drewN] at hz1); have hb2 := (by first | exact bw_then hb2 hb1 | exact bw_then (bw_drewN _ hb2) hb1 | exact bw_then (bw_alloc _ hb2) hb1 | exact bw_then (bw_drew hb2) hb1 | exact bw_then HB hb1 | exact bw_then (bw_drewN _ HB) hb1 | exact bw_then (bw_alloc _ HB) hb1 | exact bw_then (bw_drew HB) hb1 | exact hb1); obtain ⟨hc2, hf2, hz2⟩ := bcell hb2; (try simp only [World.size_alloc, World.size_setCell, World.size_drew, sz_drewN] at hz2); try (first | obtain ⟨hy1, hy2, hy3, hy4⟩ := lts4 hz2 | obtain ⟨hy1, hy2, hy3⟩ := lts3 hz2 | obtain ⟨hy1, hy2⟩ := lts2 hz2 | have hy1 := lts1 hz2); have hb9 := hb1)
          go_roundw
          case rel => exact ⟨k + 1, by go_num, by omega, by rw [HS.out]; exact (by exact Kd.R_below HO (by with_reducible repeat (first | assumption | exact bw_refl _ | apply bw_alloc | apply bw_drew | apply bw_drewN | refine bw_set _ ?_ (by omega) | refine bw_then ?_ (by assumption)))), (by with_reducible repeat (first | assumption | exact bw_refl _ | apply bw_alloc | apply bw_drew | apply bw_drewN | refine bw_set _ ?_ (by omega) | refine bw_then ?_ (by assumption)))⟩
          case measure => simp [intOf]; omega
        · have HS := Lib.hid (requestsTo_yes (HI.out.trans h1))
          go_wp2_with (first | (go_at_call 63; refine (spec_l17Request n _ a k p _ (R.out.below (by with_reducible repeat (first | assumption | exact bw_refl _ | apply bw_alloc | apply bw_drew | apply bw_drewN | refine bw_set _ ?_ (by omega) | refine bw_then ?_ (by assumption)))) ⟨K1.out, K2.out, by omega, by omega⟩ k3 k4).mono ?_; rintro e w1 ⟨rfl, hb1⟩; obtain ⟨hc1, hf1, hz1⟩ := bcell hb1; (try simp only [World.size_alloc, World.size_setCell, World.size_drew, sz_drewN] at hz1); have hb2 := (by first | exact bw_then hb2 hb1 | exact bw_then (bw_drewN _ hb2) hb1 | exact bw_then (bw_alloc _ hb2) hb1 | exact bw_then (bw_drew hb2) hb1 | exact bw_then HB hb1 | exact bw_then (bw_drewN _ HB) hb1 | exact bw_then (bw_alloc _ HB) hb1 | exact bw_then (bw_drew HB) hb1 | exact hb1); obtain ⟨hc2, hf2, hz2⟩ := bcell hb2; (try simp only [World.size_alloc, World.size_setCell, World.size_drew, sz_drewN] at hz2); try (first | obtain ⟨hy1, hy2, hy3, hy4⟩ := lts4 hz2 | obtain ⟨hy1, hy2, hy3⟩ := lts3 hz2 | obtain ⟨hy1, hy2⟩ := lts2 hz2 | have hy1 := lts1 hz2); have hb9 := hb1) | (at_builtin; refine app_int (W0 := w.alloc (.cells #[.int .i64 n.mesh.g.w, .int .i64 n.mesh.g.h, .slice a1 n.mesh.br.length c1, .slice a2 n.pa.length c2, .slice a3 n.pb.length c3, .slice a4 n.bufs.length c4, .slice a5 n.owners.length c5, .slice a6 n.turns.length c6, .slice a7 n.srcs.length c7, .slice a8 n.arrs.length c8, .int .i64 n.time] 33)) rfl (.tmp 27) (.tmp 29) 24 3 rfl Try.underlying24 info_int _ (requestsTo n a p k) _ rfl (by first | rfl | exact congrArg (fun z => Value.slice (some ⟨z, 0, none⟩) 1 1) (World.size_alloc _ _).symm) (by exact Kd.R_below HO (by with_reducible repeat (first | assumption | exact bw_refl _ | apply bw_alloc | apply bw_drew | apply bw_drewN | refine bw_set _ ?_ (by omega) | refine bw_then ?_ (by assumption)))) (by with_reducible repeat (first | assumption | exact bw_refl _ | apply bw_alloc | apply bw_drew | apply bw_drewN | refine bw_set _ ?_ (by omega) | refine bw_then ?_ (by assumption))) (by omega) ?_; intro v1 w1 HO1 HB1; obtain ⟨hc1, hf1, hz1⟩ := bcell HB1; (try simp only [World.size_alloc, World.size_setCell, World.size_drew, sz_drewN] at hz1); have hb2 := HB1; have hb9 := HB1))
          go_roundw
          case rel => exact ⟨k + 1, by go_num, by omega, by rw [HS.out]; exact (by exact Kd.R_below HO1 (by with_reducible repeat (first | assumption | exact bw_refl _ | apply bw_alloc | apply bw_drew | apply bw_drewN | refine bw_set _ ?_ (by omega) | refine bw_then ?_ (by assumption)))), (by with_reducible repeat (first | assumption | exact bw_refl _ | apply bw_alloc | apply bw_drew | apply bw_drewN | refine bw_set _ ?_ (by omega) | refine bw_then ?_ (by assumption)))⟩
          case measure => simp [intOf]; omega
      · have i0 : ¬ (k : Int) < 10 := by omega
        obtain rfl : k = 10 := by omega
        go_wp2
        go_ret
        exact ⟨by rw [HE.out]; exact ⟨_, rfl, Kd.R_lower (by exact Kd.R_below HO (by with_reducible repeat (first | assumption | exact bw_refl _ | apply bw_alloc | apply bw_drew | apply bw_drewN | refine bw_set _ ?_ (by omega) | refine bw_then ?_ (by assumption)))) (by simp only [World.size_alloc, World.size_setCell, World.size_drew, sz_drewN]; omega)⟩, (by with_reducible repeat (first | assumption | exact bw_refl _ | apply bw_alloc | apply bw_drew | apply bw_drewN | refine bw_set _ ?_ (by omega) | refine bw_then ?_ (by assumption)))⟩
end Go.Proofs.Ytinnfahmfggghaa
