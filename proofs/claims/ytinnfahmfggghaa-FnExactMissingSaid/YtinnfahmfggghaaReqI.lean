/- Requests: the program's side; for all valid networks. -/
import Derived.Test.YtinnfahmfggghaaNetOkI
import Derived.Test.YtinnfahmfggghaaMR
import Derived.IntWalk
set_option linter.unusedVariables false
set_option linter.unusedSimpArgs false
namespace Go.Proofs.Ytinnfahmfggghaa
open Go.RowKit Go.Proofs.YtinnfahmfggghaaW.PrintWords
open NoC

theorem rdB_int {e : Nat} {w : World} {A : Option Addr} {l : List (List Flit)} (h : (kB e).C w A l.length l) (i : Int) (h0 : 0 ≤ i) (h1 : i < (l.length : Int)) :
    ∃ b off, A = some ⟨b, off, none⟩ ∧ b < w.heap.size ∧ ∃ Ai ci, w.cell? ⟨b, off + i.toNat, none⟩ = some (.slice Ai (rl l i).length ci) ∧ (rl l i).length ≤ ci ∧ kF.C w Ai (rl l i).length (rl l i) := by
  obtain ⟨b, off, e1, hb, Ai, ci, h2, h3, h4⟩ := rdB_at h i.toNat (by omega)
  rw [Int.toNat_of_nonneg h0] at h2 h3 h4
  exact ⟨b, off, e1, hb, Ai, ci, h2, h3, h4⟩
theorem rdI_int {w : World} {A : Option Addr} {l : List Int} (h : Kd.C (Kd.int .i64) w A l.length l) (i : Int) (h0 : 0 ≤ i) (h1 : i < (l.length : Int)) :
    ∃ b off, A = some ⟨b, off, none⟩ ∧ b < w.heap.size ∧ w.cell? ⟨b, off + i.toNat, none⟩ = some (.int .i64 (ri l i)) := by
  obtain ⟨b, off, e1, hb, h2⟩ := rdI_at h i.toNat (by omega)
  have h3 := h2 i.toNat (by omega)
  rw [Int.toNat_of_nonneg h0] at h3
  exact ⟨b, off, e1, hb, h3⟩
theorem rdI_all {w : World} {A : Option Addr} {l : List Int} (h : Kd.C (Kd.int .i64) w A l.length l) (h0 : 0 < l.length) :
    ∃ b off, A = some ⟨b, off, none⟩ ∧ b < w.heap.size ∧ ∀ i : Int, 0 ≤ i → i < (l.length : Int) → w.cell? ⟨b, off + i.toNat, none⟩ = some (.int .i64 (ri l i)) := by
  obtain ⟨b, off, e1, hb, h2⟩ := rdI_at h 0 h0
  refine ⟨b, off, e1, hb, fun i i0 i1 => ?_⟩
  have h3 := h2 i.toNat (by omega)
  rwa [Int.toNat_of_nonneg i0] at h3
/-- The first flit of a row. -/
theorem rdFl_0 {w : World} {A : Option Addr} {l : List Flit} (h : kF.C w A l.length l) (h0 : 0 < l.length) :
    ∃ b off, A = some ⟨b, off, none⟩ ∧ b < w.heap.size ∧ w.cell? ⟨b, off, none⟩ = some (.int .i64 (rf l 0).pk) ∧ w.cell? ⟨b, off + 1, none⟩ = some (.int .i64 (rf l 0).dst) ∧ w.cell? ⟨b, off + 2, none⟩ = some (.int .i64 (rf l 0).cls) ∧ w.cell? ⟨b, off + 3, none⟩ = some (.bool (rf l 0).head) ∧ w.cell? ⟨b, off + 4, none⟩ = some (.bool (rf l 0).tail) := by
  obtain ⟨b, off, e, hb, p0, p1, p2, p3, p4⟩ := rdFl_at h 0 h0
  simp only [Nat.zero_mul, Nat.add_zero] at p0 p1 p2 p3 p4
  exact ⟨b, off, e, hb, p0, p1, p2, p3, p4⟩
theorem rl_int_mem {l : List (List Flit)} {i : Int} (h0 : 0 ≤ i) (h1 : i < (l.length : Int)) : rl l i ∈ l := by
  rw [rl_nat l i h0]
  exact rl_mem (by omega)
theorem impl_BufferAt (a p c : Int) (w : World) (h0 : 0 ≤ a) (h1 : a ≤ 15) (h2 : 0 ≤ p) (h3 : p ≤ 4) (h4 : 0 ≤ c) (h5 : c ≤ 1) :
    Calls Try.prog 154 #[.int .i64 a, .int .i64 p, .int .i64 c] w fun e w' => e = .returned (.int .i64 (10 * a + 2 * p + c)) ∧ w = w' := by
  have i1 : inside a 0 15 = true := inside_iff.2 ⟨h0, h1⟩
  have i2 : inside p 0 4 = true := inside_iff.2 ⟨h2, h3⟩
  have i3 : inside c 0 1 = true := inside_iff.2 ⟨h4, h5⟩
  go_enter Try.func154, Try.ntmps154
  go_wp2_with (first | (go_at_call 135; refine (impl_inside _ _ _ _).mono ?_; rintro e w' ⟨rfl, rfl⟩) | (go_at_call 122; refine (spec_l01In _ _ _ _).mono ?_; rintro e w' ⟨rfl, rfl⟩))
  go_ret
  exact ⟨ret_int (by omega), rfl⟩
set_option maxHeartbeats 4000000 in
set_option maxRecDepth 100000 in
theorem impl_wanted (n : Net) (q : NA) (bx : Nat) (a i : Int) (w : World) (hr : NetR 142 w n q) (hx : Box w bx (netCells n q)) (ha : At n a i) :
    Calls Try.prog 150 #[.pointer (some ⟨bx, 0, none⟩), .int .i64 a, .int .i64 i] w fun e w' => e = .returned (.int .i64 (wantedN n a i)) ∧ Below w.heap.size w w' := by
  obtain ⟨a1, a2, a3, a4, a5, a6, a7, a8, c1, c2, c3, c4, c5, c6, c7, c8⟩ := q; obtain ⟨Rbr, Rpa, Rpb, Rbu, Row, Rtu, Rso, Rar, L1, L2, L3, L4, L5, L6, L7, L8, L9, L10, L11⟩ := hr; have M9 := Lib.hid L9; have M10 := Lib.hid L10; have M11 := Lib.hid L11; clear L9 L10 L11; dsimp only [netCells] at *
  have xl := hx.lt; have x0 : w.cell? ⟨bx, 0, none⟩ = some (.int .i64 n.mesh.g.w) := hx.get 0; have x1 : w.cell? ⟨bx, 1, none⟩ = some (.int .i64 n.mesh.g.h) := hx.get 1; have x2 : w.cell? ⟨bx, 2, none⟩ = some (.slice a1 n.mesh.br.length c1) := hx.get 2; have x3 : w.cell? ⟨bx, 3, none⟩ = some (.slice a2 n.pa.length c2) := hx.get 3; have x4 : w.cell? ⟨bx, 4, none⟩ = some (.slice a3 n.pb.length c3) := hx.get 4; have x5 : w.cell? ⟨bx, 5, none⟩ = some (.slice a4 n.bufs.length c4) := hx.get 5; have x6 : w.cell? ⟨bx, 6, none⟩ = some (.slice a5 n.owners.length c5) := hx.get 6; have x7 : w.cell? ⟨bx, 7, none⟩ = some (.slice a6 n.turns.length c6) := hx.get 7; have x8 : w.cell? ⟨bx, 8, none⟩ = some (.slice a7 n.srcs.length c7) := hx.get 8; have x9 : w.cell? ⟨bx, 9, none⟩ = some (.slice a8 n.arrs.length c8) := hx.get 9; have x10 : w.cell? ⟨bx, 10, none⟩ = some (.int .i64 n.time) := hx.get 10; clear hx
  have HA := Lib.hid ha
  obtain ⟨a0, a15, j0, j1, j2, j3, j4, j5⟩ := ha.idx
  have i0 := ha.i0
  have i9 := ha.i9
  clear ha
  by_cases hl : (bufOf n a i).length = 0
  · have HW := Lib.hid (wanted_1 hl)
    unfold bufOf at hl
    obtain ⟨b, off, rfl, hb, Ai, ci, p0, hle, hCi⟩ := rdB_int Rbu (10 * a + i) j0 j1
    obtain ⟨l, el⟩ : ∃ l, rl n.bufs (10 * a + i) = l := ⟨_, rfl⟩
    rw [el] at hl p0 hle hCi
    have hl' : ((l.length : Int) == 0) = true := by simp [hl]
    have HL := Lib.hid hl
    clear hl el
    go_enter Try.func150, Try.ntmps150
    go_wp2
    go_ret
    exact ⟨ret_int HW.out.symm, (by with_reducible repeat (first | assumption | exact bw_refl _ | apply bw_alloc | apply bw_drew | apply bw_drewN | refine bw_set _ ?_ (by omega) | refine bw_then ?_ (by assumption)))⟩
  have hl0 : 0 < (bufOf n a i).length := by omega
  obtain ⟨hn1, hn2⟩ := HA.out.buf0 hl0
  have HN1 := Lib.hid hn1
  have HN2 := Lib.hid hn2
  clear hn1 hn2 hl
  cases hh : (rf (bufOf n a i) 0).head
  · have HW := Lib.hid (wanted_3 hl0 hh)
    unfold bufOf at hl0 hh
    obtain ⟨b, off, rfl, hb, Ai, ci, p0, hle, hCi⟩ := rdB_int Rbu (10 * a + i) j0 j1
    obtain ⟨b1, o1, rfl, hb1, q0, q1, q2, q3, q4⟩ := rdFl_0 hCi hl0
    obtain ⟨l, el⟩ : ∃ l, rl n.bufs (10 * a + i) = l := ⟨_, rfl⟩
    rw [el] at hl0 hh p0 hle q0 q1 q2 q3 q4
    have hl' : ((l.length : Int) == 0) = false := by simp; intro h; simp [h] at hl0
    have hl1 : (0 : Int) < (l.length : Int) := by omega
    rw [hh] at q3
    clear hCi el hh
    go_enter Try.func150, Try.ntmps150
    go_wp2
    go_loopw [8] (fun j wr => ∃ k : Nat, j = .int .i64 k ∧ k ≤ 5 ∧ Hid (∀ j : Nat, j < k → ¬ ownAt n a j (i % 2) = i / 2) ∧ Below w.heap.size w wr) (fun j _ => 5 - (intOf j).toNat)
    case atStart => exact ⟨0, rfl, Nat.zero_le _, Lib.hid fun j h => absurd h (Nat.not_lt_zero _), (by with_reducible repeat (first | assumption | exact bw_refl _ | apply bw_alloc | apply bw_drew | apply bw_drewN | refine bw_set _ ?_ (by omega) | refine bw_then ?_ (by assumption)))⟩
    case round =>
      obtain ⟨k, rfl, hk, HK, HB⟩ := hrel
      obtain ⟨hcr, hfr, hzr⟩ := bcell HB
      by_cases hlt : k < 5
      · have k0 : (k : Int) ≤ 4 := by omega
        have m0 : 0 ≤ 10 * a + 2 * (k : Int) + i % 2 := by omega
        have m1 : 10 * a + 2 * (k : Int) + i % 2 < (n.owners.length : Int) := by omega
        obtain ⟨b5, o5, rfl, hb5, r0⟩ := rdI_int Row (10 * a + 2 * (k : Int) + i % 2) m0 m1
        obtain ⟨o, ho⟩ : ∃ o, ri n.owners (10 * a + 2 * (k : Int) + i % 2) = o := ⟨_, rfl⟩
        rw [ho] at r0
        have HO := Lib.hid (show ownAt n a k (i % 2) = o from ho)
        clear ho
        by_cases e1 : o = i / 2
        · have f1 : (o == i / 2) = true := beq_iff_eq.2 e1
          have E1 := Lib.hid (ownPort_yes (n := n) (a := a) (i := i) k hlt (HO.out.trans e1) HK.out)
          clear e1
          go_wp2_with fail
          refine wp_region_far (w) (by kernel_rfl) (by kernel_rfl) (by with_reducible repeat (first | assumption | exact bw_refl _ | apply bw_alloc | apply bw_drew | apply bw_drewN | refine bw_set _ ?_ (by omega) | refine bw_then ?_ (by assumption))) ?_
          have hqc := far_cell (w)
          have hqf := far_frozen (w)
          repeat (first | go_big_quiet_step ((go_at_call 154; exact far_same (impl_BufferAt a k (i % 2) _ (by omega) (by omega) (by omega) (by omega) (by omega) (by omega)))) | quiet_step ((go_at_call 154; exact far_same (impl_BufferAt a k (i % 2) _ (by omega) (by omega) (by omega) (by omega) (by omega) (by omega)))))
          refine wpQuiet_nil ?_
          intro wq hbq
          clear hqc hqf
          obtain ⟨hcq, hfq, hzq⟩ := bcell hbq
          try simp only [World.size_alloc, World.size_setCell, World.size_drew, sz_drewN] at hzq
          go_wp2
          go_ret
          exact ⟨ret_int (by rw [HW.out, E1.out]), (by with_reducible repeat (first | assumption | exact bw_refl _ | apply bw_alloc | apply bw_drew | apply bw_drewN | refine bw_set _ ?_ (by omega) | refine bw_then ?_ (by assumption)))⟩
        · have f1 : (o == i / 2) = false := beq_eq_false_iff_ne.2 e1
          have E1 : Hid (¬ ownAt n a k (i % 2) = i / 2) := Lib.hid (fun h => e1 (HO.out.symm.trans h))
          clear e1
          go_wp2_with fail
          refine wp_region_far (w) (by kernel_rfl) (by kernel_rfl) (by with_reducible repeat (first | assumption | exact bw_refl _ | apply bw_alloc | apply bw_drew | apply bw_drewN | refine bw_set _ ?_ (by omega) | refine bw_then ?_ (by assumption))) ?_
          have hqc := far_cell (w)
          have hqf := far_frozen (w)
          repeat (first | go_big_quiet_step ((go_at_call 154; exact far_same (impl_BufferAt a k (i % 2) _ (by omega) (by omega) (by omega) (by omega) (by omega) (by omega)))) | quiet_step ((go_at_call 154; exact far_same (impl_BufferAt a k (i % 2) _ (by omega) (by omega) (by omega) (by omega) (by omega) (by omega)))))
          refine wpQuiet_nil ?_
          intro wq hbq
          clear hqc hqf
          obtain ⟨hcq, hfq, hzq⟩ := bcell hbq
          try simp only [World.size_alloc, World.size_setCell, World.size_drew, sz_drewN] at hzq
          go_wp2
          go_roundw
          case rel => exact ⟨k + 1, by go_num, by omega, Lib.hid (upto HK.out E1.out), (by with_reducible repeat (first | assumption | exact bw_refl _ | apply bw_alloc | apply bw_drew | apply bw_drewN | refine bw_set _ ?_ (by omega) | refine bw_then ?_ (by assumption)))⟩
          case measure => simp [intOf]; omega
      · have k0 : ¬ (k : Int) ≤ 4 := by omega
        go_wp2
        go_ret
        exact ⟨ret_int (by rw [HW.out, ownPort_no (fun j hj => HK.out j (by omega))]), (by with_reducible repeat (first | assumption | exact bw_refl _ | apply bw_alloc | apply bw_drew | apply bw_drewN | refine bw_set _ ?_ (by omega) | refine bw_then ?_ (by assumption)))⟩
  · have HW := Lib.hid (wanted_2 hl0 hh)
    have HP := Lib.hid (portAt_entry (ok_tab HA.out.ok (i % 2)) HA.out.nd HN1.out)
    unfold bufOf at hl0 hh
    obtain ⟨b, off, rfl, hb, Ai, ci, p0, hle, hCi⟩ := rdB_int Rbu (10 * a + i) j0 j1
    obtain ⟨b1, o1, rfl, hb1, q0, q1, q2, q3, q4⟩ := rdFl_0 hCi hl0
    obtain ⟨l, el⟩ : ∃ l, rl n.bufs (10 * a + i) = l := ⟨_, rfl⟩
    unfold bufOf at HN2 HP HW
    rw [el] at hl0 hh p0 hle q0 q1 q2 q3 q4 HN2 HP HW
    have hl' : ((l.length : Int) == 0) = false := by simp; intro h; simp [h] at hl0
    have hl1 : (0 : Int) < (l.length : Int) := by omega
    rw [hh] at q3
    clear hCi el hh
    obtain ⟨c, ec⟩ : ∃ c, (rf l 0).cls = c := ⟨_, rfl⟩
    rw [ec] at q2 HN2
    clear ec
    by_cases hc : c = 1
    · have hc1 : (c == 1) = true := beq_iff_eq.2 hc
      have HT : Hid (tabOf n.pa n.pb (i % 2) = n.pb) := Lib.hid (by rw [← HN2.out, hc]; rfl)
      rw [HT.out] at HP HW
      clear hc
      go_enter Try.func150, Try.ntmps150
      go_wp2_with fail
      go_region_held3 (fun w' => Below (w).heap.size (w) w' ∧ ∀ bq oq, bq < (w).heap.size → w'.cell? ⟨bq, oq, none⟩ = (w).cell? ⟨bq, oq, none⟩) (first | exact far_of (by with_reducible repeat (first | assumption | exact bw_refl _ | apply bw_alloc | apply bw_drew | apply bw_drewN | refine bw_set _ ?_ (by omega) | refine bw_then ?_ (by assumption)))) ( first | (go_at_call 167; refine (impl_tableFor_b n.pa n.pb a2 a3 c2 c3 c hc1 _).mono ?_; rintro e w1 ⟨rfl, hb1⟩; obtain ⟨hc1, hf1, hz1⟩ := bcell hb1; (try simp only [World.size_alloc, World.size_setCell, World.size_drew, sz_drewN] at hz1); have hb2 := (by first | exact bw_then hb2 hb1 | exact bw_then (bw_drewN _ hb2) hb1 | exact bw_then (bw_alloc _ hb2) hb1 | exact bw_then (bw_drew hb2) hb1 | exact bw_then HB hb1 | exact bw_then (bw_drewN _ HB) hb1 | exact bw_then (bw_alloc _ HB) hb1 | exact bw_then (bw_drew HB) hb1 | exact hb1); obtain ⟨hc2, hf2, hz2⟩ := bcell hb2; (try simp only [World.size_alloc, World.size_setCell, World.size_drew, sz_drewN] at hz2); try (first | obtain ⟨hy1, hy2, hy3, hy4⟩ := lts4 hz2 | obtain ⟨hy1, hy2, hy3⟩ := lts3 hz2 | obtain ⟨hy1, hy2⟩ := lts2 hz2 | have hy1 := lts1 hz2); have hb9 := hb1) | (go_at_call 166; refine (impl_PortAt n.mesh n.pb a (rf l 0).dst a1 a3 _ _ _ (by exact Kd.C_below Rbr (by with_reducible repeat (first | assumption | exact bw_refl _ | apply bw_alloc | apply bw_drew | apply bw_drewN | refine bw_set _ ?_ (by omega) | refine bw_then ?_ (by assumption)))) L1 (by exact Kd.C_below Rpb (by with_reducible repeat (first | assumption | exact bw_refl _ | apply bw_alloc | apply bw_drew | apply bw_drewN | refine bw_set _ ?_ (by omega) | refine bw_then ?_ (by assumption)))) L3).mono ?_; rintro e w1 ⟨rfl, hb1⟩; obtain ⟨hc1, hf1, hz1⟩ := bcell hb1; (try simp only [World.size_alloc, World.size_setCell, World.size_drew, sz_drewN] at hz1); have hb2 := (by first | exact bw_then hb2 hb1 | exact bw_then (bw_drewN _ hb2) hb1 | exact bw_then (bw_alloc _ hb2) hb1 | exact bw_then (bw_drew hb2) hb1 | exact bw_then HB hb1 | exact bw_then (bw_drewN _ HB) hb1 | exact bw_then (bw_alloc _ HB) hb1 | exact bw_then (bw_drew HB) hb1 | exact hb1); obtain ⟨hc2, hf2, hz2⟩ := bcell hb2; (try simp only [World.size_alloc, World.size_setCell, World.size_drew, sz_drewN] at hz2); try (first | obtain ⟨hy1, hy2, hy3, hy4⟩ := lts4 hz2 | obtain ⟨hy1, hy2, hy3⟩ := lts3 hz2 | obtain ⟨hy1, hy2⟩ := lts2 hz2 | have hy1 := lts1 hz2); have hb9 := hb1))
      go_wp2
      go_ret
      exact ⟨ret_int (by rw [HW.out, HP.out]), (by with_reducible repeat (first | assumption | exact bw_refl _ | apply bw_alloc | apply bw_drew | apply bw_drewN | refine bw_set _ ?_ (by omega) | refine bw_then ?_ (by assumption)))⟩
    · have hc1 : (c == 1) = false := beq_eq_false_iff_ne.2 hc
      have HT : Hid (tabOf n.pa n.pb (i % 2) = n.pa) := Lib.hid (by rw [← HN2.out]; exact if_neg hc)
      rw [HT.out] at HP HW
      clear hc
      go_enter Try.func150, Try.ntmps150
      go_wp2_with fail
      go_region_held3 (fun w' => Below (w).heap.size (w) w' ∧ ∀ bq oq, bq < (w).heap.size → w'.cell? ⟨bq, oq, none⟩ = (w).cell? ⟨bq, oq, none⟩) (first | exact far_of (by with_reducible repeat (first | assumption | exact bw_refl _ | apply bw_alloc | apply bw_drew | apply bw_drewN | refine bw_set _ ?_ (by omega) | refine bw_then ?_ (by assumption)))) ( first | (go_at_call 167; refine (impl_tableFor_a n.pa n.pb a2 a3 c2 c3 c hc1 _).mono ?_; rintro e w1 ⟨rfl, hb1⟩; obtain ⟨hc1, hf1, hz1⟩ := bcell hb1; (try simp only [World.size_alloc, World.size_setCell, World.size_drew, sz_drewN] at hz1); have hb2 := (by first | exact bw_then hb2 hb1 | exact bw_then (bw_drewN _ hb2) hb1 | exact bw_then (bw_alloc _ hb2) hb1 | exact bw_then (bw_drew hb2) hb1 | exact bw_then HB hb1 | exact bw_then (bw_drewN _ HB) hb1 | exact bw_then (bw_alloc _ HB) hb1 | exact bw_then (bw_drew HB) hb1 | exact hb1); obtain ⟨hc2, hf2, hz2⟩ := bcell hb2; (try simp only [World.size_alloc, World.size_setCell, World.size_drew, sz_drewN] at hz2); try (first | obtain ⟨hy1, hy2, hy3, hy4⟩ := lts4 hz2 | obtain ⟨hy1, hy2, hy3⟩ := lts3 hz2 | obtain ⟨hy1, hy2⟩ := lts2 hz2 | have hy1 := lts1 hz2); have hb9 := hb1) | (go_at_call 166; refine (impl_PortAt n.mesh n.pa a (rf l 0).dst a1 a2 _ _ _ (by exact Kd.C_below Rbr (by with_reducible repeat (first | assumption | exact bw_refl _ | apply bw_alloc | apply bw_drew | apply bw_drewN | refine bw_set _ ?_ (by omega) | refine bw_then ?_ (by assumption)))) L1 (by exact Kd.C_below Rpa (by with_reducible repeat (first | assumption | exact bw_refl _ | apply bw_alloc | apply bw_drew | apply bw_drewN | refine bw_set _ ?_ (by omega) | refine bw_then ?_ (by assumption)))) L2).mono ?_; rintro e w1 ⟨rfl, hb1⟩; obtain ⟨hc1, hf1, hz1⟩ := bcell hb1; (try simp only [World.size_alloc, World.size_setCell, World.size_drew, sz_drewN] at hz1); have hb2 := (by first | exact bw_then hb2 hb1 | exact bw_then (bw_drewN _ hb2) hb1 | exact bw_then (bw_alloc _ hb2) hb1 | exact bw_then (bw_drew hb2) hb1 | exact bw_then HB hb1 | exact bw_then (bw_drewN _ HB) hb1 | exact bw_then (bw_alloc _ HB) hb1 | exact bw_then (bw_drew HB) hb1 | exact hb1); obtain ⟨hc2, hf2, hz2⟩ := bcell hb2; (try simp only [World.size_alloc, World.size_setCell, World.size_drew, sz_drewN] at hz2); try (first | obtain ⟨hy1, hy2, hy3, hy4⟩ := lts4 hz2 | obtain ⟨hy1, hy2, hy3⟩ := lts3 hz2 | obtain ⟨hy1, hy2⟩ := lts2 hz2 | have hy1 := lts1 hz2); have hb9 := hb1))
      go_wp2
      go_ret
      exact ⟨ret_int (by rw [HW.out, HP.out]), (by with_reducible repeat (first | assumption | exact bw_refl _ | apply bw_alloc | apply bw_drew | apply bw_drewN | refine bw_set _ ?_ (by omega) | refine bw_then ?_ (by assumption)))⟩
set_option maxHeartbeats 4000000 in
theorem impl_behind (n : Net) (q : NA) (bx : Nat) (a p c : Int) (w : World) (hr : NetR 142 w n q) (hx : Box w bx (netCells n q)) (ok : netOk n = true) (nd : isNode n.mesh.g a = true) (p0 : 0 ≤ p) (p4 : p ≤ 4) (g0 : 0 ≤ c) (g1 : c ≤ 1) :
    Calls Try.prog 153 #[.pointer (some ⟨bx, 0, none⟩), .int .i64 a, .int .i64 p, .int .i64 c] w fun e w' => e = .returned (.int .i64 (behindN n a p c)) ∧ Below w.heap.size w w' := by
  obtain ⟨_, _, _, a15⟩ := node_bounds nd
  have a0 := (isNode_iff.1 nd).1
  have OK := Lib.hid ok
  have ND := Lib.hid nd
  clear nd ok
  obtain ⟨a1, a2, a3, a4, a5, a6, a7, a8, c1, c2, c3, c4, c5, c6, c7, c8⟩ := q; obtain ⟨Rbr, Rpa, Rpb, Rbu, Row, Rtu, Rso, Rar, L1, L2, L3, L4, L5, L6, L7, L8, L9, L10, L11⟩ := hr; have M9 := Lib.hid L9; have M10 := Lib.hid L10; have M11 := Lib.hid L11; clear L9 L10 L11; dsimp only [netCells] at *
  have xl := hx.lt; have x0 : w.cell? ⟨bx, 0, none⟩ = some (.int .i64 n.mesh.g.w) := hx.get 0; have x1 : w.cell? ⟨bx, 1, none⟩ = some (.int .i64 n.mesh.g.h) := hx.get 1; have x2 : w.cell? ⟨bx, 2, none⟩ = some (.slice a1 n.mesh.br.length c1) := hx.get 2; have x3 : w.cell? ⟨bx, 3, none⟩ = some (.slice a2 n.pa.length c2) := hx.get 3; have x4 : w.cell? ⟨bx, 4, none⟩ = some (.slice a3 n.pb.length c3) := hx.get 4; have x5 : w.cell? ⟨bx, 5, none⟩ = some (.slice a4 n.bufs.length c4) := hx.get 5; have x6 : w.cell? ⟨bx, 6, none⟩ = some (.slice a5 n.owners.length c5) := hx.get 6; have x7 : w.cell? ⟨bx, 7, none⟩ = some (.slice a6 n.turns.length c6) := hx.get 7; have x8 : w.cell? ⟨bx, 8, none⟩ = some (.slice a7 n.srcs.length c7) := hx.get 8; have x9 : w.cell? ⟨bx, 9, none⟩ = some (.slice a8 n.arrs.length c8) := hx.get 9; have x10 : w.cell? ⟨bx, 10, none⟩ = some (.int .i64 n.time) := hx.get 10; clear hx
  by_cases h4 : p = 4
  · subst h4
    go_enter Try.func153, Try.ntmps153
    go_wp2
    go_ret
    exact ⟨rfl, (by with_reducible repeat (first | assumption | exact bw_refl _ | apply bw_alloc | apply bw_drew | apply bw_drewN | refine bw_set _ ?_ (by omega) | refine bw_then ?_ (by assumption)))⟩
  have p3 : p ≤ 3 := by omega
  have e4 : (p == 4) = false := beq_eq_false_iff_ne.2 h4
  clear h4 p4
  cases hl : live n.mesh (4 * a + p)
  · have HN : Hid (behindN n a p c = -1) := Lib.hid (by rw [behindN, if_neg (by omega), if_neg (by simp [hl])])
    go_enter Try.func153, Try.ntmps153
    go_wp2_with (go_at_call 151; refine (impl_live n.mesh (4 * a + p) a1 _ _ (by exact Kd.C_below Rbr (by with_reducible repeat (first | assumption | exact bw_refl _ | apply bw_alloc | apply bw_drew | apply bw_drewN | refine bw_set _ ?_ (by omega) | refine bw_then ?_ (by assumption)))) L1).mono ?_; rintro e w1 ⟨rfl, hb1⟩; obtain ⟨hc1, hf1, hz1⟩ := bcell hb1; (try simp only [World.size_alloc, World.size_setCell, World.size_drew, sz_drewN] at hz1); have hb2 := (by first | exact bw_then hb2 hb1 | exact bw_then (bw_drewN _ hb2) hb1 | exact bw_then (bw_alloc _ hb2) hb1 | exact bw_then (bw_drew hb2) hb1 | exact bw_then HB hb1 | exact bw_then (bw_drewN _ HB) hb1 | exact bw_then (bw_alloc _ HB) hb1 | exact bw_then (bw_drew HB) hb1 | exact hb1); obtain ⟨hc2, hf2, hz2⟩ := bcell hb2; (try simp only [World.size_alloc, World.size_setCell, World.size_drew, sz_drewN] at hz2); try (first | obtain ⟨hy1, hy2, hy3, hy4⟩ := lts4 hz2 | obtain ⟨hy1, hy2, hy3⟩ := lts3 hz2 | obtain ⟨hy1, hy2⟩ := lts2 hz2 | have hy1 := lts1 hz2); have hb9 := hb1)
    go_ret
    exact ⟨ret_int HN.out.symm, (by with_reducible repeat (first | assumption | exact bw_refl _ | apply bw_alloc | apply bw_drew | apply bw_drewN | refine bw_set _ ?_ (by omega) | refine bw_then ?_ (by assumption)))⟩
  · have HN : Hid (behindN n a p c = 10 * nextNode n.mesh.g a p + 2 * opposite p + c) := Lib.hid (by rw [behindN, if_neg (by omega), if_pos hl]; rfl)
    obtain ⟨_, v0, v1, v2, v3, _, _⟩ := behind_idx (c := c) OK.out p0 p3 hl g0 g1
    go_enter Try.func153, Try.ntmps153
    go_wp2_with (first | (go_at_call 151; refine (impl_live n.mesh (4 * a + p) a1 _ _ (by exact Kd.C_below Rbr (by with_reducible repeat (first | assumption | exact bw_refl _ | apply bw_alloc | apply bw_drew | apply bw_drewN | refine bw_set _ ?_ (by omega) | refine bw_then ?_ (by assumption)))) L1).mono ?_; rintro e w1 ⟨rfl, hb1⟩; obtain ⟨hc1, hf1, hz1⟩ := bcell hb1; (try simp only [World.size_alloc, World.size_setCell, World.size_drew, sz_drewN] at hz1); have hb2 := (by first | exact bw_then hb2 hb1 | exact bw_then (bw_drewN _ hb2) hb1 | exact bw_then (bw_alloc _ hb2) hb1 | exact bw_then (bw_drew hb2) hb1 | exact bw_then HB hb1 | exact bw_then (bw_drewN _ HB) hb1 | exact bw_then (bw_alloc _ HB) hb1 | exact bw_then (bw_drew HB) hb1 | exact hb1); obtain ⟨hc2, hf2, hz2⟩ := bcell hb2; (try simp only [World.size_alloc, World.size_setCell, World.size_drew, sz_drewN] at hz2); try (first | obtain ⟨hy1, hy2, hy3, hy4⟩ := lts4 hz2 | obtain ⟨hy1, hy2, hy3⟩ := lts3 hz2 | obtain ⟨hy1, hy2⟩ := lts2 hz2 | have hy1 := lts1 hz2); have hb9 := hb1) | (go_at_call 169; refine (impl_endOf n.mesh a p a1 _ _ ND.out p0 p3).mono ?_; rintro e w1 ⟨rfl, hb1⟩; obtain ⟨hc1, hf1, hz1⟩ := bcell hb1; (try simp only [World.size_alloc, World.size_setCell, World.size_drew, sz_drewN] at hz1); have hb2 := (by first | exact bw_then hb2 hb1 | exact bw_then (bw_drewN _ hb2) hb1 | exact bw_then (bw_alloc _ hb2) hb1 | exact bw_then (bw_drew hb2) hb1 | exact bw_then HB hb1 | exact bw_then (bw_drewN _ HB) hb1 | exact bw_then (bw_alloc _ HB) hb1 | exact bw_then (bw_drew HB) hb1 | exact hb1); obtain ⟨hc2, hf2, hz2⟩ := bcell hb2; (try simp only [World.size_alloc, World.size_setCell, World.size_drew, sz_drewN] at hz2); try (first | obtain ⟨hy1, hy2, hy3, hy4⟩ := lts4 hz2 | obtain ⟨hy1, hy2, hy3⟩ := lts3 hz2 | obtain ⟨hy1, hy2⟩ := lts2 hz2 | have hy1 := lts1 hz2); have hb9 := hb1) | (go_at_call 170; refine (impl_Opposite p _).mono ?_; rintro e w1 ⟨rfl, hb1⟩; obtain ⟨hc1, hf1, hz1⟩ := bcell hb1; (try simp only [World.size_alloc, World.size_setCell, World.size_drew, sz_drewN] at hz1); have hb2 := (by first | exact bw_then hb2 hb1 | exact bw_then (bw_drewN _ hb2) hb1 | exact bw_then (bw_alloc _ hb2) hb1 | exact bw_then (bw_drew hb2) hb1 | exact bw_then HB hb1 | exact bw_then (bw_drewN _ HB) hb1 | exact bw_then (bw_alloc _ HB) hb1 | exact bw_then (bw_drew HB) hb1 | exact hb1); obtain ⟨hc2, hf2, hz2⟩ := bcell hb2; (try simp only [World.size_alloc, World.size_setCell, World.size_drew, sz_drewN] at hz2); try (first | obtain ⟨hy1, hy2, hy3, hy4⟩ := lts4 hz2 | obtain ⟨hy1, hy2, hy3⟩ := lts3 hz2 | obtain ⟨hy1, hy2⟩ := lts2 hz2 | have hy1 := lts1 hz2); have hb9 := hb1) | (go_at_call 154; refine (impl_BufferAt _ _ c _ v0 v1 v2 (by omega) g0 g1).mono ?_; rintro e w' ⟨rfl, rfl⟩))
    go_ret
    exact ⟨ret_int HN.out.symm, (by with_reducible repeat (first | assumption | exact bw_refl _ | apply bw_alloc | apply bw_drew | apply bw_drewN | refine bw_set _ ?_ (by omega) | refine bw_then ?_ (by assumption)))⟩
set_option maxHeartbeats 4000000 in
theorem impl_hasRoom (n : Net) (q : NA) (bx : Nat) (a p c : Int) (w : World) (hr : NetR 142 w n q) (hx : Box w bx (netCells n q)) (ok : netOk n = true) (nd : isNode n.mesh.g a = true) (p0 : 0 ≤ p) (p4 : p ≤ 4) (g0 : 0 ≤ c) (g1 : c ≤ 1) :
    Calls Try.prog 152 #[.pointer (some ⟨bx, 0, none⟩), .int .i64 a, .int .i64 p, .int .i64 c] w fun e w' => e = .returned (.bool (roomN n a p c)) ∧ Below w.heap.size w w' := by
  have R := Lib.hid hr
  have X := Lib.hid hx
  have OK := Lib.hid ok
  have ND := Lib.hid nd
  clear ok nd
  obtain ⟨a1, a2, a3, a4, a5, a6, a7, a8, c1, c2, c3, c4, c5, c6, c7, c8⟩ := q; obtain ⟨Rbr, Rpa, Rpb, Rbu, Row, Rtu, Rso, Rar, L1, L2, L3, L4, L5, L6, L7, L8, L9, L10, L11⟩ := hr; have M9 := Lib.hid L9; have M10 := Lib.hid L10; have M11 := Lib.hid L11; clear L9 L10 L11; dsimp only [netCells] at *
  have xl := hx.lt; have x0 : w.cell? ⟨bx, 0, none⟩ = some (.int .i64 n.mesh.g.w) := hx.get 0; have x1 : w.cell? ⟨bx, 1, none⟩ = some (.int .i64 n.mesh.g.h) := hx.get 1; have x2 : w.cell? ⟨bx, 2, none⟩ = some (.slice a1 n.mesh.br.length c1) := hx.get 2; have x3 : w.cell? ⟨bx, 3, none⟩ = some (.slice a2 n.pa.length c2) := hx.get 3; have x4 : w.cell? ⟨bx, 4, none⟩ = some (.slice a3 n.pb.length c3) := hx.get 4; have x5 : w.cell? ⟨bx, 5, none⟩ = some (.slice a4 n.bufs.length c4) := hx.get 5; have x6 : w.cell? ⟨bx, 6, none⟩ = some (.slice a5 n.owners.length c5) := hx.get 6; have x7 : w.cell? ⟨bx, 7, none⟩ = some (.slice a6 n.turns.length c6) := hx.get 7; have x8 : w.cell? ⟨bx, 8, none⟩ = some (.slice a7 n.srcs.length c7) := hx.get 8; have x9 : w.cell? ⟨bx, 9, none⟩ = some (.slice a8 n.arrs.length c8) := hx.get 9; have x10 : w.cell? ⟨bx, 10, none⟩ = some (.int .i64 n.time) := hx.get 10; clear hx
  by_cases h4 : p = 4
  · subst h4
    go_enter Try.func152, Try.ntmps152
    go_wp2
    go_ret
    exact ⟨rfl, (by with_reducible repeat (first | assumption | exact bw_refl _ | apply bw_alloc | apply bw_drew | apply bw_drewN | refine bw_set _ ?_ (by omega) | refine bw_then ?_ (by assumption)))⟩
  have p3 : p ≤ 3 := by omega
  have e4 : (p == 4) = false := beq_eq_false_iff_ne.2 h4
  clear h4
  cases hl : live n.mesh (4 * a + p)
  · have HN := Lib.hid (room_no (c := c) p3 hl)
    have HB : Hid (behindN n a p c = -1) := Lib.hid (by rw [behindN, if_neg (by omega), if_neg (by simp [hl])])
    go_enter Try.func152, Try.ntmps152
    go_wp2_with (go_at_call 153; refine (impl_behind n _ bx a p c _ R.out X.out OK.out ND.out p0 p4 g0 g1).mono ?_; rintro e w1 ⟨he, hb1⟩; rw [HB.out] at he; subst he; obtain ⟨hc1, hf1, hz1⟩ := bcell hb1; (try simp only [World.size_alloc, World.size_setCell, World.size_drew, sz_drewN] at hz1); have hb2 := (by first | exact bw_then hb2 hb1 | exact bw_then (bw_drewN _ hb2) hb1 | exact bw_then (bw_alloc _ hb2) hb1 | exact bw_then (bw_drew hb2) hb1 | exact bw_then HB hb1 | exact bw_then (bw_drewN _ HB) hb1 | exact bw_then (bw_alloc _ HB) hb1 | exact bw_then (bw_drew HB) hb1 | exact hb1); obtain ⟨hc2, hf2, hz2⟩ := bcell hb2; (try simp only [World.size_alloc, World.size_setCell, World.size_drew, sz_drewN] at hz2); try (first | obtain ⟨hy1, hy2, hy3, hy4⟩ := lts4 hz2 | obtain ⟨hy1, hy2, hy3⟩ := lts3 hz2 | obtain ⟨hy1, hy2⟩ := lts2 hz2 | have hy1 := lts1 hz2); have hb9 := hb1)
    go_ret
    exact ⟨ret_bool HN.out.symm, (by with_reducible repeat (first | assumption | exact bw_refl _ | apply bw_alloc | apply bw_drew | apply bw_drewN | refine bw_set _ ?_ (by omega) | refine bw_then ?_ (by assumption)))⟩
  · have HN := Lib.hid (room_yes (c := c) p3 hl)
    have HB : Hid (behindN n a p c = behindI n a p c) := Lib.hid (by rw [behindN, if_neg (by omega), if_pos hl])
    obtain ⟨_, _, _, _, _, v4, v5⟩ := behind_idx (c := c) OK.out p0 p3 hl g0 g1
    obtain ⟨t, ht⟩ : ∃ t, behindI n a p c = t := ⟨_, rfl⟩
    rw [ht] at HN HB v4 v5
    clear ht
    obtain ⟨b, off, rfl, hb, Ai, ci, r0, hle, hCi⟩ := rdB_int Rbu t v4 v5
    by_cases h3 : (rl n.bufs t).length < 3
    · have f3 : ((rl n.bufs t).length : Int) < 3 := by omega
      have H3 := Lib.hid h3
      go_enter Try.func152, Try.ntmps152
      go_wp2_with (go_at_call 153; refine (impl_behind n _ bx a p c _ R.out X.out OK.out ND.out p0 p4 g0 g1).mono ?_; rintro e w1 ⟨he, hb1⟩; rw [HB.out] at he; subst he; obtain ⟨hc1, hf1, hz1⟩ := bcell hb1; (try simp only [World.size_alloc, World.size_setCell, World.size_drew, sz_drewN] at hz1); have hb2 := (by first | exact bw_then hb2 hb1 | exact bw_then (bw_drewN _ hb2) hb1 | exact bw_then (bw_alloc _ hb2) hb1 | exact bw_then (bw_drew hb2) hb1 | exact bw_then HB hb1 | exact bw_then (bw_drewN _ HB) hb1 | exact bw_then (bw_alloc _ HB) hb1 | exact bw_then (bw_drew HB) hb1 | exact hb1); obtain ⟨hc2, hf2, hz2⟩ := bcell hb2; (try simp only [World.size_alloc, World.size_setCell, World.size_drew, sz_drewN] at hz2); try (first | obtain ⟨hy1, hy2, hy3, hy4⟩ := lts4 hz2 | obtain ⟨hy1, hy2, hy3⟩ := lts3 hz2 | obtain ⟨hy1, hy2⟩ := lts2 hz2 | have hy1 := lts1 hz2); have hb9 := hb1)
      go_ret
      exact ⟨ret_bool (by rw [HN.out, decide_eq_true H3.out]), (by with_reducible repeat (first | assumption | exact bw_refl _ | apply bw_alloc | apply bw_drew | apply bw_drewN | refine bw_set _ ?_ (by omega) | refine bw_then ?_ (by assumption)))⟩
    · have f3 : ¬ ((rl n.bufs t).length : Int) < 3 := by omega
      have H3 := Lib.hid h3
      go_enter Try.func152, Try.ntmps152
      go_wp2_with (go_at_call 153; refine (impl_behind n _ bx a p c _ R.out X.out OK.out ND.out p0 p4 g0 g1).mono ?_; rintro e w1 ⟨he, hb1⟩; rw [HB.out] at he; subst he; obtain ⟨hc1, hf1, hz1⟩ := bcell hb1; (try simp only [World.size_alloc, World.size_setCell, World.size_drew, sz_drewN] at hz1); have hb2 := (by first | exact bw_then hb2 hb1 | exact bw_then (bw_drewN _ hb2) hb1 | exact bw_then (bw_alloc _ hb2) hb1 | exact bw_then (bw_drew hb2) hb1 | exact bw_then HB hb1 | exact bw_then (bw_drewN _ HB) hb1 | exact bw_then (bw_alloc _ HB) hb1 | exact bw_then (bw_drew HB) hb1 | exact hb1); obtain ⟨hc2, hf2, hz2⟩ := bcell hb2; (try simp only [World.size_alloc, World.size_setCell, World.size_drew, sz_drewN] at hz2); try (first | obtain ⟨hy1, hy2, hy3, hy4⟩ := lts4 hz2 | obtain ⟨hy1, hy2, hy3⟩ := lts3 hz2 | obtain ⟨hy1, hy2⟩ := lts2 hz2 | have hy1 := lts1 hz2); have hb9 := hb1)
      go_ret
      exact ⟨ret_bool (by rw [HN.out, decide_eq_false H3.out]; exact decide_eq_false (by omega)), (by with_reducible repeat (first | assumption | exact bw_refl _ | apply bw_alloc | apply bw_drew | apply bw_drewN | refine bw_set _ ?_ (by omega) | refine bw_then ?_ (by assumption)))⟩
end Go.Proofs.Ytinnfahmfggghaa
