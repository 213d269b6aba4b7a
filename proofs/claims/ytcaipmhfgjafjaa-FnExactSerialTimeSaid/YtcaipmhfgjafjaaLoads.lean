/- Loads of packets, times one after the other: what the program and the reference return; for all meshes, tables and lists of at most a million entries. -/
import Derived.Test.YtcaipmhfgjafjaaLoad
import Derived.Test.YtcaipmhfgjafjaaLawP
import Derived.Test.YtcaipmhfgjafjaaM4
set_option linter.unusedVariables false
set_option linter.unusedSimpArgs false
namespace Go.Proofs.Ytcaipmhfgjafjaa
open Go.RowKit Go.Proofs.YtcaipmhfgjafjaaW.PrintWords
open NoC

set_option maxHeartbeats 1000000 in
set_option maxRecDepth 100000 in
theorem impl_SerialTime (m : Mesh) (pa pb : List Int) (l : List Packet) (A B C D : Option Addr) (c d k n : Nat) (w : World) (hr : Kd.C (Kd.int .i64) w A m.br.length m.br) (hn : m.br.length ≤ 1048576) (ha : Kd.C (Kd.int .i64) w B pa.length pa) (hka : pa.length ≤ 1048576) (hb : Kd.C (Kd.int .i64) w C pb.length pb) (hkb : pb.length ≤ 1048576) (hp : kP.C w D l.length l) (hkl : l.length ≤ 1048576) :
    Calls Try.prog 23 #[.agg #[.int .i64 m.g.w, .int .i64 m.g.h, .slice A m.br.length c], .agg #[.slice B pa.length d, .slice C pb.length k], .slice D l.length n] w fun e w' => e = .returned (.int .i64 (serialTime m pa pb l)) ∧ Below w.heap.size w w' := by
  go_enter Try.func23, Try.ntmps23
  go_wp2
  go_loopw [7, 13] (fun s i wr => ∃ j : Nat, i = .int .i64 j ∧ s = .int .i64 (serTo m pa pb l j) ∧ j ≤ l.length ∧ Hid (∀ x : Nat, x < j → 0 ≤ zeroLoad m pa pb (rp l x)) ∧ Below ((w.alloc (.cells #[.int .i64 m.g.w, .int .i64 m.g.h, .slice A m.br.length c] 38)).alloc (.cells #[.slice B pa.length d, .slice C pb.length k] 42)).heap.size ((w.alloc (.cells #[.int .i64 m.g.w, .int .i64 m.g.h, .slice A m.br.length c] 38)).alloc (.cells #[.slice B pa.length d, .slice C pb.length k] 42)) wr) (fun _ i _ => l.length - (intOf i).toNat)
  case atStart => exact ⟨0, rfl, rfl, Nat.zero_le _, Lib.hid fun x h => absurd h (Nat.not_lt_zero _), (by with_reducible repeat (first | assumption | exact bw_refl _ | apply bw_alloc | apply bw_drew | apply bw_drewN | refine bw_set _ ?_ (by omega) | refine bw_then ?_ (by assumption)))⟩
  case round =>
    obtain ⟨j, rfl, rfl, hj, HA, HB⟩ := hrel
    obtain ⟨hc0, hf0, hz0⟩ := bcell HB
    simp only [World.size_alloc, World.size_setCell, World.size_drew, sz_drewN] at hz0
    obtain ⟨yy1, yy2⟩ := lts2 hz0
    by_cases hlt : j < l.length
    · obtain ⟨b, off, rfl, hbl, p0, p1, p2, p3, p4⟩ := rdP_at hp j hlt
      obtain ⟨z1, z2, z3, z4, z5, z6⟩ := more hbl
      have i0 : (0 : Int) ≤ (j : Int) := by omega
      have i1 : (j : Int) < (l.length : Int) := by omega
      obtain ⟨s0, s1⟩ := serTo_range m pa pb l j hj (fun x hx => Int.not_lt.2 (HA.out x hx))
      obtain ⟨t0, t1⟩ := zeroLoad_le m pa pb (rp l j)
      have HS := Lib.hid (serTo_succ m pa pb l j hlt)
      obtain ⟨z, hz⟩ : ∃ z, zeroLoad m pa pb (rp l j) = z := ⟨_, rfl⟩
      rw [hz] at t0 t1
      have HZ := Lib.hid hz
      clear hz
      by_cases c1 : z < 0
      · go_wp2_with (go_at_call 17; refine (impl_ZeroLoad m pa pb (rp l j) _ _ _ _ _ _ _ (by exact Kd.C_below hr (by with_reducible repeat (first | assumption | exact bw_refl _ | apply bw_alloc | apply bw_drew | apply bw_drewN | refine bw_set _ ?_ (by omega) | refine bw_then ?_ (by assumption)))) hn (by exact Kd.C_below ha (by with_reducible repeat (first | assumption | exact bw_refl _ | apply bw_alloc | apply bw_drew | apply bw_drewN | refine bw_set _ ?_ (by omega) | refine bw_then ?_ (by assumption)))) hka (by exact Kd.C_below hb (by with_reducible repeat (first | assumption | exact bw_refl _ | apply bw_alloc | apply bw_drew | apply bw_drewN | refine bw_set _ ?_ (by omega) | refine bw_then ?_ (by assumption)))) hkb).mono ?_; rintro e w1 ⟨he, hb1⟩; rw [HZ.out] at he; subst he; obtain ⟨hc1, hf1, hz1⟩ := bcell hb1; (try simp only [World.size_alloc, World.size_setCell, World.size_drew, sz_drewN] at hz1); have hb2 := (by first | exact bw_then hb2 hb1 | exact bw_then (bw_drewN _ hb2) hb1 | exact bw_then (bw_alloc _ hb2) hb1 | exact bw_then (bw_drew hb2) hb1 | exact bw_then HB hb1 | exact bw_then (bw_drewN _ HB) hb1 | exact bw_then (bw_alloc _ HB) hb1 | exact bw_then (bw_drew HB) hb1 | exact hb1); obtain ⟨hc2, hf2, hz2⟩ := bcell hb2; (try simp only [World.size_alloc, World.size_setCell, World.size_drew, sz_drewN] at hz2); try (first | obtain ⟨hy1, hy2, hy3, hy4⟩ := lts4 hz2 | obtain ⟨hy1, hy2, hy3⟩ := lts3 hz2 | obtain ⟨hy1, hy2⟩ := lts2 hz2 | have hy1 := lts1 hz2); have hb9 := hb1)
        go_ret
        exact ⟨ret_int (serial_no j hlt (by rw [HZ.out]; exact c1)).symm, (by with_reducible repeat (first | assumption | exact bw_refl _ | apply bw_alloc | apply bw_drew | apply bw_drewN | refine bw_set _ ?_ (by omega) | refine bw_then ?_ (by assumption)))⟩
      · go_wp2_with (go_at_call 17; refine (impl_ZeroLoad m pa pb (rp l j) _ _ _ _ _ _ _ (by exact Kd.C_below hr (by with_reducible repeat (first | assumption | exact bw_refl _ | apply bw_alloc | apply bw_drew | apply bw_drewN | refine bw_set _ ?_ (by omega) | refine bw_then ?_ (by assumption)))) hn (by exact Kd.C_below ha (by with_reducible repeat (first | assumption | exact bw_refl _ | apply bw_alloc | apply bw_drew | apply bw_drewN | refine bw_set _ ?_ (by omega) | refine bw_then ?_ (by assumption)))) hka (by exact Kd.C_below hb (by with_reducible repeat (first | assumption | exact bw_refl _ | apply bw_alloc | apply bw_drew | apply bw_drewN | refine bw_set _ ?_ (by omega) | refine bw_then ?_ (by assumption)))) hkb).mono ?_; rintro e w1 ⟨he, hb1⟩; rw [HZ.out] at he; subst he; obtain ⟨hc1, hf1, hz1⟩ := bcell hb1; (try simp only [World.size_alloc, World.size_setCell, World.size_drew, sz_drewN] at hz1); have hb2 := (by first | exact bw_then hb2 hb1 | exact bw_then (bw_drewN _ hb2) hb1 | exact bw_then (bw_alloc _ hb2) hb1 | exact bw_then (bw_drew hb2) hb1 | exact bw_then HB hb1 | exact bw_then (bw_drewN _ HB) hb1 | exact bw_then (bw_alloc _ HB) hb1 | exact bw_then (bw_drew HB) hb1 | exact hb1); obtain ⟨hc2, hf2, hz2⟩ := bcell hb2; (try simp only [World.size_alloc, World.size_setCell, World.size_drew, sz_drewN] at hz2); try (first | obtain ⟨hy1, hy2, hy3, hy4⟩ := lts4 hz2 | obtain ⟨hy1, hy2, hy3⟩ := lts3 hz2 | obtain ⟨hy1, hy2⟩ := lts2 hz2 | have hy1 := lts1 hz2); have hb9 := hb1)
        go_roundw
        case rel => exact ⟨j + 1, by go_num, by rw [HS.out, HZ.out], by omega, Lib.hid (upto HA.out (by rw [HZ.out]; omega)), (by with_reducible repeat (first | assumption | exact bw_refl _ | apply bw_alloc | apply bw_drew | apply bw_drewN | refine bw_set _ ?_ (by omega) | refine bw_then ?_ (by assumption)))⟩
        case measure => simp [intOf]; omega
    · go_wp2
      go_ret
      exact ⟨ret_int (by rw [serial_yes (fun x hx => Int.not_lt.2 (HA.out x (by omega))), show j = l.length by omega]), (by with_reducible repeat (first | assumption | exact bw_refl _ | apply bw_alloc | apply bw_drew | apply bw_drewN | refine bw_set _ ?_ (by omega) | refine bw_then ?_ (by assumption)))⟩

set_option maxHeartbeats 1000000 in
set_option maxRecDepth 100000 in
theorem spec_SerialTime (m : Mesh) (pa pb : List Int) (l : List Packet) (A B C D : Option Addr) (c d k n : Nat) (w : World) (hr : Kd.C (Kd.int .i64) w A m.br.length m.br) (hn : m.br.length ≤ 1048576) (ha : Kd.C (Kd.int .i64) w B pa.length pa) (hka : pa.length ≤ 1048576) (hb : Kd.C (Kd.int .i64) w C pb.length pb) (hkb : pb.length ≤ 1048576) (hp : kP.C w D l.length l) (hkl : l.length ≤ 1048576) :
    Calls Try.prog 21 #[.agg #[.int .i64 m.g.w, .int .i64 m.g.h, .slice A m.br.length c], .agg #[.slice B pa.length d, .slice C pb.length k], .slice D l.length n] w fun e w' => e = .returned (.int .i64 (serialTime m pa pb l)) ∧ Below w.heap.size w w' := by
  go_enter Try.func21, Try.ntmps21
  go_wp2
  go_loopw [7, 8] (fun s i wr => ∃ j : Nat, i = .int .i64 j ∧ s = .int .i64 (serTo m pa pb l j) ∧ j ≤ l.length ∧ Hid (∀ x : Nat, x < j → 0 ≤ zeroLoad m pa pb (rp l x)) ∧ Below ((w.alloc (.cells #[.int .i64 m.g.w, .int .i64 m.g.h, .slice A m.br.length c] 38)).alloc (.cells #[.slice B pa.length d, .slice C pb.length k] 42)).heap.size ((w.alloc (.cells #[.int .i64 m.g.w, .int .i64 m.g.h, .slice A m.br.length c] 38)).alloc (.cells #[.slice B pa.length d, .slice C pb.length k] 42)) wr) (fun _ i _ => l.length - (intOf i).toNat)
  case atStart => exact ⟨0, rfl, rfl, Nat.zero_le _, Lib.hid fun x h => absurd h (Nat.not_lt_zero _), (by with_reducible repeat (first | assumption | exact bw_refl _ | apply bw_alloc | apply bw_drew | apply bw_drewN | refine bw_set _ ?_ (by omega) | refine bw_then ?_ (by assumption)))⟩
  case round =>
    obtain ⟨j, rfl, rfl, hj, HA, HB⟩ := hrel
    obtain ⟨hc0, hf0, hz0⟩ := bcell HB
    simp only [World.size_alloc, World.size_setCell, World.size_drew, sz_drewN] at hz0
    obtain ⟨yy1, yy2⟩ := lts2 hz0
    by_cases hlt : j < l.length
    · obtain ⟨b, off, rfl, hbl, p0, p1, p2, p3, p4⟩ := rdP_at hp j hlt
      obtain ⟨z1, z2, z3, z4, z5, z6⟩ := more hbl
      have i0 : (0 : Int) ≤ (j : Int) := by omega
      have i1 : (j : Int) < (l.length : Int) := by omega
      obtain ⟨s0, s1⟩ := serTo_range m pa pb l j hj (fun x hx => Int.not_lt.2 (HA.out x hx))
      obtain ⟨t0, t1⟩ := zeroLoad_le m pa pb (rp l j)
      have HS := Lib.hid (serTo_succ m pa pb l j hlt)
      obtain ⟨z, hz⟩ : ∃ z, zeroLoad m pa pb (rp l j) = z := ⟨_, rfl⟩
      rw [hz] at t0 t1
      have HZ := Lib.hid hz
      clear hz
      by_cases c1 : z < 0
      · go_wp2_with fail
        go_region_held3 (fun w' => Below (((w.alloc (.cells #[.int .i64 m.g.w, .int .i64 m.g.h, .slice A m.br.length c] 38)).alloc (.cells #[.slice B pa.length d, .slice C pb.length k] 42))).heap.size (((w.alloc (.cells #[.int .i64 m.g.w, .int .i64 m.g.h, .slice A m.br.length c] 38)).alloc (.cells #[.slice B pa.length d, .slice C pb.length k] 42))) w' ∧ ∀ bq oq, bq < (((w.alloc (.cells #[.int .i64 m.g.w, .int .i64 m.g.h, .slice A m.br.length c] 38)).alloc (.cells #[.slice B pa.length d, .slice C pb.length k] 42))).heap.size → w'.cell? ⟨bq, oq, none⟩ = (((w.alloc (.cells #[.int .i64 m.g.w, .int .i64 m.g.h, .slice A m.br.length c] 38)).alloc (.cells #[.slice B pa.length d, .slice C pb.length k] 42))).cell? ⟨bq, oq, none⟩) (first | exact far_of (by with_reducible repeat (first | assumption | exact bw_refl _ | apply bw_alloc | apply bw_drew | apply bw_drewN | refine bw_set _ ?_ (by omega) | refine bw_then ?_ (by assumption)))) ( first | (go_at_call 13; refine (spec_ZeroLoad m pa pb (rp l j) _ _ _ _ _ _ _ (by exact Kd.C_below hr (by with_reducible repeat (first | assumption | exact bw_refl _ | apply bw_alloc | apply bw_drew | apply bw_drewN | refine bw_set _ ?_ (by omega) | refine bw_then ?_ (by assumption)))) hn (by exact Kd.C_below ha (by with_reducible repeat (first | assumption | exact bw_refl _ | apply bw_alloc | apply bw_drew | apply bw_drewN | refine bw_set _ ?_ (by omega) | refine bw_then ?_ (by assumption)))) hka (by exact Kd.C_below hb (by with_reducible repeat (first | assumption | exact bw_refl _ | apply bw_alloc | apply bw_drew | apply bw_drewN | refine bw_set _ ?_ (by omega) | refine bw_then ?_ (by assumption)))) hkb).mono ?_; rintro e w1 ⟨he, hb1⟩; rw [HZ.out] at he; subst he; obtain ⟨hc1, hf1, hz1⟩ := bcell hb1; (try simp only [World.size_alloc, World.size_setCell, World.size_drew, sz_drewN] at hz1); have hb2 := (by first | exact bw_then hb2 hb1 | exact bw_then (bw_drewN _ hb2) hb1 | exact bw_then (bw_alloc _ hb2) hb1 | exact bw_then (bw_drew hb2) hb1 | exact bw_then HB hb1 | exact bw_then (bw_drewN _ HB) hb1 | exact bw_then (bw_alloc _ HB) hb1 | exact bw_then (bw_drew HB) hb1 | exact hb1); obtain ⟨hc2, hf2, hz2⟩ := bcell hb2; (try simp only [World.size_alloc, World.size_setCell, World.size_drew, sz_drewN] at hz2); try (first | obtain ⟨hy1, hy2, hy3, hy4⟩ := lts4 hz2 | obtain ⟨hy1, hy2, hy3⟩ := lts3 hz2 | obtain ⟨hy1, hy2⟩ := lts2 hz2 | have hy1 := lts1 hz2); have hb9 := hb1))
        go_wp2
        go_ret
        exact ⟨ret_int (serial_no j hlt (by rw [HZ.out]; exact c1)).symm, (by with_reducible repeat (first | assumption | exact bw_refl _ | apply bw_alloc | apply bw_drew | apply bw_drewN | refine bw_set _ ?_ (by omega) | refine bw_then ?_ (by assumption)))⟩
      · go_wp2_with fail
        go_region_held3 (fun w' => Below (((w.alloc (.cells #[.int .i64 m.g.w, .int .i64 m.g.h, .slice A m.br.length c] 38)).alloc (.cells #[.slice B pa.length d, .slice C pb.length k] 42))).heap.size (((w.alloc (.cells #[.int .i64 m.g.w, .int .i64 m.g.h, .slice A m.br.length c] 38)).alloc (.cells #[.slice B pa.length d, .slice C pb.length k] 42))) w' ∧ ∀ bq oq, bq < (((w.alloc (.cells #[.int .i64 m.g.w, .int .i64 m.g.h, .slice A m.br.length c] 38)).alloc (.cells #[.slice B pa.length d, .slice C pb.length k] 42))).heap.size → w'.cell? ⟨bq, oq, none⟩ = (((w.alloc (.cells #[.int .i64 m.g.w, .int .i64 m.g.h, .slice A m.br.length c] 38)).alloc (.cells #[.slice B pa.length d, .slice C pb.length k] 42))).cell? ⟨bq, oq, none⟩) (first | exact far_of (by with_reducible repeat (first | assumption | exact bw_refl _ | apply bw_alloc | apply bw_drew | apply bw_drewN | refine bw_set _ ?_ (by omega) | refine bw_then ?_ (by assumption)))) ( first | (go_at_call 13; refine (spec_ZeroLoad m pa pb (rp l j) _ _ _ _ _ _ _ (by exact Kd.C_below hr (by with_reducible repeat (first | assumption | exact bw_refl _ | apply bw_alloc | apply bw_drew | apply bw_drewN | refine bw_set _ ?_ (by omega) | refine bw_then ?_ (by assumption)))) hn (by exact Kd.C_below ha (by with_reducible repeat (first | assumption | exact bw_refl _ | apply bw_alloc | apply bw_drew | apply bw_drewN | refine bw_set _ ?_ (by omega) | refine bw_then ?_ (by assumption)))) hka (by exact Kd.C_below hb (by with_reducible repeat (first | assumption | exact bw_refl _ | apply bw_alloc | apply bw_drew | apply bw_drewN | refine bw_set _ ?_ (by omega) | refine bw_then ?_ (by assumption)))) hkb).mono ?_; rintro e w1 ⟨he, hb1⟩; rw [HZ.out] at he; subst he; obtain ⟨hc1, hf1, hz1⟩ := bcell hb1; (try simp only [World.size_alloc, World.size_setCell, World.size_drew, sz_drewN] at hz1); have hb2 := (by first | exact bw_then hb2 hb1 | exact bw_then (bw_drewN _ hb2) hb1 | exact bw_then (bw_alloc _ hb2) hb1 | exact bw_then (bw_drew hb2) hb1 | exact bw_then HB hb1 | exact bw_then (bw_drewN _ HB) hb1 | exact bw_then (bw_alloc _ HB) hb1 | exact bw_then (bw_drew HB) hb1 | exact hb1); obtain ⟨hc2, hf2, hz2⟩ := bcell hb2; (try simp only [World.size_alloc, World.size_setCell, World.size_drew, sz_drewN] at hz2); try (first | obtain ⟨hy1, hy2, hy3, hy4⟩ := lts4 hz2 | obtain ⟨hy1, hy2, hy3⟩ := lts3 hz2 | obtain ⟨hy1, hy2⟩ := lts2 hz2 | have hy1 := lts1 hz2); have hb9 := hb1))
        go_wp2
        go_roundw
        case rel => exact ⟨j + 1, by go_num, by rw [HS.out, HZ.out], by omega, Lib.hid (upto HA.out (by rw [HZ.out]; omega)), (by with_reducible repeat (first | assumption | exact bw_refl _ | apply bw_alloc | apply bw_drew | apply bw_drewN | refine bw_set _ ?_ (by omega) | refine bw_then ?_ (by assumption)))⟩
        case measure => simp [intOf]; omega
    · go_wp2
      go_ret
      exact ⟨ret_int (by rw [serial_yes (fun x hx => Int.not_lt.2 (HA.out x (by omega))), show j = l.length by omega]), (by with_reducible repeat (first | assumption | exact bw_refl _ | apply bw_alloc | apply bw_drew | apply bw_drewN | refine bw_set _ ?_ (by omega) | refine bw_then ?_ (by assumption)))⟩

end Go.Proofs.Ytcaipmhfgjafjaa
