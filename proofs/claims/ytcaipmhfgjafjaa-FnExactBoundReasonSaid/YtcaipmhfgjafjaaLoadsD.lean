/- The greatest load, the hottest channels, the sum of the hops: what the program and the reference return; for all meshes, tables and lists of at most a million entries. -/
import Derived.Test.YtcaipmhfgjafjaaLoadsB
import Derived.Test.YtcaipmhfgjafjaaLoadsC
set_option linter.unusedVariables false
set_option linter.unusedSimpArgs false
namespace Go.Proofs.Ytcaipmhfgjafjaa
open Go.RowKit Go.Proofs.YtcaipmhfgjafjaaW.PrintWords
open NoC

set_option maxHeartbeats 1000000 in
set_option maxRecDepth 100000 in
theorem impl_LoadsOf (m : Mesh) (pa pb : List Int) (l : List Packet) (A B C D : Option Addr) (c d k n : Nat) (w : World) (hr : Kd.C (Kd.int .i64) w A m.br.length m.br) (hn : m.br.length ≤ 1048576) (ha : Kd.C (Kd.int .i64) w B pa.length pa) (hka : pa.length ≤ 1048576) (hb : Kd.C (Kd.int .i64) w C pb.length pb) (hkb : pb.length ≤ 1048576) (hp : kP.C w D l.length l) (hkl : l.length ≤ 1048576) :
    Calls Try.prog 30 #[.agg #[.int .i64 m.g.w, .int .i64 m.g.h, .slice A m.br.length c], .agg #[.slice B pa.length d, .slice C pb.length k], .slice D l.length n] w fun e w' => GotI w w' (loadsOf m pa pb l) e ∧ Below w.heap.size w w' := by
  go_enter Try.func30, Try.ntmps30
  cases h1 : arePk m pa pb l
  · go_wp2_with (go_at_call 59; refine (impl_arePackets m pa pb l _ _ _ _ _ _ _ _ _ (by exact Kd.C_below hr (by with_reducible repeat (first | assumption | exact bw_refl _ | apply bw_alloc | apply bw_drew | apply bw_drewN | refine bw_set _ ?_ (by omega) | refine bw_then ?_ (by assumption)))) hn (by exact Kd.C_below ha (by with_reducible repeat (first | assumption | exact bw_refl _ | apply bw_alloc | apply bw_drew | apply bw_drewN | refine bw_set _ ?_ (by omega) | refine bw_then ?_ (by assumption)))) hka (by exact Kd.C_below hb (by with_reducible repeat (first | assumption | exact bw_refl _ | apply bw_alloc | apply bw_drew | apply bw_drewN | refine bw_set _ ?_ (by omega) | refine bw_then ?_ (by assumption)))) hkb (by exact Kd.C_below hp (by with_reducible repeat (first | assumption | exact bw_refl _ | apply bw_alloc | apply bw_drew | apply bw_drewN | refine bw_set _ ?_ (by omega) | refine bw_then ?_ (by assumption)))) hkl).mono ?_; rintro e w1 ⟨rfl, hb1⟩; obtain ⟨hc1, hf1, hz1⟩ := bcell hb1; (try simp only [World.size_alloc, World.size_setCell, World.size_drew, sz_drewN] at hz1); have hb2 := (by first | exact bw_then hb2 hb1 | exact bw_then (bw_drewN _ hb2) hb1 | exact bw_then (bw_alloc _ hb2) hb1 | exact bw_then (bw_drew hb2) hb1 | exact bw_then HB hb1 | exact bw_then (bw_drewN _ HB) hb1 | exact bw_then (bw_alloc _ HB) hb1 | exact bw_then (bw_drew HB) hb1 | exact hb1); obtain ⟨hc2, hf2, hz2⟩ := bcell hb2; (try simp only [World.size_alloc, World.size_setCell, World.size_drew, sz_drewN] at hz2); try (first | obtain ⟨hy1, hy2, hy3, hy4⟩ := lts4 hz2 | obtain ⟨hy1, hy2, hy3⟩ := lts3 hz2 | obtain ⟨hy1, hy2⟩ := lts2 hz2 | have hy1 := lts1 hz2); have hb9 := hb1)
    go_ret
    exact ⟨by rw [loadsOf_no h1]; exact GotI.nil _ _, (by with_reducible repeat (first | assumption | exact bw_refl _ | apply bw_alloc | apply bw_drew | apply bw_drewN | refine bw_set _ ?_ (by omega) | refine bw_then ?_ (by assumption)))⟩
  have hpos := arePk_count h1
  have hall := (arePk_parts h1).2
  have HALL := Lib.hid hall
  have HPOS := Lib.hid hpos
  have HLO := Lib.hid (loadsOf_yes h1)
  clear hall hpos
  go_wp2_with (first | (go_at_call 59; refine (impl_arePackets m pa pb l _ _ _ _ _ _ _ _ _ (by exact Kd.C_below hr (by with_reducible repeat (first | assumption | exact bw_refl _ | apply bw_alloc | apply bw_drew | apply bw_drewN | refine bw_set _ ?_ (by omega) | refine bw_then ?_ (by assumption)))) hn (by exact Kd.C_below ha (by with_reducible repeat (first | assumption | exact bw_refl _ | apply bw_alloc | apply bw_drew | apply bw_drewN | refine bw_set _ ?_ (by omega) | refine bw_then ?_ (by assumption)))) hka (by exact Kd.C_below hb (by with_reducible repeat (first | assumption | exact bw_refl _ | apply bw_alloc | apply bw_drew | apply bw_drewN | refine bw_set _ ?_ (by omega) | refine bw_then ?_ (by assumption)))) hkb (by exact Kd.C_below hp (by with_reducible repeat (first | assumption | exact bw_refl _ | apply bw_alloc | apply bw_drew | apply bw_drewN | refine bw_set _ ?_ (by omega) | refine bw_then ?_ (by assumption)))) hkl).mono ?_; rintro e w1 ⟨rfl, hb1⟩; obtain ⟨hc1, hf1, hz1⟩ := bcell hb1; (try simp only [World.size_alloc, World.size_setCell, World.size_drew, sz_drewN] at hz1); have hb2 := (by first | exact bw_then hb2 hb1 | exact bw_then (bw_drewN _ hb2) hb1 | exact bw_then (bw_alloc _ hb2) hb1 | exact bw_then (bw_drew hb2) hb1 | exact bw_then HB hb1 | exact bw_then (bw_drewN _ HB) hb1 | exact bw_then (bw_alloc _ HB) hb1 | exact bw_then (bw_drew HB) hb1 | exact hb1); obtain ⟨hc2, hf2, hz2⟩ := bcell hb2; (try simp only [World.size_alloc, World.size_setCell, World.size_drew, sz_drewN] at hz2); try (first | obtain ⟨hy1, hy2, hy3, hy4⟩ := lts4 hz2 | obtain ⟨hy1, hy2, hy3⟩ := lts3 hz2 | obtain ⟨hy1, hy2⟩ := lts2 hz2 | have hy1 := lts1 hz2); have hb9 := hb1) | (go_at_call 60; refine (impl_loads m pa pb l _ _ _ _ _ _ _ _ _ (by exact Kd.C_below hr (by with_reducible repeat (first | assumption | exact bw_refl _ | apply bw_alloc | apply bw_drew | apply bw_drewN | refine bw_set _ ?_ (by omega) | refine bw_then ?_ (by assumption)))) hn (by exact Kd.C_below ha (by with_reducible repeat (first | assumption | exact bw_refl _ | apply bw_alloc | apply bw_drew | apply bw_drewN | refine bw_set _ ?_ (by omega) | refine bw_then ?_ (by assumption)))) hka (by exact Kd.C_below hb (by with_reducible repeat (first | assumption | exact bw_refl _ | apply bw_alloc | apply bw_drew | apply bw_drewN | refine bw_set _ ?_ (by omega) | refine bw_then ?_ (by assumption)))) hkb (by exact Kd.C_below hp (by with_reducible repeat (first | assumption | exact bw_refl _ | apply bw_alloc | apply bw_drew | apply bw_drewN | refine bw_set _ ?_ (by omega) | refine bw_then ?_ (by assumption)))) hkl HALL.out HPOS.out).mono ?_; rintro e w1 ⟨hg1, hb1⟩; rw [← HLO.out] at hg1; obtain ⟨v1, rfl, HO1⟩ := hg1; obtain ⟨A1, c1, rfl, hk1, hr1⟩ := Kd.R_reads HO1; obtain ⟨hc1, hf1, hz1⟩ := bcell hb1; (try simp only [World.size_alloc, World.size_setCell, World.size_drew, sz_drewN] at hz1); have hb2 := (by first | exact bw_then hb2 hb1 | exact bw_then (bw_drewN _ hb2) hb1 | exact bw_then (bw_alloc _ hb2) hb1 | exact bw_then (bw_drew hb2) hb1 | exact bw_then HB hb1 | exact bw_then (bw_drewN _ HB) hb1 | exact bw_then (bw_alloc _ HB) hb1 | exact bw_then (bw_drew HB) hb1 | exact hb1); obtain ⟨hc2, hf2, hz2⟩ := bcell hb2; (try simp only [World.size_alloc, World.size_setCell, World.size_drew, sz_drewN] at hz2); try (first | obtain ⟨hy1, hy2, hy3, hy4⟩ := lts4 hz2 | obtain ⟨hy1, hy2, hy3⟩ := lts3 hz2 | obtain ⟨hy1, hy2⟩ := lts2 hz2 | have hy1 := lts1 hz2); have hb9 := hb1))
  go_ret
  exact ⟨⟨_, rfl, Kd.R_lower (by exact Kd.R_below HO1 (by with_reducible repeat (first | assumption | exact bw_refl _ | apply bw_alloc | apply bw_drew | apply bw_drewN | refine bw_set _ ?_ (by omega) | refine bw_then ?_ (by assumption)))) (bw_size (by with_reducible repeat (first | assumption | exact bw_refl _ | apply bw_alloc | apply bw_drew | apply bw_drewN | refine bw_set _ ?_ (by omega) | refine bw_then ?_ (by assumption))))⟩, (by with_reducible repeat (first | assumption | exact bw_refl _ | apply bw_alloc | apply bw_drew | apply bw_drewN | refine bw_set _ ?_ (by omega) | refine bw_then ?_ (by assumption)))⟩

theorem slices_Max_int (l : List Int) (A : Option Addr) (c : Nat) (w : World) (hr : Kd.C (Kd.int .i64) w A l.length l) (hn : l.length ≤ 64) (hpos : 0 < l.length) (hrg : ∀ j : Nat, j < l.length → 0 ≤ ri l j ∧ ri l j ≤ 5242880) :
    Calls Try.prog 61 #[.slice A l.length c] w fun e w' => e = .returned (.int .i64 (maxL l)) ∧ w = w' := by
  obtain ⟨b, off, rfl, hb, hx⟩ := rdI_at hr 0 hpos
  have HX := Lib.hid hx
  have hx0 : w.cell? ⟨b, off, none⟩ = some (.int .i64 (ri l 0)) := hx 0 hpos
  have i1 : (0 : Int) < (l.length : Int) := by omega
  have i2 : (1 : Int) ≤ (l.length : Int) := by omega
  clear hx
  have HRG := Lib.hid hrg
  clear hrg
  go_enter Try.func61, Try.ntmps61
  go_wp2
  go_loop [3, 4] (fun v i => ∃ k : Nat, i = .int .i64 k ∧ v = .int .i64 (maxTo l k) ∧ 1 ≤ k ∧ k ≤ l.length) (fun _ i => l.length - (intOf i).toNat)
  case atStart => exact ⟨1, rfl, by rw [maxTo_one hpos (HRG.out 0 hpos).1]; try rfl, Nat.le_refl _, hpos⟩
  case round =>
    obtain ⟨k, rfl, rfl, hk1, hk⟩ := hrel
    by_cases hlt : k < l.length
    · have hxk := HX.out k hlt
      obtain ⟨g0, g1⟩ := HRG.out k hlt
      obtain ⟨t0, t1⟩ := maxTo_range HRG.out k hk
      have HS := Lib.hid (maxTo_succ l k hlt)
      go_wp2
      go_round
      case rel => exact ⟨k + 1, by go_num, by rw [HS.out]; first | rfl | (simp; done) | (congr 1; omega) | (simp; omega), by omega, by omega⟩
      case measure => simp [intOf]; omega
    · go_wp2
      go_ret
      exact ⟨ret_int (by rw [show k = l.length by omega, maxTo_all]), rfl⟩

set_option maxHeartbeats 1000000 in
set_option maxRecDepth 100000 in
theorem impl_MaxLoad (m : Mesh) (pa pb : List Int) (l : List Packet) (A B C D : Option Addr) (c d k n : Nat) (w : World) (hr : Kd.C (Kd.int .i64) w A m.br.length m.br) (hn : m.br.length ≤ 1048576) (ha : Kd.C (Kd.int .i64) w B pa.length pa) (hka : pa.length ≤ 1048576) (hb : Kd.C (Kd.int .i64) w C pb.length pb) (hkb : pb.length ≤ 1048576) (hp : kP.C w D l.length l) (hkl : l.length ≤ 1048576) :
    Calls Try.prog 28 #[.agg #[.int .i64 m.g.w, .int .i64 m.g.h, .slice A m.br.length c], .agg #[.slice B pa.length d, .slice C pb.length k], .slice D l.length n] w fun e w' => e = .returned (.int .i64 (maxLoadL m pa pb l)) ∧ Below w.heap.size w w' := by
  go_enter Try.func28, Try.ntmps28
  cases h1 : arePk m pa pb l
  · go_wp2_with (go_at_call 59; refine (impl_arePackets m pa pb l _ _ _ _ _ _ _ _ _ (by exact Kd.C_below hr (by with_reducible repeat (first | assumption | exact bw_refl _ | apply bw_alloc | apply bw_drew | apply bw_drewN | refine bw_set _ ?_ (by omega) | refine bw_then ?_ (by assumption)))) hn (by exact Kd.C_below ha (by with_reducible repeat (first | assumption | exact bw_refl _ | apply bw_alloc | apply bw_drew | apply bw_drewN | refine bw_set _ ?_ (by omega) | refine bw_then ?_ (by assumption)))) hka (by exact Kd.C_below hb (by with_reducible repeat (first | assumption | exact bw_refl _ | apply bw_alloc | apply bw_drew | apply bw_drewN | refine bw_set _ ?_ (by omega) | refine bw_then ?_ (by assumption)))) hkb (by exact Kd.C_below hp (by with_reducible repeat (first | assumption | exact bw_refl _ | apply bw_alloc | apply bw_drew | apply bw_drewN | refine bw_set _ ?_ (by omega) | refine bw_then ?_ (by assumption)))) hkl).mono ?_; rintro e w1 ⟨rfl, hb1⟩; obtain ⟨hc1, hf1, hz1⟩ := bcell hb1; (try simp only [World.size_alloc, World.size_setCell, World.size_drew, sz_drewN] at hz1); have hb2 := (by first | exact bw_then hb2 hb1 | exact bw_then (bw_drewN _ hb2) hb1 | exact bw_then (bw_alloc _ hb2) hb1 | exact bw_then (bw_drew hb2) hb1 | exact bw_then HB hb1 | exact bw_then (bw_drewN _ HB) hb1 | exact bw_then (bw_alloc _ HB) hb1 | exact bw_then (bw_drew HB) hb1 | exact hb1); obtain ⟨hc2, hf2, hz2⟩ := bcell hb2; (try simp only [World.size_alloc, World.size_setCell, World.size_drew, sz_drewN] at hz2); try (first | obtain ⟨hy1, hy2, hy3, hy4⟩ := lts4 hz2 | obtain ⟨hy1, hy2, hy3⟩ := lts3 hz2 | obtain ⟨hy1, hy2⟩ := lts2 hz2 | have hy1 := lts1 hz2); have hb9 := hb1)
    go_ret
    exact ⟨ret_int (by rw [maxLoadL, h1]; rfl), (by with_reducible repeat (first | assumption | exact bw_refl _ | apply bw_alloc | apply bw_drew | apply bw_drewN | refine bw_set _ ?_ (by omega) | refine bw_then ?_ (by assumption)))⟩
  have hpos := arePk_count h1
  have hall := (arePk_parts h1).2
  have HALL := Lib.hid hall
  have HPOS := Lib.hid hpos
  have HLO := Lib.hid (loadsOf_yes h1)
  clear hall hpos
  have hll := loadsOf_len m pa pb l
  have hl0 : 0 < (loadsOf m pa pb l).length := by rw [loadsOf_yes h1, loadsL_len]; have := HPOS.out; unfold chans; omega
  have HRG := Lib.hid (loadsOf_range m pa pb l hkl)
  have HMX := Lib.hid (maxL_loadsOf m pa pb l)
  go_wp2_with (first | (go_at_call 59; refine (impl_arePackets m pa pb l _ _ _ _ _ _ _ _ _ (by exact Kd.C_below hr (by with_reducible repeat (first | assumption | exact bw_refl _ | apply bw_alloc | apply bw_drew | apply bw_drewN | refine bw_set _ ?_ (by omega) | refine bw_then ?_ (by assumption)))) hn (by exact Kd.C_below ha (by with_reducible repeat (first | assumption | exact bw_refl _ | apply bw_alloc | apply bw_drew | apply bw_drewN | refine bw_set _ ?_ (by omega) | refine bw_then ?_ (by assumption)))) hka (by exact Kd.C_below hb (by with_reducible repeat (first | assumption | exact bw_refl _ | apply bw_alloc | apply bw_drew | apply bw_drewN | refine bw_set _ ?_ (by omega) | refine bw_then ?_ (by assumption)))) hkb (by exact Kd.C_below hp (by with_reducible repeat (first | assumption | exact bw_refl _ | apply bw_alloc | apply bw_drew | apply bw_drewN | refine bw_set _ ?_ (by omega) | refine bw_then ?_ (by assumption)))) hkl).mono ?_; rintro e w1 ⟨rfl, hb1⟩; obtain ⟨hc1, hf1, hz1⟩ := bcell hb1; (try simp only [World.size_alloc, World.size_setCell, World.size_drew, sz_drewN] at hz1); have hb2 := (by first | exact bw_then hb2 hb1 | exact bw_then (bw_drewN _ hb2) hb1 | exact bw_then (bw_alloc _ hb2) hb1 | exact bw_then (bw_drew hb2) hb1 | exact bw_then HB hb1 | exact bw_then (bw_drewN _ HB) hb1 | exact bw_then (bw_alloc _ HB) hb1 | exact bw_then (bw_drew HB) hb1 | exact hb1); obtain ⟨hc2, hf2, hz2⟩ := bcell hb2; (try simp only [World.size_alloc, World.size_setCell, World.size_drew, sz_drewN] at hz2); try (first | obtain ⟨hy1, hy2, hy3, hy4⟩ := lts4 hz2 | obtain ⟨hy1, hy2, hy3⟩ := lts3 hz2 | obtain ⟨hy1, hy2⟩ := lts2 hz2 | have hy1 := lts1 hz2); have hb9 := hb1) | (go_at_call 60; refine (impl_loads m pa pb l _ _ _ _ _ _ _ _ _ (by exact Kd.C_below hr (by with_reducible repeat (first | assumption | exact bw_refl _ | apply bw_alloc | apply bw_drew | apply bw_drewN | refine bw_set _ ?_ (by omega) | refine bw_then ?_ (by assumption)))) hn (by exact Kd.C_below ha (by with_reducible repeat (first | assumption | exact bw_refl _ | apply bw_alloc | apply bw_drew | apply bw_drewN | refine bw_set _ ?_ (by omega) | refine bw_then ?_ (by assumption)))) hka (by exact Kd.C_below hb (by with_reducible repeat (first | assumption | exact bw_refl _ | apply bw_alloc | apply bw_drew | apply bw_drewN | refine bw_set _ ?_ (by omega) | refine bw_then ?_ (by assumption)))) hkb (by exact Kd.C_below hp (by with_reducible repeat (first | assumption | exact bw_refl _ | apply bw_alloc | apply bw_drew | apply bw_drewN | refine bw_set _ ?_ (by omega) | refine bw_then ?_ (by assumption)))) hkl HALL.out HPOS.out).mono ?_; rintro e w1 ⟨hg1, hb1⟩; rw [← HLO.out] at hg1; obtain ⟨v1, rfl, HO1⟩ := hg1; obtain ⟨A1, c1, rfl, hk1, hr1⟩ := Kd.R_reads HO1; obtain ⟨hc1, hf1, hz1⟩ := bcell hb1; (try simp only [World.size_alloc, World.size_setCell, World.size_drew, sz_drewN] at hz1); have hb2 := (by first | exact bw_then hb2 hb1 | exact bw_then (bw_drewN _ hb2) hb1 | exact bw_then (bw_alloc _ hb2) hb1 | exact bw_then (bw_drew hb2) hb1 | exact bw_then HB hb1 | exact bw_then (bw_drewN _ HB) hb1 | exact bw_then (bw_alloc _ HB) hb1 | exact bw_then (bw_drew HB) hb1 | exact hb1); obtain ⟨hc2, hf2, hz2⟩ := bcell hb2; (try simp only [World.size_alloc, World.size_setCell, World.size_drew, sz_drewN] at hz2); try (first | obtain ⟨hy1, hy2, hy3, hy4⟩ := lts4 hz2 | obtain ⟨hy1, hy2, hy3⟩ := lts3 hz2 | obtain ⟨hy1, hy2⟩ := lts2 hz2 | have hy1 := lts1 hz2); have hb9 := hb1) | (go_at_call 61; refine (slices_Max_int (loadsOf m pa pb l) A1 c1 _ (by exact Kd.C_below hr1 (by with_reducible repeat (first | assumption | exact bw_refl _ | apply bw_alloc | apply bw_drew | apply bw_drewN | refine bw_set _ ?_ (by omega) | refine bw_then ?_ (by assumption)))) hll hl0 HRG.out).mono ?_; rintro e w' ⟨rfl, rfl⟩))
  go_ret
  exact ⟨ret_int HMX.out, (by with_reducible repeat (first | assumption | exact bw_refl _ | apply bw_alloc | apply bw_drew | apply bw_drewN | refine bw_set _ ?_ (by omega) | refine bw_then ?_ (by assumption)))⟩

set_option maxHeartbeats 1000000 in
set_option maxRecDepth 100000 in
theorem spec_MaxLoad (m : Mesh) (pa pb : List Int) (l : List Packet) (A B C D : Option Addr) (c d k n : Nat) (w : World) (hr : Kd.C (Kd.int .i64) w A m.br.length m.br) (hn : m.br.length ≤ 1048576) (ha : Kd.C (Kd.int .i64) w B pa.length pa) (hka : pa.length ≤ 1048576) (hb : Kd.C (Kd.int .i64) w C pb.length pb) (hkb : pb.length ≤ 1048576) (hp : kP.C w D l.length l) (hkl : l.length ≤ 1048576) :
    Calls Try.prog 27 #[.agg #[.int .i64 m.g.w, .int .i64 m.g.h, .slice A m.br.length c], .agg #[.slice B pa.length d, .slice C pb.length k], .slice D l.length n] w fun e w' => e = .returned (.int .i64 (maxLoadL m pa pb l)) ∧ Below w.heap.size w w' := by
  have hll := loadsOf_len m pa pb l
  have HRG := Lib.hid (loadsOf_range m pa pb l hkl)
  have HMX := Lib.hid (maxL_loadsOf m pa pb l)
  go_enter Try.func27, Try.ntmps27
  go_wp2_with (go_at_call 29; refine (spec_LoadsOf m pa pb l _ _ _ _ _ _ _ _ _ (by exact Kd.C_below hr (by with_reducible repeat (first | assumption | exact bw_refl _ | apply bw_alloc | apply bw_drew | apply bw_drewN | refine bw_set _ ?_ (by omega) | refine bw_then ?_ (by assumption)))) hn (by exact Kd.C_below ha (by with_reducible repeat (first | assumption | exact bw_refl _ | apply bw_alloc | apply bw_drew | apply bw_drewN | refine bw_set _ ?_ (by omega) | refine bw_then ?_ (by assumption)))) hka (by exact Kd.C_below hb (by with_reducible repeat (first | assumption | exact bw_refl _ | apply bw_alloc | apply bw_drew | apply bw_drewN | refine bw_set _ ?_ (by omega) | refine bw_then ?_ (by assumption)))) hkb (by exact Kd.C_below hp (by with_reducible repeat (first | assumption | exact bw_refl _ | apply bw_alloc | apply bw_drew | apply bw_drewN | refine bw_set _ ?_ (by omega) | refine bw_then ?_ (by assumption)))) hkl).mono ?_; rintro e w1 ⟨hg1, hb1⟩; obtain ⟨v1, rfl, HO1⟩ := hg1; obtain ⟨A1, c1, rfl, hk1, hr1⟩ := Kd.R_reads HO1; obtain ⟨hc1, hf1, hz1⟩ := bcell hb1; (try simp only [World.size_alloc, World.size_setCell, World.size_drew, sz_drewN] at hz1); have hb2 := (by first | exact bw_then hb2 hb1 | exact bw_then (bw_drewN _ hb2) hb1 | exact bw_then (bw_alloc _ hb2) hb1 | exact bw_then (bw_drew hb2) hb1 | exact bw_then HB hb1 | exact bw_then (bw_drewN _ HB) hb1 | exact bw_then (bw_alloc _ HB) hb1 | exact bw_then (bw_drew HB) hb1 | exact hb1); obtain ⟨hc2, hf2, hz2⟩ := bcell hb2; (try simp only [World.size_alloc, World.size_setCell, World.size_drew, sz_drewN] at hz2); try (first | obtain ⟨hy1, hy2, hy3, hy4⟩ := lts4 hz2 | obtain ⟨hy1, hy2, hy3⟩ := lts3 hz2 | obtain ⟨hy1, hy2⟩ := lts2 hz2 | have hy1 := lts1 hz2); have hb9 := hb1)
  obtain ⟨xs, hxs⟩ : ∃ x, loadsOf m pa pb l = x := ⟨_, rfl⟩
  rw [hxs] at hll HRG HMX hk1 hr1
  simp only [hxs]
  clear hxs HO1
  obtain ⟨wq, hwq⟩ : ∃ x, x = w1 := ⟨_, rfl⟩
  subst hwq
  go_loopw [8, 9] (fun v i wr => ∃ k : Nat, i = .int .i64 k ∧ v = .int .i64 (maxTo xs k) ∧ k ≤ xs.length ∧ Below wq.heap.size wq wr) (fun _ i _ => xs.length - (intOf i).toNat)
  case atStart => exact ⟨0, rfl, rfl, Nat.zero_le _, by first | exact bw_refl _ | exact bw_drewN _ (bw_refl _)⟩
  case round =>
    obtain ⟨k, rfl, rfl, hk, HBB⟩ := hrel
    obtain ⟨hcI, hfI, hzI⟩ := bcell HBB
    by_cases hlt : k < xs.length
    · obtain ⟨b, off, rfl, hbl, hx⟩ := rdI_at hr1 k hlt
      have hxk := hx k hlt
      clear hx
      obtain ⟨g0, g1⟩ := HRG.out k hlt
      obtain ⟨t0, t1⟩ := maxTo_range HRG.out k hk
      have HS := Lib.hid (maxTo_succ xs k hlt)
      go_wp2
      go_roundw
      case rel => exact ⟨k + 1, by go_num, by rw [HS.out]; first | rfl | (simp; done) | (congr 1; omega) | (simp; omega), by omega, (by with_reducible repeat (first | assumption | exact bw_refl _ | apply bw_alloc | apply bw_drew | apply bw_drewN | refine bw_set _ ?_ (by omega) | refine bw_then ?_ (by assumption)))⟩
      case measure => simp [intOf]; omega
    · go_wp2
      go_ret
      exact ⟨ret_int (by rw [← HMX.out, show k = xs.length by omega, maxTo_all]), bw_then (by with_reducible repeat (first | assumption | exact bw_refl _ | apply bw_alloc | apply bw_drew | apply bw_drewN | refine bw_set _ ?_ (by omega) | refine bw_then ?_ (by assumption))) HBB⟩

set_option maxHeartbeats 1000000 in
set_option maxRecDepth 100000 in
theorem impl_TotalHops (m : Mesh) (pa pb : List Int) (l : List Packet) (A B C D : Option Addr) (c d k n : Nat) (w : World) (hr : Kd.C (Kd.int .i64) w A m.br.length m.br) (hn : m.br.length ≤ 1048576) (ha : Kd.C (Kd.int .i64) w B pa.length pa) (hka : pa.length ≤ 1048576) (hb : Kd.C (Kd.int .i64) w C pb.length pb) (hkb : pb.length ≤ 1048576) (hp : kP.C w D l.length l) (hkl : l.length ≤ 1048576) :
    Calls Try.prog 26 #[.agg #[.int .i64 m.g.w, .int .i64 m.g.h, .slice A m.br.length c], .agg #[.slice B pa.length d, .slice C pb.length k], .slice D l.length n] w fun e w' => e = .returned (.int .i64 (totalHops m pa pb l)) ∧ Below w.heap.size w w' := by
  go_enter Try.func26, Try.ntmps26
  cases h1 : arePk m pa pb l
  · go_wp2_with (go_at_call 59; refine (impl_arePackets m pa pb l _ _ _ _ _ _ _ _ _ (by exact Kd.C_below hr (by with_reducible repeat (first | assumption | exact bw_refl _ | apply bw_alloc | apply bw_drew | apply bw_drewN | refine bw_set _ ?_ (by omega) | refine bw_then ?_ (by assumption)))) hn (by exact Kd.C_below ha (by with_reducible repeat (first | assumption | exact bw_refl _ | apply bw_alloc | apply bw_drew | apply bw_drewN | refine bw_set _ ?_ (by omega) | refine bw_then ?_ (by assumption)))) hka (by exact Kd.C_below hb (by with_reducible repeat (first | assumption | exact bw_refl _ | apply bw_alloc | apply bw_drew | apply bw_drewN | refine bw_set _ ?_ (by omega) | refine bw_then ?_ (by assumption)))) hkb (by exact Kd.C_below hp (by with_reducible repeat (first | assumption | exact bw_refl _ | apply bw_alloc | apply bw_drew | apply bw_drewN | refine bw_set _ ?_ (by omega) | refine bw_then ?_ (by assumption)))) hkl).mono ?_; rintro e w1 ⟨rfl, hb1⟩; obtain ⟨hc1, hf1, hz1⟩ := bcell hb1; (try simp only [World.size_alloc, World.size_setCell, World.size_drew, sz_drewN] at hz1); have hb2 := (by first | exact bw_then hb2 hb1 | exact bw_then (bw_drewN _ hb2) hb1 | exact bw_then (bw_alloc _ hb2) hb1 | exact bw_then (bw_drew hb2) hb1 | exact bw_then HB hb1 | exact bw_then (bw_drewN _ HB) hb1 | exact bw_then (bw_alloc _ HB) hb1 | exact bw_then (bw_drew HB) hb1 | exact hb1); obtain ⟨hc2, hf2, hz2⟩ := bcell hb2; (try simp only [World.size_alloc, World.size_setCell, World.size_drew, sz_drewN] at hz2); try (first | obtain ⟨hy1, hy2, hy3, hy4⟩ := lts4 hz2 | obtain ⟨hy1, hy2, hy3⟩ := lts3 hz2 | obtain ⟨hy1, hy2⟩ := lts2 hz2 | have hy1 := lts1 hz2); have hb9 := hb1)
    go_ret
    exact ⟨ret_int (totalHops_no h1).symm, (by with_reducible repeat (first | assumption | exact bw_refl _ | apply bw_alloc | apply bw_drew | apply bw_drewN | refine bw_set _ ?_ (by omega) | refine bw_then ?_ (by assumption)))⟩
  have hpos := arePk_count h1
  have hall := (arePk_parts h1).2
  have HALL := Lib.hid hall
  have HPOS := Lib.hid hpos
  have HLO := Lib.hid (loadsOf_yes h1)
  clear hall hpos
  have hll := loadsOf_len m pa pb l
  have HRG := Lib.hid (loadsOf_range m pa pb l hkl)
  have HSM := Lib.hid (fun k hk => sum_loads (m := m) (pa := pa) (pb := pb) hkl k hk)
  have HMX := Lib.hid (totalHops_yes h1)
  go_wp2_with (first | (go_at_call 59; refine (impl_arePackets m pa pb l _ _ _ _ _ _ _ _ _ (by exact Kd.C_below hr (by with_reducible repeat (first | assumption | exact bw_refl _ | apply bw_alloc | apply bw_drew | apply bw_drewN | refine bw_set _ ?_ (by omega) | refine bw_then ?_ (by assumption)))) hn (by exact Kd.C_below ha (by with_reducible repeat (first | assumption | exact bw_refl _ | apply bw_alloc | apply bw_drew | apply bw_drewN | refine bw_set _ ?_ (by omega) | refine bw_then ?_ (by assumption)))) hka (by exact Kd.C_below hb (by with_reducible repeat (first | assumption | exact bw_refl _ | apply bw_alloc | apply bw_drew | apply bw_drewN | refine bw_set _ ?_ (by omega) | refine bw_then ?_ (by assumption)))) hkb (by exact Kd.C_below hp (by with_reducible repeat (first | assumption | exact bw_refl _ | apply bw_alloc | apply bw_drew | apply bw_drewN | refine bw_set _ ?_ (by omega) | refine bw_then ?_ (by assumption)))) hkl).mono ?_; rintro e w1 ⟨rfl, hb1⟩; obtain ⟨hc1, hf1, hz1⟩ := bcell hb1; (try simp only [World.size_alloc, World.size_setCell, World.size_drew, sz_drewN] at hz1); have hb2 := (by first | exact bw_then hb2 hb1 | exact bw_then (bw_drewN _ hb2) hb1 | exact bw_then (bw_alloc _ hb2) hb1 | exact bw_then (bw_drew hb2) hb1 | exact bw_then HB hb1 | exact bw_then (bw_drewN _ HB) hb1 | exact bw_then (bw_alloc _ HB) hb1 | exact bw_then (bw_drew HB) hb1 | exact hb1); obtain ⟨hc2, hf2, hz2⟩ := bcell hb2; (try simp only [World.size_alloc, World.size_setCell, World.size_drew, sz_drewN] at hz2); try (first | obtain ⟨hy1, hy2, hy3, hy4⟩ := lts4 hz2 | obtain ⟨hy1, hy2, hy3⟩ := lts3 hz2 | obtain ⟨hy1, hy2⟩ := lts2 hz2 | have hy1 := lts1 hz2); have hb9 := hb1) | (go_at_call 60; refine (impl_loads m pa pb l _ _ _ _ _ _ _ _ _ (by exact Kd.C_below hr (by with_reducible repeat (first | assumption | exact bw_refl _ | apply bw_alloc | apply bw_drew | apply bw_drewN | refine bw_set _ ?_ (by omega) | refine bw_then ?_ (by assumption)))) hn (by exact Kd.C_below ha (by with_reducible repeat (first | assumption | exact bw_refl _ | apply bw_alloc | apply bw_drew | apply bw_drewN | refine bw_set _ ?_ (by omega) | refine bw_then ?_ (by assumption)))) hka (by exact Kd.C_below hb (by with_reducible repeat (first | assumption | exact bw_refl _ | apply bw_alloc | apply bw_drew | apply bw_drewN | refine bw_set _ ?_ (by omega) | refine bw_then ?_ (by assumption)))) hkb (by exact Kd.C_below hp (by with_reducible repeat (first | assumption | exact bw_refl _ | apply bw_alloc | apply bw_drew | apply bw_drewN | refine bw_set _ ?_ (by omega) | refine bw_then ?_ (by assumption)))) hkl HALL.out HPOS.out).mono ?_; rintro e w1 ⟨hg1, hb1⟩; rw [← HLO.out] at hg1; obtain ⟨v1, rfl, HO1⟩ := hg1; obtain ⟨A1, c1, rfl, hk1, hr1⟩ := Kd.R_reads HO1; obtain ⟨hc1, hf1, hz1⟩ := bcell hb1; (try simp only [World.size_alloc, World.size_setCell, World.size_drew, sz_drewN] at hz1); have hb2 := (by first | exact bw_then hb2 hb1 | exact bw_then (bw_drewN _ hb2) hb1 | exact bw_then (bw_alloc _ hb2) hb1 | exact bw_then (bw_drew hb2) hb1 | exact bw_then HB hb1 | exact bw_then (bw_drewN _ HB) hb1 | exact bw_then (bw_alloc _ HB) hb1 | exact bw_then (bw_drew HB) hb1 | exact hb1); obtain ⟨hc2, hf2, hz2⟩ := bcell hb2; (try simp only [World.size_alloc, World.size_setCell, World.size_drew, sz_drewN] at hz2); try (first | obtain ⟨hy1, hy2, hy3, hy4⟩ := lts4 hz2 | obtain ⟨hy1, hy2, hy3⟩ := lts3 hz2 | obtain ⟨hy1, hy2⟩ := lts2 hz2 | have hy1 := lts1 hz2); have hb9 := hb1))
  generalize hxs : loadsOf m pa pb l = xs at hll HRG HSM HMX hk1 hr1 ⊢
  clear hxs HO1
  obtain ⟨wq, hwq⟩ : ∃ x, x = w1 := ⟨_, rfl⟩
  subst hwq
  go_loopw [7, 20] (fun v i wr => ∃ k : Nat, i = .int .i64 k ∧ v = .int .i64 (sumTo xs k) ∧ k ≤ xs.length ∧ Below wq.heap.size wq wr) (fun _ i _ => xs.length - (intOf i).toNat)
  case atStart => exact ⟨0, rfl, rfl, Nat.zero_le _, by first | exact bw_refl _ | exact bw_drewN _ (bw_refl _)⟩
  case round =>
    obtain ⟨k, rfl, rfl, hk, HBB⟩ := hrel
    obtain ⟨hcI, hfI, hzI⟩ := bcell HBB
    by_cases hlt : k < xs.length
    · obtain ⟨b, off, rfl, hbl, hx⟩ := rdI_at hr1 k hlt
      have hxk := hx k hlt
      clear hx
      obtain ⟨g0, g1⟩ := HRG.out k hlt
      obtain ⟨t0, t1⟩ := HSM.out k hk
      have HS := Lib.hid (sumTo_succ xs k hlt)
      go_wp2
      go_roundw
      case rel => exact ⟨k + 1, by go_num, by rw [HS.out], by omega, (by with_reducible repeat (first | assumption | exact bw_refl _ | apply bw_alloc | apply bw_drew | apply bw_drewN | refine bw_set _ ?_ (by omega) | refine bw_then ?_ (by assumption)))⟩
      case measure => simp [intOf]; omega
    · go_wp2
      go_ret
      exact ⟨ret_int (by rw [HMX.out, show k = xs.length by omega]), bw_then (by with_reducible repeat (first | assumption | exact bw_refl _ | apply bw_alloc | apply bw_drew | apply bw_drewN | refine bw_set _ ?_ (by omega) | refine bw_then ?_ (by assumption))) HBB⟩

set_option maxHeartbeats 1000000 in
set_option maxRecDepth 100000 in
theorem spec_TotalHops (m : Mesh) (pa pb : List Int) (l : List Packet) (A B C D : Option Addr) (c d k n : Nat) (w : World) (hr : Kd.C (Kd.int .i64) w A m.br.length m.br) (hn : m.br.length ≤ 1048576) (ha : Kd.C (Kd.int .i64) w B pa.length pa) (hka : pa.length ≤ 1048576) (hb : Kd.C (Kd.int .i64) w C pb.length pb) (hkb : pb.length ≤ 1048576) (hp : kP.C w D l.length l) (hkl : l.length ≤ 1048576) :
    Calls Try.prog 25 #[.agg #[.int .i64 m.g.w, .int .i64 m.g.h, .slice A m.br.length c], .agg #[.slice B pa.length d, .slice C pb.length k], .slice D l.length n] w fun e w' => e = .returned (.int .i64 (totalHops m pa pb l)) ∧ Below w.heap.size w w' := by
  go_enter Try.func25, Try.ntmps25
  cases h1 : arePk m pa pb l
  · go_wp2_with (go_at_call 58; refine (spec_l28Ok m pa pb l _ _ _ _ _ _ _ _ _ (by exact Kd.C_below hr (by with_reducible repeat (first | assumption | exact bw_refl _ | apply bw_alloc | apply bw_drew | apply bw_drewN | refine bw_set _ ?_ (by omega) | refine bw_then ?_ (by assumption)))) hn (by exact Kd.C_below ha (by with_reducible repeat (first | assumption | exact bw_refl _ | apply bw_alloc | apply bw_drew | apply bw_drewN | refine bw_set _ ?_ (by omega) | refine bw_then ?_ (by assumption)))) hka (by exact Kd.C_below hb (by with_reducible repeat (first | assumption | exact bw_refl _ | apply bw_alloc | apply bw_drew | apply bw_drewN | refine bw_set _ ?_ (by omega) | refine bw_then ?_ (by assumption)))) hkb (by exact Kd.C_below hp (by with_reducible repeat (first | assumption | exact bw_refl _ | apply bw_alloc | apply bw_drew | apply bw_drewN | refine bw_set _ ?_ (by omega) | refine bw_then ?_ (by assumption)))) hkl).mono ?_; rintro e w1 ⟨rfl, hb1⟩; obtain ⟨hc1, hf1, hz1⟩ := bcell hb1; (try simp only [World.size_alloc, World.size_setCell, World.size_drew, sz_drewN] at hz1); have hb2 := (by first | exact bw_then hb2 hb1 | exact bw_then (bw_drewN _ hb2) hb1 | exact bw_then (bw_alloc _ hb2) hb1 | exact bw_then (bw_drew hb2) hb1 | exact bw_then HB hb1 | exact bw_then (bw_drewN _ HB) hb1 | exact bw_then (bw_alloc _ HB) hb1 | exact bw_then (bw_drew HB) hb1 | exact hb1); obtain ⟨hc2, hf2, hz2⟩ := bcell hb2; (try simp only [World.size_alloc, World.size_setCell, World.size_drew, sz_drewN] at hz2); try (first | obtain ⟨hy1, hy2, hy3, hy4⟩ := lts4 hz2 | obtain ⟨hy1, hy2, hy3⟩ := lts3 hz2 | obtain ⟨hy1, hy2⟩ := lts2 hz2 | have hy1 := lts1 hz2); have hb9 := hb1)
    go_ret
    exact ⟨ret_int (totalHops_no h1).symm, (by with_reducible repeat (first | assumption | exact bw_refl _ | apply bw_alloc | apply bw_drew | apply bw_drewN | refine bw_set _ ?_ (by omega) | refine bw_then ?_ (by assumption)))⟩
  have hpos := arePk_count h1
  have hall := (arePk_parts h1).2
  have HALL := Lib.hid hall
  have HPOS := Lib.hid hpos
  have HLO := Lib.hid (loadsOf_yes h1)
  clear hall hpos
  have hll := loadsOf_len m pa pb l
  have HRG := Lib.hid (loadsOf_range m pa pb l hkl)
  have HSM := Lib.hid (fun k hk => sum_loads (m := m) (pa := pa) (pb := pb) hkl k hk)
  have HMX := Lib.hid (totalHops_yes h1)
  go_wp2_with (first | (go_at_call 58; refine (spec_l28Ok m pa pb l _ _ _ _ _ _ _ _ _ (by exact Kd.C_below hr (by with_reducible repeat (first | assumption | exact bw_refl _ | apply bw_alloc | apply bw_drew | apply bw_drewN | refine bw_set _ ?_ (by omega) | refine bw_then ?_ (by assumption)))) hn (by exact Kd.C_below ha (by with_reducible repeat (first | assumption | exact bw_refl _ | apply bw_alloc | apply bw_drew | apply bw_drewN | refine bw_set _ ?_ (by omega) | refine bw_then ?_ (by assumption)))) hka (by exact Kd.C_below hb (by with_reducible repeat (first | assumption | exact bw_refl _ | apply bw_alloc | apply bw_drew | apply bw_drewN | refine bw_set _ ?_ (by omega) | refine bw_then ?_ (by assumption)))) hkb (by exact Kd.C_below hp (by with_reducible repeat (first | assumption | exact bw_refl _ | apply bw_alloc | apply bw_drew | apply bw_drewN | refine bw_set _ ?_ (by omega) | refine bw_then ?_ (by assumption)))) hkl).mono ?_; rintro e w1 ⟨rfl, hb1⟩; obtain ⟨hc1, hf1, hz1⟩ := bcell hb1; (try simp only [World.size_alloc, World.size_setCell, World.size_drew, sz_drewN] at hz1); have hb2 := (by first | exact bw_then hb2 hb1 | exact bw_then (bw_drewN _ hb2) hb1 | exact bw_then (bw_alloc _ hb2) hb1 | exact bw_then (bw_drew hb2) hb1 | exact bw_then HB hb1 | exact bw_then (bw_drewN _ HB) hb1 | exact bw_then (bw_alloc _ HB) hb1 | exact bw_then (bw_drew HB) hb1 | exact hb1); obtain ⟨hc2, hf2, hz2⟩ := bcell hb2; (try simp only [World.size_alloc, World.size_setCell, World.size_drew, sz_drewN] at hz2); try (first | obtain ⟨hy1, hy2, hy3, hy4⟩ := lts4 hz2 | obtain ⟨hy1, hy2, hy3⟩ := lts3 hz2 | obtain ⟨hy1, hy2⟩ := lts2 hz2 | have hy1 := lts1 hz2); have hb9 := hb1) | (go_at_call 29; refine (spec_LoadsOf m pa pb l _ _ _ _ _ _ _ _ _ (by exact Kd.C_below hr (by with_reducible repeat (first | assumption | exact bw_refl _ | apply bw_alloc | apply bw_drew | apply bw_drewN | refine bw_set _ ?_ (by omega) | refine bw_then ?_ (by assumption)))) hn (by exact Kd.C_below ha (by with_reducible repeat (first | assumption | exact bw_refl _ | apply bw_alloc | apply bw_drew | apply bw_drewN | refine bw_set _ ?_ (by omega) | refine bw_then ?_ (by assumption)))) hka (by exact Kd.C_below hb (by with_reducible repeat (first | assumption | exact bw_refl _ | apply bw_alloc | apply bw_drew | apply bw_drewN | refine bw_set _ ?_ (by omega) | refine bw_then ?_ (by assumption)))) hkb (by exact Kd.C_below hp (by with_reducible repeat (first | assumption | exact bw_refl _ | apply bw_alloc | apply bw_drew | apply bw_drewN | refine bw_set _ ?_ (by omega) | refine bw_then ?_ (by assumption)))) hkl).mono ?_; rintro e w1 ⟨hg1, hb1⟩; obtain ⟨v1, rfl, HO1⟩ := hg1; obtain ⟨A1, c1, rfl, hk1, hr1⟩ := Kd.R_reads HO1; obtain ⟨hc1, hf1, hz1⟩ := bcell hb1; (try simp only [World.size_alloc, World.size_setCell, World.size_drew, sz_drewN] at hz1); have hb2 := (by first | exact bw_then hb2 hb1 | exact bw_then (bw_drewN _ hb2) hb1 | exact bw_then (bw_alloc _ hb2) hb1 | exact bw_then (bw_drew hb2) hb1 | exact bw_then HB hb1 | exact bw_then (bw_drewN _ HB) hb1 | exact bw_then (bw_alloc _ HB) hb1 | exact bw_then (bw_drew HB) hb1 | exact hb1); obtain ⟨hc2, hf2, hz2⟩ := bcell hb2; (try simp only [World.size_alloc, World.size_setCell, World.size_drew, sz_drewN] at hz2); try (first | obtain ⟨hy1, hy2, hy3, hy4⟩ := lts4 hz2 | obtain ⟨hy1, hy2, hy3⟩ := lts3 hz2 | obtain ⟨hy1, hy2⟩ := lts2 hz2 | have hy1 := lts1 hz2); have hb9 := hb1))
  generalize hxs : loadsOf m pa pb l = xs at hll HRG HSM HMX hk1 hr1 ⊢
  clear hxs HO1
  obtain ⟨wq, hwq⟩ : ∃ x, x = w1 := ⟨_, rfl⟩
  subst hwq
  go_loopw [8, 9] (fun v i wr => ∃ k : Nat, i = .int .i64 k ∧ v = .int .i64 (sumTo xs k) ∧ k ≤ xs.length ∧ Below wq.heap.size wq wr) (fun _ i _ => xs.length - (intOf i).toNat)
  case atStart => exact ⟨0, rfl, rfl, Nat.zero_le _, by first | exact bw_refl _ | exact bw_drewN _ (bw_refl _)⟩
  case round =>
    obtain ⟨k, rfl, rfl, hk, HBB⟩ := hrel
    obtain ⟨hcI, hfI, hzI⟩ := bcell HBB
    by_cases hlt : k < xs.length
    · obtain ⟨b, off, rfl, hbl, hx⟩ := rdI_at hr1 k hlt
      have hxk := hx k hlt
      clear hx
      obtain ⟨g0, g1⟩ := HRG.out k hlt
      obtain ⟨t0, t1⟩ := HSM.out k hk
      have HS := Lib.hid (sumTo_succ xs k hlt)
      go_wp2
      go_roundw
      case rel => exact ⟨k + 1, by go_num, by rw [HS.out], by omega, (by with_reducible repeat (first | assumption | exact bw_refl _ | apply bw_alloc | apply bw_drew | apply bw_drewN | refine bw_set _ ?_ (by omega) | refine bw_then ?_ (by assumption)))⟩
      case measure => simp [intOf]; omega
    · go_wp2
      go_ret
      exact ⟨ret_int (by rw [HMX.out, show k = xs.length by omega]), bw_then (by with_reducible repeat (first | assumption | exact bw_refl _ | apply bw_alloc | apply bw_drew | apply bw_drewN | refine bw_set _ ?_ (by omega) | refine bw_then ?_ (by assumption))) HBB⟩

end Go.Proofs.Ytcaipmhfgjafjaa
