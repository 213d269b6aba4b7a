/- The parts of the bound, as the reference has them; for all meshes, tables and lists of at most a million entries. -/
import Derived.Test.YtcaipmhfgjafjaaLoadsD
import Derived.Test.YtcaipmhfgjafjaaM5
import Derived.Deep.RegionWith
import Derived.RegionTactic
import Derived.BigRegion
set_option linter.unusedVariables false
set_option linter.unusedSimpArgs false
namespace Go.Proofs.Ytcaipmhfgjafjaa
open Go.RowKit Go.Proofs.YtcaipmhfgjafjaaW.PrintWords
open NoC

set_option maxHeartbeats 8000000 in
set_option maxRecDepth 100000 in
theorem spec_l30Parts (m : Mesh) (pa pb : List Int) (l : List Packet) (A B C D : Option Addr) (c d k n : Nat) (w : World) (hr : Kd.C (Kd.int .i64) w A m.br.length m.br) (hn : m.br.length ≤ 1048576) (ha : Kd.C (Kd.int .i64) w B pa.length pa) (hka : pa.length ≤ 1048576) (hb : Kd.C (Kd.int .i64) w C pb.length pb) (hkb : pb.length ≤ 1048576) (hp : kP.C w D l.length l) (hkl : l.length ≤ 1048576) (hok : arePk m pa pb l = true) :
    Calls Try.prog 65 #[.agg #[.int .i64 m.g.w, .int .i64 m.g.h, .slice A m.br.length c], .agg #[.slice B pa.length d, .slice C pb.length k], .slice D l.length n] w fun e w' => GotI w w' [bz m pa pb l l.length, bl (loadsL m pa pb l) (chans m), bs l (nodesN m), bd l (nodesN m)] e ∧ Below w.heap.size w w' := by
  obtain ⟨n0, n1⟩ := count_le m.g
  obtain ⟨N, hN⟩ : ∃ N : Nat, nodeCount m.g = (N : Int) := ⟨(nodeCount m.g).toNat, by omega⟩
  have hN16 : N ≤ 16 := by omega
  have hnn : nodesN m = N := by unfold nodesN; omega
  have HNN := Lib.hid hnn
  have HC := Lib.hid hN
  have hall := (arePk_parts hok).2
  have HALL := Lib.hid hall
  have HCO := Lib.hid (arePk_parts hok).1
  have HLO := Lib.hid (loadsOf_yes hok)
  have hll := loadsOf_len m pa pb l
  have HRG := Lib.hid (loadsOf_range m pa pb l hkl)
  have hch : chans m = (loadsOf m pa pb l).length := by rw [loadsOf_yes hok, loadsL_len]
  have HCH := Lib.hid hch
  clear hN n0 n1 hnn hall hok hch
  go_enter Try.func65, Try.ntmps65
  go_wp2_with (refine make_int (W0 := ((w.alloc (.cells #[.int .i64 m.g.w, .int .i64 m.g.h, .slice A m.br.length c] 38)).alloc (.cells #[.slice B pa.length d, .slice C pb.length k] 42))) rfl (N := 14) rfl 24 3 (.const (.int .i64 4)) (.const (.int .i64 4)) rfl 4 rfl rfl Try.underlying24 info_int (by omega) (by with_reducible repeat (first | assumption | exact bw_refl _ | apply bw_alloc | apply bw_drew | apply bw_drewN | refine bw_set _ ?_ (by omega) | refine bw_then ?_ (by assumption))) ?_; intro v1 w1 HO1 HB1; obtain ⟨hc1, hf1, hz1⟩ := bcell HB1; (try simp only [World.size_alloc, World.size_setCell, World.size_drew, sz_drewN] at hz1); have hb2 := HB1; have hb9 := HB1)
  obtain ⟨g, cap, hv, hgb, hgl, cells, HG⟩ := Kd.R_form HO1 (by simp)
  rw [List.length_replicate] at hv
  subst hv
  clear HG
  have HGB := Lib.hid hgb
  clear hgb
  go_loopw [8] (fun i wr => ∃ j : Nat, i = .int .i64 j ∧ j ≤ l.length ∧ Kd.R (Kd.int .i64) 3 wr ((w.alloc (.cells #[.int .i64 m.g.w, .int .i64 m.g.h, .slice A m.br.length c] 38)).alloc (.cells #[.slice B pa.length d, .slice C pb.length k] 42)).heap.size (fun _ => True) (.slice (some ⟨g, 0, none⟩) 4 cap) [bz m pa pb l j, 0, 0, 0] ∧ g < wr.heap.size ∧ Below ((w.alloc (.cells #[.int .i64 m.g.w, .int .i64 m.g.h, .slice A m.br.length c] 38)).alloc (.cells #[.slice B pa.length d, .slice C pb.length k] 42)).heap.size ((w.alloc (.cells #[.int .i64 m.g.w, .int .i64 m.g.h, .slice A m.br.length c] 38)).alloc (.cells #[.slice B pa.length d, .slice C pb.length k] 42)) wr) (fun i _ => l.length - (intOf i).toNat)
  case atStart => exact ⟨0, rfl, Nat.zero_le _, HO1, hgl, HB1⟩
  case round =>
    clear HO1 HB1 hgl
    obtain ⟨j, rfl, hj, HO, hgl, HB⟩ := hrel
    obtain ⟨hc0, hf0, hz0⟩ := bcell HB
    simp only [World.size_alloc, World.size_setCell, World.size_drew, sz_drewN] at hz0
    obtain ⟨yy1, yy2⟩ := lts2 hz0
    have x0 : wr.cell? ⟨g, 0, none⟩ = some (.int .i64 (bz m pa pb l j)) := (rowI_cell HO 0 (by omega)).1
    have f0 : wr.frozen? ⟨g, 0, none⟩ = false := (rowI_cell HO 0 (by omega)).2
    have x1 : wr.cell? ⟨g, 1, none⟩ = some (.int .i64 (0)) := (rowI_cell HO 1 (by omega)).1
    have f1 : wr.frozen? ⟨g, 1, none⟩ = false := (rowI_cell HO 1 (by omega)).2
    have x2 : wr.cell? ⟨g, 2, none⟩ = some (.int .i64 (0)) := (rowI_cell HO 2 (by omega)).1
    have f2 : wr.frozen? ⟨g, 2, none⟩ = false := (rowI_cell HO 2 (by omega)).2
    have x3 : wr.cell? ⟨g, 3, none⟩ = some (.int .i64 (0)) := (rowI_cell HO 3 (by omega)).1
    have f3 : wr.frozen? ⟨g, 3, none⟩ = false := (rowI_cell HO 3 (by omega)).2
    by_cases hlt : j < l.length
    · obtain ⟨b, off, rfl, hbl, p0, p1, p2, p3, p4⟩ := rdP_at hp j hlt
      obtain ⟨z1, z2, z3, z4, z5, z6⟩ := more hbl
      have zb : b < wr.heap.size := by omega
      obtain ⟨r0, r1⟩ := bz_range m pa pb l j hj
      obtain ⟨t0, t1⟩ := zeroLoad_le m pa pb (rp l j)
      have HS := Lib.hid (bz_succ m pa pb l j hlt)
      obtain ⟨z, hz⟩ : ∃ z, zeroLoad m pa pb (rp l j) = z := ⟨_, rfl⟩
      rw [hz] at t0 t1
      have HZ := Lib.hid hz
      clear hz
      have HZL : ∀ W : World, Below ((w.alloc (.cells #[.int .i64 m.g.w, .int .i64 m.g.h, .slice A m.br.length c] 38)).alloc (.cells #[.slice B pa.length d, .slice C pb.length k] 42)).heap.size ((w.alloc (.cells #[.int .i64 m.g.w, .int .i64 m.g.h, .slice A m.br.length c] 38)).alloc (.cells #[.slice B pa.length d, .slice C pb.length k] 42)) W → Calls Try.prog 47 #[.agg #[.int .i64 m.g.w, .int .i64 m.g.h, .slice A m.br.length c], .agg #[.slice B pa.length d, .slice C pb.length k], .agg #[.int .i64 (rp l j).id, .int .i64 (rp l j).src, .int .i64 (rp l j).dst, .int .i64 (rp l j).cls, .int .i64 (rp l j).len]] W fun e w' => e = .returned (.int .i64 z) ∧ Below W.heap.size W w' := by
        intro W hW
        have hW2 : Below w.heap.size w W := bw_then (bw_alloc _ (bw_alloc _ (bw_refl w))) hW
        have h := spec_l27Zero m pa pb (rp l j) A B C c d k W (Kd.C_below hr hW2) hn (Kd.C_below ha hW2) (Kd.C_below hb hW2) HCO.out (all_get HALL.out j hlt)
        rw [HZ.out] at h
        exact h
      have HZL := Lib.hid HZL
      have yq : g < wr.drew.heap.size := hgl
      have yb : b < wr.drew.heap.size := zb
      have yq2 : w.heap.size < wr.drew.heap.size := yy1
      have yq3 : w.heap.size + 1 < wr.drew.heap.size := yy2
      have i0 : (0 : Int) ≤ (j : Int) := by omega
      have i1 : (j : Int) < (l.length : Int) := by omega
      go_wp2
      clear hp hr ha hb hn hka hkb z4 z5 z6 hll HRG HCH HLO HALL HCO HNN HC hN16 x1 x2 x3 f1 f2 f3
      go_region_with (go_at_call 47; refine (HZL.out _ (by first | exact bw_drew HB | exact HB)).mono ?_; rintro e w1 ⟨rfl, hb1⟩; have q1 : w1.cell? ⟨g, 0, none⟩ = some (.int .i64 (bz m pa pb l j)) := ((bcell hb1).1 g 0 yq).trans x0; have q2 : w1.frozen? ⟨g, 0, none⟩ = false := ((bcell hb1).2.1 g 0 yq).trans f0; obtain ⟨hc1, hf1, hz1⟩ := bcell hb1)
      all_goals
        have HO1 := rowI_set (Kd.R_below (Kd.R_drew HO) hb1) 0 (if bz m pa pb l j < z then z else bz m pa pb l j)
        have HB1 : Below ((w.alloc (.cells #[.int .i64 m.g.w, .int .i64 m.g.h, .slice A m.br.length c] 38)).alloc (.cells #[.slice B pa.length d, .slice C pb.length k] 42)).heap.size ((w.alloc (.cells #[.int .i64 m.g.w, .int .i64 m.g.h, .slice A m.br.length c] 38)).alloc (.cells #[.slice B pa.length d, .slice C pb.length k] 42)) (w1.setCell ⟨g, 0, none⟩ (.int .i64 (if bz m pa pb l j < z then z else bz m pa pb l j))) := bw_set _ (bw_then (bw_drew HB) hb1) HGB.out
        have hg1 : g < w1.heap.size := Nat.lt_of_lt_of_le yq hb1.size
        go_wp2
        go_roundw
        case rel => exact ⟨j + 1, by go_num, by omega, by rw [HS.out, HZ.out, max_if]; exact HO1, by first | exact hg1 | (simp only [World.size_alloc, World.size_setCell, World.size_drew, sz_drewN]; exact hg1), HB1⟩
        case measure => simp [intOf]; omega
    · go_wp2_with (go_at_call 29; refine (spec_LoadsOf m pa pb l _ _ _ _ _ _ _ _ _ (by exact Kd.C_below hr (by with_reducible repeat (first | assumption | exact bw_refl _ | apply bw_alloc | apply bw_drew | apply bw_drewN | refine bw_set _ ?_ (by omega) | refine bw_then ?_ (by assumption)))) hn (by exact Kd.C_below ha (by with_reducible repeat (first | assumption | exact bw_refl _ | apply bw_alloc | apply bw_drew | apply bw_drewN | refine bw_set _ ?_ (by omega) | refine bw_then ?_ (by assumption)))) hka (by exact Kd.C_below hb (by with_reducible repeat (first | assumption | exact bw_refl _ | apply bw_alloc | apply bw_drew | apply bw_drewN | refine bw_set _ ?_ (by omega) | refine bw_then ?_ (by assumption)))) hkb (by exact Kd.C_below hp (by with_reducible repeat (first | assumption | exact bw_refl _ | apply bw_alloc | apply bw_drew | apply bw_drewN | refine bw_set _ ?_ (by omega) | refine bw_then ?_ (by assumption)))) hkl).mono ?_; rintro e w1 ⟨hg1, hb1⟩; obtain ⟨v1, rfl, HO1⟩ := hg1; obtain ⟨A1, c1, rfl, hk1, hr1⟩ := Kd.R_reads HO1; obtain ⟨hc1, hf1, hz1⟩ := bcell hb1; (try simp only [World.size_alloc, World.size_setCell, World.size_drew, sz_drewN] at hz1); have hb2 := (by first | exact bw_then hb2 hb1 | exact bw_then (bw_drewN _ hb2) hb1 | exact bw_then (bw_alloc _ hb2) hb1 | exact bw_then (bw_drew hb2) hb1 | exact bw_then HB hb1 | exact bw_then (bw_drewN _ HB) hb1 | exact bw_then (bw_alloc _ HB) hb1 | exact bw_then (bw_drew HB) hb1 | exact hb1); obtain ⟨hc2, hf2, hz2⟩ := bcell hb2; (try simp only [World.size_alloc, World.size_setCell, World.size_drew, sz_drewN] at hz2); try (first | obtain ⟨hy1, hy2, hy3, hy4⟩ := lts4 hz2 | obtain ⟨hy1, hy2, hy3⟩ := lts3 hz2 | obtain ⟨hy1, hy2⟩ := lts2 hz2 | have hy1 := lts1 hz2); have hb9 := hb1)
      have hje : j = l.length := by omega
      subst hje
      have hgw := hgl
      generalize hxs : loadsOf m pa pb l = xs at hll HRG HCH HLO hk1 hr1 HO1 ⊢
      clear hxs
      have HLR := Kd.R_lower (base' := wr.heap.size) HO1 (by omega)
      have HO := Kd.R_below HO hb1
      have HB := bw_then HB hb1
      have hgl : g < w1.heap.size := by omega
      clear HO1 x0 x1 x2 x3 f0 f1 f2 f3 hj hlt hk1 hr1
      repeat (first | clear hc1 | clear hf1 | clear hz1 | clear hb1 | clear hb9 | clear hc2 | clear hf2 | clear hz2 | clear hb2 | clear hy1 | clear hy2 | clear hy3 | clear hy4 | clear hap | clear HOm | clear HOa | clear HOb | clear HOp | clear hlm | clear hla | clear hlb | clear hlp | clear hCm | clear hCa | clear hCb | clear hCp | clear Am | clear Aa | clear Ab | clear Ap | clear cm | clear ca | clear cb | clear cp | clear w1)
      obtain ⟨wa, rfl⟩ : ∃ x, x = wr := ⟨_, rfl⟩
      obtain ⟨w5, rfl⟩ : ∃ x, x = w1 := ⟨_, rfl⟩
      go_loopw [10] (fun i wr => ∃ j : Nat, i = .int .i64 j ∧ j ≤ xs.length ∧ Kd.R (Kd.int .i64) 3 wr ((w.alloc (.cells #[.int .i64 m.g.w, .int .i64 m.g.h, .slice A m.br.length c] 38)).alloc (.cells #[.slice B pa.length d, .slice C pb.length k] 42)).heap.size (fun _ => True) (.slice (some ⟨g, 0, none⟩) 4 cap) [bz m pa pb l l.length, bl xs j, 0, 0] ∧ g < wr.heap.size ∧ Below ((w.alloc (.cells #[.int .i64 m.g.w, .int .i64 m.g.h, .slice A m.br.length c] 38)).alloc (.cells #[.slice B pa.length d, .slice C pb.length k] 42)).heap.size ((w.alloc (.cells #[.int .i64 m.g.w, .int .i64 m.g.h, .slice A m.br.length c] 38)).alloc (.cells #[.slice B pa.length d, .slice C pb.length k] 42)) wr ∧ Kd.R (Kd.int .i64) 3 wr wa.heap.size (fun _ => True) (.slice A1 xs.length c1) xs) (fun i _ => xs.length - (intOf i).toNat)
      case atStart => exact ⟨0, rfl, Nat.zero_le _, HO, hgl, HB, HLR⟩
      case round =>
        clear HO HB HLR hgl
        obtain ⟨j, rfl, hj, HO, hgl, HB, HLR⟩ := hrel
        obtain ⟨hc0, hf0, hz0⟩ := bcell HB
        simp only [World.size_alloc, World.size_setCell, World.size_drew, sz_drewN] at hz0
        obtain ⟨yy1, yy2⟩ := lts2 hz0
        have x0 : wr.cell? ⟨g, 0, none⟩ = some (.int .i64 (bz m pa pb l l.length)) := (rowI_cell HO 0 (by omega)).1
        have f0 : wr.frozen? ⟨g, 0, none⟩ = false := (rowI_cell HO 0 (by omega)).2
        have x1 : wr.cell? ⟨g, 1, none⟩ = some (.int .i64 (bl xs j)) := (rowI_cell HO 1 (by omega)).1
        have f1 : wr.frozen? ⟨g, 1, none⟩ = false := (rowI_cell HO 1 (by omega)).2
        have x2 : wr.cell? ⟨g, 2, none⟩ = some (.int .i64 (0)) := (rowI_cell HO 2 (by omega)).1
        have f2 : wr.frozen? ⟨g, 2, none⟩ = false := (rowI_cell HO 2 (by omega)).2
        have x3 : wr.cell? ⟨g, 3, none⟩ = some (.int .i64 (0)) := (rowI_cell HO 3 (by omega)).1
        have f3 : wr.frozen? ⟨g, 3, none⟩ = false := (rowI_cell HO 3 (by omega)).2
        by_cases hlt : j < xs.length
        · obtain ⟨_, _, hCx⟩ := Kd.R_row HLR
          obtain ⟨b, off, rfl, hbl, hx⟩ := rdI_at hCx j hlt
          have hxj := hx j hlt
          clear hx
          obtain ⟨g0, g1⟩ := HRG.out j hlt
          obtain ⟨r0, r1⟩ := bl_range HRG.out j hj
          have HS := Lib.hid (bl_succ xs j hlt)
          have i0 : (0 : Int) ≤ (j : Int) := by omega
          have i1 : (j : Int) < (xs.length : Int) := by omega
          by_cases hpos : 0 < ri xs j
          · have HSA := Lib.hid (show bl xs (j + 1) = max (bl xs j) (ri xs j + 2) by rw [HS.out, atL, if_pos hpos])
            go_wp2
            go_region
            all_goals
              go_wp2
              go_roundw
              case rel => exact ⟨j + 1, by go_num, by omega, by rw [HSA.out, max_if]; exact rowI_set HO 1 _, by simp only [World.size_alloc, World.size_setCell, World.size_drew, sz_drewN]; first | exact hgl | omega, (by have HGO := HGB.out; first | exact bw_set _ (by exact (by with_reducible repeat (first | assumption | exact bw_refl _ | apply bw_alloc | apply bw_drew | apply bw_drewN | refine bw_set _ ?_ (by omega) | refine bw_then ?_ (by assumption)))) HGO | exact bw_drew (bw_set _ (by exact (by with_reducible repeat (first | assumption | exact bw_refl _ | apply bw_alloc | apply bw_drew | apply bw_drewN | refine bw_set _ ?_ (by omega) | refine bw_then ?_ (by assumption)))) HGO)), R_off HLR (by omega) _ _⟩
              case measure => simp [intOf]; omega
          · have HSA := Lib.hid (show bl xs (j + 1) = bl xs j by rw [HS.out, atL, if_neg hpos])
            go_wp2
            go_roundw
            case rel => exact ⟨j + 1, by go_num, by omega, by rw [HSA.out]; exact HO, hgl, HB, HLR⟩
            case measure => simp [intOf]; omega
        · have hje : j = xs.length := by omega
          subst hje
          clear HLR hj hlt x0 x1 x2 x3 f0 f1 f2 f3
          obtain ⟨w6, rfl⟩ : ∃ x, x = wr := ⟨_, rfl⟩
          go_wp2
          go_loopw [11] (fun i wr => ∃ j : Nat, i = .int .i64 j ∧ j ≤ N ∧ Kd.R (Kd.int .i64) 3 wr ((w.alloc (.cells #[.int .i64 m.g.w, .int .i64 m.g.h, .slice A m.br.length c] 38)).alloc (.cells #[.slice B pa.length d, .slice C pb.length k] 42)).heap.size (fun _ => True) (.slice (some ⟨g, 0, none⟩) 4 cap) [bz m pa pb l l.length, bl xs xs.length, bs l j, bd l j] ∧ g < wr.heap.size ∧ Below ((w.alloc (.cells #[.int .i64 m.g.w, .int .i64 m.g.h, .slice A m.br.length c] 38)).alloc (.cells #[.slice B pa.length d, .slice C pb.length k] 42)).heap.size ((w.alloc (.cells #[.int .i64 m.g.w, .int .i64 m.g.h, .slice A m.br.length c] 38)).alloc (.cells #[.slice B pa.length d, .slice C pb.length k] 42)) wr) (fun i _ => N - (intOf i).toNat)
          case atStart => exact ⟨0, rfl, Nat.zero_le _, HO, hgl, HB⟩
          case round =>
            clear HO HB hgl hc0 hf0 hz0 yy1 yy2
            obtain ⟨j, rfl, hj, HO, hgl, HB⟩ := hrel
            obtain ⟨hc0, hf0, hz0⟩ := bcell HB
            simp only [World.size_alloc, World.size_setCell, World.size_drew, sz_drewN] at hz0
            obtain ⟨yy1, yy2⟩ := lts2 hz0
            have HGO := HGB.out
            simp only [World.size_alloc, World.size_setCell, World.size_drew, sz_drewN] at HGO
            have x0 : wr.cell? ⟨g, 0, none⟩ = some (.int .i64 (bz m pa pb l l.length)) := (rowI_cell HO 0 (by omega)).1
            have f0 : wr.frozen? ⟨g, 0, none⟩ = false := (rowI_cell HO 0 (by omega)).2
            have x1 : wr.cell? ⟨g, 1, none⟩ = some (.int .i64 (bl xs xs.length)) := (rowI_cell HO 1 (by omega)).1
            have f1 : wr.frozen? ⟨g, 1, none⟩ = false := (rowI_cell HO 1 (by omega)).2
            have x2 : wr.cell? ⟨g, 2, none⟩ = some (.int .i64 (bs l j)) := (rowI_cell HO 2 (by omega)).1
            have f2 : wr.frozen? ⟨g, 2, none⟩ = false := (rowI_cell HO 2 (by omega)).2
            have x3 : wr.cell? ⟨g, 3, none⟩ = some (.int .i64 (bd l j)) := (rowI_cell HO 3 (by omega)).1
            have f3 : wr.frozen? ⟨g, 3, none⟩ = false := (rowI_cell HO 3 (by omega)).2
            by_cases hlt : j < N
            · obtain ⟨s0, s1⟩ := srcTo_range HALL.out hkl j l.length (Nat.le_refl _)
              obtain ⟨d0, d1⟩ := dstTo_range HALL.out hkl j l.length (Nat.le_refl _)
              obtain ⟨r0, r1⟩ := bs_range HALL.out hkl j
              obtain ⟨q0, q1⟩ := bd_range HALL.out hkl j
              have HS1 := Lib.hid (show bs l (j + 1) = atL (bs l j) (srcTo l j l.length) from rfl)
              have HS2 := Lib.hid (show bd l (j + 1) = atL (bd l j) (dstTo l j l.length) from rfl)
              obtain ⟨sv, hsv⟩ : ∃ x, srcTo l (j : Int) l.length = x := ⟨_, rfl⟩
              obtain ⟨dv, hdv⟩ : ∃ x, dstTo l (j : Int) l.length = x := ⟨_, rfl⟩
              rw [hsv] at s0 s1
              rw [hdv] at d0 d1
              have HSV := Lib.hid hsv
              have HDV := Lib.hid hdv
              clear hsv hdv
              have i0 : (j : Int) < (N : Int) := by omega
              by_cases a1 : 0 < sv
              · have HB1 := Lib.hid (show bs l (j + 1) = if bs l j < sv + 2 then sv + 2 else bs l j by rw [HS1.out, HSV.out, atL, if_pos a1, max_if])
                by_cases a2 : 0 < dv
                · have HB2 := Lib.hid (show bd l (j + 1) = if bd l j < dv + 2 then dv + 2 else bd l j by rw [HS2.out, HDV.out, atL, if_pos a2, max_if])
                  go_wp2_with (first | (go_at_call 62; refine (spec_NodeCount m.g _).mono ?_; rintro e w1 ⟨he, hb1⟩; rw [HC.out] at he; subst he; obtain ⟨hc1, hf1, hz1⟩ := bcell hb1; (try simp only [World.size_alloc, World.size_setCell, World.size_drew, sz_drewN] at hz1); have hb2 := (by first | exact bw_then hb2 hb1 | exact bw_then (bw_drewN _ hb2) hb1 | exact bw_then (bw_alloc _ hb2) hb1 | exact bw_then (bw_drew hb2) hb1 | exact bw_then HB hb1 | exact bw_then (bw_drewN _ HB) hb1 | exact bw_then (bw_alloc _ HB) hb1 | exact bw_then (bw_drew HB) hb1 | exact hb1); obtain ⟨hc2, hf2, hz2⟩ := bcell hb2; (try simp only [World.size_alloc, World.size_setCell, World.size_drew, sz_drewN] at hz2); try (first | obtain ⟨hy1, hy2, hy3, hy4⟩ := lts4 hz2 | obtain ⟨hy1, hy2, hy3⟩ := lts3 hz2 | obtain ⟨hy1, hy2⟩ := lts2 hz2 | have hy1 := lts1 hz2); have hb9 := hb1; have hg8 : g < w1.heap.size := Nat.lt_of_lt_of_le (by assumption) hb1.size) | (go_at_call 84; refine (spec_SourceLoad l j _ _ _ (by exact Kd.C_below hp (by with_reducible repeat (first | assumption | exact bw_refl _ | apply bw_alloc | apply bw_drew | apply bw_drewN | refine bw_set _ ?_ (by omega) | refine bw_then ?_ (by assumption)))) hkl).mono ?_; rintro e w1 ⟨he, hb1⟩; rw [HSV.out] at he; subst he; obtain ⟨hc1, hf1, hz1⟩ := bcell hb1; (try simp only [World.size_alloc, World.size_setCell, World.size_drew, sz_drewN] at hz1); have hb2 := (by first | exact bw_then hb2 hb1 | exact bw_then (bw_drewN _ hb2) hb1 | exact bw_then (bw_alloc _ hb2) hb1 | exact bw_then (bw_drew hb2) hb1 | exact bw_then HB hb1 | exact bw_then (bw_drewN _ HB) hb1 | exact bw_then (bw_alloc _ HB) hb1 | exact bw_then (bw_drew HB) hb1 | exact hb1); obtain ⟨hc2, hf2, hz2⟩ := bcell hb2; (try simp only [World.size_alloc, World.size_setCell, World.size_drew, sz_drewN] at hz2); try (first | obtain ⟨hy1, hy2, hy3, hy4⟩ := lts4 hz2 | obtain ⟨hy1, hy2, hy3⟩ := lts3 hz2 | obtain ⟨hy1, hy2⟩ := lts2 hz2 | have hy1 := lts1 hz2); have hb9 := hb1; have hg8 : g < w1.heap.size := Nat.lt_of_lt_of_le (by assumption) hb1.size) | (go_at_call 85; refine (spec_TargetLoad l j _ _ _ (by exact Kd.C_below hp (by with_reducible repeat (first | assumption | exact bw_refl _ | apply bw_alloc | apply bw_drew | apply bw_drewN | refine bw_set _ ?_ (by omega) | refine bw_then ?_ (by assumption)))) hkl).mono ?_; rintro e w1 ⟨he, hb1⟩; rw [HDV.out] at he; subst he; obtain ⟨hc1, hf1, hz1⟩ := bcell hb1; (try simp only [World.size_alloc, World.size_setCell, World.size_drew, sz_drewN] at hz1); have hb2 := (by first | exact bw_then hb2 hb1 | exact bw_then (bw_drewN _ hb2) hb1 | exact bw_then (bw_alloc _ hb2) hb1 | exact bw_then (bw_drew hb2) hb1 | exact bw_then HB hb1 | exact bw_then (bw_drewN _ HB) hb1 | exact bw_then (bw_alloc _ HB) hb1 | exact bw_then (bw_drew HB) hb1 | exact hb1); obtain ⟨hc2, hf2, hz2⟩ := bcell hb2; (try simp only [World.size_alloc, World.size_setCell, World.size_drew, sz_drewN] at hz2); try (first | obtain ⟨hy1, hy2, hy3, hy4⟩ := lts4 hz2 | obtain ⟨hy1, hy2, hy3⟩ := lts3 hz2 | obtain ⟨hy1, hy2⟩ := lts2 hz2 | have hy1 := lts1 hz2); have hb9 := hb1; have hg8 : g < w1.heap.size := Nat.lt_of_lt_of_le (by assumption) hb1.size))
                  have HF : Below wr.heap.size wr w1 := (by with_reducible repeat (first | assumption | exact bw_refl _ | apply bw_alloc | apply bw_drew | apply bw_drewN | refine bw_set _ ?_ (by omega) | refine bw_then ?_ (by assumption)))
                  go_roundw
                  case rel => exact ⟨j + 1, by go_num, by omega, by rw [HB1.out, HB2.out]; exact (rowI_set (rowI_set (Kd.R_below HO HF) 2 _) 3 _), by first | exact hg8 | (simp only [World.size_alloc, World.size_setCell, World.size_drew, sz_drewN]; exact hg8), (bw_set _ (bw_set _ (bw_then HB HF) HGB.out) HGB.out)⟩
                  case measure => simp [intOf]; omega
                · have HB2 := Lib.hid (show bd l (j + 1) = bd l j by rw [HS2.out, HDV.out, atL, if_neg a2])
                  go_wp2_with (first | (go_at_call 62; refine (spec_NodeCount m.g _).mono ?_; rintro e w1 ⟨he, hb1⟩; rw [HC.out] at he; subst he; obtain ⟨hc1, hf1, hz1⟩ := bcell hb1; (try simp only [World.size_alloc, World.size_setCell, World.size_drew, sz_drewN] at hz1); have hb2 := (by first | exact bw_then hb2 hb1 | exact bw_then (bw_drewN _ hb2) hb1 | exact bw_then (bw_alloc _ hb2) hb1 | exact bw_then (bw_drew hb2) hb1 | exact bw_then HB hb1 | exact bw_then (bw_drewN _ HB) hb1 | exact bw_then (bw_alloc _ HB) hb1 | exact bw_then (bw_drew HB) hb1 | exact hb1); obtain ⟨hc2, hf2, hz2⟩ := bcell hb2; (try simp only [World.size_alloc, World.size_setCell, World.size_drew, sz_drewN] at hz2); try (first | obtain ⟨hy1, hy2, hy3, hy4⟩ := lts4 hz2 | obtain ⟨hy1, hy2, hy3⟩ := lts3 hz2 | obtain ⟨hy1, hy2⟩ := lts2 hz2 | have hy1 := lts1 hz2); have hb9 := hb1; have hg8 : g < w1.heap.size := Nat.lt_of_lt_of_le (by assumption) hb1.size) | (go_at_call 84; refine (spec_SourceLoad l j _ _ _ (by exact Kd.C_below hp (by with_reducible repeat (first | assumption | exact bw_refl _ | apply bw_alloc | apply bw_drew | apply bw_drewN | refine bw_set _ ?_ (by omega) | refine bw_then ?_ (by assumption)))) hkl).mono ?_; rintro e w1 ⟨he, hb1⟩; rw [HSV.out] at he; subst he; obtain ⟨hc1, hf1, hz1⟩ := bcell hb1; (try simp only [World.size_alloc, World.size_setCell, World.size_drew, sz_drewN] at hz1); have hb2 := (by first | exact bw_then hb2 hb1 | exact bw_then (bw_drewN _ hb2) hb1 | exact bw_then (bw_alloc _ hb2) hb1 | exact bw_then (bw_drew hb2) hb1 | exact bw_then HB hb1 | exact bw_then (bw_drewN _ HB) hb1 | exact bw_then (bw_alloc _ HB) hb1 | exact bw_then (bw_drew HB) hb1 | exact hb1); obtain ⟨hc2, hf2, hz2⟩ := bcell hb2; (try simp only [World.size_alloc, World.size_setCell, World.size_drew, sz_drewN] at hz2); try (first | obtain ⟨hy1, hy2, hy3, hy4⟩ := lts4 hz2 | obtain ⟨hy1, hy2, hy3⟩ := lts3 hz2 | obtain ⟨hy1, hy2⟩ := lts2 hz2 | have hy1 := lts1 hz2); have hb9 := hb1; have hg8 : g < w1.heap.size := Nat.lt_of_lt_of_le (by assumption) hb1.size) | (go_at_call 85; refine (spec_TargetLoad l j _ _ _ (by exact Kd.C_below hp (by with_reducible repeat (first | assumption | exact bw_refl _ | apply bw_alloc | apply bw_drew | apply bw_drewN | refine bw_set _ ?_ (by omega) | refine bw_then ?_ (by assumption)))) hkl).mono ?_; rintro e w1 ⟨he, hb1⟩; rw [HDV.out] at he; subst he; obtain ⟨hc1, hf1, hz1⟩ := bcell hb1; (try simp only [World.size_alloc, World.size_setCell, World.size_drew, sz_drewN] at hz1); have hb2 := (by first | exact bw_then hb2 hb1 | exact bw_then (bw_drewN _ hb2) hb1 | exact bw_then (bw_alloc _ hb2) hb1 | exact bw_then (bw_drew hb2) hb1 | exact bw_then HB hb1 | exact bw_then (bw_drewN _ HB) hb1 | exact bw_then (bw_alloc _ HB) hb1 | exact bw_then (bw_drew HB) hb1 | exact hb1); obtain ⟨hc2, hf2, hz2⟩ := bcell hb2; (try simp only [World.size_alloc, World.size_setCell, World.size_drew, sz_drewN] at hz2); try (first | obtain ⟨hy1, hy2, hy3, hy4⟩ := lts4 hz2 | obtain ⟨hy1, hy2, hy3⟩ := lts3 hz2 | obtain ⟨hy1, hy2⟩ := lts2 hz2 | have hy1 := lts1 hz2); have hb9 := hb1; have hg8 : g < w1.heap.size := Nat.lt_of_lt_of_le (by assumption) hb1.size))
                  have HF : Below wr.heap.size wr w1 := (by with_reducible repeat (first | assumption | exact bw_refl _ | apply bw_alloc | apply bw_drew | apply bw_drewN | refine bw_set _ ?_ (by omega) | refine bw_then ?_ (by assumption)))
                  go_roundw
                  case rel => exact ⟨j + 1, by go_num, by omega, by rw [HB1.out, HB2.out]; exact (rowI_set (Kd.R_below HO HF) 2 _), by first | exact hg8 | (simp only [World.size_alloc, World.size_setCell, World.size_drew, sz_drewN]; exact hg8), (bw_set _ (bw_then HB HF) HGB.out)⟩
                  case measure => simp [intOf]; omega
              · have HB1 := Lib.hid (show bs l (j + 1) = bs l j by rw [HS1.out, HSV.out, atL, if_neg a1])
                by_cases a2 : 0 < dv
                · have HB2 := Lib.hid (show bd l (j + 1) = if bd l j < dv + 2 then dv + 2 else bd l j by rw [HS2.out, HDV.out, atL, if_pos a2, max_if])
                  go_wp2_with (first | (go_at_call 62; refine (spec_NodeCount m.g _).mono ?_; rintro e w1 ⟨he, hb1⟩; rw [HC.out] at he; subst he; obtain ⟨hc1, hf1, hz1⟩ := bcell hb1; (try simp only [World.size_alloc, World.size_setCell, World.size_drew, sz_drewN] at hz1); have hb2 := (by first | exact bw_then hb2 hb1 | exact bw_then (bw_drewN _ hb2) hb1 | exact bw_then (bw_alloc _ hb2) hb1 | exact bw_then (bw_drew hb2) hb1 | exact bw_then HB hb1 | exact bw_then (bw_drewN _ HB) hb1 | exact bw_then (bw_alloc _ HB) hb1 | exact bw_then (bw_drew HB) hb1 | exact hb1); obtain ⟨hc2, hf2, hz2⟩ := bcell hb2; (try simp only [World.size_alloc, World.size_setCell, World.size_drew, sz_drewN] at hz2); try (first | obtain ⟨hy1, hy2, hy3, hy4⟩ := lts4 hz2 | obtain ⟨hy1, hy2, hy3⟩ := lts3 hz2 | obtain ⟨hy1, hy2⟩ := lts2 hz2 | have hy1 := lts1 hz2); have hb9 := hb1; have hg8 : g < w1.heap.size := Nat.lt_of_lt_of_le (by assumption) hb1.size) | (go_at_call 84; refine (spec_SourceLoad l j _ _ _ (by exact Kd.C_below hp (by with_reducible repeat (first | assumption | exact bw_refl _ | apply bw_alloc | apply bw_drew | apply bw_drewN | refine bw_set _ ?_ (by omega) | refine bw_then ?_ (by assumption)))) hkl).mono ?_; rintro e w1 ⟨he, hb1⟩; rw [HSV.out] at he; subst he; obtain ⟨hc1, hf1, hz1⟩ := bcell hb1; (try simp only [World.size_alloc, World.size_setCell, World.size_drew, sz_drewN] at hz1); have hb2 := (by first | exact bw_then hb2 hb1 | exact bw_then (bw_drewN _ hb2) hb1 | exact bw_then (bw_alloc _ hb2) hb1 | exact bw_then (bw_drew hb2) hb1 | exact bw_then HB hb1 | exact bw_then (bw_drewN _ HB) hb1 | exact bw_then (bw_alloc _ HB) hb1 | exact bw_then (bw_drew HB) hb1 | exact hb1); obtain ⟨hc2, hf2, hz2⟩ := bcell hb2; (try simp only [World.size_alloc, World.size_setCell, World.size_drew, sz_drewN] at hz2); try (first | obtain ⟨hy1, hy2, hy3, hy4⟩ := lts4 hz2 | obtain ⟨hy1, hy2, hy3⟩ := lts3 hz2 | obtain ⟨hy1, hy2⟩ := lts2 hz2 | have hy1 := lts1 hz2); have hb9 := hb1; have hg8 : g < w1.heap.size := Nat.lt_of_lt_of_le (by assumption) hb1.size) | (go_at_call 85; refine (spec_TargetLoad l j _ _ _ (by exact Kd.C_below hp (by with_reducible repeat (first | assumption | exact bw_refl _ | apply bw_alloc | apply bw_drew | apply bw_drewN | refine bw_set _ ?_ (by omega) | refine bw_then ?_ (by assumption)))) hkl).mono ?_; rintro e w1 ⟨he, hb1⟩; rw [HDV.out] at he; subst he; obtain ⟨hc1, hf1, hz1⟩ := bcell hb1; (try simp only [World.size_alloc, World.size_setCell, World.size_drew, sz_drewN] at hz1); have hb2 := (by first | exact bw_then hb2 hb1 | exact bw_then (bw_drewN _ hb2) hb1 | exact bw_then (bw_alloc _ hb2) hb1 | exact bw_then (bw_drew hb2) hb1 | exact bw_then HB hb1 | exact bw_then (bw_drewN _ HB) hb1 | exact bw_then (bw_alloc _ HB) hb1 | exact bw_then (bw_drew HB) hb1 | exact hb1); obtain ⟨hc2, hf2, hz2⟩ := bcell hb2; (try simp only [World.size_alloc, World.size_setCell, World.size_drew, sz_drewN] at hz2); try (first | obtain ⟨hy1, hy2, hy3, hy4⟩ := lts4 hz2 | obtain ⟨hy1, hy2, hy3⟩ := lts3 hz2 | obtain ⟨hy1, hy2⟩ := lts2 hz2 | have hy1 := lts1 hz2); have hb9 := hb1; have hg8 : g < w1.heap.size := Nat.lt_of_lt_of_le (by assumption) hb1.size))
                  have HF : Below wr.heap.size wr w1 := (by with_reducible repeat (first | assumption | exact bw_refl _ | apply bw_alloc | apply bw_drew | apply bw_drewN | refine bw_set _ ?_ (by omega) | refine bw_then ?_ (by assumption)))
                  go_roundw
                  case rel => exact ⟨j + 1, by go_num, by omega, by rw [HB1.out, HB2.out]; exact (rowI_set (Kd.R_below HO HF) 3 _), by first | exact hg8 | (simp only [World.size_alloc, World.size_setCell, World.size_drew, sz_drewN]; exact hg8), (bw_set _ (bw_then HB HF) HGB.out)⟩
                  case measure => simp [intOf]; omega
                · have HB2 := Lib.hid (show bd l (j + 1) = bd l j by rw [HS2.out, HDV.out, atL, if_neg a2])
                  go_wp2_with (first | (go_at_call 62; refine (spec_NodeCount m.g _).mono ?_; rintro e w1 ⟨he, hb1⟩; rw [HC.out] at he; subst he; obtain ⟨hc1, hf1, hz1⟩ := bcell hb1; (try simp only [World.size_alloc, World.size_setCell, World.size_drew, sz_drewN] at hz1); have hb2 := (by first | exact bw_then hb2 hb1 | exact bw_then (bw_drewN _ hb2) hb1 | exact bw_then (bw_alloc _ hb2) hb1 | exact bw_then (bw_drew hb2) hb1 | exact bw_then HB hb1 | exact bw_then (bw_drewN _ HB) hb1 | exact bw_then (bw_alloc _ HB) hb1 | exact bw_then (bw_drew HB) hb1 | exact hb1); obtain ⟨hc2, hf2, hz2⟩ := bcell hb2; (try simp only [World.size_alloc, World.size_setCell, World.size_drew, sz_drewN] at hz2); try (first | obtain ⟨hy1, hy2, hy3, hy4⟩ := lts4 hz2 | obtain ⟨hy1, hy2, hy3⟩ := lts3 hz2 | obtain ⟨hy1, hy2⟩ := lts2 hz2 | have hy1 := lts1 hz2); have hb9 := hb1; have hg8 : g < w1.heap.size := Nat.lt_of_lt_of_le (by assumption) hb1.size) | (go_at_call 84; refine (spec_SourceLoad l j _ _ _ (by exact Kd.C_below hp (by with_reducible repeat (first | assumption | exact bw_refl _ | apply bw_alloc | apply bw_drew | apply bw_drewN | refine bw_set _ ?_ (by omega) | refine bw_then ?_ (by assumption)))) hkl).mono ?_; rintro e w1 ⟨he, hb1⟩; rw [HSV.out] at he; subst he; obtain ⟨hc1, hf1, hz1⟩ := bcell hb1; (try simp only [World.size_alloc, World.size_setCell, World.size_drew, sz_drewN] at hz1); have hb2 := (by first | exact bw_then hb2 hb1 | exact bw_then (bw_drewN _ hb2) hb1 | exact bw_then (bw_alloc _ hb2) hb1 | exact bw_then (bw_drew hb2) hb1 | exact bw_then HB hb1 | exact bw_then (bw_drewN _ HB) hb1 | exact bw_then (bw_alloc _ HB) hb1 | exact bw_then (bw_drew HB) hb1 | exact hb1); obtain ⟨hc2, hf2, hz2⟩ := bcell hb2; (try simp only [World.size_alloc, World.size_setCell, World.size_drew, sz_drewN] at hz2); try (first | obtain ⟨hy1, hy2, hy3, hy4⟩ := lts4 hz2 | obtain ⟨hy1, hy2, hy3⟩ := lts3 hz2 | obtain ⟨hy1, hy2⟩ := lts2 hz2 | have hy1 := lts1 hz2); have hb9 := hb1; have hg8 : g < w1.heap.size := Nat.lt_of_lt_of_le (by assumption) hb1.size) | (go_at_call 85; refine (spec_TargetLoad l j _ _ _ (by exact Kd.C_below hp (by with_reducible repeat (first | assumption | exact bw_refl _ | apply bw_alloc | apply bw_drew | apply bw_drewN | refine bw_set _ ?_ (by omega) | refine bw_then ?_ (by assumption)))) hkl).mono ?_; rintro e w1 ⟨he, hb1⟩; rw [HDV.out] at he; subst he; obtain ⟨hc1, hf1, hz1⟩ := bcell hb1; (try simp only [World.size_alloc, World.size_setCell, World.size_drew, sz_drewN] at hz1); have hb2 := (by first | exact bw_then hb2 hb1 | exact bw_then (bw_drewN _ hb2) hb1 | exact bw_then (bw_alloc _ hb2) hb1 | exact bw_then (bw_drew hb2) hb1 | exact bw_then HB hb1 | exact bw_then (bw_drewN _ HB) hb1 | exact bw_then (bw_alloc _ HB) hb1 | exact bw_then (bw_drew HB) hb1 | exact hb1); obtain ⟨hc2, hf2, hz2⟩ := bcell hb2; (try simp only [World.size_alloc, World.size_setCell, World.size_drew, sz_drewN] at hz2); try (first | obtain ⟨hy1, hy2, hy3, hy4⟩ := lts4 hz2 | obtain ⟨hy1, hy2, hy3⟩ := lts3 hz2 | obtain ⟨hy1, hy2⟩ := lts2 hz2 | have hy1 := lts1 hz2); have hb9 := hb1; have hg8 : g < w1.heap.size := Nat.lt_of_lt_of_le (by assumption) hb1.size))
                  have HF : Below wr.heap.size wr w1 := (by with_reducible repeat (first | assumption | exact bw_refl _ | apply bw_alloc | apply bw_drew | apply bw_drewN | refine bw_set _ ?_ (by omega) | refine bw_then ?_ (by assumption)))
                  go_roundw
                  case rel => exact ⟨j + 1, by go_num, by omega, by rw [HB1.out, HB2.out]; exact (Kd.R_below HO HF), by first | exact hg8 | (simp only [World.size_alloc, World.size_setCell, World.size_drew, sz_drewN]; exact hg8), (bw_then HB HF)⟩
                  case measure => simp [intOf]; omega
            · have i0 : ¬ (j : Int) < (N : Int) := by omega
              have hje : j = N := by omega
              go_wp2_with (go_at_call 62; refine (spec_NodeCount m.g _).mono ?_; rintro e w1 ⟨he, hb1⟩; rw [HC.out] at he; subst he; obtain ⟨hc1, hf1, hz1⟩ := bcell hb1; (try simp only [World.size_alloc, World.size_setCell, World.size_drew, sz_drewN] at hz1); have hb2 := (by first | exact bw_then hb2 hb1 | exact bw_then (bw_drewN _ hb2) hb1 | exact bw_then (bw_alloc _ hb2) hb1 | exact bw_then (bw_drew hb2) hb1 | exact bw_then HB hb1 | exact bw_then (bw_drewN _ HB) hb1 | exact bw_then (bw_alloc _ HB) hb1 | exact bw_then (bw_drew HB) hb1 | exact hb1); obtain ⟨hc2, hf2, hz2⟩ := bcell hb2; (try simp only [World.size_alloc, World.size_setCell, World.size_drew, sz_drewN] at hz2); try (first | obtain ⟨hy1, hy2, hy3, hy4⟩ := lts4 hz2 | obtain ⟨hy1, hy2, hy3⟩ := lts3 hz2 | obtain ⟨hy1, hy2⟩ := lts2 hz2 | have hy1 := lts1 hz2); have hb9 := hb1)
              go_ret
              refine ⟨⟨_, rfl, ?_⟩, (by with_reducible repeat (first | assumption | exact bw_refl _ | apply bw_alloc | apply bw_drew | apply bw_drewN | refine bw_set _ ?_ (by omega) | refine bw_then ?_ (by assumption)))⟩
              have h1 : loadsL m pa pb l = xs := by rw [← HLO.out]
              rw [h1, HCH.out, HNN.out, ← hje]
              exact Kd.R_lower (by exact Kd.R_below HO (by with_reducible repeat (first | assumption | exact bw_refl _ | apply bw_alloc | apply bw_drew | apply bw_drewN | refine bw_set _ ?_ (by omega) | refine bw_then ?_ (by assumption)))) (by simp only [World.size_alloc, World.size_setCell, World.size_drew, sz_drewN]; omega)

end Go.Proofs.Ytcaipmhfgjafjaa
