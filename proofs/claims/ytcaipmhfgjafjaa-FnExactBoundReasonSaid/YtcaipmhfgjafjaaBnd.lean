/- The bounds of a traffic: what the program and the reference return; for all meshes, tables and lists of at most a million entries. -/
import Derived.Test.YtcaipmhfgjafjaaLoadsD
import Derived.Test.YtcaipmhfgjafjaaM5
import Derived.Deep.RegionWith
import Derived.RegionTactic
import Derived.BigRegion
set_option linter.unusedVariables false
set_option linter.unusedSimpArgs false
namespace Go.Proofs.Ytcaipmhfgjafjaa
open Go.RowKit Go.Proofs.YtcaipmhfgjafjaaW.PrintWords
open NoC

theorem impl_atLeast (b x : Int) (w : World) (h0 : 0 ≤ b) (h1 : b ≤ 10000000) (h2 : -1 ≤ x) (h3 : x ≤ 10000000) : Calls Try.prog 86 #[.int .i64 b, .int .i64 x] w fun e w' => e = .returned (.int .i64 (atL b x)) ∧ w = w' := by
  go_enter Try.func86, Try.ntmps86
  by_cases h : 0 < x
  · go_wp2
    all_goals go_ret
    all_goals exact ⟨ret_int (by unfold atL; split <;> omega), rfl⟩
  · go_wp2
    go_ret
    exact ⟨ret_int (by rw [atL, if_neg (by omega)]), rfl⟩

set_option maxHeartbeats 4000000 in
set_option maxRecDepth 100000 in
theorem impl_bounds (m : Mesh) (pa pb : List Int) (l : List Packet) (A B C D : Option Addr) (c d k n : Nat) (w : World) (hr : Kd.C (Kd.int .i64) w A m.br.length m.br) (hn : m.br.length ≤ 1048576) (ha : Kd.C (Kd.int .i64) w B pa.length pa) (hka : pa.length ≤ 1048576) (hb : Kd.C (Kd.int .i64) w C pb.length pb) (hkb : pb.length ≤ 1048576) (hp : kP.C w D l.length l) (hkl : l.length ≤ 1048576) (hok : arePk m pa pb l = true) :
    Calls Try.prog 66 #[.agg #[.int .i64 m.g.w, .int .i64 m.g.h, .slice A m.br.length c], .agg #[.slice B pa.length d, .slice C pb.length k], .slice D l.length n] w fun e w' => e = .returned (.agg #[.int .i64 (bz m pa pb l l.length), .int .i64 (bl (loadsL m pa pb l) (chans m)), .int .i64 (bs l (nodesN m)), .int .i64 (bd l (nodesN m))]) ∧ Below w.heap.size w w' := by
  obtain ⟨n0, n1⟩ := count_le m.g
  obtain ⟨N, hN⟩ : ∃ N : Nat, nodeCount m.g = (N : Int) := ⟨(nodeCount m.g).toNat, by omega⟩
  have hN16 : N ≤ 16 := by omega
  have hnn : nodesN m = N := by unfold nodesN; omega
  have HNN := Lib.hid hnn
  have HC := Lib.hid hN
  have hall := (arePk_parts hok).2
  have HALL := Lib.hid hall
  have HPOS := Lib.hid (arePk_count hok)
  have HLO := Lib.hid (loadsOf_yes hok)
  have hll := loadsOf_len m pa pb l
  have HRG := Lib.hid (loadsOf_range m pa pb l hkl)
  have hch : chans m = (loadsOf m pa pb l).length := by rw [loadsOf_yes hok, loadsL_len]
  have HCH := Lib.hid hch
  clear hN n0 n1 hnn hall hok hch
  go_enter Try.func66, Try.ntmps66
  go_wp2
  go_loopw [16] (fun i wr => ∃ j : Nat, i = .int .i64 j ∧ j ≤ l.length ∧ Arr wr (w.heap.size + 2) 78 #[.int .i64 0, .int .i64 0, .int .i64 0, .int .i64 0] ∧ Arr wr (w.heap.size + 3) 78 #[.int .i64 (bz m pa pb l j), .int .i64 (0), .int .i64 (0), .int .i64 (0)] ∧ Below ((w.alloc (.cells #[.int .i64 m.g.w, .int .i64 m.g.h, .slice A m.br.length c] 38)).alloc (.cells #[.slice B pa.length d, .slice C pb.length k] 42)).heap.size ((w.alloc (.cells #[.int .i64 m.g.w, .int .i64 m.g.h, .slice A m.br.length c] 38)).alloc (.cells #[.slice B pa.length d, .slice C pb.length k] 42)) wr) (fun i _ => l.length - (intOf i).toNat)
  case atStart => exact ⟨0, rfl, Nat.zero_le _, Arr.below (Arr.new ((w.alloc (.cells #[.int .i64 m.g.w, .int .i64 m.g.h, .slice A m.br.length c] 38)).alloc (.cells #[.slice B pa.length d, .slice C pb.length k] 42)) _ _ _ (by simp only [World.size_alloc, World.size_setCell, World.size_drew, sz_drewN])) (bw_alloc _ (bw_refl _)), Arr.new _ _ _ _ (by simp only [World.size_alloc, World.size_setCell, World.size_drew, sz_drewN]), (by with_reducible repeat (first | assumption | exact bw_refl _ | apply bw_alloc | apply bw_drew | apply bw_drewN | refine bw_set _ ?_ (by omega) | refine bw_then ?_ (by assumption)))⟩
  case round =>
    obtain ⟨j, rfl, hj, HR, HV, HB⟩ := hrel
    obtain ⟨hc0, hf0, hz0⟩ := bcell HB
    simp only [World.size_alloc, World.size_setCell, World.size_drew, sz_drewN] at hz0
    obtain ⟨yy1, yy2⟩ := lts2 hz0
    have x0 := HV.cell 0
    have x1 := HV.cell 1
    have x2 := HV.cell 2
    have x3 := HV.cell 3
    have f0 := HV.frozen 0
    have f1 := HV.frozen 1
    have f2 := HV.frozen 2
    have f3 := HV.frozen 3
    simp only [List.getElem?_toArray, List.getElem?_cons_zero, List.getElem?_cons_succ] at x0 x1 x2 x3
    have yv := HV.lt
    have yr := HR.lt
    by_cases hlt : j < l.length
    · obtain ⟨b, off, rfl, hbl, p0, p1, p2, p3, p4⟩ := rdP_at hp j hlt
      obtain ⟨z1, z2, z3, z4, z5, z6⟩ := more hbl
      obtain ⟨r0, r1⟩ := bz_range m pa pb l j hj
      obtain ⟨t0, t1⟩ := zeroLoad_le m pa pb (rp l j)
      have HS := Lib.hid (bz_succ m pa pb l j hlt)
      obtain ⟨z, hz⟩ : ∃ z, zeroLoad m pa pb (rp l j) = z := ⟨_, rfl⟩
      rw [hz] at t0 t1
      have HZ := Lib.hid hz
      clear hz
      have hwp := bw_alloc (.cells #[.int .i64 (rp l j).id, .int .i64 (rp l j).src, .int .i64 (rp l j).dst, .int .i64 (rp l j).cls, .int .i64 (rp l j).len] 44) HB
      have HZL : ∀ W : World, Below ((w.alloc (.cells #[.int .i64 m.g.w, .int .i64 m.g.h, .slice A m.br.length c] 38)).alloc (.cells #[.slice B pa.length d, .slice C pb.length k] 42)).heap.size ((w.alloc (.cells #[.int .i64 m.g.w, .int .i64 m.g.h, .slice A m.br.length c] 38)).alloc (.cells #[.slice B pa.length d, .slice C pb.length k] 42)) W → Calls Try.prog 17 #[.agg #[.int .i64 m.g.w, .int .i64 m.g.h, .slice A m.br.length c], .agg #[.slice B pa.length d, .slice C pb.length k], .agg #[.int .i64 (rp l j).id, .int .i64 (rp l j).src, .int .i64 (rp l j).dst, .int .i64 (rp l j).cls, .int .i64 (rp l j).len]] W fun e w' => e = .returned (.int .i64 z) ∧ Below W.heap.size W w' := by
        intro W hW
        have hW2 : Below w.heap.size w W := bw_then (bw_alloc _ (bw_alloc _ (bw_refl w))) hW
        have h := impl_ZeroLoad m pa pb (rp l j) A B C c d k W (Kd.C_below hr hW2) hn (Kd.C_below ha hW2) hka (Kd.C_below hb hW2) hkb
        rw [HZ.out] at h
        exact h
      have HZL := Lib.hid HZL
      have yq : w.heap.size + 1 + 1 + 1 < (wr.alloc (.cells #[.int .i64 (rp l j).id, .int .i64 (rp l j).src, .int .i64 (rp l j).dst, .int .i64 (rp l j).cls, .int .i64 (rp l j).len] 44)).drew.heap.size := by show w.heap.size + 1 + 1 + 1 < (wr.alloc (.cells #[.int .i64 (rp l j).id, .int .i64 (rp l j).src, .int .i64 (rp l j).dst, .int .i64 (rp l j).cls, .int .i64 (rp l j).len] 44)).heap.size; simp only [World.size_alloc, World.size_setCell, World.size_drew, sz_drewN]; omega
      have yq2 : w.heap.size < (wr.alloc (.cells #[.int .i64 (rp l j).id, .int .i64 (rp l j).src, .int .i64 (rp l j).dst, .int .i64 (rp l j).cls, .int .i64 (rp l j).len] 44)).drew.heap.size := by show w.heap.size < (wr.alloc (.cells #[.int .i64 (rp l j).id, .int .i64 (rp l j).src, .int .i64 (rp l j).dst, .int .i64 (rp l j).cls, .int .i64 (rp l j).len] 44)).heap.size; simp only [World.size_alloc, World.size_setCell, World.size_drew, sz_drewN]; omega
      have yq3 : w.heap.size + 1 < (wr.alloc (.cells #[.int .i64 (rp l j).id, .int .i64 (rp l j).src, .int .i64 (rp l j).dst, .int .i64 (rp l j).cls, .int .i64 (rp l j).len] 44)).drew.heap.size := by show w.heap.size + 1 < (wr.alloc (.cells #[.int .i64 (rp l j).id, .int .i64 (rp l j).src, .int .i64 (rp l j).dst, .int .i64 (rp l j).cls, .int .i64 (rp l j).len] 44)).heap.size; simp only [World.size_alloc, World.size_setCell, World.size_drew, sz_drewN]; omega
      have yq4 : wr.heap.size < (wr.alloc (.cells #[.int .i64 (rp l j).id, .int .i64 (rp l j).src, .int .i64 (rp l j).dst, .int .i64 (rp l j).cls, .int .i64 (rp l j).len] 44)).drew.heap.size := by show wr.heap.size < (wr.alloc (.cells #[.int .i64 (rp l j).id, .int .i64 (rp l j).src, .int .i64 (rp l j).dst, .int .i64 (rp l j).cls, .int .i64 (rp l j).len] 44)).heap.size; simp only [World.size_alloc, World.size_setCell, World.size_drew, sz_drewN]; omega
      go_wp2
      have hWA : Below wr.heap.size wr (wr.alloc (.cells #[.int .i64 (rp l j).id, .int .i64 (rp l j).src, .int .i64 (rp l j).dst, .int .i64 (rp l j).cls, .int .i64 (rp l j).len] 44)) := bw_alloc _ (bw_refl wr)
      have hB9 : Below (wr.alloc (.cells #[.int .i64 (rp l j).id, .int .i64 (rp l j).src, .int .i64 (rp l j).dst, .int .i64 (rp l j).cls, .int .i64 (rp l j).len] 44)).heap.size (wr.alloc (.cells #[.int .i64 (rp l j).id, .int .i64 (rp l j).src, .int .i64 (rp l j).dst, .int .i64 (rp l j).cls, .int .i64 (rp l j).len] 44)) (wr.alloc (.cells #[.int .i64 (rp l j).id, .int .i64 (rp l j).src, .int .i64 (rp l j).dst, .int .i64 (rp l j).cls, .int .i64 (rp l j).len] 44)).drew := bw_drew (bw_refl _)
      clear hp hr ha hb hn hka hkb hbl z1 z2 z3 z4 z5 z6 p0 p1 p2 p3 p4 hll HRG HCH HLO HALL HPOS HNN HC hN16 x1 x2 x3 f1 f2 f3
      go_region_with (go_at_call 17; refine (HZL.out _ (by first | exact bw_drew hwp | exact hwp)).mono ?_; rintro e w1 ⟨rfl, hb1⟩; have q1 : w1.cell? ⟨w.heap.size + 1 + 1 + 1, 0, none⟩ = some (.int .i64 (bz m pa pb l j)) := (Arr.cell (Arr.below (Arr.below (Arr.below (show Arr wr (w.heap.size + 1 + 1 + 1) 78 _ from HV) hWA) hB9) hb1) 0); have q2 : w1.frozen? ⟨w.heap.size + 1 + 1 + 1, 0, none⟩ = false := (Arr.frozen (Arr.below (Arr.below (Arr.below (show Arr wr (w.heap.size + 1 + 1 + 1) 78 _ from HV) hWA) hB9) hb1) 0); obtain ⟨hc1, hf1, hz1⟩ := bcell hb1)
      all_goals
        have HR1 := Arr.other (Arr.below (Arr.below (Arr.below HR hWA) hB9) hb1) (w.heap.size + 1 + 1 + 1) 0 (.int .i64 (if bz m pa pb l j < z then z else bz m pa pb l j)) (by omega)
        have HV1 := Arr.set (Arr.below (Arr.below (Arr.below (show Arr wr (w.heap.size + 1 + 1 + 1) 78 _ from HV) hWA) hB9) hb1) 0 (.int .i64 (if bz m pa pb l j < z then z else bz m pa pb l j))
        have HB1 : Below ((w.alloc (.cells #[.int .i64 m.g.w, .int .i64 m.g.h, .slice A m.br.length c] 38)).alloc (.cells #[.slice B pa.length d, .slice C pb.length k] 42)).heap.size ((w.alloc (.cells #[.int .i64 m.g.w, .int .i64 m.g.h, .slice A m.br.length c] 38)).alloc (.cells #[.slice B pa.length d, .slice C pb.length k] 42)) (w1.setCell ⟨w.heap.size + 1 + 1 + 1, 0, none⟩ (.int .i64 (if bz m pa pb l j < z then z else bz m pa pb l j))) := bw_set _ (bw_then (bw_drew hwp) hb1) (by simp only [World.size_alloc, World.size_setCell, World.size_drew, sz_drewN]; omega)
        go_wp2
        go_roundw
        case rel => exact ⟨j + 1, by go_num, by omega, HR1, by rw [HS.out, HZ.out, max_if]; exact HV1, HB1⟩
        case measure => simp [intOf]; omega
    · go_wp2_with (go_at_call 60; refine (impl_loads m pa pb l _ _ _ _ _ _ _ _ _ (by exact Kd.C_below hr (by with_reducible repeat (first | assumption | exact bw_refl _ | apply bw_alloc | apply bw_drew | apply bw_drewN | refine bw_set _ ?_ (by omega) | refine bw_then ?_ (by assumption)))) hn (by exact Kd.C_below ha (by with_reducible repeat (first | assumption | exact bw_refl _ | apply bw_alloc | apply bw_drew | apply bw_drewN | refine bw_set _ ?_ (by omega) | refine bw_then ?_ (by assumption)))) hka (by exact Kd.C_below hb (by with_reducible repeat (first | assumption | exact bw_refl _ | apply bw_alloc | apply bw_drew | apply bw_drewN | refine bw_set _ ?_ (by omega) | refine bw_then ?_ (by assumption)))) hkb (by exact Kd.C_below hp (by with_reducible repeat (first | assumption | exact bw_refl _ | apply bw_alloc | apply bw_drew | apply bw_drewN | refine bw_set _ ?_ (by omega) | refine bw_then ?_ (by assumption)))) hkl HALL.out HPOS.out).mono ?_; rintro e w1 ⟨hg1, hb1⟩; rw [← HLO.out] at hg1; obtain ⟨v1, rfl, HO1⟩ := hg1; obtain ⟨A1, c1, rfl, hk1, hr1⟩ := Kd.R_reads HO1; obtain ⟨hc1, hf1, hz1⟩ := bcell hb1; (try simp only [World.size_alloc, World.size_setCell, World.size_drew, sz_drewN] at hz1); have hb2 := (by first | exact bw_then hb2 hb1 | exact bw_then (bw_drewN _ hb2) hb1 | exact bw_then (bw_alloc _ hb2) hb1 | exact bw_then (bw_drew hb2) hb1 | exact bw_then HB hb1 | exact bw_then (bw_drewN _ HB) hb1 | exact bw_then (bw_alloc _ HB) hb1 | exact bw_then (bw_drew HB) hb1 | exact hb1); obtain ⟨hc2, hf2, hz2⟩ := bcell hb2; (try simp only [World.size_alloc, World.size_setCell, World.size_drew, sz_drewN] at hz2); try (first | obtain ⟨hy1, hy2, hy3, hy4⟩ := lts4 hz2 | obtain ⟨hy1, hy2, hy3⟩ := lts3 hz2 | obtain ⟨hy1, hy2⟩ := lts2 hz2 | have hy1 := lts1 hz2); have hb9 := hb1)
      have hje : j = l.length := by omega
      subst hje
      generalize hxs : loadsOf m pa pb l = xs at hll HRG HCH HLO hk1 hr1 HO1 ⊢
      have HXS := Lib.hid hxs
      clear hxs
      have HLR := Kd.R_lower (base' := w.heap.size + 4) HO1 (by omega)
      have HR := Arr.below HR hb1
      have HV := Arr.below HV hb1
      have HB := bw_then HB hb1
      clear HO1 x0 x1 x2 x3 f0 f1 f2 f3 yv yr hj hlt hk1 hr1
      repeat (first | clear hc1 | clear hf1 | clear hz1 | clear hb1 | clear hb9 | clear hc2 | clear hf2 | clear hz2 | clear hb2 | clear hy1 | clear hy2 | clear hy3 | clear hy4 | clear hap | clear HOm | clear HOa | clear HOb | clear HOp | clear hlm | clear hla | clear hlb | clear hlp | clear hCm | clear hCa | clear hCb | clear hCp | clear Am | clear Aa | clear Ab | clear Ap | clear cm | clear ca | clear cb | clear cp | clear w1)
      obtain ⟨w5, rfl⟩ : ∃ x, x = w1 := ⟨_, rfl⟩
      go_loopw [34] (fun i wr => ∃ j : Nat, i = .int .i64 j ∧ j ≤ xs.length ∧ Arr wr (w.heap.size + 2) 78 #[.int .i64 0, .int .i64 0, .int .i64 0, .int .i64 0] ∧ Arr wr (w.heap.size + 3) 78 #[.int .i64 (bz m pa pb l l.length), .int .i64 (bl xs j), .int .i64 (0), .int .i64 (0)] ∧ Below ((w.alloc (.cells #[.int .i64 m.g.w, .int .i64 m.g.h, .slice A m.br.length c] 38)).alloc (.cells #[.slice B pa.length d, .slice C pb.length k] 42)).heap.size ((w.alloc (.cells #[.int .i64 m.g.w, .int .i64 m.g.h, .slice A m.br.length c] 38)).alloc (.cells #[.slice B pa.length d, .slice C pb.length k] 42)) wr ∧ Kd.R (Kd.int .i64) 3 wr (w.heap.size + 4) (fun _ => True) (.slice A1 xs.length c1) xs) (fun i _ => xs.length - (intOf i).toNat)
      case atStart => exact ⟨0, rfl, Nat.zero_le _, HR, HV, HB, HLR⟩
      case round =>
        clear HR HV HB HLR
        obtain ⟨j, rfl, hj, HR, HV, HB, HLR⟩ := hrel
        obtain ⟨hc0, hf0, hz0⟩ := bcell HB
        simp only [World.size_alloc, World.size_setCell, World.size_drew, sz_drewN] at hz0
        obtain ⟨yy1, yy2⟩ := lts2 hz0
        have x0 := HV.cell 0
        have x1 := HV.cell 1
        have x2 := HV.cell 2
        have x3 := HV.cell 3
        have f0 := HV.frozen 0
        have f1 := HV.frozen 1
        have f2 := HV.frozen 2
        have f3 := HV.frozen 3
        simp only [List.getElem?_toArray, List.getElem?_cons_zero, List.getElem?_cons_succ] at x0 x1 x2 x3
        have yv := HV.lt
        have yr := HR.lt
        by_cases hlt : j < xs.length
        · obtain ⟨_, _, hCx⟩ := Kd.R_row HLR
          obtain ⟨b, off, rfl, hbl, hx⟩ := rdI_at hCx j hlt
          have hxj := hx j hlt
          clear hx
          obtain ⟨g0, g1⟩ := HRG.out j hlt
          obtain ⟨r0, r1⟩ := bl_range HRG.out j hj
          have HS := Lib.hid (bl_succ xs j hlt)
          go_wp2_with (go_at_call 86; refine (impl_atLeast (bl xs j) (ri xs j) _ r0 (by omega) (by omega) (by omega)).mono ?_; rintro e w' ⟨rfl, rfl⟩)
          go_roundw
          case rel => exact ⟨j + 1, by go_num, by omega, Arr.other HR _ _ _ (by omega), by rw [HS.out]; exact Arr.set HV 1 _, bw_set _ HB (by simp only [World.size_alloc, World.size_setCell, World.size_drew, sz_drewN]; omega), R_off HLR (by omega) _ _⟩
          case measure => simp [intOf]; omega
        · go_wp2_with (go_at_call 76; refine (impl_NodeCount m.g _).mono ?_; rintro e w1 ⟨he, hb1⟩; rw [HC.out] at he; subst he; obtain ⟨hc1, hf1, hz1⟩ := bcell hb1; (try simp only [World.size_alloc, World.size_setCell, World.size_drew, sz_drewN] at hz1); have hb2 := (by first | exact bw_then hb2 hb1 | exact bw_then (bw_drewN _ hb2) hb1 | exact bw_then (bw_alloc _ hb2) hb1 | exact bw_then (bw_drew hb2) hb1 | exact bw_then HB hb1 | exact bw_then (bw_drewN _ HB) hb1 | exact bw_then (bw_alloc _ HB) hb1 | exact bw_then (bw_drew HB) hb1 | exact hb1); obtain ⟨hc2, hf2, hz2⟩ := bcell hb2; (try simp only [World.size_alloc, World.size_setCell, World.size_drew, sz_drewN] at hz2); try (first | obtain ⟨hy1, hy2, hy3, hy4⟩ := lts4 hz2 | obtain ⟨hy1, hy2, hy3⟩ := lts3 hz2 | obtain ⟨hy1, hy2⟩ := lts2 hz2 | have hy1 := lts1 hz2); have hb9 := hb1)
          have hje : j = xs.length := by omega
          subst hje
          have HR := Arr.below HR hb1
          have HV := Arr.below HV hb1
          have HB := bw_then HB hb1
          clear HLR x0 x1 x2 x3 f0 f1 f2 f3 yv yr hj hlt
          repeat (first | clear hc1 | clear hf1 | clear hz1 | clear hb1 | clear hb9 | clear hc2 | clear hf2 | clear hz2 | clear hb2 | clear hy1 | clear hy2 | clear hy3 | clear hy4 | clear hap | clear HOm | clear HOa | clear HOb | clear HOp | clear hlm | clear hla | clear hlb | clear hlp | clear hCm | clear hCa | clear hCb | clear hCp | clear Am | clear Aa | clear Ab | clear Ap | clear cm | clear ca | clear cb | clear cp | clear w1)
          obtain ⟨w6, rfl⟩ : ∃ x, x = w1 := ⟨_, rfl⟩
          go_loopw [47] (fun i wr => ∃ j : Nat, i = .int .i64 j ∧ j ≤ N ∧ Arr wr (w.heap.size + 2) 78 #[.int .i64 0, .int .i64 0, .int .i64 0, .int .i64 0] ∧ Arr wr (w.heap.size + 3) 78 #[.int .i64 (bz m pa pb l l.length), .int .i64 (bl xs xs.length), .int .i64 (bs l j), .int .i64 (bd l j)] ∧ Below ((w.alloc (.cells #[.int .i64 m.g.w, .int .i64 m.g.h, .slice A m.br.length c] 38)).alloc (.cells #[.slice B pa.length d, .slice C pb.length k] 42)).heap.size ((w.alloc (.cells #[.int .i64 m.g.w, .int .i64 m.g.h, .slice A m.br.length c] 38)).alloc (.cells #[.slice B pa.length d, .slice C pb.length k] 42)) wr) (fun i _ => N - (intOf i).toNat)
          case atStart => exact ⟨0, rfl, Nat.zero_le _, HR, HV, HB⟩
          case round =>
            clear HR HV HB
            obtain ⟨j, rfl, hj, HR, HV, HB⟩ := hrel
            obtain ⟨hc0, hf0, hz0⟩ := bcell HB
            simp only [World.size_alloc, World.size_setCell, World.size_drew, sz_drewN] at hz0
            obtain ⟨yy1, yy2⟩ := lts2 hz0
            have x0 := HV.cell 0
            have x1 := HV.cell 1
            have x2 := HV.cell 2
            have x3 := HV.cell 3
            have f0 := HV.frozen 0
            have f1 := HV.frozen 1
            have f2 := HV.frozen 2
            have f3 := HV.frozen 3
            simp only [List.getElem?_toArray, List.getElem?_cons_zero, List.getElem?_cons_succ] at x0 x1 x2 x3
            have yv := HV.lt
            have yr := HR.lt
            by_cases hlt : j < N
            · obtain ⟨s0, s1⟩ := srcTo_range HALL.out hkl j l.length (Nat.le_refl _)
              obtain ⟨d0, d1⟩ := dstTo_range HALL.out hkl j l.length (Nat.le_refl _)
              obtain ⟨r0, r1⟩ := bs_range HALL.out hkl j
              obtain ⟨q0, q1⟩ := bd_range HALL.out hkl j
              have HSS : bs l (j + 1) = atL (bs l j) (srcTo l j l.length) := rfl
              have HDD : bd l (j + 1) = atL (bd l j) (dstTo l j l.length) := rfl
              have HS1 := Lib.hid HSS
              have HS2 := Lib.hid HDD
              clear HSS HDD
              obtain ⟨sv, hsv⟩ : ∃ x, srcTo l (j : Int) l.length = x := ⟨_, rfl⟩
              obtain ⟨dv, hdv⟩ : ∃ x, dstTo l (j : Int) l.length = x := ⟨_, rfl⟩
              rw [hsv] at s0 s1
              rw [hdv] at d0 d1
              have HSV := Lib.hid hsv
              have HDV := Lib.hid hdv
              clear hsv hdv
              have hdr : wr.drew.heap.size = wr.heap.size := rfl
              have yd : w.heap.size + 3 < wr.drew.heap.size := yv
              have yd2 : w.heap.size + 1 + 1 + 1 < wr.drew.heap.size := yv
              go_wp2
              go_region_with (first | (go_at_call 87; refine (impl_SourceLoad l j _ _ _ (by exact Kd.C_below hp (by with_reducible repeat (first | assumption | exact bw_refl _ | apply bw_alloc | apply bw_drew | apply bw_drewN | refine bw_set _ ?_ (by omega) | refine bw_then ?_ (by assumption)))) hkl).mono ?_; rintro e w1 ⟨he, hb1⟩; rw [HSV.out] at he; subst he; obtain ⟨hc1, hf1, hz1⟩ := bcell hb1; (try simp only [World.size_alloc, World.size_setCell, World.size_drew, sz_drewN] at hz1); have hb2 := (by first | exact bw_then hb2 hb1 | exact bw_then (bw_drewN _ hb2) hb1 | exact bw_then (bw_alloc _ hb2) hb1 | exact bw_then (bw_drew hb2) hb1 | exact bw_then HB hb1 | exact bw_then (bw_drewN _ HB) hb1 | exact bw_then (bw_alloc _ HB) hb1 | exact bw_then (bw_drew HB) hb1 | exact hb1); obtain ⟨hc2, hf2, hz2⟩ := bcell hb2; (try simp only [World.size_alloc, World.size_setCell, World.size_drew, sz_drewN] at hz2); try (first | obtain ⟨hy1, hy2, hy3, hy4⟩ := lts4 hz2 | obtain ⟨hy1, hy2, hy3⟩ := lts3 hz2 | obtain ⟨hy1, hy2⟩ := lts2 hz2 | have hy1 := lts1 hz2); have hb9 := hb1) | (go_at_call 86; refine (impl_atLeast (bs l j) sv _ r0 (by omega) (by omega) (by omega)).mono ?_; rintro e w' ⟨rfl, rfl⟩))
              all_goals
                have HRA := Arr.other (Arr.below (show Arr wr.drew (w.heap.size + 2) 78 _ from HR) hb1) (w.heap.size + 1 + 1 + 1) 2 (.int .i64 (atL (bs l j) sv)) (by omega)
                have HVA : Arr (w1.setCell ⟨w.heap.size + 1 + 1 + 1, 2, none⟩ (.int .i64 (atL (bs l j) sv))) (w.heap.size + 1 + 1 + 1) 78 #[.int .i64 (bz m pa pb l l.length), .int .i64 (bl xs xs.length), .int .i64 (atL (bs l j) sv), .int .i64 (bd l j)] := Arr.set (Arr.below (show Arr wr.drew (w.heap.size + 1 + 1 + 1) 78 _ from HV) hb1) 2 _
                have HBA : Below ((w.alloc (.cells #[.int .i64 m.g.w, .int .i64 m.g.h, .slice A m.br.length c] 38)).alloc (.cells #[.slice B pa.length d, .slice C pb.length k] 42)).heap.size ((w.alloc (.cells #[.int .i64 m.g.w, .int .i64 m.g.h, .slice A m.br.length c] 38)).alloc (.cells #[.slice B pa.length d, .slice C pb.length k] 42)) (w1.setCell ⟨w.heap.size + 1 + 1 + 1, 2, none⟩ (.int .i64 (atL (bs l j) sv))) := bw_set _ (bw_then (bw_drew HB) hb1) (by simp only [World.size_alloc, World.size_setCell, World.size_drew, sz_drewN]; omega)
                clear x0 x1 x2 x3 f0 f1 f2 f3 hdr yd yd2 yv yr hc0 hf0 hz0 yy1 yy2
                repeat (first | clear hc1 | clear hf1 | clear hz1 | clear hb1 | clear hb9 | clear hc2 | clear hf2 | clear hz2 | clear hb2 | clear hy1 | clear hy2 | clear hy3 | clear hy4 | clear hap | clear HOm | clear HOa | clear HOb | clear HOp | clear hlm | clear hla | clear hlb | clear hlp | clear hCm | clear hCa | clear hCb | clear hCp | clear Am | clear Aa | clear Ab | clear Ap | clear cm | clear ca | clear cb | clear cp | clear w1)
                generalize hWA : w1.setCell ⟨w.heap.size + 1 + 1 + 1, 2, none⟩ (.int .i64 (atL (bs l j) sv)) = wb at *
                clear hWA
                obtain ⟨hc0, hf0, hz0⟩ := bcell HBA
                simp only [World.size_alloc, World.size_setCell, World.size_drew, sz_drewN] at hz0
                obtain ⟨yy1, yy2⟩ := lts2 hz0
                have a0 := HVA.cell 0
                have a1 := HVA.cell 1
                have a2 := HVA.cell 2
                have a3 := HVA.cell 3
                have e0 := HVA.frozen 0
                have e1 := HVA.frozen 1
                have e2 := HVA.frozen 2
                have e3 := HVA.frozen 3
                simp only [List.getElem?_toArray, List.getElem?_cons_zero, List.getElem?_cons_succ] at a0 a1 a2 a3
                have hdr : wb.drew.heap.size = wb.heap.size := rfl
                have yv := HVA.lt
                have yd2 : w.heap.size + 1 + 1 + 1 < wb.drew.heap.size := yv
                go_wp2
                go_region_with (first | (go_at_call 88; refine (impl_TargetLoad l j _ _ _ (by exact Kd.C_below hp (by with_reducible repeat (first | assumption | exact bw_refl _ | apply bw_alloc | apply bw_drew | apply bw_drewN | refine bw_set _ ?_ (by omega) | refine bw_then ?_ (by assumption)))) hkl).mono ?_; rintro e w1 ⟨he, hb1⟩; rw [HDV.out] at he; subst he; obtain ⟨hc1, hf1, hz1⟩ := bcell hb1; (try simp only [World.size_alloc, World.size_setCell, World.size_drew, sz_drewN] at hz1); have hb2 := (by first | exact bw_then hb2 hb1 | exact bw_then (bw_drewN _ hb2) hb1 | exact bw_then (bw_alloc _ hb2) hb1 | exact bw_then (bw_drew hb2) hb1 | exact bw_then HB hb1 | exact bw_then (bw_drewN _ HB) hb1 | exact bw_then (bw_alloc _ HB) hb1 | exact bw_then (bw_drew HB) hb1 | exact hb1); obtain ⟨hc2, hf2, hz2⟩ := bcell hb2; (try simp only [World.size_alloc, World.size_setCell, World.size_drew, sz_drewN] at hz2); try (first | obtain ⟨hy1, hy2, hy3, hy4⟩ := lts4 hz2 | obtain ⟨hy1, hy2, hy3⟩ := lts3 hz2 | obtain ⟨hy1, hy2⟩ := lts2 hz2 | have hy1 := lts1 hz2); have hb9 := hb1) | (go_at_call 86; refine (impl_atLeast (bd l j) dv _ q0 (by omega) (by omega) (by omega)).mono ?_; rintro e w' ⟨rfl, rfl⟩))
                all_goals
                  have HRB := Arr.other (Arr.below (show Arr wb.drew (w.heap.size + 2) 78 _ from HRA) hb1) (w.heap.size + 1 + 1 + 1) 3 (.int .i64 (atL (bd l j) dv)) (by omega)
                  have HVB : Arr (w1.setCell ⟨w.heap.size + 1 + 1 + 1, 3, none⟩ (.int .i64 (atL (bd l j) dv))) (w.heap.size + 1 + 1 + 1) 78 #[.int .i64 (bz m pa pb l l.length), .int .i64 (bl xs xs.length), .int .i64 (atL (bs l j) sv), .int .i64 (atL (bd l j) dv)] := Arr.set (Arr.below (show Arr wb.drew (w.heap.size + 1 + 1 + 1) 78 _ from HVA) hb1) 3 _
                  have HBB : Below ((w.alloc (.cells #[.int .i64 m.g.w, .int .i64 m.g.h, .slice A m.br.length c] 38)).alloc (.cells #[.slice B pa.length d, .slice C pb.length k] 42)).heap.size ((w.alloc (.cells #[.int .i64 m.g.w, .int .i64 m.g.h, .slice A m.br.length c] 38)).alloc (.cells #[.slice B pa.length d, .slice C pb.length k] 42)) (w1.setCell ⟨w.heap.size + 1 + 1 + 1, 3, none⟩ (.int .i64 (atL (bd l j) dv))) := bw_set _ (bw_then (bw_drew HBA) hb1) (by simp only [World.size_alloc, World.size_setCell, World.size_drew, sz_drewN]; omega)
                  go_wp2
                  go_roundw
                  case rel => exact ⟨j + 1, by go_num, by omega, HRB, by rw [HS1.out, HS2.out, HSV.out, HDV.out]; exact HVB, HBB⟩
                  case measure => simp [intOf]; omega
            · have rx : Arr wr (w.heap.size + 1 + 1) 78 #[.int .i64 0, .int .i64 0, .int .i64 0, .int .i64 0] := HR
              have u0 := rx.cell 0
              have u1 := rx.cell 1
              have u2 := rx.cell 2
              have u3 := rx.cell 3
              have v0 := rx.frozen 0
              have v1 := rx.frozen 1
              have v2 := rx.frozen 2
              have v3 := rx.frozen 3
              simp only [List.getElem?_toArray, List.getElem?_cons_zero, List.getElem?_cons_succ] at u0 u1 u2 u3
              go_wp2
              refine bodyPost_ret (v := .agg #[.int .i64 (bz m pa pb l l.length), .int .i64 (bl xs xs.length), .int .i64 (bs l j), .int .i64 (bd l j)]) (by simp [results, Try.results66, go_sem, *]) rfl ⟨?_, ?_⟩
              · have hje : j = N := by omega
                rw [← hje] at HNN
                rw [← HNN.out] at *
                have h1 : loadsL m pa pb l = xs := by rw [← HLO.out]
                have h2 := HCH.out
                rw [h1, h2, HNN.out]
              · have hz9 : ((w.alloc (.cells #[.int .i64 m.g.w, .int .i64 m.g.h, .slice A m.br.length c] 38)).alloc (.cells #[.slice B pa.length d, .slice C pb.length k] 42)).heap.size ≤ w.heap.size + 1 + 1 := by simp only [World.size_alloc, World.size_setCell, World.size_drew, sz_drewN]; omega
                exact bw_then (bw_alloc _ (bw_alloc _ (bw_refl _)) : Below w.heap.size w ((w.alloc (.cells #[.int .i64 m.g.w, .int .i64 m.g.h, .slice A m.br.length c] 38)).alloc (.cells #[.slice B pa.length d, .slice C pb.length k] 42))) (bw_set _ (bw_set _ (bw_set _ (bw_set _ HB hz9) hz9) hz9) hz9)

end Go.Proofs.Ytcaipmhfgjafjaa
