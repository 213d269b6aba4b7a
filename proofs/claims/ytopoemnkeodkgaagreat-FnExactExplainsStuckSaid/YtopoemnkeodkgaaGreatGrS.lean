/- Grants of a valid network: the reference's side. -/
import Derived.Test.YtopoemnkeodkgaaGreatGrI
set_option linter.unusedVariables false
set_option linter.unusedSimpArgs false
namespace Go.Proofs.YtopoemnkeodkgaaGreat
open Go.RowKit Go.Proofs.YtopoemnkeodkgaaGreatW.PrintWords
open NoC

theorem info_b : (Tryz.prog.info? 4).map (fun i => (i.zero, i.size, i.bytes)) = some (some (.bool false), 1, 1) := by kernel_rfl
set_option maxHeartbeats 8000000 in
set_option maxRecDepth 100000 in
theorem spec_l18Grants (n : Net) (q : NA) (a : Int) (w : World) (hr : NetR 115 w n q) (ok : netOk n = true) (nd : isNode n.mesh.g a = true) :
    Calls Tryz.prog 123 #[.agg (netCells n q), .int .i64 a] w fun e w' => GotG w w' (grantsN n a) e ∧ Below w.heap.size w w' := by
  have R := Lib.hid hr
  have OK := Lib.hid ok
  have ND := Lib.hid nd
  obtain ⟨_, _, _, a15⟩ := node_bounds nd
  have a0 := (isNode_iff.1 nd).1
  obtain ⟨u0, u1, _, _⟩ := turn_range ok nd 0 (by omega)
  clear ok nd
  obtain ⟨a1, a2, a3, a4, a5, a6, a7, a8, c1, c2, c3, c4, c5, c6, c7, c8⟩ := q; obtain ⟨Rbr, Rpa, Rpb, Rbu, Row, Rtu, Rso, Rar, L1, L2, L3, L4, L5, L6, L7, L8, L9, L10, L11⟩ := hr; have M9 := Lib.hid L9; have M10 := Lib.hid L10; have M11 := Lib.hid L11; clear L9 L10 L11; dsimp only [netCells] at *
  obtain ⟨b6, o6, rfl, hb6, r6⟩ := rdI_all Rtu (by omega)
  obtain ⟨z1, z2, z3, z4, z5, z6⟩ := more hb6
  have R6 := Lib.hid r6
  clear r6 u0 u1
  have mk : ∀ W : World, (Instr.makeSlice 157 (.int .i64 5) (.int .i64 5)).run Tryz.prog W = .ok (.slice (some ⟨W.heap.size, 0, none⟩) 5 5) (W.alloc (.cells (uCells [false, false, false, false, false]) 4)) :=
    fun W => by
      have h := print_make_int (P := Tryz.prog) 157 4 (.bool false) 1 Tryz.underlying157 info_b rfl (by omega) 5 (by omega) (by decide) W
      rw [show (5 : Int).toNat = 5 from rfl, show madeCells #[.bool false] 5 = uCells [false, false, false, false, false] by first | rfl | kernel_rfl | (apply Array.ext'; simp [madeCells, uCells]; rfl)] at h
      exact h
  go_enter Tryz.func123, Tryz.ntmps123
  go_wp2
  go_loopw [5, 7] (fun v i wr => ∃ p : Nat, i = .int .i64 p ∧ p ≤ 5 ∧ kG.R 96 wr (w.alloc (.cells #[.int .i64 n.mesh.g.w, .int .i64 n.mesh.g.h, .slice a1 n.mesh.br.length c1, .slice a2 n.pa.length c2, .slice a3 n.pb.length c3, .slice a4 n.bufs.length c4, .slice a5 n.owners.length c5, .slice (some ⟨b6, o6, none⟩) n.turns.length c6, .slice a7 n.srcs.length c7, .slice a8 n.arrs.length c8, .int .i64 n.time] 45)).heap.size (fun _ => True) v (gst n a p).2 ∧ UB 4 wr (w.heap.size + 1 + 1) (gst n a p).1 ∧ Below (w.alloc (.cells #[.int .i64 n.mesh.g.w, .int .i64 n.mesh.g.h, .slice a1 n.mesh.br.length c1, .slice a2 n.pa.length c2, .slice a3 n.pb.length c3, .slice a4 n.bufs.length c4, .slice a5 n.owners.length c5, .slice (some ⟨b6, o6, none⟩) n.turns.length c6, .slice a7 n.srcs.length c7, .slice a8 n.arrs.length c8, .int .i64 n.time] 45)).heap.size (w.alloc (.cells #[.int .i64 n.mesh.g.w, .int .i64 n.mesh.g.h, .slice a1 n.mesh.br.length c1, .slice a2 n.pa.length c2, .slice a3 n.pb.length c3, .slice a4 n.bufs.length c4, .slice a5 n.owners.length c5, .slice (some ⟨b6, o6, none⟩) n.turns.length c6, .slice a7 n.srcs.length c7, .slice a8 n.arrs.length c8, .int .i64 n.time] 45)) wr) (fun _ i _ => 5 - (intOf i).toNat)
  case atStart => exact ⟨0, rfl, Nat.zero_le _, Kd.R_below (R_empty' kG 96 (W0 := w.alloc (.cells #[.int .i64 n.mesh.g.w, .int .i64 n.mesh.g.h, .slice a1 n.mesh.br.length c1, .slice a2 n.pa.length c2, .slice a3 n.pb.length c3, .slice a4 n.bufs.length c4, .slice a5 n.owners.length c5, .slice (some ⟨b6, o6, none⟩) n.turns.length c6, .slice a7 n.srcs.length c7, .slice a8 n.arrs.length c8, .int .i64 n.time] 45)) (W := w.alloc (.cells #[.int .i64 n.mesh.g.w, .int .i64 n.mesh.g.h, .slice a1 n.mesh.br.length c1, .slice a2 n.pa.length c2, .slice a3 n.pb.length c3, .slice a4 n.bufs.length c4, .slice a5 n.owners.length c5, .slice (some ⟨b6, o6, none⟩) n.turns.length c6, .slice a7 n.srcs.length c7, .slice a8 n.arrs.length c8, .int .i64 n.time] 45)) (Nat.le_refl _) (w.heap.size + 1) (by simp only [World.size_alloc, World.size_setCell, World.size_drew, sz_drewN])) (bw_alloc _ (bw_refl _)), ⟨rfl, Blk.new ((w.alloc (.cells #[.int .i64 n.mesh.g.w, .int .i64 n.mesh.g.h, .slice a1 n.mesh.br.length c1, .slice a2 n.pa.length c2, .slice a3 n.pb.length c3, .slice a4 n.bufs.length c4, .slice a5 n.owners.length c5, .slice (some ⟨b6, o6, none⟩) n.turns.length c6, .slice a7 n.srcs.length c7, .slice a8 n.arrs.length c8, .int .i64 n.time] 45)).alloc (.cells #[] 96)) _ _ _ (by simp only [World.size_alloc, World.size_setCell, World.size_drew, sz_drewN])⟩, (by with_reducible repeat (first | assumption | exact bw_refl _ | apply bw_alloc | apply bw_drew | apply bw_drewN | refine bw_set _ ?_ (by omega) | refine bw_then ?_ (by assumption)))⟩
  case round =>
    obtain ⟨p, rfl, hp, HO, HU, HB⟩ := hrel
    obtain ⟨Ao, co, rfl⟩ := Kd.R_slice HO
    have hlen := gst_len n a p
    have husl := gst_us n a p
    obtain ⟨hcr, hfr, hzr⟩ := bcell HB
    simp only [World.size_alloc, World.size_setCell, World.size_drew, sz_drewN] at hzr
    have yy1 := lts1 hzr
    have hul := HU.2.lt
    by_cases hlt : p < 5
    · have p0 : (p : Int) ≤ 4 := by omega
      obtain ⟨t0, t1, t2, t3⟩ := turn_range OK.out ND.out p hlt
      have r6 := R6.out (5 * a + (p : Int)) t0 t1
      obtain ⟨us, eus⟩ : ∃ us, (gst n a p).1 = us := ⟨_, rfl⟩
      obtain ⟨k0, k1⟩ := pick_range n a p us
      obtain ⟨k, hk⟩ : ∃ k, pick n a p us = k := ⟨_, rfl⟩
      rw [hk] at k0 k1
      rw [eus] at HU husl
      have HK := Lib.hid hk
      have HE := Lib.hid (show pick n a p (gst n a p).1 = k by rw [eus]; exact hk)
      have EUS := Lib.hid eus
      have HUSL := Lib.hid husl
      have HUH := Lib.hid HU
      have HOH := Lib.hid HO
      clear hk eus husl HU HO
      obtain ⟨wo, rfl⟩ : ∃ x, x = wr := ⟨_, rfl⟩
      go_wp2
      go_loopw [8, 9] (fun v j wr => ∃ k : Nat, j = .int .i64 k ∧ k ≤ 10 ∧ Kd.R (Kd.int .i64) 3 wr wo.heap.size (fun _ => True) v (freeTo n a p us k) ∧ Below wo.heap.size wo wr) (fun _ j _ => 10 - (intOf j).toNat)
      case atStart => exact ⟨0, rfl, Nat.zero_le _, R_empty (W0 := wo) _ _ (bw_size (bw_refl wo)), (by with_reducible repeat (first | assumption | exact bw_refl _ | apply bw_alloc | apply bw_drew | apply bw_drewN | refine bw_set _ ?_ (by omega) | refine bw_then ?_ (by assumption)))⟩
      case round =>
        obtain ⟨x, rfl, hx, HF, HI⟩ := hrel
        obtain ⟨Af, cf, rfl⟩ := Kd.R_slice HF
        have flen := freeTo_len n a p us x
        obtain ⟨hci, hfi, hzi⟩ := bcell HI
        have hwi := bw_then HB HI
        obtain ⟨hcj, hfj, hzj⟩ := bcell hwi
        simp only [World.size_alloc, World.size_setCell, World.size_drew, sz_drewN] at hzj
        have yy2 := lts1 hzj
        have HUI := Lib.hid (HUH.out.below HI)
        by_cases hlx : x < 10
        · have i0 : (x : Int) < 10 := by omega
          have cx : wo.cell? ⟨w.heap.size + 1 + 1, x / 2, none⟩ = some (.bool (usedAt us (x : Int))) := by
            have h := HUH.out.cell (x := (x : Int)) (by omega) (by omega)
            rwa [show ((x : Int) / 2).toNat = x / 2 by omega] at h
          have j2 : x / 2 < 5 := by omega
          have j0 : 0 ≤ (x : Int) / 2 := by omega
          have j1 : (x : Int) / 2 < 5 := by omega
          have HIN := Lib.hid (reqI_in (n := n) (a := a) (i := (x : Int)) (p := (p : Int)) (by omega) p0)
          cases hux : usedAt us x
          · rw [hux] at cx
            have HUX := Lib.hid hux
            clear hux
            cases hq : requestN n a x p
            · have HS := Lib.hid (freeTo_no2 (us := us) (HIN.out.trans hq))
              go_wp2_with (go_at_call 111; refine (spec_l17Request n _ a x p _ (R.out.below (by with_reducible repeat (first | assumption | exact bw_refl _ | apply bw_alloc | apply bw_drew | apply bw_drewN | refine bw_set _ ?_ (by omega) | refine bw_then ?_ (by assumption)))) ⟨OK.out, ND.out, by omega, by omega⟩ (by omega) p0).mono ?_; rintro e w1 ⟨rfl, hb1⟩; obtain ⟨hc1, hf1, hz1⟩ := bcell hb1; (try simp only [World.size_alloc, World.size_setCell, World.size_drew, sz_drewN] at hz1); have hb2 := (by first | exact bw_then hb2 hb1 | exact bw_then (bw_drewN _ hb2) hb1 | exact bw_then (bw_alloc _ hb2) hb1 | exact bw_then (bw_drew hb2) hb1 | exact bw_then HB hb1 | exact bw_then (bw_drewN _ HB) hb1 | exact bw_then (bw_alloc _ HB) hb1 | exact bw_then (bw_drew HB) hb1 | exact hb1); obtain ⟨hc2, hf2, hz2⟩ := bcell hb2; (try simp only [World.size_alloc, World.size_setCell, World.size_drew, sz_drewN] at hz2); try (first | obtain ⟨hy1, hy2, hy3, hy4⟩ := lts4 hz2 | obtain ⟨hy1, hy2, hy3⟩ := lts3 hz2 | obtain ⟨hy1, hy2⟩ := lts2 hz2 | have hy1 := lts1 hz2); have hb9 := hb1)
              go_roundw
              case rel => exact ⟨x + 1, by go_num, by omega, by rw [HS.out]; exact Kd.R_below HF hb1, bw_then HI hb1⟩
              case measure => simp [intOf]; omega
            · have HS := Lib.hid (freeTo_yes (us := us) HUX.out (HIN.out.trans hq))
              go_wp2_with (first | (go_at_call 111; refine (spec_l17Request n _ a x p _ (R.out.below (by with_reducible repeat (first | assumption | exact bw_refl _ | apply bw_alloc | apply bw_drew | apply bw_drewN | refine bw_set _ ?_ (by omega) | refine bw_then ?_ (by assumption)))) ⟨OK.out, ND.out, by omega, by omega⟩ (by omega) p0).mono ?_; rintro e w1 ⟨rfl, hb1⟩; obtain ⟨hc1, hf1, hz1⟩ := bcell hb1; (try simp only [World.size_alloc, World.size_setCell, World.size_drew, sz_drewN] at hz1); have hb2 := (by first | exact bw_then hb2 hb1 | exact bw_then (bw_drewN _ hb2) hb1 | exact bw_then (bw_alloc _ hb2) hb1 | exact bw_then (bw_drew hb2) hb1 | exact bw_then HB hb1 | exact bw_then (bw_drewN _ HB) hb1 | exact bw_then (bw_alloc _ HB) hb1 | exact bw_then (bw_drew HB) hb1 | exact hb1); obtain ⟨hc2, hf2, hz2⟩ := bcell hb2; (try simp only [World.size_alloc, World.size_setCell, World.size_drew, sz_drewN] at hz2); try (first | obtain ⟨hy1, hy2, hy3, hy4⟩ := lts4 hz2 | obtain ⟨hy1, hy2, hy3⟩ := lts3 hz2 | obtain ⟨hy1, hy2⟩ := lts2 hz2 | have hy1 := lts1 hz2); have hb9 := hb1) | (at_builtin; refine app_int (W0 := wo) rfl (.tmp 35) (.tmp 37) 24 3 rfl Tryz.underlying24 info_int _ (freeTo n a p us x) _ rfl (by first | rfl | exact congrArg (fun z => Value.slice (some ⟨z, 0, none⟩) 1 1) (World.size_alloc _ _).symm) (Kd.R_below HF hb1) (bw_then HI hb1) (by omega) ?_; intro v1 w1 HO1 HB1))
              go_roundw
              case rel => exact ⟨x + 1, by go_num, by omega, by rw [HS.out]; exact HO1, HB1⟩
              case measure => simp [intOf]; omega
          · rw [hux] at cx
            have HS := Lib.hid (freeTo_no1 (n := n) (a := a) (p := (p : Int)) hux)
            clear hux
            go_wp2
            go_roundw
            case rel => exact ⟨x + 1, by go_num, by omega, by rw [HS.out]; exact HF, HI⟩
            case measure => simp [intOf]; omega
        · have i0 : ¬ (x : Int) < 10 := by omega
          obtain rfl : x = 10 := by omega
          have HC2 := Lib.hid (Kd.R_row HF).2.2
          have HO2 := Lib.hid (Kd.R_below HOH.out HI)
          have HSM : Hid (smallL (freeTo n a p us 10)) := Lib.hid (smallL_mem (left_small n a p us))
          clear HF
          go_wp2_with fail
          refine (spec_FirstFrom (freeTo n a p us 10) (ri n.turns (5 * a + (p : Int))) Af cf _ HC2.out (by omega) HSM.out t2 t3).mono ?_
          rintro e w' ⟨he, rfl⟩
          rw [show firstFrom (freeTo n a p us 10) (ri n.turns (5 * a + (p : Int))) = k from HK.out] at he
          subst he
          by_cases hk0 : 0 ≤ k
          · have HS := Lib.hid (gst_yes HE.out hk0)
            have j0 : 0 ≤ k / 2 := by omega
            have j1 : k / 2 < 5 := by omega
            have c9 := HUH.out.cell hk0 k1
            have f9 := HUH.out.2.frozen (k / 2).toNat
            have HRS := Lib.hid (Kd.R_set HO2.out HUI.out.2 (by decide) (k / 2).toNat (.bool true))
            have HUS : Hid (UB 4 (wr.setCell ⟨w.heap.size + 1 + 1, (k / 2).toNat, none⟩ (.bool true)) (w.heap.size + 1 + 1) (us.set (k / 2).toNat true)) := Lib.hid ⟨by rw [List.length_set]; exact HUSL.out, by have h := HUI.out.2.set (k / 2).toNat (.bool true); rwa [uCells_set] at h⟩
            have HBS : Below (w.alloc (.cells #[.int .i64 n.mesh.g.w, .int .i64 n.mesh.g.h, .slice a1 n.mesh.br.length c1, .slice a2 n.pa.length c2, .slice a3 n.pb.length c3, .slice a4 n.bufs.length c4, .slice a5 n.owners.length c5, .slice (some ⟨b6, o6, none⟩) n.turns.length c6, .slice a7 n.srcs.length c7, .slice a8 n.arrs.length c8, .int .i64 n.time] 45)).heap.size (w.alloc (.cells #[.int .i64 n.mesh.g.w, .int .i64 n.mesh.g.h, .slice a1 n.mesh.br.length c1, .slice a2 n.pa.length c2, .slice a3 n.pb.length c3, .slice a4 n.bufs.length c4, .slice a5 n.owners.length c5, .slice (some ⟨b6, o6, none⟩) n.turns.length c6, .slice a7 n.srcs.length c7, .slice a8 n.arrs.length c8, .int .i64 n.time] 45)) (wr.setCell ⟨w.heap.size + 1 + 1, (k / 2).toNat, none⟩ (.bool true)) := bw_set _ hwi (by simp only [World.size_alloc, World.size_setCell, World.size_drew, sz_drewN]; omega)
            go_wp2_with (at_builtin; refine app_G (W0 := w.alloc (.cells #[.int .i64 n.mesh.g.w, .int .i64 n.mesh.g.h, .slice a1 n.mesh.br.length c1, .slice a2 n.pa.length c2, .slice a3 n.pb.length c3, .slice a4 n.bufs.length c4, .slice a5 n.owners.length c5, .slice (some ⟨b6, o6, none⟩) n.turns.length c6, .slice a7 n.srcs.length c7, .slice a8 n.arrs.length c8, .int .i64 n.time] 45)) rfl (.tmp 55) (.tmp 60) rfl _ (gst n a p).2 ⟨a, p, k⟩ rfl (by first | rfl | exact congrArg (fun z => Value.slice (some ⟨z, 0, none⟩) 1 1) (by simp only [World.size_alloc, World.size_setCell, World.size_drew, sz_drewN])) HRS.out HBS (by omega) ?_; intro v3 w3 HO3 HB3 hg3)
            go_roundw
            case rel => exact ⟨p + 1, by go_num, by omega, by rw [HS.out]; exact HO3, by rw [HS.out, EUS.out]; exact HUS.out.grown hg3 (Kd.R_ne HRS.out HUS.out.2 (by decide)), HB3⟩
            case measure => simp [intOf]; omega
          · have HS := Lib.hid (gst_no HE.out (by omega))
            go_wp2
            go_roundw
            case rel => exact ⟨p + 1, by go_num, by omega, by rw [HS.out]; exact HO2.out, by rw [HS.out, EUS.out]; exact HUI.out, hwi⟩
            case measure => simp [intOf]; omega
    · have p0 : ¬ (p : Int) ≤ 4 := by omega
      obtain rfl : p = 5 := by omega
      go_wp2
      go_ret
      exact ⟨⟨_, rfl, Kd.R_lower HO (by simp only [World.size_alloc, World.size_setCell, World.size_drew, sz_drewN]; omega)⟩, (by with_reducible repeat (first | assumption | exact bw_refl _ | apply bw_alloc | apply bw_drew | apply bw_drewN | refine bw_set _ ?_ (by omega) | refine bw_then ?_ (by assumption)))⟩
set_option maxHeartbeats 4000000 in
set_option maxRecDepth 100000 in
theorem spec_l18All (n : Net) (q : NA) (w : World) (hr : NetR 115 w n q) (ok : netOk n = true) :
    Calls Tryz.prog 72 #[.agg (netCells n q)] w fun e w' => GotG w w' (allGrants n) e ∧ Below w.heap.size w w' := by
  have R := Lib.hid hr
  have OK := Lib.hid ok
  obtain ⟨n0, n1⟩ := count_le n.mesh.g
  obtain ⟨N, hN⟩ : ∃ N : Nat, nodeCount n.mesh.g = (N : Int) := ⟨(nodeCount n.mesh.g).toNat, by omega⟩
  have N16 : N ≤ 16 := by omega
  have HN : Hid (allGrants n = allTo n N) := Lib.hid (by rw [allGrants, hN]; rfl)
  have HC := Lib.hid hN
  have HND : Hid (∀ k : Nat, k < N → isNode n.mesh.g k = true) := Lib.hid (fun k hk => isNode_iff.2 ⟨by omega, by rw [HC.out]; omega⟩)
  clear ok hN n0 n1
  obtain ⟨a1, a2, a3, a4, a5, a6, a7, a8, c1, c2, c3, c4, c5, c6, c7, c8⟩ := q
  clear hr
  dsimp only [netCells]
  go_enter Tryz.func72, Tryz.ntmps72
  go_wp2
  go_loopw [3, 4] (fun v i wr => ∃ k : Nat, i = .int .i64 k ∧ k ≤ N ∧ kG.R 96 wr (w.alloc (.cells #[.int .i64 n.mesh.g.w, .int .i64 n.mesh.g.h, .slice a1 n.mesh.br.length c1, .slice a2 n.pa.length c2, .slice a3 n.pb.length c3, .slice a4 n.bufs.length c4, .slice a5 n.owners.length c5, .slice a6 n.turns.length c6, .slice a7 n.srcs.length c7, .slice a8 n.arrs.length c8, .int .i64 n.time] 45)).heap.size (fun _ => True) v (allTo n k) ∧ Below (w.alloc (.cells #[.int .i64 n.mesh.g.w, .int .i64 n.mesh.g.h, .slice a1 n.mesh.br.length c1, .slice a2 n.pa.length c2, .slice a3 n.pb.length c3, .slice a4 n.bufs.length c4, .slice a5 n.owners.length c5, .slice a6 n.turns.length c6, .slice a7 n.srcs.length c7, .slice a8 n.arrs.length c8, .int .i64 n.time] 45)).heap.size (w.alloc (.cells #[.int .i64 n.mesh.g.w, .int .i64 n.mesh.g.h, .slice a1 n.mesh.br.length c1, .slice a2 n.pa.length c2, .slice a3 n.pb.length c3, .slice a4 n.bufs.length c4, .slice a5 n.owners.length c5, .slice a6 n.turns.length c6, .slice a7 n.srcs.length c7, .slice a8 n.arrs.length c8, .int .i64 n.time] 45)) wr) (fun _ i _ => N - (intOf i).toNat)
  case atStart => exact ⟨0, rfl, Nat.zero_le _, R_empty' kG 96 (W0 := w.alloc (.cells #[.int .i64 n.mesh.g.w, .int .i64 n.mesh.g.h, .slice a1 n.mesh.br.length c1, .slice a2 n.pa.length c2, .slice a3 n.pb.length c3, .slice a4 n.bufs.length c4, .slice a5 n.owners.length c5, .slice a6 n.turns.length c6, .slice a7 n.srcs.length c7, .slice a8 n.arrs.length c8, .int .i64 n.time] 45)) (W := w.alloc (.cells #[.int .i64 n.mesh.g.w, .int .i64 n.mesh.g.h, .slice a1 n.mesh.br.length c1, .slice a2 n.pa.length c2, .slice a3 n.pb.length c3, .slice a4 n.bufs.length c4, .slice a5 n.owners.length c5, .slice a6 n.turns.length c6, .slice a7 n.srcs.length c7, .slice a8 n.arrs.length c8, .int .i64 n.time] 45)) (Nat.le_refl _) (w.heap.size + 1) (by simp only [World.size_alloc, World.size_setCell, World.size_drew, sz_drewN]), (by with_reducible repeat (first | assumption | exact bw_refl _ | apply bw_alloc | apply bw_drew | apply bw_drewN | refine bw_set _ ?_ (by omega) | refine bw_then ?_ (by assumption)))⟩
  case round =>
    obtain ⟨k, rfl, hk, HO, HB⟩ := hrel
    obtain ⟨Ao, co, rfl⟩ := Kd.R_slice HO
    have hlen := allTo_len n k
    obtain ⟨hcr, hfr, hzr⟩ := bcell HB
    simp only [World.size_alloc, World.size_setCell, World.size_drew, sz_drewN] at hzr
    have yy1 := lts1 hzr
    by_cases hlt : k < N
    · have i0 : (k : Int) < (N : Int) := by omega
      have HS := Lib.hid (allTo_succ n k)
      have gl := gst_len n k 5
      go_wp2_with (first | (go_at_call 85; refine (spec_NodeCount n.mesh.g _).mono ?_; rintro e w1 ⟨he, hb1⟩; rw [HC.out] at he; subst he; obtain ⟨hc1, hf1, hz1⟩ := bcell hb1; (try simp only [World.size_alloc, World.size_setCell, World.size_drew, sz_drewN] at hz1); have hb2 := (by first | exact bw_then hb2 hb1 | exact bw_then (bw_drewN _ hb2) hb1 | exact bw_then (bw_alloc _ hb2) hb1 | exact bw_then (bw_drew hb2) hb1 | exact bw_then HB hb1 | exact bw_then (bw_drewN _ HB) hb1 | exact bw_then (bw_alloc _ HB) hb1 | exact bw_then (bw_drew HB) hb1 | exact hb1); obtain ⟨hc2, hf2, hz2⟩ := bcell hb2; (try simp only [World.size_alloc, World.size_setCell, World.size_drew, sz_drewN] at hz2); try (first | obtain ⟨hy1, hy2, hy3, hy4⟩ := lts4 hz2 | obtain ⟨hy1, hy2, hy3⟩ := lts3 hz2 | obtain ⟨hy1, hy2⟩ := lts2 hz2 | have hy1 := lts1 hz2); have hb9 := hb1) | (go_at_call 123; refine (spec_l18Grants n _ k _ (R.out.below (by with_reducible repeat (first | assumption | exact bw_refl _ | apply bw_alloc | apply bw_drew | apply bw_drewN | refine bw_set _ ?_ (by omega) | refine bw_then ?_ (by assumption)))) OK.out (HND.out k hlt)).mono ?_; rintro e w1 ⟨hg1, hb1⟩; obtain ⟨A1, d1, rfl, hk1, hC1⟩ := hg1.read; obtain ⟨hc1, hf1, hz1⟩ := bcell hb1; (try simp only [World.size_alloc, World.size_setCell, World.size_drew, sz_drewN] at hz1); have hb2 := (by first | exact bw_then hb2 hb1 | exact bw_then (bw_drewN _ hb2) hb1 | exact bw_then (bw_alloc _ hb2) hb1 | exact bw_then (bw_drew hb2) hb1 | exact bw_then HB hb1 | exact bw_then (bw_drewN _ HB) hb1 | exact bw_then (bw_alloc _ HB) hb1 | exact bw_then (bw_drew HB) hb1 | exact hb1); obtain ⟨hc2, hf2, hz2⟩ := bcell hb2; (try simp only [World.size_alloc, World.size_setCell, World.size_drew, sz_drewN] at hz2); try (first | obtain ⟨hy1, hy2, hy3, hy4⟩ := lts4 hz2 | obtain ⟨hy1, hy2, hy3⟩ := lts3 hz2 | obtain ⟨hy1, hy2⟩ := lts2 hz2 | have hy1 := lts1 hz2); have hb9 := hb1) | (at_builtin; refine apps_G (W0 := w.alloc (.cells #[.int .i64 n.mesh.g.w, .int .i64 n.mesh.g.h, .slice a1 n.mesh.br.length c1, .slice a2 n.pa.length c2, .slice a3 n.pb.length c3, .slice a4 n.bufs.length c4, .slice a5 n.owners.length c5, .slice a6 n.turns.length c6, .slice a7 n.srcs.length c7, .slice a8 n.arrs.length c8, .int .i64 n.time] 45)) rfl (.tmp 14) (.tmp 17) rfl _ (allTo n k) (grantsN n k) A1 d1 rfl rfl (by exact Kd.R_below HO (by with_reducible repeat (first | assumption | exact bw_refl _ | apply bw_alloc | apply bw_drew | apply bw_drewN | refine bw_set _ ?_ (by omega) | refine bw_then ?_ (by assumption)))) hC1 (by with_reducible repeat (first | assumption | exact bw_refl _ | apply bw_alloc | apply bw_drew | apply bw_drewN | refine bw_set _ ?_ (by omega) | refine bw_then ?_ (by assumption))) (by unfold grantsN; omega) ?_; intro v2 w2 HO2 HB2))
      go_roundw
      case rel => exact ⟨k + 1, by go_num, by omega, by rw [HS.out]; exact HO2, HB2⟩
      case measure => simp [intOf]; omega
    · have i0 : ¬ (k : Int) < (N : Int) := by omega
      obtain rfl : k = N := by omega
      go_wp2_with (go_at_call 85; refine (spec_NodeCount n.mesh.g _).mono ?_; rintro e w1 ⟨he, hb1⟩; rw [HC.out] at he; subst he; obtain ⟨hc1, hf1, hz1⟩ := bcell hb1; (try simp only [World.size_alloc, World.size_setCell, World.size_drew, sz_drewN] at hz1); have hb2 := (by first | exact bw_then hb2 hb1 | exact bw_then (bw_drewN _ hb2) hb1 | exact bw_then (bw_alloc _ hb2) hb1 | exact bw_then (bw_drew hb2) hb1 | exact bw_then HB hb1 | exact bw_then (bw_drewN _ HB) hb1 | exact bw_then (bw_alloc _ HB) hb1 | exact bw_then (bw_drew HB) hb1 | exact hb1); obtain ⟨hc2, hf2, hz2⟩ := bcell hb2; (try simp only [World.size_alloc, World.size_setCell, World.size_drew, sz_drewN] at hz2); try (first | obtain ⟨hy1, hy2, hy3, hy4⟩ := lts4 hz2 | obtain ⟨hy1, hy2, hy3⟩ := lts3 hz2 | obtain ⟨hy1, hy2⟩ := lts2 hz2 | have hy1 := lts1 hz2); have hb9 := hb1)
      go_ret
      exact ⟨by rw [HN.out]; exact ⟨_, rfl, Kd.R_lower (by exact Kd.R_below HO (by with_reducible repeat (first | assumption | exact bw_refl _ | apply bw_alloc | apply bw_drew | apply bw_drewN | refine bw_set _ ?_ (by omega) | refine bw_then ?_ (by assumption)))) (by simp only [World.size_alloc, World.size_setCell, World.size_drew, sz_drewN]; omega)⟩, (by with_reducible repeat (first | assumption | exact bw_refl _ | apply bw_alloc | apply bw_drew | apply bw_drewN | refine bw_set _ ?_ (by omega) | refine bw_then ?_ (by assumption)))⟩
end Go.Proofs.YtopoemnkeodkgaaGreat
