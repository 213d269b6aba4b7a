/- The loads of the channels, counted by the reference; for all meshes, tables and lists of at most a million entries. -/
import Derived.Test.YtcaipmhfgjafjaaLoadsA
import Derived.BigRegion
import Derived.RegionTactic
set_option linter.unusedVariables false
set_option linter.unusedSimpArgs false
namespace Go.Proofs.Ytcaipmhfgjafjaa
open Go.RowKit Go.Proofs.YtcaipmhfgjafjaaW.PrintWords
open NoC

set_option maxHeartbeats 2000000 in
set_option maxRecDepth 100000 in
theorem spec_LoadsOf (m : Mesh) (pa pb : List Int) (l : List Packet) (A B C D : Option Addr) (c d k n : Nat) (w : World) (hr : Kd.C (Kd.int .i64) w A m.br.length m.br) (hn : m.br.length ≤ 1048576) (ha : Kd.C (Kd.int .i64) w B pa.length pa) (hka : pa.length ≤ 1048576) (hb : Kd.C (Kd.int .i64) w C pb.length pb) (hkb : pb.length ≤ 1048576) (hp : kP.C w D l.length l) (hkl : l.length ≤ 1048576) :
    Calls Try.prog 29 #[.agg #[.int .i64 m.g.w, .int .i64 m.g.h, .slice A m.br.length c], .agg #[.slice B pa.length d, .slice C pb.length k], .slice D l.length n] w fun e w' => GotI w w' (loadsOf m pa pb l) e ∧ Below w.heap.size w w' := by
  go_enter Try.func29, Try.ntmps29
  cases hall0 : arePk m pa pb l
  · go_wp2_with (go_at_call 58; refine (spec_l28Ok m pa pb l _ _ _ _ _ _ _ _ _ (by exact Kd.C_below hr (by with_reducible repeat (first | assumption | exact bw_refl _ | apply bw_alloc | apply bw_drew | apply bw_drewN | refine bw_set _ ?_ (by omega) | refine bw_then ?_ (by assumption)))) hn (by exact Kd.C_below ha (by with_reducible repeat (first | assumption | exact bw_refl _ | apply bw_alloc | apply bw_drew | apply bw_drewN | refine bw_set _ ?_ (by omega) | refine bw_then ?_ (by assumption)))) hka (by exact Kd.C_below hb (by with_reducible repeat (first | assumption | exact bw_refl _ | apply bw_alloc | apply bw_drew | apply bw_drewN | refine bw_set _ ?_ (by omega) | refine bw_then ?_ (by assumption)))) hkb (by exact Kd.C_below hp (by with_reducible repeat (first | assumption | exact bw_refl _ | apply bw_alloc | apply bw_drew | apply bw_drewN | refine bw_set _ ?_ (by omega) | refine bw_then ?_ (by assumption)))) hkl).mono ?_; rintro e w1 ⟨rfl, hb1⟩; obtain ⟨hc1, hf1, hz1⟩ := bcell hb1; (try simp only [World.size_alloc, World.size_setCell, World.size_drew, sz_drewN] at hz1); have hb2 := (by first | exact bw_then hb2 hb1 | exact bw_then (bw_drewN _ hb2) hb1 | exact bw_then (bw_alloc _ hb2) hb1 | exact bw_then (bw_drew hb2) hb1 | exact bw_then HB hb1 | exact bw_then (bw_drewN _ HB) hb1 | exact bw_then (bw_alloc _ HB) hb1 | exact bw_then (bw_drew HB) hb1 | exact hb1); obtain ⟨hc2, hf2, hz2⟩ := bcell hb2; (try simp only [World.size_alloc, World.size_setCell, World.size_drew, sz_drewN] at hz2); try (first | obtain ⟨hy1, hy2, hy3, hy4⟩ := lts4 hz2 | obtain ⟨hy1, hy2, hy3⟩ := lts3 hz2 | obtain ⟨hy1, hy2⟩ := lts2 hz2 | have hy1 := lts1 hz2); have hb9 := hb1)
    go_ret
    exact ⟨by rw [loadsOf, hall0]; exact GotI.mk (W0 := ((w.alloc (.cells #[.int .i64 m.g.w, .int .i64 m.g.h, .slice A m.br.length c] 38)).alloc (.cells #[.slice B pa.length d, .slice C pb.length k] 42))) (R_empty _ _ (bw_size (by with_reducible repeat (first | assumption | exact bw_refl _ | apply bw_alloc | apply bw_drew | apply bw_drewN | refine bw_set _ ?_ (by omega) | refine bw_then ?_ (by assumption))))) (by simp only [World.size_alloc, World.size_setCell, World.size_drew, sz_drewN]; omega), (by with_reducible repeat (first | assumption | exact bw_refl _ | apply bw_alloc | apply bw_drew | apply bw_drewN | refine bw_set _ ?_ (by omega) | refine bw_then ?_ (by assumption)))⟩
  have hpos := arePk_count hall0
  obtain ⟨hcl0, hall⟩ := arePk_parts hall0
  have HSZ := Lib.hid (classesOk_sized hcl0)
  obtain ⟨n0, n1⟩ := count_le m.g
  obtain ⟨N, hN⟩ : ∃ N : Nat, nodeCount m.g = (N : Int) := ⟨(nodeCount m.g).toNat, by omega⟩
  have hN1 : 1 ≤ N := by omega
  have hN16 : N ≤ 16 := by omega
  have hch : chans m = 4 * N := by unfold chans; omega
  have HCH := Lib.hid hch
  have HC := Lib.hid hN
  have HALL := Lib.hid hall
  have HALL0 := Lib.hid hall0
  clear hN n0 n1 hch hall hpos hcl0
  go_wp2_with (first | (go_at_call 58; refine (spec_l28Ok m pa pb l _ _ _ _ _ _ _ _ _ (by exact Kd.C_below hr (by with_reducible repeat (first | assumption | exact bw_refl _ | apply bw_alloc | apply bw_drew | apply bw_drewN | refine bw_set _ ?_ (by omega) | refine bw_then ?_ (by assumption)))) hn (by exact Kd.C_below ha (by with_reducible repeat (first | assumption | exact bw_refl _ | apply bw_alloc | apply bw_drew | apply bw_drewN | refine bw_set _ ?_ (by omega) | refine bw_then ?_ (by assumption)))) hka (by exact Kd.C_below hb (by with_reducible repeat (first | assumption | exact bw_refl _ | apply bw_alloc | apply bw_drew | apply bw_drewN | refine bw_set _ ?_ (by omega) | refine bw_then ?_ (by assumption)))) hkb (by exact Kd.C_below hp (by with_reducible repeat (first | assumption | exact bw_refl _ | apply bw_alloc | apply bw_drew | apply bw_drewN | refine bw_set _ ?_ (by omega) | refine bw_then ?_ (by assumption)))) hkl).mono ?_; rintro e w1 ⟨rfl, hb1⟩; obtain ⟨hc1, hf1, hz1⟩ := bcell hb1; (try simp only [World.size_alloc, World.size_setCell, World.size_drew, sz_drewN] at hz1); have hb2 := (by first | exact bw_then hb2 hb1 | exact bw_then (bw_drewN _ hb2) hb1 | exact bw_then (bw_alloc _ hb2) hb1 | exact bw_then (bw_drew hb2) hb1 | exact bw_then HB hb1 | exact bw_then (bw_drewN _ HB) hb1 | exact bw_then (bw_alloc _ HB) hb1 | exact bw_then (bw_drew HB) hb1 | exact hb1); obtain ⟨hc2, hf2, hz2⟩ := bcell hb2; (try simp only [World.size_alloc, World.size_setCell, World.size_drew, sz_drewN] at hz2); try (first | obtain ⟨hy1, hy2, hy3, hy4⟩ := lts4 hz2 | obtain ⟨hy1, hy2, hy3⟩ := lts3 hz2 | obtain ⟨hy1, hy2⟩ := lts2 hz2 | have hy1 := lts1 hz2); have hb9 := hb1) | (go_at_call 62; refine (spec_NodeCount m.g _).mono ?_; rintro e w1 ⟨he, hb1⟩; rw [HC.out] at he; subst he; obtain ⟨hc1, hf1, hz1⟩ := bcell hb1; (try simp only [World.size_alloc, World.size_setCell, World.size_drew, sz_drewN] at hz1); have hb2 := (by first | exact bw_then hb2 hb1 | exact bw_then (bw_drewN _ hb2) hb1 | exact bw_then (bw_alloc _ hb2) hb1 | exact bw_then (bw_drew hb2) hb1 | exact bw_then HB hb1 | exact bw_then (bw_drewN _ HB) hb1 | exact bw_then (bw_alloc _ HB) hb1 | exact bw_then (bw_drew HB) hb1 | exact hb1); obtain ⟨hc2, hf2, hz2⟩ := bcell hb2; (try simp only [World.size_alloc, World.size_setCell, World.size_drew, sz_drewN] at hz2); try (first | obtain ⟨hy1, hy2, hy3, hy4⟩ := lts4 hz2 | obtain ⟨hy1, hy2, hy3⟩ := lts3 hz2 | obtain ⟨hy1, hy2⟩ := lts2 hz2 | have hy1 := lts1 hz2); have hb9 := hb1) | (refine make_int (W0 := ((w.alloc (.cells #[.int .i64 m.g.w, .int .i64 m.g.h, .slice A m.br.length c] 38)).alloc (.cells #[.slice B pa.length d, .slice C pb.length k] 42))) rfl (N := 22) rfl 24 3 (.tmp 21) (.tmp 21) rfl (4 * N) (congrArg (Value.int .i64) (show 4 * (N : Int) = ((4 * N : Nat) : Int) by omega)) (congrArg (Value.int .i64) (show 4 * (N : Int) = ((4 * N : Nat) : Int) by omega)) Try.underlying24 info_int (by omega) (by with_reducible repeat (first | assumption | exact bw_refl _ | apply bw_alloc | apply bw_drew | apply bw_drewN | refine bw_set _ ?_ (by omega) | refine bw_then ?_ (by assumption))) ?_; intro v1 w1 HO1 HB1; obtain ⟨hc1, hf1, hz1⟩ := bcell HB1; (try simp only [World.size_alloc, World.size_setCell, World.size_drew, sz_drewN] at hz1); have hb2 := HB1; have hb9 := HB1))
  obtain ⟨g, cap, hv, hgb, hgl, cells, HG⟩ := Kd.R_form HO1 (by simp; omega)
  rw [List.length_replicate] at hv
  subst hv
  clear HG hall0
  have HGB := Lib.hid hgb
  clear hgb
  go_loopw [8] (fun i wr => ∃ (j : Nat) (x : List Int), i = .int .i64 j ∧ j ≤ l.length ∧ Hid (x.length = 4 * N) ∧ Hid (∀ ch : Nat, ch < 4 * N → ri x ch = loadAt m pa pb (l.take j) ch) ∧ Kd.R (Kd.int .i64) 3 wr ((w.alloc (.cells #[.int .i64 m.g.w, .int .i64 m.g.h, .slice A m.br.length c] 38)).alloc (.cells #[.slice B pa.length d, .slice C pb.length k] 42)).heap.size (fun _ => True) (.slice (some ⟨g, 0, none⟩) (4 * N) cap) x ∧ Below ((w.alloc (.cells #[.int .i64 m.g.w, .int .i64 m.g.h, .slice A m.br.length c] 38)).alloc (.cells #[.slice B pa.length d, .slice C pb.length k] 42)).heap.size ((w.alloc (.cells #[.int .i64 m.g.w, .int .i64 m.g.h, .slice A m.br.length c] 38)).alloc (.cells #[.slice B pa.length d, .slice C pb.length k] 42)) wr) (fun i _ => l.length - (intOf i).toNat)
  case atStart => exact ⟨0, List.replicate (4 * N) 0, rfl, Nat.zero_le _, Lib.hid (by simp), Lib.hid (fun ch h => by rw [ri_replicate _ _ h]; rfl), HO1, HB1⟩
  case round =>
    clear HO1 HB1 hgl
    obtain ⟨j, x, rfl, hj, HL, HA, HO, HB⟩ := hrel
    obtain ⟨hc0, hf0, hz0⟩ := bcell HB
    simp only [World.size_alloc, World.size_setCell, World.size_drew, sz_drewN] at hz0
    obtain ⟨yy1, yy2⟩ := lts2 hz0
    by_cases hlt : j < l.length
    · obtain ⟨b, off, rfl, hbl, p0, p1, p2, p3, p4⟩ := rdP_at hp j hlt
      obtain ⟨z1, z2, z3, z4, z5, z6⟩ := more hbl
      have zb : b < wr.heap.size := by omega
      obtain ⟨zz1, zz2, zz3, zz4, zz5, zz6⟩ := more zb
      have hgl : g < wr.heap.size := Kd.R_lt HO g rfl
      obtain ⟨l1, l2⟩ := packetOk_len (all_get HALL.out j hlt)
      obtain ⟨n1, n2, n3⟩ := packetOk_nodes (all_get HALL.out j hlt)
      have HN := Lib.hid (And.intro n1 n2)
      have i0 : (0 : Int) ≤ (j : Int) := by omega
      have i1 : (j : Int) < (l.length : Int) := by omega
      by_cases hcl : (rp l j).cls = 1
      · have e1 : ((rp l j).cls == 1) = true := beq_iff_eq.2 hcl
        have HAD : ∀ ch : Int, addsTo m pa pb (rp l j) ch = if has (wt m pb (rp l j).src (rp l j).dst) ch then (rp l j).len else 0 := fun ch => by rw [addsTo, walkP, tabOf, if_pos hcl]
        have hwe := wt_start (t := pb) (m := m) n3 n1 n2
        have hnd := wt_nodup m pb (rp l j).src (rp l j).dst
        have hrg : ∀ c ∈ wt m pb (rp l j).src (rp l j).dst, 0 ≤ c ∧ c < 4 * nodeCount m.g := fun c h => wt_range h
        rw [hwe] at hnd hrg
        simp only [hwe] at HAD
        have hlenw := wt_len m pb (rp l j).src (rp l j).dst
        rw [hwe] at hlenw
        clear hwe hcl
        generalize hwe : walkFrom m pb (rp l j).dst (rp l j).src [] = wl at hnd hrg HAD hlenw
        have HAD := Lib.hid HAD
        have HND := Lib.hid hnd
        have HRG := Lib.hid hrg
        have HWE := Lib.hid hwe
        clear hwe hnd hrg
        go_wp2_with fail
        go_region_held3 (fun w' => Below (wr.alloc (.cells #[.slice C pb.length k] 40)).heap.size (wr.alloc (.cells #[.slice C pb.length k] 40)) w' ∧ ∀ bq oq, bq < (wr.alloc (.cells #[.slice C pb.length k] 40)).heap.size → w'.cell? ⟨bq, oq, none⟩ = (wr.alloc (.cells #[.slice C pb.length k] 40)).cell? ⟨bq, oq, none⟩) (first | exact far_of (by with_reducible repeat (first | assumption | exact bw_refl _ | apply bw_alloc | apply bw_drew | apply bw_drewN | refine bw_set _ ?_ (by omega) | refine bw_then ?_ (by assumption)))) ( (go_at_call 63; refine (spec_l04Walk m pb (rp l j).src (rp l j).dst A C _ _ _ (by exact Kd.C_below hr (by with_reducible repeat (first | assumption | exact bw_refl _ | apply bw_alloc | apply bw_drew | apply bw_drewN | refine bw_set _ ?_ (by omega) | refine bw_then ?_ (by assumption)))) hn (by exact Kd.C_below hb (by with_reducible repeat (first | assumption | exact bw_refl _ | apply bw_alloc | apply bw_drew | apply bw_drewN | refine bw_set _ ?_ (by omega) | refine bw_then ?_ (by assumption)))) HSZ.out.2 HN.out.1 HN.out.2).mono ?_; rintro e w1 ⟨hg1, hb1⟩; rw [HWE.out] at hg1; obtain ⟨v1, rfl, HO1⟩ := hg1; obtain ⟨A1, c1, rfl, hk1, hr1⟩ := Kd.R_reads HO1; have HOL := Kd.R_lower (base' := (wr.alloc (.cells #[.slice C pb.length k] 40)).heap.size) HO1 (bw_size (by with_reducible repeat (first | assumption | exact bw_refl _ | apply bw_alloc | apply bw_drew | apply bw_drewN | refine bw_set _ ?_ (by omega) | refine bw_then ?_ (by assumption)))); simp only [World.size_alloc, World.size_setCell, World.size_drew, sz_drewN] at HOL; clear HO1; obtain ⟨hc1, hf1, hz1⟩ := bcell hb1; (try simp only [World.size_alloc, World.size_setCell, World.size_drew, sz_drewN] at hz1); have hb2 := (by first | exact bw_then hb2 hb1 | exact bw_then (bw_drewN _ hb2) hb1 | exact bw_then (bw_alloc _ hb2) hb1 | exact bw_then (bw_drew hb2) hb1 | exact bw_then HB hb1 | exact bw_then (bw_drewN _ HB) hb1 | exact bw_then (bw_alloc _ HB) hb1 | exact bw_then (bw_drew HB) hb1 | exact hb1); obtain ⟨hc2, hf2, hz2⟩ := bcell hb2; (try simp only [World.size_alloc, World.size_setCell, World.size_drew, sz_drewN] at hz2); try (first | obtain ⟨hy1, hy2, hy3, hy4⟩ := lts4 hz2 | obtain ⟨hy1, hy2, hy3⟩ := lts3 hz2 | obtain ⟨hy1, hy2⟩ := lts2 hz2 | have hy1 := lts1 hz2); have hb9 := hb1))
        
        have hb2 : Below (wr.alloc (.cells #[.slice C pb.length k] 40)).heap.size (wr.alloc (.cells #[.slice C pb.length k] 40)) w1 := by first | exact hb2 | exact bw_then (bw_drew (bw_refl _)) hb2
        have H0 := bw_then (bw_alloc (.cells #[.slice C pb.length k] 40) HB) hb2
        have HO9 := Kd.R_below HO (bw_then (bw_alloc _ (bw_refl wr)) hb2)
        have hwz : wr.heap.size < w1.heap.size := by have := (bcell hb2).2.2; simp only [World.size_alloc, World.size_setCell, World.size_drew, sz_drewN] at this; omega
        have HW9 := HOL
        clear HOL hr1 hk1
        repeat (first | clear hc1 | clear hf1 | clear hz1 | clear hb1 | clear hb9 | clear hc2 | clear hf2 | clear hz2 | clear hb2 | clear hy1 | clear hy2 | clear hy3 | clear hy4 | clear hap | clear HOm | clear HOa | clear HOb | clear HOp | clear hlm | clear hla | clear hlb | clear hlp | clear hCm | clear hCa | clear hCb | clear hCp | clear Am | clear Aa | clear Ab | clear Ap | clear cm | clear ca | clear cb | clear cp | clear w1)
        obtain ⟨w5, rfl⟩ : ∃ x, x = w1 := ⟨_, rfl⟩
        go_wp2
        go_loopw [11] (fun i wi => ∃ (q : Nat) (y : List Int), i = .int .i64 q ∧ q ≤ wl.length ∧ Hid (y.length = 4 * N) ∧ Hid (∀ ch : Nat, ch < 4 * N → ri y ch = loadAt m pa pb (l.take j) ch + (if has (wl.take q) ch then (rp l j).len else 0)) ∧ Kd.R (Kd.int .i64) 3 wi ((w.alloc (.cells #[.int .i64 m.g.w, .int .i64 m.g.h, .slice A m.br.length c] 38)).alloc (.cells #[.slice B pa.length d, .slice C pb.length k] 42)).heap.size (fun _ => True) (.slice (some ⟨g, 0, none⟩) (4 * N) cap) y ∧ Kd.R (Kd.int .i64) 3 wi (wr.heap.size + 1) (fun _ => True) (.slice A1 wl.length c1) wl ∧ wr.heap.size < wi.heap.size ∧ Below ((w.alloc (.cells #[.int .i64 m.g.w, .int .i64 m.g.h, .slice A m.br.length c] 38)).alloc (.cells #[.slice B pa.length d, .slice C pb.length k] 42)).heap.size ((w.alloc (.cells #[.int .i64 m.g.w, .int .i64 m.g.h, .slice A m.br.length c] 38)).alloc (.cells #[.slice B pa.length d, .slice C pb.length k] 42)) wi) (fun i _ => wl.length - (intOf i).toNat)
        case atStart => exact ⟨0, x, rfl, Nat.zero_le _, HL, Lib.hid fun ch h => by rw [HA.out ch h]; simp [has], HO9, HW9, hwz, H0⟩
        case round =>
          clear HO9 HW9 hwz H0
          obtain ⟨q, y, rfl, hq, HLy, HP, HOy, HWy, hwz, HBy⟩ := hrel
          obtain ⟨hcI, hfI, hzI⟩ := bcell HBy
          simp only [World.size_alloc, World.size_setCell, World.size_drew, sz_drewN] at hzI
          by_cases hlt2 : q < wl.length
          · obtain ⟨_, hlw, hCw⟩ := Kd.R_row HWy
            obtain ⟨bw, ow, rfl, hbw, hxw⟩ := rdI_at hCw q hlt2
            have hxq := hxw q hlt2
            clear hxw
            obtain ⟨g0, g1⟩ := HRG.out _ (by rw [ri_get wl q hlt2]; exact List.getElem_mem hlt2 : ri wl q ∈ wl)
            obtain ⟨cn, hcn⟩ : ∃ cn : Nat, ri wl q = (cn : Int) := ⟨(ri wl q).toNat, by omega⟩
            have hcl2 : cn < 4 * N := by have := HC.out; omega
            have hnt := has_take_not HND.out q hlt2
            have htn := take_next wl q hlt2
            rw [hcn] at hxq g0 g1 hnt htn
            have HTN := Lib.hid htn
            have HNT := Lib.hid hnt
            clear hcn htn hnt g1
            obtain ⟨hx9, hf9⟩ := rowI_cell HOy cn hcl2
            obtain ⟨v0, v1⟩ := loadAt_range (pa := pa) (pb := pb) HALL.out cn j hj
            have hv := HP.out cn hcl2
            rw [HNT.out, if_neg (by simp), Int.add_zero] at hv
            rw [← hv] at v0 v1
            have HV := Lib.hid hv
            clear hv
            have i0 : (0 : Int) ≤ (q : Int) := by omega
            have i1 : (q : Int) < (wl.length : Int) := by omega
            have i2 : (0 : Int) ≤ (cn : Int) := by omega
            have i3 : (cn : Int) < ((4 * N : Nat) : Int) := by omega
            have i4 : (0 : Int) ≤ (j : Int) := by omega
            have i5 : (j : Int) < (l.length : Int) := by omega
            go_wp2
            go_region
            go_wp2
            go_roundw
            case rel => exact ⟨q + 1, y.set cn (ri y cn + (rp l j).len), by go_num, by omega, Lib.hid (by rw [List.length_set]; exact HLy.out), Lib.hid (fun ch hch => by
              rw [set_get (by have := HLy.out; omega) ch (by have := HLy.out; omega), HTN.out, has_snoc]
              by_cases e : cn = ch
              · subst e
                rw [if_pos rfl, HV.out]
                simp
              · rw [if_neg e, HP.out ch hch]
                have e2 : ((cn : Int) == (ch : Int)) = false := beq_eq_false_iff_ne.2 (by omega)
                rw [e2, Bool.or_false]), rowI_set HOy cn _, R_off HWy (by omega) _ _, by simpa only [World.size_alloc, World.size_setCell, World.size_drew, sz_drewN] using hwz, (by have HGO := HGB.out; first | exact bw_set _ (by exact (by with_reducible repeat (first | assumption | exact bw_refl _ | apply bw_alloc | apply bw_drew | apply bw_drewN | refine bw_set _ ?_ (by omega) | refine bw_then ?_ (by assumption)))) HGO | exact bw_drew (bw_set _ (by exact (by with_reducible repeat (first | assumption | exact bw_refl _ | apply bw_alloc | apply bw_drew | apply bw_drewN | refine bw_set _ ?_ (by omega) | refine bw_then ?_ (by assumption)))) HGO))⟩
            case measure => simp [intOf]; omega
          · go_wp2
            go_roundw
            case rel => exact ⟨j + 1, y, by go_num, by omega, HLy, Lib.hid (fun ch h => by rw [HP.out ch h, show q = wl.length by omega, List.take_length, loadAt_take m pa pb l j hlt, HAD.out]), HOy, HBy⟩
            case measure => simp [intOf]; omega
      · have e1 : ((rp l j).cls == 1) = false := beq_eq_false_iff_ne.2 hcl
        have HAD : ∀ ch : Int, addsTo m pa pb (rp l j) ch = if has (wt m pa (rp l j).src (rp l j).dst) ch then (rp l j).len else 0 := fun ch => by rw [addsTo, walkP, tabOf, if_neg hcl]
        have hwe := wt_start (t := pa) (m := m) n3 n1 n2
        have hnd := wt_nodup m pa (rp l j).src (rp l j).dst
        have hrg : ∀ c ∈ wt m pa (rp l j).src (rp l j).dst, 0 ≤ c ∧ c < 4 * nodeCount m.g := fun c h => wt_range h
        rw [hwe] at hnd hrg
        simp only [hwe] at HAD
        have hlenw := wt_len m pa (rp l j).src (rp l j).dst
        rw [hwe] at hlenw
        clear hwe hcl
        generalize hwe : walkFrom m pa (rp l j).dst (rp l j).src [] = wl at hnd hrg HAD hlenw
        have HAD := Lib.hid HAD
        have HND := Lib.hid hnd
        have HRG := Lib.hid hrg
        have HWE := Lib.hid hwe
        clear hwe hnd hrg
        go_wp2_with fail
        go_region_held3 (fun w' => Below (wr.alloc (.cells #[.slice B pa.length d] 40)).heap.size (wr.alloc (.cells #[.slice B pa.length d] 40)) w' ∧ ∀ bq oq, bq < (wr.alloc (.cells #[.slice B pa.length d] 40)).heap.size → w'.cell? ⟨bq, oq, none⟩ = (wr.alloc (.cells #[.slice B pa.length d] 40)).cell? ⟨bq, oq, none⟩) (first | exact far_of (by with_reducible repeat (first | assumption | exact bw_refl _ | apply bw_alloc | apply bw_drew | apply bw_drewN | refine bw_set _ ?_ (by omega) | refine bw_then ?_ (by assumption)))) ( (go_at_call 63; refine (spec_l04Walk m pa (rp l j).src (rp l j).dst A B _ _ _ (by exact Kd.C_below hr (by with_reducible repeat (first | assumption | exact bw_refl _ | apply bw_alloc | apply bw_drew | apply bw_drewN | refine bw_set _ ?_ (by omega) | refine bw_then ?_ (by assumption)))) hn (by exact Kd.C_below ha (by with_reducible repeat (first | assumption | exact bw_refl _ | apply bw_alloc | apply bw_drew | apply bw_drewN | refine bw_set _ ?_ (by omega) | refine bw_then ?_ (by assumption)))) HSZ.out.1 HN.out.1 HN.out.2).mono ?_; rintro e w1 ⟨hg1, hb1⟩; rw [HWE.out] at hg1; obtain ⟨v1, rfl, HO1⟩ := hg1; obtain ⟨A1, c1, rfl, hk1, hr1⟩ := Kd.R_reads HO1; have HOL := Kd.R_lower (base' := (wr.alloc (.cells #[.slice B pa.length d] 40)).heap.size) HO1 (bw_size (by with_reducible repeat (first | assumption | exact bw_refl _ | apply bw_alloc | apply bw_drew | apply bw_drewN | refine bw_set _ ?_ (by omega) | refine bw_then ?_ (by assumption)))); simp only [World.size_alloc, World.size_setCell, World.size_drew, sz_drewN] at HOL; clear HO1; obtain ⟨hc1, hf1, hz1⟩ := bcell hb1; (try simp only [World.size_alloc, World.size_setCell, World.size_drew, sz_drewN] at hz1); have hb2 := (by first | exact bw_then hb2 hb1 | exact bw_then (bw_drewN _ hb2) hb1 | exact bw_then (bw_alloc _ hb2) hb1 | exact bw_then (bw_drew hb2) hb1 | exact bw_then HB hb1 | exact bw_then (bw_drewN _ HB) hb1 | exact bw_then (bw_alloc _ HB) hb1 | exact bw_then (bw_drew HB) hb1 | exact hb1); obtain ⟨hc2, hf2, hz2⟩ := bcell hb2; (try simp only [World.size_alloc, World.size_setCell, World.size_drew, sz_drewN] at hz2); try (first | obtain ⟨hy1, hy2, hy3, hy4⟩ := lts4 hz2 | obtain ⟨hy1, hy2, hy3⟩ := lts3 hz2 | obtain ⟨hy1, hy2⟩ := lts2 hz2 | have hy1 := lts1 hz2); have hb9 := hb1))
        
        have hb2 : Below (wr.alloc (.cells #[.slice B pa.length d] 40)).heap.size (wr.alloc (.cells #[.slice B pa.length d] 40)) w1 := by first | exact hb2 | exact bw_then (bw_drew (bw_refl _)) hb2
        have H0 := bw_then (bw_alloc (.cells #[.slice B pa.length d] 40) HB) hb2
        have HO9 := Kd.R_below HO (bw_then (bw_alloc _ (bw_refl wr)) hb2)
        have hwz : wr.heap.size < w1.heap.size := by have := (bcell hb2).2.2; simp only [World.size_alloc, World.size_setCell, World.size_drew, sz_drewN] at this; omega
        have HW9 := HOL
        clear HOL hr1 hk1
        repeat (first | clear hc1 | clear hf1 | clear hz1 | clear hb1 | clear hb9 | clear hc2 | clear hf2 | clear hz2 | clear hb2 | clear hy1 | clear hy2 | clear hy3 | clear hy4 | clear hap | clear HOm | clear HOa | clear HOb | clear HOp | clear hlm | clear hla | clear hlb | clear hlp | clear hCm | clear hCa | clear hCb | clear hCp | clear Am | clear Aa | clear Ab | clear Ap | clear cm | clear ca | clear cb | clear cp | clear w1)
        obtain ⟨w5, rfl⟩ : ∃ x, x = w1 := ⟨_, rfl⟩
        go_wp2
        go_loopw [11] (fun i wi => ∃ (q : Nat) (y : List Int), i = .int .i64 q ∧ q ≤ wl.length ∧ Hid (y.length = 4 * N) ∧ Hid (∀ ch : Nat, ch < 4 * N → ri y ch = loadAt m pa pb (l.take j) ch + (if has (wl.take q) ch then (rp l j).len else 0)) ∧ Kd.R (Kd.int .i64) 3 wi ((w.alloc (.cells #[.int .i64 m.g.w, .int .i64 m.g.h, .slice A m.br.length c] 38)).alloc (.cells #[.slice B pa.length d, .slice C pb.length k] 42)).heap.size (fun _ => True) (.slice (some ⟨g, 0, none⟩) (4 * N) cap) y ∧ Kd.R (Kd.int .i64) 3 wi (wr.heap.size + 1) (fun _ => True) (.slice A1 wl.length c1) wl ∧ wr.heap.size < wi.heap.size ∧ Below ((w.alloc (.cells #[.int .i64 m.g.w, .int .i64 m.g.h, .slice A m.br.length c] 38)).alloc (.cells #[.slice B pa.length d, .slice C pb.length k] 42)).heap.size ((w.alloc (.cells #[.int .i64 m.g.w, .int .i64 m.g.h, .slice A m.br.length c] 38)).alloc (.cells #[.slice B pa.length d, .slice C pb.length k] 42)) wi) (fun i _ => wl.length - (intOf i).toNat)
        case atStart => exact ⟨0, x, rfl, Nat.zero_le _, HL, Lib.hid fun ch h => by rw [HA.out ch h]; simp [has], HO9, HW9, hwz, H0⟩
        case round =>
          clear HO9 HW9 hwz H0
          obtain ⟨q, y, rfl, hq, HLy, HP, HOy, HWy, hwz, HBy⟩ := hrel
          obtain ⟨hcI, hfI, hzI⟩ := bcell HBy
          simp only [World.size_alloc, World.size_setCell, World.size_drew, sz_drewN] at hzI
          by_cases hlt2 : q < wl.length
          · obtain ⟨_, hlw, hCw⟩ := Kd.R_row HWy
            obtain ⟨bw, ow, rfl, hbw, hxw⟩ := rdI_at hCw q hlt2
            have hxq := hxw q hlt2
            clear hxw
            obtain ⟨g0, g1⟩ := HRG.out _ (by rw [ri_get wl q hlt2]; exact List.getElem_mem hlt2 : ri wl q ∈ wl)
            obtain ⟨cn, hcn⟩ : ∃ cn : Nat, ri wl q = (cn : Int) := ⟨(ri wl q).toNat, by omega⟩
            have hcl2 : cn < 4 * N := by have := HC.out; omega
            have hnt := has_take_not HND.out q hlt2
            have htn := take_next wl q hlt2
            rw [hcn] at hxq g0 g1 hnt htn
            have HTN := Lib.hid htn
            have HNT := Lib.hid hnt
            clear hcn htn hnt g1
            obtain ⟨hx9, hf9⟩ := rowI_cell HOy cn hcl2
            obtain ⟨v0, v1⟩ := loadAt_range (pa := pa) (pb := pb) HALL.out cn j hj
            have hv := HP.out cn hcl2
            rw [HNT.out, if_neg (by simp), Int.add_zero] at hv
            rw [← hv] at v0 v1
            have HV := Lib.hid hv
            clear hv
            have i0 : (0 : Int) ≤ (q : Int) := by omega
            have i1 : (q : Int) < (wl.length : Int) := by omega
            have i2 : (0 : Int) ≤ (cn : Int) := by omega
            have i3 : (cn : Int) < ((4 * N : Nat) : Int) := by omega
            have i4 : (0 : Int) ≤ (j : Int) := by omega
            have i5 : (j : Int) < (l.length : Int) := by omega
            go_wp2
            go_region
            go_wp2
            go_roundw
            case rel => exact ⟨q + 1, y.set cn (ri y cn + (rp l j).len), by go_num, by omega, Lib.hid (by rw [List.length_set]; exact HLy.out), Lib.hid (fun ch hch => by
              rw [set_get (by have := HLy.out; omega) ch (by have := HLy.out; omega), HTN.out, has_snoc]
              by_cases e : cn = ch
              · subst e
                rw [if_pos rfl, HV.out]
                simp
              · rw [if_neg e, HP.out ch hch]
                have e2 : ((cn : Int) == (ch : Int)) = false := beq_eq_false_iff_ne.2 (by omega)
                rw [e2, Bool.or_false]), rowI_set HOy cn _, R_off HWy (by omega) _ _, by simpa only [World.size_alloc, World.size_setCell, World.size_drew, sz_drewN] using hwz, (by have HGO := HGB.out; first | exact bw_set _ (by exact (by with_reducible repeat (first | assumption | exact bw_refl _ | apply bw_alloc | apply bw_drew | apply bw_drewN | refine bw_set _ ?_ (by omega) | refine bw_then ?_ (by assumption)))) HGO | exact bw_drew (bw_set _ (by exact (by with_reducible repeat (first | assumption | exact bw_refl _ | apply bw_alloc | apply bw_drew | apply bw_drewN | refine bw_set _ ?_ (by omega) | refine bw_then ?_ (by assumption)))) HGO))⟩
            case measure => simp [intOf]; omega
          · go_wp2
            go_roundw
            case rel => exact ⟨j + 1, y, by go_num, by omega, HLy, Lib.hid (fun ch h => by rw [HP.out ch h, show q = wl.length by omega, List.take_length, loadAt_take m pa pb l j hlt, HAD.out]), HOy, HBy⟩
            case measure => simp [intOf]; omega
    · go_wp2
      go_ret
      have hje : j = l.length := by omega
      subst hje
      refine ⟨?_, (by with_reducible repeat (first | assumption | exact bw_refl _ | apply bw_alloc | apply bw_drew | apply bw_drewN | refine bw_set _ ?_ (by omega) | refine bw_then ?_ (by assumption)))⟩
      have e : x = loadsL m pa pb l := loadsL_of (by rw [HL.out, HCH.out]) (fun ch h => by rw [HCH.out] at h; rw [HA.out ch h, List.take_length])
      subst e
      rw [loadsOf, if_pos HALL0.out]
      exact ⟨_, rfl, Kd.R_lower HO (by simp only [World.size_alloc, World.size_setCell, World.size_drew, sz_drewN]; omega)⟩

end Go.Proofs.Ytcaipmhfgjafjaa
