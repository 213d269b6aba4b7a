/- The law FnPatterns, walked; for all bytes. -/
import Derived.Test.YtglajejmnhmcfaaDraw2
import Derived.Test.YtglajejmnhmcfaaPatP
import Derived.Test.YtglajejmnhmcfaaLoad
set_option linter.unusedVariables false
set_option linter.unusedSimpArgs false
namespace Go.Proofs.Ytglajejmnhmcfaa
open Go.RowKit Go.Proofs.YtglajejmnhmcfaaW.PrintWords
open NoC

theorem laws_big (A : Option Addr) (N c : Nat) (w : World) : Calls Try.prog 17 #[.slice A N c] w fun e w' => e = .returned (.bool (decide ((1048576 : Int) < (N : Int)))) ∧ w = w' := by
  go_enter Try.func17, Try.ntmps17
  go_wp2
  go_ret
  exact ⟨rfl, rfl⟩
theorem places_read {w w' : World} {xs : List Int} {e : Ending} (h : GotI w w' xs e) (hl : xs.length = 12) (hr : ∀ j : Nat, j < 12 → 0 ≤ ri xs j ∧ ri xs j ≤ 9999) :
    ∃ b off c x0 x1 x2, e = .returned (.slice (some ⟨b, off, none⟩) 12 c) ∧ b < w'.heap.size ∧ w'.cell? ⟨b, off, none⟩ = some (.int .i64 x0) ∧ w'.cell? ⟨b, off + 1, none⟩ = some (.int .i64 x1) ∧ w'.cell? ⟨b, off + 2, none⟩ = some (.int .i64 x2) ∧ 0 ≤ x0 ∧ x0 ≤ 9999 ∧ 0 ≤ x1 ∧ x1 ≤ 9999 ∧ 0 ≤ x2 ∧ x2 ≤ 9999 := by
  obtain ⟨A, c, rfl, hk, hC⟩ := h.read
  obtain ⟨b, off, rfl, hb, hx⟩ := rdI_at hC 0 (by omega)
  have h0 := hr 0 (by decide)
  have h1 := hr 1 (by decide)
  have h2 := hr 2 (by decide)
  exact ⟨b, off, c, ri xs (0 : Nat), ri xs (1 : Nat), ri xs (2 : Nat), by rw [hl], hb, hx 0 (by omega), hx 1 (by omega), hx 2 (by omega), h0.1, h0.2, h1.1, h1.2, h2.1, h2.2⟩
theorem pat_got {w w' : World} {e : Ending} {g : Grid} (g1 : 1 ≤ g.w) (g2 : g.w ≤ 4) (g3 : 1 ≤ g.h) (g4 : g.h ≤ 4) {p n : Int} (p0 : 1 ≤ p) (p1 : p ≤ 4) (n0 : 1 ≤ n) (n1 : n ≤ 5) (h : GotP w w' (patternPackets g p n) e) :
    ∃ (l : List Packet) (A : Option Addr) (c : Nat), e = .returned (.slice A l.length c) ∧ l.length ≤ c ∧ kP.C w' A l.length l ∧ l.length ≤ 16 ∧ Hid (idsDistinct l = true) ∧ Hid (∀ k : Nat, k < l.length → packetOk g (rp l k) = true ∧ (rp l k).dst = patternTarget g p (rp l k).src ∧ (rp l k).len = n) := by
  obtain ⟨A, c, rfl, hk, hC⟩ := h.read
  obtain ⟨h1, h2, h3⟩ := pat_packets g1 g2 g3 g4 p0 p1 n0 n1
  exact ⟨_, A, c, rfl, hk, hC, h1, Lib.hid h2, Lib.hid h3⟩
theorem pname_some {x : Int} (h0 : 1 ≤ x) (h1 : x ≤ 4) : ∃ nm, pname x = nm ∧ (!nm.toList.isEmpty) = true := by
  rcases (by omega : x = 1 ∨ x = 2 ∨ x = 3 ∨ x = 4) with rfl | rfl | rfl | rfl <;> exact ⟨_, rfl, by first | decide | kernel_rfl | decide +kernel⟩
set_option maxRecDepth 100000 in
set_option maxHeartbeats 8000000 in
theorem law_Patterns (A : Option Addr) (N c : Nat) (w : World) (HX : Byt w A N) : Calls Try.prog 5 #[.slice A N c] w fun e w' => e = .returned (.bool true) ∧ Below w.heap.size w w' := by
  go_enter Try.func5, Try.ntmps5
  by_cases hbig : (1048576 : Int) < (N : Int)
  · go_wp2_with (go_at_call 17; refine (laws_big _ _ _ _).mono ?_; rintro e w' ⟨rfl, rfl⟩)
    go_ret
    exact ⟨rfl, (by with_reducible repeat (first | assumption | exact bw_refl _ | apply bw_alloc | apply bw_drew | apply bw_drewN | refine bw_set _ ?_ (by omega) | refine bw_then ?_ (by assumption)))⟩
  · go_wp2_with (first
      | (go_at_call 17; refine (laws_big _ _ _ _).mono ?_; rintro e w' ⟨rfl, rfl⟩)
      | (go_at_call 18; refine (spec_DrawGrid A N c _ HX).mono ?_; rintro e w1 ⟨g, rfl, g1, g2, g3, g4, hb1⟩; have HG1 := Arr.new w1 w1.heap.size 25 #[.int .i64 g.w, .int .i64 g.h] rfl; have HB1 : Below w.heap.size w (w1.alloc (.cells #[.int .i64 g.w, .int .i64 g.h] 25)) := bw_alloc _ hb1)
      | (go_at_call 19; refine (spec_DrawPlaces A N c _ (HX.below (by with_reducible repeat (first | assumption | exact bw_refl _ | apply bw_alloc | apply bw_drew | apply bw_drewN | refine bw_set _ ?_ (by omega) | refine bw_then ?_ (by assumption))))).mono ?_; rintro e w2 ⟨⟨xs, hg2, hxl, hxr⟩, hb2⟩; obtain ⟨b2, off2, c2, x0, x1, x2, rfl, hbl2, q0, q1, q2, y0, y1, y2, y3, y4, y5⟩ := places_read hg2 hxl hxr; have HG2 := HG1.below hb2; have HB2 := bw_then HB1 hb2; have u0 : w2.cell? ⟨w1.heap.size, 0, none⟩ = some (.int .i64 g.w) := HG2.cell 0; have u1 : w2.cell? ⟨w1.heap.size, 1, none⟩ = some (.int .i64 g.h) := HG2.cell 1)
      | (go_at_call 13; refine (impl_PatternPackets g _ _ _).mono ?_; rintro e w3 ⟨hg3, hb3⟩; obtain ⟨l, A3, c3, rfl, hk3, hC3, h16, HID, HPK⟩ := pat_got g1 g2 g3 g4 (by omega) (by omega) (by omega) (by omega) hg3; have HG3 := HG2.below hb3; have HB3 := bw_then HB2 hb3; have v0 : w3.cell? ⟨w1.heap.size, 0, none⟩ = some (.int .i64 g.w) := HG3.cell 0; have v1 : w3.cell? ⟨w1.heap.size, 1, none⟩ = some (.int .i64 g.h) := HG3.cell 1; have v2 := ((bcell hb3).1 b2 (off2 + 2) hbl2).trans q2; have vl := Nat.lt_of_lt_of_le hbl2 hb3.size; have vg := HG3.lt; clear hg3))
    clear HG1 HG2 HB1 HB2 u0 u1 q0 q1 q2 hbl2
    go_loopw [8] (fun i wr => ∃ k : Nat, i = .int .i64 k ∧ k ≤ l.length ∧ Below w3.heap.size w3 wr) (fun i _ => l.length - (intOf i).toNat)
    case atStart => exact ⟨0, rfl, Nat.zero_le _, bw_refl _⟩
    case round =>
      obtain ⟨k, rfl, hk, HBr⟩ := hrel
      obtain ⟨hcr, hfr, hzr⟩ := bcell HBr
      by_cases hlt : k < l.length
      · obtain ⟨b, off, rfl, hbl, p0, p1, p2, p3, p4⟩ := rdP_at hC3 k hlt
        obtain ⟨z1, z2, z3⟩ := HPK.out k hlt
        have Z1 := Lib.hid z1
        have Z2 := Lib.hid z2.symm
        have e1 : ((rp l k).dst != (rp l k).dst) = false := by simp
        have e2 : ((rp l k).len != 1 + x1 % 5) = false := by rw [z3]; simp
        have i0 : (k : Int) < (l.length : Int) := by omega
        clear z1 z2 z3
        go_wp2
        go_region_held3 (fun w' => Below (w3).heap.size (w3) w' ∧ ∀ bq oq, bq < (w3).heap.size → w'.cell? ⟨bq, oq, none⟩ = (w3).cell? ⟨bq, oq, none⟩) (first | exact far_of (by with_reducible repeat (first | assumption | exact bw_refl _ | apply bw_alloc | apply bw_drew | apply bw_drewN | refine bw_set _ ?_ (by omega) | refine bw_then ?_ (by assumption)))) ( first | (go_at_call 20; refine (impl_PacketOk g (rp l k) _).mono ?_; rintro e w1 ⟨he, hb1⟩; rw [Z1.out] at he; subst he; obtain ⟨hc1, hf1, hz1⟩ := bcell hb1; (try simp only [World.size_alloc, World.size_setCell, World.size_drew, sz_drewN] at hz1); have hb2 := (by first | exact bw_then hb2 hb1 | exact bw_then (bw_drewN _ hb2) hb1 | exact bw_then (bw_alloc _ hb2) hb1 | exact bw_then (bw_drew hb2) hb1 | exact bw_then HB hb1 | exact bw_then (bw_drewN _ HB) hb1 | exact bw_then (bw_alloc _ HB) hb1 | exact bw_then (bw_drew HB) hb1 | exact hb1); obtain ⟨hc2, hf2, hz2⟩ := bcell hb2; (try simp only [World.size_alloc, World.size_setCell, World.size_drew, sz_drewN] at hz2); try (first | obtain ⟨hy1, hy2, hy3, hy4⟩ := lts4 hz2 | obtain ⟨hy1, hy2, hy3⟩ := lts3 hz2 | obtain ⟨hy1, hy2⟩ := lts2 hz2 | have hy1 := lts1 hz2); have hb9 := hb1) | (go_at_call 21; refine (impl_PatternTarget g _ (rp l k).src _).mono ?_; rintro e w1 ⟨he, hb1⟩; rw [Z2.out] at he; subst he; obtain ⟨hc1, hf1, hz1⟩ := bcell hb1; (try simp only [World.size_alloc, World.size_setCell, World.size_drew, sz_drewN] at hz1); have hb2 := (by first | exact bw_then hb2 hb1 | exact bw_then (bw_drewN _ hb2) hb1 | exact bw_then (bw_alloc _ hb2) hb1 | exact bw_then (bw_drew hb2) hb1 | exact bw_then HB hb1 | exact bw_then (bw_drewN _ HB) hb1 | exact bw_then (bw_alloc _ HB) hb1 | exact bw_then (bw_drew HB) hb1 | exact hb1); obtain ⟨hc2, hf2, hz2⟩ := bcell hb2; (try simp only [World.size_alloc, World.size_setCell, World.size_drew, sz_drewN] at hz2); try (first | obtain ⟨hy1, hy2, hy3, hy4⟩ := lts4 hz2 | obtain ⟨hy1, hy2, hy3⟩ := lts3 hz2 | obtain ⟨hy1, hy2⟩ := lts2 hz2 | have hy1 := lts1 hz2); have hb9 := hb1))
        go_wp2
        go_roundw
        case rel => exact ⟨k + 1, by go_num, by omega, (by with_reducible repeat (first | assumption | exact bw_refl _ | apply bw_alloc | apply bw_drew | apply bw_drewN | refine bw_set _ ?_ (by omega) | refine bw_then ?_ (by assumption)))⟩
        case measure => simp [intOf]; omega
      · have i0 : ¬ (k : Int) < (l.length : Int) := by omega
        have v0r := (hcr _ 0 vg).trans v0
        have v1r := (hcr _ 1 vg).trans v1
        have v2r := (hcr _ (off2 + 2) vl).trans v2
        have m0 : 1 ≤ g.w * g.h := by
          have := Int.mul_le_mul g1 g3 (by omega) (by omega)
          omega
        have m1 : g.w * g.h ≤ 16 := by
          have := Int.mul_le_mul_of_nonneg_right g2 (show 0 ≤ g.h by omega)
          omega
        have a0 : 0 ≤ x2 % (g.w * g.h) := Int.emod_nonneg _ (by omega)
        have a1 : x2 % (g.w * g.h) < g.w * g.h := Int.emod_lt_of_pos _ (by omega)
        have hnf := Lib.hid (node_fact g1 g2 g3 g4 a0 a1)
        go_wp2
        go_region
        generalize x2 % (g.w * g.h) = a at a0 a1 hnf ⊢
        have nf := hnf.out
        simp only [nodeFacts, Bool.and_eq_true, Bool.or_eq_true, beq_iff_eq, decide_eq_true_eq] at nf
        obtain ⟨⟨n1, n2⟩, _⟩ := nf
        obtain ⟨t0, t1⟩ := target_range g 1 a
        obtain ⟨s, hs⟩ : ∃ s, patternTarget g 2 a = s := ⟨_, rfl⟩
        obtain ⟨t, ht⟩ : ∃ t, patternTarget g 1 a = t := ⟨_, rfl⟩
        obtain ⟨u, hu⟩ : ∃ u, patternTarget g 1 t = u := ⟨_, rfl⟩
        rw [hs] at n1
        rw [ht, hu] at n2
        rw [ht] at t0 t1
        have HT := Lib.hid ht
        have HS := Lib.hid hs
        have HU := Lib.hid hu
        have N1 := Lib.hid n1
        obtain ⟨pf2, pf4⟩ := perm_fact g1 g2 g3 g4
        have P2 := Lib.hid pf2
        have P4 := Lib.hid pf4
        obtain ⟨nm, hnm, e5⟩ := pname_some (x := 1 + x0 % 4) (by omega) (by omega)
        have PN := Lib.hid hnm
        have E5 := Lib.hid e5
        clear n1 pf2 pf4 hnm ht hs hu hnf m0 m1 a1 v0r v1r v2r e5
        go_wp2_with (go_at_call 21; refine (impl_PatternTarget g 1 a _).mono ?_; rintro e w1 ⟨he, hb1⟩; rw [HT.out] at he; subst he; obtain ⟨hc1, hf1, hz1⟩ := bcell hb1; (try simp only [World.size_alloc, World.size_setCell, World.size_drew, sz_drewN] at hz1); have hb2 := (by first | exact bw_then hb2 hb1 | exact bw_then (bw_drewN _ hb2) hb1 | exact bw_then (bw_alloc _ hb2) hb1 | exact bw_then (bw_drew hb2) hb1 | exact bw_then HB hb1 | exact bw_then (bw_drewN _ HB) hb1 | exact bw_then (bw_alloc _ HB) hb1 | exact bw_then (bw_drew HB) hb1 | exact hb1); obtain ⟨hc2, hf2, hz2⟩ := bcell hb2; (try simp only [World.size_alloc, World.size_setCell, World.size_drew, sz_drewN] at hz2); try (first | obtain ⟨hy1, hy2, hy3, hy4⟩ := lts4 hz2 | obtain ⟨hy1, hy2, hy3⟩ := lts3 hz2 | obtain ⟨hy1, hy2⟩ := lts2 hz2 | have hy1 := lts1 hz2); have hb9 := hb1)
        by_cases ht0 : t < 0
        · clear n2
          refine wp_region_far (w3) (by kernel_rfl) (by kernel_rfl) (by with_reducible repeat (first | assumption | exact bw_refl _ | apply bw_alloc | apply bw_drew | apply bw_drewN | refine bw_set _ ?_ (by omega) | refine bw_then ?_ (by assumption))) ?_
          have hqc := far_cell (w3)
          have hqf := far_frozen (w3)
          repeat (first | go_big_quiet_step (first | (go_at_call 22; exact far_call (Calls.says (impl_IdsDistinct l _ _ _ (by exact Kd.C_below (by exact Kd.C_below hC3 (by with_reducible repeat (first | assumption | exact bw_refl _ | apply bw_alloc | apply bw_drew | apply bw_drewN | refine bw_set _ ?_ (by omega) | refine bw_then ?_ (by assumption)))) (Far.h _)) (by omega) hk3) (congrArg Value.bool HID.out))) | (go_at_call_of 21 a; with_reducible exact far_call (Calls.says (impl_PatternTarget g 2 a _) (congrArg (Value.int .i64) HS.out))) | (go_at_call_of 21 s; with_reducible exact far_call (Calls.says (impl_PatternTarget g 2 s _) (congrArg (Value.int .i64) N1.out))) | (go_at_call 11; with_reducible exact far_call (Calls.says (impl_IsPermutation g 2 _) (congrArg Value.bool P2.out))) | (go_at_call 11; with_reducible exact far_call (Calls.says (impl_IsPermutation g 4 _) (congrArg Value.bool P4.out))) | (go_at_call 23; exact far_call (Calls.says (impl_PatternName _ _) (congrArg Value.string PN.out)))) | quiet_step (first | (go_at_call 22; exact far_call (Calls.says (impl_IdsDistinct l _ _ _ (by exact Kd.C_below (by exact Kd.C_below hC3 (by with_reducible repeat (first | assumption | exact bw_refl _ | apply bw_alloc | apply bw_drew | apply bw_drewN | refine bw_set _ ?_ (by omega) | refine bw_then ?_ (by assumption)))) (Far.h _)) (by omega) hk3) (congrArg Value.bool HID.out))) | (go_at_call_of 21 a; with_reducible exact far_call (Calls.says (impl_PatternTarget g 2 a _) (congrArg (Value.int .i64) HS.out))) | (go_at_call_of 21 s; with_reducible exact far_call (Calls.says (impl_PatternTarget g 2 s _) (congrArg (Value.int .i64) N1.out))) | (go_at_call 11; with_reducible exact far_call (Calls.says (impl_IsPermutation g 2 _) (congrArg Value.bool P2.out))) | (go_at_call 11; with_reducible exact far_call (Calls.says (impl_IsPermutation g 4 _) (congrArg Value.bool P4.out))) | (go_at_call 23; exact far_call (Calls.says (impl_PatternName _ _) (congrArg Value.string PN.out)))))
          refine wpQuiet_nil ?_
          intro wq hbq
          clear hqc hqf
          obtain ⟨hcq, hfq, hzq⟩ := bcell hbq
          try simp only [World.size_alloc, World.size_setCell, World.size_drew, sz_drewN] at hzq
          go_wp2
          go_ret
          exact ⟨ret_bool E5.out, (by with_reducible repeat (first | assumption | exact bw_refl _ | apply bw_alloc | apply bw_drew | apply bw_drewN | refine bw_set _ ?_ (by omega) | refine bw_then ?_ (by assumption)))⟩
        · have n3 : u = a ∨ u = -1 := by
            rcases n2 with (h | h) | h
            · exact absurd h ht0
            · exact .inl h
            · exact .inr h
          clear n2
          rcases n3 with rfl | rfl
          · skip
            refine wp_region_far (w3) (by kernel_rfl) (by kernel_rfl) (by with_reducible repeat (first | assumption | exact bw_refl _ | apply bw_alloc | apply bw_drew | apply bw_drewN | refine bw_set _ ?_ (by omega) | refine bw_then ?_ (by assumption))) ?_
            have hqc := far_cell (w3)
            have hqf := far_frozen (w3)
            repeat (first | go_big_quiet_step (first | (go_at_call 22; exact far_call (Calls.says (impl_IdsDistinct l _ _ _ (by exact Kd.C_below (by exact Kd.C_below hC3 (by with_reducible repeat (first | assumption | exact bw_refl _ | apply bw_alloc | apply bw_drew | apply bw_drewN | refine bw_set _ ?_ (by omega) | refine bw_then ?_ (by assumption)))) (Far.h _)) (by omega) hk3) (congrArg Value.bool HID.out))) | (go_at_call_of 21 u; with_reducible exact far_call (Calls.says (impl_PatternTarget g 2 u _) (congrArg (Value.int .i64) HS.out))) | (go_at_call_of 21 s; with_reducible exact far_call (Calls.says (impl_PatternTarget g 2 s _) (congrArg (Value.int .i64) N1.out))) | (go_at_call_of 21 t; with_reducible exact far_call (Calls.says (impl_PatternTarget g 1 t _) (congrArg (Value.int .i64) HU.out))) | (go_at_call 11; with_reducible exact far_call (Calls.says (impl_IsPermutation g 2 _) (congrArg Value.bool P2.out))) | (go_at_call 11; with_reducible exact far_call (Calls.says (impl_IsPermutation g 4 _) (congrArg Value.bool P4.out))) | (go_at_call 23; exact far_call (Calls.says (impl_PatternName _ _) (congrArg Value.string PN.out)))) | quiet_step (first | (go_at_call 22; exact far_call (Calls.says (impl_IdsDistinct l _ _ _ (by exact Kd.C_below (by exact Kd.C_below hC3 (by with_reducible repeat (first | assumption | exact bw_refl _ | apply bw_alloc | apply bw_drew | apply bw_drewN | refine bw_set _ ?_ (by omega) | refine bw_then ?_ (by assumption)))) (Far.h _)) (by omega) hk3) (congrArg Value.bool HID.out))) | (go_at_call_of 21 u; with_reducible exact far_call (Calls.says (impl_PatternTarget g 2 u _) (congrArg (Value.int .i64) HS.out))) | (go_at_call_of 21 s; with_reducible exact far_call (Calls.says (impl_PatternTarget g 2 s _) (congrArg (Value.int .i64) N1.out))) | (go_at_call_of 21 t; with_reducible exact far_call (Calls.says (impl_PatternTarget g 1 t _) (congrArg (Value.int .i64) HU.out))) | (go_at_call 11; with_reducible exact far_call (Calls.says (impl_IsPermutation g 2 _) (congrArg Value.bool P2.out))) | (go_at_call 11; with_reducible exact far_call (Calls.says (impl_IsPermutation g 4 _) (congrArg Value.bool P4.out))) | (go_at_call 23; exact far_call (Calls.says (impl_PatternName _ _) (congrArg Value.string PN.out)))))
            refine wpQuiet_nil ?_
            intro wq hbq
            clear hqc hqf
            obtain ⟨hcq, hfq, hzq⟩ := bcell hbq
            try simp only [World.size_alloc, World.size_setCell, World.size_drew, sz_drewN] at hzq
            go_wp2
            go_ret
            exact ⟨ret_bool E5.out, (by with_reducible repeat (first | assumption | exact bw_refl _ | apply bw_alloc | apply bw_drew | apply bw_drewN | refine bw_set _ ?_ (by omega) | refine bw_then ?_ (by assumption)))⟩
          · have e7 : ((-1 : Int) == a) = false := by simp; omega
            refine wp_region_far (w3) (by kernel_rfl) (by kernel_rfl) (by with_reducible repeat (first | assumption | exact bw_refl _ | apply bw_alloc | apply bw_drew | apply bw_drewN | refine bw_set _ ?_ (by omega) | refine bw_then ?_ (by assumption))) ?_
            have hqc := far_cell (w3)
            have hqf := far_frozen (w3)
            repeat (first | go_big_quiet_step (first | (go_at_call 22; exact far_call (Calls.says (impl_IdsDistinct l _ _ _ (by exact Kd.C_below (by exact Kd.C_below hC3 (by with_reducible repeat (first | assumption | exact bw_refl _ | apply bw_alloc | apply bw_drew | apply bw_drewN | refine bw_set _ ?_ (by omega) | refine bw_then ?_ (by assumption)))) (Far.h _)) (by omega) hk3) (congrArg Value.bool HID.out))) | (go_at_call_of 21 a; with_reducible exact far_call (Calls.says (impl_PatternTarget g 2 a _) (congrArg (Value.int .i64) HS.out))) | (go_at_call_of 21 s; with_reducible exact far_call (Calls.says (impl_PatternTarget g 2 s _) (congrArg (Value.int .i64) N1.out))) | (go_at_call_of 21 t; with_reducible exact far_call (Calls.says (impl_PatternTarget g 1 t _) (congrArg (Value.int .i64) HU.out))) | (go_at_call 11; with_reducible exact far_call (Calls.says (impl_IsPermutation g 2 _) (congrArg Value.bool P2.out))) | (go_at_call 11; with_reducible exact far_call (Calls.says (impl_IsPermutation g 4 _) (congrArg Value.bool P4.out))) | (go_at_call 23; exact far_call (Calls.says (impl_PatternName _ _) (congrArg Value.string PN.out)))) | quiet_step (first | (go_at_call 22; exact far_call (Calls.says (impl_IdsDistinct l _ _ _ (by exact Kd.C_below (by exact Kd.C_below hC3 (by with_reducible repeat (first | assumption | exact bw_refl _ | apply bw_alloc | apply bw_drew | apply bw_drewN | refine bw_set _ ?_ (by omega) | refine bw_then ?_ (by assumption)))) (Far.h _)) (by omega) hk3) (congrArg Value.bool HID.out))) | (go_at_call_of 21 a; with_reducible exact far_call (Calls.says (impl_PatternTarget g 2 a _) (congrArg (Value.int .i64) HS.out))) | (go_at_call_of 21 s; with_reducible exact far_call (Calls.says (impl_PatternTarget g 2 s _) (congrArg (Value.int .i64) N1.out))) | (go_at_call_of 21 t; with_reducible exact far_call (Calls.says (impl_PatternTarget g 1 t _) (congrArg (Value.int .i64) HU.out))) | (go_at_call 11; with_reducible exact far_call (Calls.says (impl_IsPermutation g 2 _) (congrArg Value.bool P2.out))) | (go_at_call 11; with_reducible exact far_call (Calls.says (impl_IsPermutation g 4 _) (congrArg Value.bool P4.out))) | (go_at_call 23; exact far_call (Calls.says (impl_PatternName _ _) (congrArg Value.string PN.out)))))
            refine wpQuiet_nil ?_
            intro wq hbq
            clear hqc hqf
            obtain ⟨hcq, hfq, hzq⟩ := bcell hbq
            try simp only [World.size_alloc, World.size_setCell, World.size_drew, sz_drewN] at hzq
            go_wp2
            go_ret
            exact ⟨ret_bool E5.out, (by with_reducible repeat (first | assumption | exact bw_refl _ | apply bw_alloc | apply bw_drew | apply bw_drewN | refine bw_set _ ?_ (by omega) | refine bw_then ?_ (by assumption)))⟩
end Go.Proofs.Ytglajejmnhmcfaa
