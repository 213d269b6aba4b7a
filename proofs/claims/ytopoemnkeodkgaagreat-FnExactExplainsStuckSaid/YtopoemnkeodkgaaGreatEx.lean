/- Does a cycle of waits explain why a network is stuck: both sides. -/
import Derived.Test.YtopoemnkeodkgaaGreatWaS
import Derived.Test.YtopoemnkeodkgaaGreatIdle
import Derived.Test.YtopoemnkeodkgaaGreatExA
set_option linter.unusedVariables false
set_option linter.unusedSimpArgs false
namespace Go.Proofs.YtopoemnkeodkgaaGreat
open Go.RowKit Go.Proofs.YtopoemnkeodkgaaGreatW.PrintWords
open NoC

def explainsN (n : Net) (c : List Int) : Bool := decide (0 < c.length) && isStuckN n && edgesTo (waitsN n) c c.length
theorem explains_0 {n : Net} {c : List Int} (h : isStuckN n = false) : explainsN n c = false := by simp [explainsN, h]
theorem explains_1 {n : Net} {c : List Int} (h : c.length = 0) : explainsN n c = false := by simp [explainsN, h]
theorem explains_2 {n : Net} {c : List Int} (h : isStuckN n = true) (h0 : ¬ c.length = 0) : explainsN n c = edgesTo (waitsN n) c c.length := by
  have : 0 < c.length := by omega
  simp [explainsN, h, this]
theorem explains_3 {n : Net} {c : List Int} (h : edgesTo (waitsN n) c c.length = false) : explainsN n c = false := by simp [explainsN, h]
theorem nextOf_at {c : List Int} {k : Nat} (hk : k < c.length) : nextOf c k = ri c (((k + 1) % c.length : Nat) : Int) := by
  unfold nextOf
  congr 1
set_option maxHeartbeats 4000000 in
set_option maxRecDepth 100000 in
theorem impl_ExplainsStuck (n : Net) (cy : List Int) (q : NA) (A : Option Addr) (c : Nat) (w : World) (hr : NetR 115 w n q) (hc : Kd.C (Kd.int .i64) w A cy.length cy) (hn : cy.length ≤ 1048576) :
    Calls Tryz.prog 21 #[.agg (netCells n q), .slice A cy.length c] w fun e w' => e = .returned (.bool (explainsN n cy)) ∧ Below w.heap.size w w' := by
  have R := Lib.hid hr
  have C := Lib.hid hc
  have wl := WaitsOf_len n
  obtain ⟨a1, a2, a3, a4, a5, a6, a7, a8, c1, c2, c3, c4, c5, c6, c7, c8⟩ := q
  clear hr hc
  dsimp only [netCells]
  cases hs : isStuckN n
  · have HE : Hid (explainsN n cy = false) := Lib.hid (explains_0 hs)
    have HS := Lib.hid hs
    clear hs
    go_enter Tryz.func21, Tryz.ntmps21
    go_wp2_with (go_at_call 58; refine (impl_IsStuck n _ _ (R.out.below (by with_reducible repeat (first | assumption | exact bw_refl _ | apply bw_alloc | apply bw_drew | apply bw_drewN | refine bw_set _ ?_ (by omega) | refine bw_then ?_ (by assumption))))).mono ?_; rintro e w1 ⟨he, hb1⟩; rw [HS.out] at he; subst he; obtain ⟨hc1, hf1, hz1⟩ := bcell hb1; (try simp only [World.size_alloc, World.size_setCell, World.size_drew, sz_drewN] at hz1); have hb2 := (by first | exact bw_then hb2 hb1 | exact bw_then (bw_drewN _ hb2) hb1 | exact bw_then (bw_alloc _ hb2) hb1 | exact bw_then (bw_drew hb2) hb1 | exact bw_then HB hb1 | exact bw_then (bw_drewN _ HB) hb1 | exact bw_then (bw_alloc _ HB) hb1 | exact bw_then (bw_drew HB) hb1 | exact hb1); obtain ⟨hc2, hf2, hz2⟩ := bcell hb2; (try simp only [World.size_alloc, World.size_setCell, World.size_drew, sz_drewN] at hz2); try (first | obtain ⟨hy1, hy2, hy3, hy4⟩ := lts4 hz2 | obtain ⟨hy1, hy2, hy3⟩ := lts3 hz2 | obtain ⟨hy1, hy2⟩ := lts2 hz2 | have hy1 := lts1 hz2); have hb9 := hb1)
    go_ret
    exact ⟨ret_bool HE.out.symm, (by with_reducible repeat (first | assumption | exact bw_refl _ | apply bw_alloc | apply bw_drew | apply bw_drewN | refine bw_set _ ?_ (by omega) | refine bw_then ?_ (by assumption)))⟩
  have HS := Lib.hid hs
  by_cases h0 : cy.length = 0
  · have HE : Hid (explainsN n cy = false) := Lib.hid (explains_1 h0)
    have f0 : ((cy.length : Int) == 0) = true := by simp [h0]
    clear hs h0
    go_enter Tryz.func21, Tryz.ntmps21
    go_wp2_with (go_at_call 58; refine (impl_IsStuck n _ _ (R.out.below (by with_reducible repeat (first | assumption | exact bw_refl _ | apply bw_alloc | apply bw_drew | apply bw_drewN | refine bw_set _ ?_ (by omega) | refine bw_then ?_ (by assumption))))).mono ?_; rintro e w1 ⟨he, hb1⟩; rw [HS.out] at he; subst he; obtain ⟨hc1, hf1, hz1⟩ := bcell hb1; (try simp only [World.size_alloc, World.size_setCell, World.size_drew, sz_drewN] at hz1); have hb2 := (by first | exact bw_then hb2 hb1 | exact bw_then (bw_drewN _ hb2) hb1 | exact bw_then (bw_alloc _ hb2) hb1 | exact bw_then (bw_drew hb2) hb1 | exact bw_then HB hb1 | exact bw_then (bw_drewN _ HB) hb1 | exact bw_then (bw_alloc _ HB) hb1 | exact bw_then (bw_drew HB) hb1 | exact hb1); obtain ⟨hc2, hf2, hz2⟩ := bcell hb2; (try simp only [World.size_alloc, World.size_setCell, World.size_drew, sz_drewN] at hz2); try (first | obtain ⟨hy1, hy2, hy3, hy4⟩ := lts4 hz2 | obtain ⟨hy1, hy2, hy3⟩ := lts3 hz2 | obtain ⟨hy1, hy2⟩ := lts2 hz2 | have hy1 := lts1 hz2); have hb9 := hb1)
    go_ret
    exact ⟨ret_bool HE.out.symm, (by with_reducible repeat (first | assumption | exact bw_refl _ | apply bw_alloc | apply bw_drew | apply bw_drewN | refine bw_set _ ?_ (by omega) | refine bw_then ?_ (by assumption)))⟩
  have HE : Hid (explainsN n cy = edgesTo (waitsN n) cy cy.length) := Lib.hid (explains_2 hs h0)
  have f0 : ((cy.length : Int) == 0) = false := beq_eq_false_iff_ne.2 (by omega)
  obtain ⟨l, el⟩ : ∃ l, waitsN n = l := ⟨_, rfl⟩
  rw [el] at HE wl
  have EL := Lib.hid el
  clear hs el
  go_enter Tryz.func21, Tryz.ntmps21
  go_wp2_with (first | (go_at_call 58; refine (impl_IsStuck n _ _ (R.out.below (by with_reducible repeat (first | assumption | exact bw_refl _ | apply bw_alloc | apply bw_drew | apply bw_drewN | refine bw_set _ ?_ (by omega) | refine bw_then ?_ (by assumption))))).mono ?_; rintro e w1 ⟨he, hb1⟩; rw [HS.out] at he; subst he; obtain ⟨hc1, hf1, hz1⟩ := bcell hb1; (try simp only [World.size_alloc, World.size_setCell, World.size_drew, sz_drewN] at hz1); have hb2 := (by first | exact bw_then hb2 hb1 | exact bw_then (bw_drewN _ hb2) hb1 | exact bw_then (bw_alloc _ hb2) hb1 | exact bw_then (bw_drew hb2) hb1 | exact bw_then HB hb1 | exact bw_then (bw_drewN _ HB) hb1 | exact bw_then (bw_alloc _ HB) hb1 | exact bw_then (bw_drew HB) hb1 | exact hb1); obtain ⟨hc2, hf2, hz2⟩ := bcell hb2; (try simp only [World.size_alloc, World.size_setCell, World.size_drew, sz_drewN] at hz2); try (first | obtain ⟨hy1, hy2, hy3, hy4⟩ := lts4 hz2 | obtain ⟨hy1, hy2, hy3⟩ := lts3 hz2 | obtain ⟨hy1, hy2⟩ := lts2 hz2 | have hy1 := lts1 hz2); have hb9 := hb1) | (go_at_call 59; refine (impl_WaitsOf n _ _ (R.out.below (by with_reducible repeat (first | assumption | exact bw_refl _ | apply bw_alloc | apply bw_drew | apply bw_drewN | refine bw_set _ ?_ (by omega) | refine bw_then ?_ (by assumption))))).mono ?_; rintro e w1 ⟨hg1, hb1⟩; rw [EL.out] at hg1; obtain ⟨v1, rfl, HO1⟩ := hg1; obtain ⟨A1, d1, rfl, hk1, hC1⟩ := Kd.R_reads HO1; obtain ⟨hc1, hf1, hz1⟩ := bcell hb1; (try simp only [World.size_alloc, World.size_setCell, World.size_drew, sz_drewN] at hz1); have hb2 := (by first | exact bw_then hb2 hb1 | exact bw_then (bw_drewN _ hb2) hb1 | exact bw_then (bw_alloc _ hb2) hb1 | exact bw_then (bw_drew hb2) hb1 | exact bw_then HB hb1 | exact bw_then (bw_drewN _ HB) hb1 | exact bw_then (bw_alloc _ HB) hb1 | exact bw_then (bw_drew HB) hb1 | exact hb1); obtain ⟨hc2, hf2, hz2⟩ := bcell hb2; (try simp only [World.size_alloc, World.size_setCell, World.size_drew, sz_drewN] at hz2); try (first | obtain ⟨hy1, hy2, hy3, hy4⟩ := lts4 hz2 | obtain ⟨hy1, hy2, hy3⟩ := lts3 hz2 | obtain ⟨hy1, hy2⟩ := lts2 hz2 | have hy1 := lts1 hz2); have hb9 := hb1))
  go_loopw [20] (fun i wr => ∃ k : Nat, i = .int .i64 k ∧ k ≤ cy.length ∧ Hid (edgesTo l cy k = true) ∧ Hid (kW.C wr A1 l.length l) ∧ Hid (Kd.C (Kd.int .i64) wr A cy.length cy) ∧ Below (w.alloc (.cells #[.int .i64 n.mesh.g.w, .int .i64 n.mesh.g.h, .slice a1 n.mesh.br.length c1, .slice a2 n.pa.length c2, .slice a3 n.pb.length c3, .slice a4 n.bufs.length c4, .slice a5 n.owners.length c5, .slice a6 n.turns.length c6, .slice a7 n.srcs.length c7, .slice a8 n.arrs.length c8, .int .i64 n.time] 45)).heap.size (w.alloc (.cells #[.int .i64 n.mesh.g.w, .int .i64 n.mesh.g.h, .slice a1 n.mesh.br.length c1, .slice a2 n.pa.length c2, .slice a3 n.pb.length c3, .slice a4 n.bufs.length c4, .slice a5 n.owners.length c5, .slice a6 n.turns.length c6, .slice a7 n.srcs.length c7, .slice a8 n.arrs.length c8, .int .i64 n.time] 45)) wr) (fun i _ => cy.length - (intOf i).toNat)
  case atStart => exact ⟨0, rfl, Nat.zero_le _, Lib.hid rfl, Lib.hid hC1, Lib.hid (by exact Kd.C_below C.out (by with_reducible repeat (first | assumption | exact bw_refl _ | apply bw_alloc | apply bw_drew | apply bw_drewN | refine bw_set _ ?_ (by omega) | refine bw_then ?_ (by assumption)))), (by with_reducible repeat (first | assumption | exact bw_refl _ | apply bw_alloc | apply bw_drew | apply bw_drewN | refine bw_set _ ?_ (by omega) | refine bw_then ?_ (by assumption)))⟩
  case round =>
    clear hC1 hb1 hc1 hf1 hz1 hb2 hc2 hf2 hz2 hb9
    obtain ⟨k, rfl, hk, HT, HW, HC, HB⟩ := hrel
    obtain ⟨hcr, hfr, hzr⟩ := bcell HB
    simp only [World.size_alloc, World.size_setCell, World.size_drew, sz_drewN] at hzr
    have yy1 := lts1 hzr
    by_cases hlt : k < cy.length
    · obtain ⟨b, off, rfl, hb, RA⟩ := rdI_at HC.out k hlt
      have g1 := RA k hlt
      have g2 := RA ((k + 1) % cy.length) (Nat.mod_lt _ (by omega))
      have hm0 : 0 ≤ ((k : Int) + 1) % (cy.length : Int) := Int.emod_nonneg _ (by omega)
      have hm1 : ((k : Int) + 1) % (cy.length : Int) < (cy.length : Int) := Int.emod_lt_of_pos _ (by omega)
      have hm2 : (((k : Int) + 1) % (cy.length : Int)).toNat = (k + 1) % cy.length := by show (((k + 1) % cy.length : Nat) : Int).toNat = _; rfl
      rw [← nextOf_at hlt] at g2
      obtain ⟨x, hx⟩ : ∃ x, ri cy (k : Int) = x := ⟨_, rfl⟩
      obtain ⟨y, hy⟩ : ∃ y, nextOf cy k = y := ⟨_, rfl⟩
      rw [hx] at g1
      rw [hy] at g2
      have HX := Lib.hid hx
      have HY := Lib.hid hy
      clear hx hy RA
      cases he : edgeTo l x y l.length
      · have E := Lib.hid he
        have HM := Lib.hid (edgesTo_miss (l := l) (c := cy) (k := k) (by rw [HX.out, HY.out]; exact he) cy.length hlt)
        clear he
        go_wp2_with (go_at_call 60; refine (slices_ContainsW l x y A1 d1 _ (by exact Kd.C_below HW.out (by with_reducible repeat (first | assumption | exact bw_refl _ | apply bw_alloc | apply bw_drew | apply bw_drewN | refine bw_set _ ?_ (by omega) | refine bw_then ?_ (by assumption)))) wl).mono ?_; rintro e w1 ⟨he, hb1⟩; rw [E.out] at he; subst he; obtain ⟨hc1, hf1, hz1⟩ := bcell hb1; (try simp only [World.size_alloc, World.size_setCell, World.size_drew, sz_drewN] at hz1); have hb2 := (by first | exact bw_then hb2 hb1 | exact bw_then (bw_drewN _ hb2) hb1 | exact bw_then (bw_alloc _ hb2) hb1 | exact bw_then (bw_drew hb2) hb1 | exact bw_then HB hb1 | exact bw_then (bw_drewN _ HB) hb1 | exact bw_then (bw_alloc _ HB) hb1 | exact bw_then (bw_drew HB) hb1 | exact hb1); obtain ⟨hc2, hf2, hz2⟩ := bcell hb2; (try simp only [World.size_alloc, World.size_setCell, World.size_drew, sz_drewN] at hz2); try (first | obtain ⟨hy1, hy2, hy3, hy4⟩ := lts4 hz2 | obtain ⟨hy1, hy2, hy3⟩ := lts3 hz2 | obtain ⟨hy1, hy2⟩ := lts2 hz2 | have hy1 := lts1 hz2); have hb9 := hb1)
        go_ret
        exact ⟨ret_bool (HE.out.trans HM.out).symm, (by with_reducible repeat (first | assumption | exact bw_refl _ | apply bw_alloc | apply bw_drew | apply bw_drewN | refine bw_set _ ?_ (by omega) | refine bw_then ?_ (by assumption)))⟩
      · have E := Lib.hid he
        have HM : Hid (edgesTo l cy (k + 1) = true) := Lib.hid (by rw [edgesTo, HT.out, HX.out, HY.out, he]; rfl)
        clear he
        go_wp2_with (go_at_call 60; refine (slices_ContainsW l x y A1 d1 _ (by exact Kd.C_below HW.out (by with_reducible repeat (first | assumption | exact bw_refl _ | apply bw_alloc | apply bw_drew | apply bw_drewN | refine bw_set _ ?_ (by omega) | refine bw_then ?_ (by assumption)))) wl).mono ?_; rintro e w1 ⟨he, hb1⟩; rw [E.out] at he; subst he; obtain ⟨hc1, hf1, hz1⟩ := bcell hb1; (try simp only [World.size_alloc, World.size_setCell, World.size_drew, sz_drewN] at hz1); have hb2 := (by first | exact bw_then hb2 hb1 | exact bw_then (bw_drewN _ hb2) hb1 | exact bw_then (bw_alloc _ hb2) hb1 | exact bw_then (bw_drew hb2) hb1 | exact bw_then HB hb1 | exact bw_then (bw_drewN _ HB) hb1 | exact bw_then (bw_alloc _ HB) hb1 | exact bw_then (bw_drew HB) hb1 | exact hb1); obtain ⟨hc2, hf2, hz2⟩ := bcell hb2; (try simp only [World.size_alloc, World.size_setCell, World.size_drew, sz_drewN] at hz2); try (first | obtain ⟨hy1, hy2, hy3, hy4⟩ := lts4 hz2 | obtain ⟨hy1, hy2, hy3⟩ := lts3 hz2 | obtain ⟨hy1, hy2⟩ := lts2 hz2 | have hy1 := lts1 hz2); have hb9 := hb1)
        go_roundw
        case rel => exact ⟨k + 1, by go_num, by omega, HM, Lib.hid (by exact Kd.C_below HW.out (by with_reducible repeat (first | assumption | exact bw_refl _ | apply bw_alloc | apply bw_drew | apply bw_drewN | refine bw_set _ ?_ (by omega) | refine bw_then ?_ (by assumption)))), Lib.hid (by exact Kd.C_below HC.out (by with_reducible repeat (first | assumption | exact bw_refl _ | apply bw_alloc | apply bw_drew | apply bw_drewN | refine bw_set _ ?_ (by omega) | refine bw_then ?_ (by assumption)))), (by with_reducible repeat (first | assumption | exact bw_refl _ | apply bw_alloc | apply bw_drew | apply bw_drewN | refine bw_set _ ?_ (by omega) | refine bw_then ?_ (by assumption)))⟩
        case measure => simp [intOf]; omega
    · obtain rfl : k = cy.length := by omega
      go_wp2
      go_ret
      exact ⟨ret_bool (HE.out.trans HT.out).symm, (by with_reducible repeat (first | assumption | exact bw_refl _ | apply bw_alloc | apply bw_drew | apply bw_drewN | refine bw_set _ ?_ (by omega) | refine bw_then ?_ (by assumption)))⟩
set_option maxHeartbeats 8000000 in
set_option maxRecDepth 100000 in
theorem spec_ExplainsStuck (n : Net) (cy : List Int) (q : NA) (A : Option Addr) (c : Nat) (w : World) (hr : NetR 115 w n q) (hc : Kd.C (Kd.int .i64) w A cy.length cy) (hn : cy.length ≤ 1048576) :
    Calls Tryz.prog 19 #[.agg (netCells n q), .slice A cy.length c] w fun e w' => e = .returned (.bool (explainsN n cy)) ∧ Below w.heap.size w w' := by
  have R := Lib.hid hr
  have C := Lib.hid hc
  have wl := WaitsOf_len n
  obtain ⟨a1, a2, a3, a4, a5, a6, a7, a8, c1, c2, c3, c4, c5, c6, c7, c8⟩ := q
  clear hr hc
  dsimp only [netCells]
  obtain ⟨l, el⟩ : ∃ l, waitsN n = l := ⟨_, rfl⟩
  rw [el] at wl
  have EL := Lib.hid el
  clear el
  go_enter Tryz.func19, Tryz.ntmps19
  go_wp2_with (go_at_call 56; refine (spec_WaitsOf n _ _ (R.out.below (by with_reducible repeat (first | assumption | exact bw_refl _ | apply bw_alloc | apply bw_drew | apply bw_drewN | refine bw_set _ ?_ (by omega) | refine bw_then ?_ (by assumption))))).mono ?_; rintro e w1 ⟨hg1, hb1⟩; rw [EL.out] at hg1; obtain ⟨v1, rfl, HO1⟩ := hg1; obtain ⟨A1, d1, rfl, hk1, hC1⟩ := Kd.R_reads HO1; obtain ⟨hc1, hf1, hz1⟩ := bcell hb1; (try simp only [World.size_alloc, World.size_setCell, World.size_drew, sz_drewN] at hz1); have hb2 := (by first | exact bw_then hb2 hb1 | exact bw_then (bw_drewN _ hb2) hb1 | exact bw_then (bw_alloc _ hb2) hb1 | exact bw_then (bw_drew hb2) hb1 | exact bw_then HB hb1 | exact bw_then (bw_drewN _ HB) hb1 | exact bw_then (bw_alloc _ HB) hb1 | exact bw_then (bw_drew HB) hb1 | exact hb1); obtain ⟨hc2, hf2, hz2⟩ := bcell hb2; (try simp only [World.size_alloc, World.size_setCell, World.size_drew, sz_drewN] at hz2); try (first | obtain ⟨hy1, hy2, hy3, hy4⟩ := lts4 hz2 | obtain ⟨hy1, hy2, hy3⟩ := lts3 hz2 | obtain ⟨hy1, hy2⟩ := lts2 hz2 | have hy1 := lts1 hz2); have hb9 := hb1)
  go_loopw [6] (fun i wr => ∃ k : Nat, i = .int .i64 k ∧ k ≤ cy.length ∧ Hid (edgesTo l cy k = true) ∧ Hid (kW.C wr A1 l.length l) ∧ Hid (Kd.C (Kd.int .i64) wr A cy.length cy) ∧ Below (w.alloc (.cells #[.int .i64 n.mesh.g.w, .int .i64 n.mesh.g.h, .slice a1 n.mesh.br.length c1, .slice a2 n.pa.length c2, .slice a3 n.pb.length c3, .slice a4 n.bufs.length c4, .slice a5 n.owners.length c5, .slice a6 n.turns.length c6, .slice a7 n.srcs.length c7, .slice a8 n.arrs.length c8, .int .i64 n.time] 45)).heap.size (w.alloc (.cells #[.int .i64 n.mesh.g.w, .int .i64 n.mesh.g.h, .slice a1 n.mesh.br.length c1, .slice a2 n.pa.length c2, .slice a3 n.pb.length c3, .slice a4 n.bufs.length c4, .slice a5 n.owners.length c5, .slice a6 n.turns.length c6, .slice a7 n.srcs.length c7, .slice a8 n.arrs.length c8, .int .i64 n.time] 45)) wr) (fun i _ => cy.length - (intOf i).toNat)
  case atStart => exact ⟨0, rfl, Nat.zero_le _, Lib.hid rfl, Lib.hid hC1, Lib.hid (by exact Kd.C_below C.out (by with_reducible repeat (first | assumption | exact bw_refl _ | apply bw_alloc | apply bw_drew | apply bw_drewN | refine bw_set _ ?_ (by omega) | refine bw_then ?_ (by assumption)))), (by with_reducible repeat (first | assumption | exact bw_refl _ | apply bw_alloc | apply bw_drew | apply bw_drewN | refine bw_set _ ?_ (by omega) | refine bw_then ?_ (by assumption)))⟩
  case round =>
    clear hC1 hb1 hc1 hf1 hz1 hb2 hc2 hf2 hz2 hb9
    obtain ⟨k, rfl, hk, HT, HW, HC, HB⟩ := hrel
    obtain ⟨wo, ewo⟩ : ∃ x, x = wr := ⟨_, rfl⟩
    subst ewo
    by_cases hlt : k < cy.length
    · obtain ⟨x, hx⟩ : ∃ x, ri cy (k : Int) = x := ⟨_, rfl⟩
      obtain ⟨y, hy⟩ : ∃ y, nextOf cy k = y := ⟨_, rfl⟩
      have HX := Lib.hid hx
      have HY := Lib.hid hy
      clear hx hy
      go_wp2
      go_loopw [7, 8] (fun f i wr => ∃ j : Nat, i = .int .i64 j ∧ j ≤ l.length ∧ f = .bool (edgeTo l x y j) ∧ Hid (kW.C wr A1 l.length l) ∧ Hid (Kd.C (Kd.int .i64) wr A cy.length cy) ∧ Below (w.alloc (.cells #[.int .i64 n.mesh.g.w, .int .i64 n.mesh.g.h, .slice a1 n.mesh.br.length c1, .slice a2 n.pa.length c2, .slice a3 n.pb.length c3, .slice a4 n.bufs.length c4, .slice a5 n.owners.length c5, .slice a6 n.turns.length c6, .slice a7 n.srcs.length c7, .slice a8 n.arrs.length c8, .int .i64 n.time] 45)).heap.size (w.alloc (.cells #[.int .i64 n.mesh.g.w, .int .i64 n.mesh.g.h, .slice a1 n.mesh.br.length c1, .slice a2 n.pa.length c2, .slice a3 n.pb.length c3, .slice a4 n.bufs.length c4, .slice a5 n.owners.length c5, .slice a6 n.turns.length c6, .slice a7 n.srcs.length c7, .slice a8 n.arrs.length c8, .int .i64 n.time] 45)) wr) (fun _ i _ => l.length - (intOf i).toNat)
      case atStart => exact ⟨0, rfl, Nat.zero_le _, rfl, HW, HC, HB⟩
      case round =>
        clear HW HC HB
        obtain ⟨j, rfl, hj, rfl, HW, HC, HB⟩ := hrel
        by_cases hlj : j < l.length
        · obtain ⟨b, off, rfl, hb, hx1, hx2⟩ := rdW_at HW.out j hlj
          obtain ⟨u, hu⟩ : ∃ u, (rw_ l (j : Int)).a = u := ⟨_, rfl⟩
          obtain ⟨v, hv⟩ : ∃ v, (rw_ l (j : Int)).b = v := ⟨_, rfl⟩
          rw [hu] at hx1
          rw [hv] at hx2
          have HEd : Hid (isEdge l x y j = (u == x && v == y)) := Lib.hid (by rw [isEdge, hu, hv])
          clear hu hv
          obtain ⟨b5, o5, rfl, hb5, RA⟩ := rdI_at HC.out k hlt
          have g1 := RA k hlt
          have g2 := RA ((k + 1) % cy.length) (Nat.mod_lt _ (by omega))
          have hm0 : 0 ≤ ((k : Int) + 1) % (cy.length : Int) := Int.emod_nonneg _ (by omega)
          have hm1 : ((k : Int) + 1) % (cy.length : Int) < (cy.length : Int) := Int.emod_lt_of_pos _ (by omega)
          have hm2 : (((k : Int) + 1) % (cy.length : Int)).toNat = (k + 1) % cy.length := by show (((k + 1) % cy.length : Nat) : Int).toNat = _; rfl
          rw [← nextOf_at hlt, HY.out] at g2
          rw [HX.out] at g1
          clear RA
          cases he : edgeTo l x y j
          · by_cases e1 : u = x
            · subst e1
              by_cases e2 : v = y
              · subst e2
                have E : Hid (edgeTo l u v (j + 1) = true) := Lib.hid (by simp [edgeTo, HEd.out])
                clear HEd he
                go_wp2
                refine wp_region_far (wr) (by kernel_rfl) (by kernel_rfl) (by with_reducible repeat (first | assumption | exact bw_refl _ | apply bw_alloc | apply bw_drew | apply bw_drewN | refine bw_set _ ?_ (by omega) | refine bw_then ?_ (by assumption))) ?_
                have hqc := far_cell (wr)
                have hqf := far_frozen (wr)
                repeat (first | go_big_quiet_step (fail) | quiet_step (fail))
                refine wpQuiet_nil ?_
                intro wq hbq
                clear hqc hqf
                obtain ⟨hcq, hfq, hzq⟩ := bcell hbq
                try simp only [World.size_alloc, World.size_setCell, World.size_drew, sz_drewN] at hzq
                go_wp2
                go_roundw
                case rel => exact ⟨j + 1, by go_num, by omega, by rw [E.out], Lib.hid (by exact Kd.C_below HW.out (by with_reducible repeat (first | assumption | exact bw_refl _ | apply bw_alloc | apply bw_drew | apply bw_drewN | refine bw_set _ ?_ (by omega) | refine bw_then ?_ (by assumption)))), Lib.hid (by exact Kd.C_below HC.out (by with_reducible repeat (first | assumption | exact bw_refl _ | apply bw_alloc | apply bw_drew | apply bw_drewN | refine bw_set _ ?_ (by omega) | refine bw_then ?_ (by assumption)))), (by with_reducible repeat (first | assumption | exact bw_refl _ | apply bw_alloc | apply bw_drew | apply bw_drewN | refine bw_set _ ?_ (by omega) | refine bw_then ?_ (by assumption)))⟩
                case measure => simp [intOf]; omega
              · have E : Hid (edgeTo l u y (j + 1) = false) := Lib.hid (by simp [edgeTo, he, HEd.out, e2])
                clear HEd he
                go_wp2
                refine wp_region_far (wr) (by kernel_rfl) (by kernel_rfl) (by with_reducible repeat (first | assumption | exact bw_refl _ | apply bw_alloc | apply bw_drew | apply bw_drewN | refine bw_set _ ?_ (by omega) | refine bw_then ?_ (by assumption))) ?_
                have hqc := far_cell (wr)
                have hqf := far_frozen (wr)
                repeat (first | go_big_quiet_step (fail) | quiet_step (fail))
                refine wpQuiet_nil ?_
                intro wq hbq
                clear hqc hqf
                obtain ⟨hcq, hfq, hzq⟩ := bcell hbq
                try simp only [World.size_alloc, World.size_setCell, World.size_drew, sz_drewN] at hzq
                go_wp2
                go_roundw
                case rel => exact ⟨j + 1, by go_num, by omega, by rw [E.out], Lib.hid (by exact Kd.C_below HW.out (by with_reducible repeat (first | assumption | exact bw_refl _ | apply bw_alloc | apply bw_drew | apply bw_drewN | refine bw_set _ ?_ (by omega) | refine bw_then ?_ (by assumption)))), Lib.hid (by exact Kd.C_below HC.out (by with_reducible repeat (first | assumption | exact bw_refl _ | apply bw_alloc | apply bw_drew | apply bw_drewN | refine bw_set _ ?_ (by omega) | refine bw_then ?_ (by assumption)))), (by with_reducible repeat (first | assumption | exact bw_refl _ | apply bw_alloc | apply bw_drew | apply bw_drewN | refine bw_set _ ?_ (by omega) | refine bw_then ?_ (by assumption)))⟩
                case measure => simp [intOf]; omega
            · have E : Hid (edgeTo l x y (j + 1) = false) := Lib.hid (by simp [edgeTo, he, HEd.out, e1])
              clear HEd he
              go_wp2
              refine wp_region_far (wr) (by kernel_rfl) (by kernel_rfl) (by with_reducible repeat (first | assumption | exact bw_refl _ | apply bw_alloc | apply bw_drew | apply bw_drewN | refine bw_set _ ?_ (by omega) | refine bw_then ?_ (by assumption))) ?_
              have hqc := far_cell (wr)
              have hqf := far_frozen (wr)
              repeat (first | go_big_quiet_step (fail) | quiet_step (fail))
              refine wpQuiet_nil ?_
              intro wq hbq
              clear hqc hqf
              obtain ⟨hcq, hfq, hzq⟩ := bcell hbq
              try simp only [World.size_alloc, World.size_setCell, World.size_drew, sz_drewN] at hzq
              go_wp2
              go_roundw
              case rel => exact ⟨j + 1, by go_num, by omega, by rw [E.out], Lib.hid (by exact Kd.C_below HW.out (by with_reducible repeat (first | assumption | exact bw_refl _ | apply bw_alloc | apply bw_drew | apply bw_drewN | refine bw_set _ ?_ (by omega) | refine bw_then ?_ (by assumption)))), Lib.hid (by exact Kd.C_below HC.out (by with_reducible repeat (first | assumption | exact bw_refl _ | apply bw_alloc | apply bw_drew | apply bw_drewN | refine bw_set _ ?_ (by omega) | refine bw_then ?_ (by assumption)))), (by with_reducible repeat (first | assumption | exact bw_refl _ | apply bw_alloc | apply bw_drew | apply bw_drewN | refine bw_set _ ?_ (by omega) | refine bw_then ?_ (by assumption)))⟩
              case measure => simp [intOf]; omega
          · have E : Hid (edgeTo l x y (j + 1) = true) := Lib.hid (by simp [edgeTo, he])
            clear HEd he
            go_wp2
            refine wp_region_far (wr) (by kernel_rfl) (by kernel_rfl) (by with_reducible repeat (first | assumption | exact bw_refl _ | apply bw_alloc | apply bw_drew | apply bw_drewN | refine bw_set _ ?_ (by omega) | refine bw_then ?_ (by assumption))) ?_
            have hqc := far_cell (wr)
            have hqf := far_frozen (wr)
            repeat (first | go_big_quiet_step (fail) | quiet_step (fail))
            refine wpQuiet_nil ?_
            intro wq hbq
            clear hqc hqf
            obtain ⟨hcq, hfq, hzq⟩ := bcell hbq
            try simp only [World.size_alloc, World.size_setCell, World.size_drew, sz_drewN] at hzq
            go_wp2
            go_roundw
            case rel => exact ⟨j + 1, by go_num, by omega, by rw [E.out], Lib.hid (by exact Kd.C_below HW.out (by with_reducible repeat (first | assumption | exact bw_refl _ | apply bw_alloc | apply bw_drew | apply bw_drewN | refine bw_set _ ?_ (by omega) | refine bw_then ?_ (by assumption)))), Lib.hid (by exact Kd.C_below HC.out (by with_reducible repeat (first | assumption | exact bw_refl _ | apply bw_alloc | apply bw_drew | apply bw_drewN | refine bw_set _ ?_ (by omega) | refine bw_then ?_ (by assumption)))), (by with_reducible repeat (first | assumption | exact bw_refl _ | apply bw_alloc | apply bw_drew | apply bw_drewN | refine bw_set _ ?_ (by omega) | refine bw_then ?_ (by assumption)))⟩
            case measure => simp [intOf]; omega
        · obtain rfl : j = l.length := by omega
          cases he : edgeTo l x y l.length
          · have HM := Lib.hid (edgesTo_miss (l := l) (c := cy) (k := k) (by rw [HX.out, HY.out]; exact he) cy.length hlt)
            have HE := Lib.hid (explains_3 (n := n) (c := cy) (by rw [EL.out]; exact HM.out))
            clear he
            go_wp2
            go_ret
            exact ⟨ret_bool HE.out.symm, (by with_reducible repeat (first | assumption | exact bw_refl _ | apply bw_alloc | apply bw_drew | apply bw_drewN | refine bw_set _ ?_ (by omega) | refine bw_then ?_ (by assumption)))⟩
          · have HM : Hid (edgesTo l cy (k + 1) = true) := Lib.hid (by rw [edgesTo, HT.out, HX.out, HY.out, he]; rfl)
            clear he
            go_wp2
            go_roundw
            case rel => exact ⟨k + 1, by go_num, by omega, HM, Lib.hid (by exact Kd.C_below HW.out (by with_reducible repeat (first | assumption | exact bw_refl _ | apply bw_alloc | apply bw_drew | apply bw_drewN | refine bw_set _ ?_ (by omega) | refine bw_then ?_ (by assumption)))), Lib.hid (by exact Kd.C_below HC.out (by with_reducible repeat (first | assumption | exact bw_refl _ | apply bw_alloc | apply bw_drew | apply bw_drewN | refine bw_set _ ?_ (by omega) | refine bw_then ?_ (by assumption)))), (by with_reducible repeat (first | assumption | exact bw_refl _ | apply bw_alloc | apply bw_drew | apply bw_drewN | refine bw_set _ ?_ (by omega) | refine bw_then ?_ (by assumption)))⟩
            case measure => simp [intOf]; omega
    · obtain rfl : k = cy.length := by omega
      obtain ⟨hcr, hfr, hzr⟩ := bcell HB
      simp only [World.size_alloc, World.size_setCell, World.size_drew, sz_drewN] at hzr
      have yy1 := lts1 hzr
      by_cases h0 : cy.length = 0
      · have HE : Hid (explainsN n cy = false) := Lib.hid (explains_1 h0)
        have f0 : ¬ (0 : Int) < (cy.length : Int) := by omega
        clear h0
        go_wp2
        go_ret
        exact ⟨ret_bool HE.out.symm, (by with_reducible repeat (first | assumption | exact bw_refl _ | apply bw_alloc | apply bw_drew | apply bw_drewN | refine bw_set _ ?_ (by omega) | refine bw_then ?_ (by assumption)))⟩
      · have f0 : (0 : Int) < (cy.length : Int) := by omega
        cases hs : isStuckN n
        · have HE : Hid (explainsN n cy = false) := Lib.hid (explains_0 hs)
          have HS := Lib.hid hs
          clear hs
          go_wp2_with (go_at_call 57; refine (spec_IsStuck n _ _ (R.out.below (by with_reducible repeat (first | assumption | exact bw_refl _ | apply bw_alloc | apply bw_drew | apply bw_drewN | refine bw_set _ ?_ (by omega) | refine bw_then ?_ (by assumption))))).mono ?_; rintro e w1 ⟨he, hb1⟩; rw [HS.out] at he; subst he; obtain ⟨hc1, hf1, hz1⟩ := bcell hb1; (try simp only [World.size_alloc, World.size_setCell, World.size_drew, sz_drewN] at hz1); have hb2 := (by first | exact bw_then hb2 hb1 | exact bw_then (bw_drewN _ hb2) hb1 | exact bw_then (bw_alloc _ hb2) hb1 | exact bw_then (bw_drew hb2) hb1 | exact bw_then HB hb1 | exact bw_then (bw_drewN _ HB) hb1 | exact bw_then (bw_alloc _ HB) hb1 | exact bw_then (bw_drew HB) hb1 | exact hb1); obtain ⟨hc2, hf2, hz2⟩ := bcell hb2; (try simp only [World.size_alloc, World.size_setCell, World.size_drew, sz_drewN] at hz2); try (first | obtain ⟨hy1, hy2, hy3, hy4⟩ := lts4 hz2 | obtain ⟨hy1, hy2, hy3⟩ := lts3 hz2 | obtain ⟨hy1, hy2⟩ := lts2 hz2 | have hy1 := lts1 hz2); have hb9 := hb1)
          go_ret
          exact ⟨ret_bool HE.out.symm, (by with_reducible repeat (first | assumption | exact bw_refl _ | apply bw_alloc | apply bw_drew | apply bw_drewN | refine bw_set _ ?_ (by omega) | refine bw_then ?_ (by assumption)))⟩
        · have HE : Hid (explainsN n cy = true) := Lib.hid (by rw [explains_2 hs h0, EL.out, HT.out])
          have HS := Lib.hid hs
          clear hs
          go_wp2_with (go_at_call 57; refine (spec_IsStuck n _ _ (R.out.below (by with_reducible repeat (first | assumption | exact bw_refl _ | apply bw_alloc | apply bw_drew | apply bw_drewN | refine bw_set _ ?_ (by omega) | refine bw_then ?_ (by assumption))))).mono ?_; rintro e w1 ⟨he, hb1⟩; rw [HS.out] at he; subst he; obtain ⟨hc1, hf1, hz1⟩ := bcell hb1; (try simp only [World.size_alloc, World.size_setCell, World.size_drew, sz_drewN] at hz1); have hb2 := (by first | exact bw_then hb2 hb1 | exact bw_then (bw_drewN _ hb2) hb1 | exact bw_then (bw_alloc _ hb2) hb1 | exact bw_then (bw_drew hb2) hb1 | exact bw_then HB hb1 | exact bw_then (bw_drewN _ HB) hb1 | exact bw_then (bw_alloc _ HB) hb1 | exact bw_then (bw_drew HB) hb1 | exact hb1); obtain ⟨hc2, hf2, hz2⟩ := bcell hb2; (try simp only [World.size_alloc, World.size_setCell, World.size_drew, sz_drewN] at hz2); try (first | obtain ⟨hy1, hy2, hy3, hy4⟩ := lts4 hz2 | obtain ⟨hy1, hy2, hy3⟩ := lts3 hz2 | obtain ⟨hy1, hy2⟩ := lts2 hz2 | have hy1 := lts1 hz2); have hb9 := hb1)
          go_ret
          exact ⟨ret_bool HE.out.symm, (by with_reducible repeat (first | assumption | exact bw_refl _ | apply bw_alloc | apply bw_drew | apply bw_drewN | refine bw_set _ ?_ (by omega) | refine bw_then ?_ (by assumption)))⟩
end Go.Proofs.YtopoemnkeodkgaaGreat
