/- Is a pattern a permutation? What the program and the reference return; for all numbers. -/
import Derived.Test.YtglajejmnhmcfaaPkt
import Derived.Test.YtglajejmnhmcfaaMesh
set_option linter.unusedVariables false
set_option linter.unusedSimpArgs false
namespace Go.Proofs.Ytglajejmnhmcfaa
open Go.RowKit Go.Proofs.YtglajejmnhmcfaaW.PrintWords
open NoC

def tgTo (g : Grid) (p : Int) (k : Nat) : List Int := (List.range k).map (fun (j : Nat) => patternTarget g p (j : Int))
theorem tgTo_succ (g : Grid) (p : Int) (k : Nat) : tgTo g p (k + 1) = tgTo g p k ++ [patternTarget g p k] := by simp [tgTo, List.range_succ]
theorem tgTo_len (g : Grid) (p : Int) (k : Nat) : (tgTo g p k).length = k := by simp [tgTo]
def stepOk (g : Grid) (p : Int) (k : Nat) : Bool := decide (0 ≤ patternTarget g p k) && !(has (tgTo g p k) (patternTarget g p k))
def isPerm (g : Grid) (p : Int) : Bool := allI (nodeCount g).toNat (stepOk g p) && gridOk g
theorem isPerm_no {g : Grid} {p : Int} {N : Nat} (hN : (nodeCount g).toNat = N) (k : Nat) (hk : k < N) (h : stepOk g p k = false) : isPerm g p = false := by
  unfold isPerm
  rw [hN, allI_false k hk h, Bool.false_and]
theorem isPerm_yes {g : Grid} {p : Int} {N : Nat} (hN : (nodeCount g).toNat = N) (h : ∀ k, k < N → stepOk g p k = true) : isPerm g p = gridOk g := by
  unfold isPerm
  rw [hN, allI_true h, Bool.true_and]

set_option maxHeartbeats 2000000 in
theorem spec_IsPermutation (g : Grid) (p : Int) (w : World) : Calls Try.prog 9 #[.agg #[.int .i64 g.w, .int .i64 g.h], .int .i64 p] w fun e w' => e = .returned (.bool (isPerm g p)) ∧ Below w.heap.size w w' := by
  obtain ⟨n0, n1⟩ := count_le g
  obtain ⟨N, hN⟩ : ∃ N : Nat, nodeCount g = (N : Int) := ⟨(nodeCount g).toNat, by omega⟩
  have hN16 : N ≤ 16 := by omega
  have hpp : (nodeCount g).toNat = N := by omega
  have HNN := Lib.hid hpp
  have HC := Lib.hid hN
  clear hN n0 n1 hpp
  go_enter Try.func9, Try.ntmps9
  go_wp2
  go_loopw [5, 6] (fun v i wr => ∃ k : Nat, i = .int .i64 k ∧ k ≤ N ∧ Hid (∀ j, j < k → stepOk g p j = true) ∧ Kd.R (Kd.int .i64) 3 wr (w.alloc (.cells #[.int .i64 g.w, .int .i64 g.h] 25)).heap.size (fun _ => True) v (tgTo g p k) ∧ Below (w.alloc (.cells #[.int .i64 g.w, .int .i64 g.h] 25)).heap.size (w.alloc (.cells #[.int .i64 g.w, .int .i64 g.h] 25)) wr) (fun _ i _ => N - (intOf i).toNat)
  case atStart => exact ⟨0, rfl, Nat.zero_le _, Lib.hid fun j h => absurd h (Nat.not_lt_zero _), R_empty' (W0 := (w.alloc (.cells #[.int .i64 g.w, .int .i64 g.h] 25))) (W := (w.alloc (.cells #[.int .i64 g.w, .int .i64 g.h] 25))) _ _ (Nat.le_refl _) _ (by simp only [World.size_alloc, World.size_setCell, World.size_drew, sz_drewN]), (by with_reducible repeat (first | assumption | exact bw_refl _ | apply bw_alloc | apply bw_drew | apply bw_drewN | refine bw_set _ ?_ (by omega) | refine bw_then ?_ (by assumption)))⟩
  case round =>
    obtain ⟨k, rfl, hk, HA, HO, HB⟩ := hrel
    obtain ⟨Ao, co, rfl⟩ := Kd.R_slice HO
    have hlen := Nat.le_of_eq (tgTo_len g p k)
    have hrow := (Kd.R_row HO).2.2
    obtain ⟨hc0, hf0, hz0⟩ := bcell HB
    simp only [World.size_alloc, World.size_setCell, World.size_drew, sz_drewN] at hz0
    have yy1 := lts1 hz0
    by_cases hlt : k < N
    · have i0 : (k : Int) < (N : Int) := by omega
      obtain ⟨t0, t1⟩ := target_range g p k
      obtain ⟨t, ht⟩ : ∃ t, patternTarget g p k = t := ⟨_, rfl⟩
      rw [ht] at t0 t1
      have HT := Lib.hid ht
      by_cases e1 : t < 0
      · have hs : stepOk g p k = false := by rw [stepOk, ht, decide_eq_false (by omega), Bool.false_and]
        have HS := Lib.hid hs
        clear hs ht
        go_wp2_with (first | (go_at_call 36; refine (spec_NodeCount g _).mono ?_; rintro e w1 ⟨he, hb1⟩; rw [HC.out] at he; subst he; obtain ⟨hc1, hf1, hz1⟩ := bcell hb1; (try simp only [World.size_alloc, World.size_setCell, World.size_drew, sz_drewN] at hz1); have hb2 := (by first | exact bw_then hb2 hb1 | exact bw_then (bw_drewN _ hb2) hb1 | exact bw_then (bw_alloc _ hb2) hb1 | exact bw_then (bw_drew hb2) hb1 | exact bw_then HB hb1 | exact bw_then (bw_drewN _ HB) hb1 | exact bw_then (bw_alloc _ HB) hb1 | exact bw_then (bw_drew HB) hb1 | exact hb1); obtain ⟨hc2, hf2, hz2⟩ := bcell hb2; (try simp only [World.size_alloc, World.size_setCell, World.size_drew, sz_drewN] at hz2); try (first | obtain ⟨hy1, hy2, hy3, hy4⟩ := lts4 hz2 | obtain ⟨hy1, hy2, hy3⟩ := lts3 hz2 | obtain ⟨hy1, hy2⟩ := lts2 hz2 | have hy1 := lts1 hz2); have hb9 := hb1) | (go_at_call 37; refine (spec_PatternTarget g p k _).mono ?_; rintro e w1 ⟨he, hb1⟩; rw [HT.out] at he; subst he; obtain ⟨hc1, hf1, hz1⟩ := bcell hb1; (try simp only [World.size_alloc, World.size_setCell, World.size_drew, sz_drewN] at hz1); have hb2 := (by first | exact bw_then hb2 hb1 | exact bw_then (bw_drewN _ hb2) hb1 | exact bw_then (bw_alloc _ hb2) hb1 | exact bw_then (bw_drew hb2) hb1 | exact bw_then HB hb1 | exact bw_then (bw_drewN _ HB) hb1 | exact bw_then (bw_alloc _ HB) hb1 | exact bw_then (bw_drew HB) hb1 | exact hb1); obtain ⟨hc2, hf2, hz2⟩ := bcell hb2; (try simp only [World.size_alloc, World.size_setCell, World.size_drew, sz_drewN] at hz2); try (first | obtain ⟨hy1, hy2, hy3, hy4⟩ := lts4 hz2 | obtain ⟨hy1, hy2, hy3⟩ := lts3 hz2 | obtain ⟨hy1, hy2⟩ := lts2 hz2 | have hy1 := lts1 hz2); have hb9 := hb1))
        go_ret
        exact ⟨ret_bool (isPerm_no HNN.out k hlt HS.out).symm, (by with_reducible repeat (first | assumption | exact bw_refl _ | apply bw_alloc | apply bw_drew | apply bw_drewN | refine bw_set _ ?_ (by omega) | refine bw_then ?_ (by assumption)))⟩
      · cases hh : has (tgTo g p k) t
        · have hs : stepOk g p k = true := by rw [stepOk, ht, hh, decide_eq_true (by omega)]; rfl
          have HS := Lib.hid hs
          have HTS := Lib.hid (show tgTo g p (k + 1) = tgTo g p k ++ [t] by rw [tgTo_succ, ht])
          have HHH := Lib.hid hh
          clear hs ht hh
          go_wp2_with (first | (go_at_call 36; refine (spec_NodeCount g _).mono ?_; rintro e w1 ⟨he, hb1⟩; rw [HC.out] at he; subst he; obtain ⟨hc1, hf1, hz1⟩ := bcell hb1; (try simp only [World.size_alloc, World.size_setCell, World.size_drew, sz_drewN] at hz1); have hb2 := (by first | exact bw_then hb2 hb1 | exact bw_then (bw_drewN _ hb2) hb1 | exact bw_then (bw_alloc _ hb2) hb1 | exact bw_then (bw_drew hb2) hb1 | exact bw_then HB hb1 | exact bw_then (bw_drewN _ HB) hb1 | exact bw_then (bw_alloc _ HB) hb1 | exact bw_then (bw_drew HB) hb1 | exact hb1); obtain ⟨hc2, hf2, hz2⟩ := bcell hb2; (try simp only [World.size_alloc, World.size_setCell, World.size_drew, sz_drewN] at hz2); try (first | obtain ⟨hy1, hy2, hy3, hy4⟩ := lts4 hz2 | obtain ⟨hy1, hy2, hy3⟩ := lts3 hz2 | obtain ⟨hy1, hy2⟩ := lts2 hz2 | have hy1 := lts1 hz2); have hb9 := hb1) | (go_at_call 37; refine (spec_PatternTarget g p k _).mono ?_; rintro e w1 ⟨he, hb1⟩; rw [HT.out] at he; subst he; obtain ⟨hc1, hf1, hz1⟩ := bcell hb1; (try simp only [World.size_alloc, World.size_setCell, World.size_drew, sz_drewN] at hz1); have hb2 := (by first | exact bw_then hb2 hb1 | exact bw_then (bw_drewN _ hb2) hb1 | exact bw_then (bw_alloc _ hb2) hb1 | exact bw_then (bw_drew hb2) hb1 | exact bw_then HB hb1 | exact bw_then (bw_drewN _ HB) hb1 | exact bw_then (bw_alloc _ HB) hb1 | exact bw_then (bw_drew HB) hb1 | exact hb1); obtain ⟨hc2, hf2, hz2⟩ := bcell hb2; (try simp only [World.size_alloc, World.size_setCell, World.size_drew, sz_drewN] at hz2); try (first | obtain ⟨hy1, hy2, hy3, hy4⟩ := lts4 hz2 | obtain ⟨hy1, hy2, hy3⟩ := lts3 hz2 | obtain ⟨hy1, hy2⟩ := lts2 hz2 | have hy1 := lts1 hz2); have hb9 := hb1) | (go_at_call 38; refine (spec_l03Find (tgTo g p k) t _ _ _ (by exact Kd.C_below hrow (by with_reducible repeat (first | assumption | exact bw_refl _ | apply bw_alloc | apply bw_drew | apply bw_drewN | refine bw_set _ ?_ (by omega) | refine bw_then ?_ (by assumption)))) (by omega)).mono ?_; rintro e w' ⟨he, rfl⟩; rw [HHH.out] at he; subst he) | (at_builtin; refine app_int (W0 := (w.alloc (.cells #[.int .i64 g.w, .int .i64 g.h] 25))) rfl (.tmp 26) (.tmp 28) 36 3 rfl Try.underlying36 info_int _ (tgTo g p k) _ rfl rfl (by exact Kd.R_below HO (by with_reducible repeat (first | assumption | exact bw_refl _ | apply bw_alloc | apply bw_drew | apply bw_drewN | refine bw_set _ ?_ (by omega) | refine bw_then ?_ (by assumption)))) (by with_reducible repeat (first | assumption | exact bw_refl _ | apply bw_alloc | apply bw_drew | apply bw_drewN | refine bw_set _ ?_ (by omega) | refine bw_then ?_ (by assumption))) (by omega) ?_; intro v1 w1 HO1 HB1; obtain ⟨hc1, hf1, hz1⟩ := bcell HB1; (try simp only [World.size_alloc, World.size_setCell, World.size_drew, sz_drewN] at hz1); have hb2 := HB1; have hb9 := HB1))
          go_roundw
          case rel => exact ⟨k + 1, by go_num, by omega, Lib.hid (upto HA.out HS.out), by rw [HTS.out]; exact HO1, HB1⟩
          case measure => simp [intOf]; omega
        · have hs : stepOk g p k = false := by rw [stepOk, ht, hh, Bool.not_true, Bool.and_false]
          have HS := Lib.hid hs
          have HHH := Lib.hid hh
          clear hs ht hh
          go_wp2_with (first | (go_at_call 36; refine (spec_NodeCount g _).mono ?_; rintro e w1 ⟨he, hb1⟩; rw [HC.out] at he; subst he; obtain ⟨hc1, hf1, hz1⟩ := bcell hb1; (try simp only [World.size_alloc, World.size_setCell, World.size_drew, sz_drewN] at hz1); have hb2 := (by first | exact bw_then hb2 hb1 | exact bw_then (bw_drewN _ hb2) hb1 | exact bw_then (bw_alloc _ hb2) hb1 | exact bw_then (bw_drew hb2) hb1 | exact bw_then HB hb1 | exact bw_then (bw_drewN _ HB) hb1 | exact bw_then (bw_alloc _ HB) hb1 | exact bw_then (bw_drew HB) hb1 | exact hb1); obtain ⟨hc2, hf2, hz2⟩ := bcell hb2; (try simp only [World.size_alloc, World.size_setCell, World.size_drew, sz_drewN] at hz2); try (first | obtain ⟨hy1, hy2, hy3, hy4⟩ := lts4 hz2 | obtain ⟨hy1, hy2, hy3⟩ := lts3 hz2 | obtain ⟨hy1, hy2⟩ := lts2 hz2 | have hy1 := lts1 hz2); have hb9 := hb1) | (go_at_call 37; refine (spec_PatternTarget g p k _).mono ?_; rintro e w1 ⟨he, hb1⟩; rw [HT.out] at he; subst he; obtain ⟨hc1, hf1, hz1⟩ := bcell hb1; (try simp only [World.size_alloc, World.size_setCell, World.size_drew, sz_drewN] at hz1); have hb2 := (by first | exact bw_then hb2 hb1 | exact bw_then (bw_drewN _ hb2) hb1 | exact bw_then (bw_alloc _ hb2) hb1 | exact bw_then (bw_drew hb2) hb1 | exact bw_then HB hb1 | exact bw_then (bw_drewN _ HB) hb1 | exact bw_then (bw_alloc _ HB) hb1 | exact bw_then (bw_drew HB) hb1 | exact hb1); obtain ⟨hc2, hf2, hz2⟩ := bcell hb2; (try simp only [World.size_alloc, World.size_setCell, World.size_drew, sz_drewN] at hz2); try (first | obtain ⟨hy1, hy2, hy3, hy4⟩ := lts4 hz2 | obtain ⟨hy1, hy2, hy3⟩ := lts3 hz2 | obtain ⟨hy1, hy2⟩ := lts2 hz2 | have hy1 := lts1 hz2); have hb9 := hb1) | (go_at_call 38; refine (spec_l03Find (tgTo g p k) t _ _ _ (by exact Kd.C_below hrow (by with_reducible repeat (first | assumption | exact bw_refl _ | apply bw_alloc | apply bw_drew | apply bw_drewN | refine bw_set _ ?_ (by omega) | refine bw_then ?_ (by assumption)))) (by omega)).mono ?_; rintro e w' ⟨he, rfl⟩; rw [HHH.out] at he; subst he))
          go_ret
          exact ⟨ret_bool (isPerm_no HNN.out k hlt HS.out).symm, (by with_reducible repeat (first | assumption | exact bw_refl _ | apply bw_alloc | apply bw_drew | apply bw_drewN | refine bw_set _ ?_ (by omega) | refine bw_then ?_ (by assumption)))⟩
    · have i0 : ¬ (k : Int) < (N : Int) := by omega
      go_wp2_with (first | (go_at_call 36; refine (spec_NodeCount g _).mono ?_; rintro e w1 ⟨he, hb1⟩; rw [HC.out] at he; subst he; obtain ⟨hc1, hf1, hz1⟩ := bcell hb1; (try simp only [World.size_alloc, World.size_setCell, World.size_drew, sz_drewN] at hz1); have hb2 := (by first | exact bw_then hb2 hb1 | exact bw_then (bw_drewN _ hb2) hb1 | exact bw_then (bw_alloc _ hb2) hb1 | exact bw_then (bw_drew hb2) hb1 | exact bw_then HB hb1 | exact bw_then (bw_drewN _ HB) hb1 | exact bw_then (bw_alloc _ HB) hb1 | exact bw_then (bw_drew HB) hb1 | exact hb1); obtain ⟨hc2, hf2, hz2⟩ := bcell hb2; (try simp only [World.size_alloc, World.size_setCell, World.size_drew, sz_drewN] at hz2); try (first | obtain ⟨hy1, hy2, hy3, hy4⟩ := lts4 hz2 | obtain ⟨hy1, hy2, hy3⟩ := lts3 hz2 | obtain ⟨hy1, hy2⟩ := lts2 hz2 | have hy1 := lts1 hz2); have hb9 := hb1) | (go_at_call 39; refine (spec_GridOk g _).mono ?_; rintro e w1 ⟨rfl, hb1⟩; obtain ⟨hc1, hf1, hz1⟩ := bcell hb1; (try simp only [World.size_alloc, World.size_setCell, World.size_drew, sz_drewN] at hz1); have hb2 := (by first | exact bw_then hb2 hb1 | exact bw_then (bw_drewN _ hb2) hb1 | exact bw_then (bw_alloc _ hb2) hb1 | exact bw_then (bw_drew hb2) hb1 | exact bw_then HB hb1 | exact bw_then (bw_drewN _ HB) hb1 | exact bw_then (bw_alloc _ HB) hb1 | exact bw_then (bw_drew HB) hb1 | exact hb1); obtain ⟨hc2, hf2, hz2⟩ := bcell hb2; (try simp only [World.size_alloc, World.size_setCell, World.size_drew, sz_drewN] at hz2); try (first | obtain ⟨hy1, hy2, hy3, hy4⟩ := lts4 hz2 | obtain ⟨hy1, hy2, hy3⟩ := lts3 hz2 | obtain ⟨hy1, hy2⟩ := lts2 hz2 | have hy1 := lts1 hz2); have hb9 := hb1))
      go_ret
      exact ⟨ret_bool (isPerm_yes HNN.out (fun j hj => HA.out j (by omega))).symm, (by with_reducible repeat (first | assumption | exact bw_refl _ | apply bw_alloc | apply bw_drew | apply bw_drewN | refine bw_set _ ?_ (by omega) | refine bw_then ?_ (by assumption)))⟩

set_option maxHeartbeats 2000000 in
theorem impl_IsPermutation (g : Grid) (p : Int) (w : World) : Calls Try.prog 11 #[.agg #[.int .i64 g.w, .int .i64 g.h], .int .i64 p] w fun e w' => e = .returned (.bool (isPerm g p)) ∧ Below w.heap.size w w' := by
  obtain ⟨n0, n1⟩ := count_le g
  obtain ⟨N, hN⟩ : ∃ N : Nat, nodeCount g = (N : Int) := ⟨(nodeCount g).toNat, by omega⟩
  have hN16 : N ≤ 16 := by omega
  have hpp : (nodeCount g).toNat = N := by omega
  have HNN := Lib.hid hpp
  have HC := Lib.hid hN
  clear hN n0 n1 hpp
  go_enter Try.func11, Try.ntmps11
  go_wp2_with (go_at_call 40; refine (impl_NodeCount g _).mono ?_; rintro e w1 ⟨he, hb1⟩; rw [HC.out] at he; subst he; obtain ⟨hc1, hf1, hz1⟩ := bcell hb1; (try simp only [World.size_alloc, World.size_setCell, World.size_drew, sz_drewN] at hz1); have hb2 := (by first | exact bw_then hb2 hb1 | exact bw_then (bw_drewN _ hb2) hb1 | exact bw_then (bw_alloc _ hb2) hb1 | exact bw_then (bw_drew hb2) hb1 | exact bw_then HB hb1 | exact bw_then (bw_drewN _ HB) hb1 | exact bw_then (bw_alloc _ HB) hb1 | exact bw_then (bw_drew HB) hb1 | exact hb1); obtain ⟨hc2, hf2, hz2⟩ := bcell hb2; (try simp only [World.size_alloc, World.size_setCell, World.size_drew, sz_drewN] at hz2); try (first | obtain ⟨hy1, hy2, hy3, hy4⟩ := lts4 hz2 | obtain ⟨hy1, hy2, hy3⟩ := lts3 hz2 | obtain ⟨hy1, hy2⟩ := lts2 hz2 | have hy1 := lts1 hz2); have hb9 := hb1)
  have HM : ∀ j : Nat, j < 16 → w1.cell? ⟨w.heap.size + 1, j, none⟩ = some (.bool (has (tgTo g p 0) (j : Int))) ∧ w1.frozen? ⟨w.heap.size + 1, j, none⟩ = false := by
    intro j hj
    have hfr := hf2 (w.heap.size + 1) j (by simp only [World.size_alloc, World.size_setCell, World.size_drew, sz_drewN]; omega)
    have hce := hc2 (w.heap.size + 1) j (by simp only [World.size_alloc, World.size_setCell, World.size_drew, sz_drewN]; omega)
    rw [hce, hfr]
    have hcell := (Box.new (w.alloc (.cells #[.int .i64 g.w, .int .i64 g.h] 25)) (w.heap.size + 1) #[.bool false, .bool false, .bool false, .bool false, .bool false, .bool false, .bool false, .bool false, .bool false, .bool false, .bool false, .bool false, .bool false, .bool false, .bool false, .bool false] 60 (by simp only [World.size_alloc, World.size_setCell, World.size_drew, sz_drewN])).get j
    have hh : has (tgTo g p 0) (j : Int) = false := by simp [has, tgTo]
    rw [hh]
    refine ⟨?_, ?_⟩
    · rw [hcell]
      rcases (by omega : j = 0 ∨ j = 1 ∨ j = 2 ∨ j = 3 ∨ j = 4 ∨ j = 5 ∨ j = 6 ∨ j = 7 ∨ j = 8 ∨ j = 9 ∨ j = 10 ∨ j = 11 ∨ j = 12 ∨ j = 13 ∨ j = 14 ∨ j = 15) with rfl | rfl | rfl | rfl | rfl | rfl | rfl | rfl | rfl | rfl | rfl | rfl | rfl | rfl | rfl | rfl <;> rfl
    · go_simp
  have HB1 : Below (w.alloc (.cells #[.int .i64 g.w, .int .i64 g.h] 25)).heap.size (w.alloc (.cells #[.int .i64 g.w, .int .i64 g.h] 25)) w1 := bw_then (bw_alloc _ (bw_refl _)) hb2
  have hsz1 := hz2
  repeat (first | clear hc1 | clear hf1 | clear hz1 | clear hb1 | clear hb9 | clear hc2 | clear hf2 | clear hz2 | clear hb2 | clear hy1 | clear hy2 | clear hy3 | clear hy4 | clear hap | clear HOm | clear HOa | clear HOb | clear HOp | clear hlm | clear hla | clear hlb | clear hlp | clear hCm | clear hCa | clear hCb | clear hCp | clear Am | clear Aa | clear Ab | clear Ap | clear cm | clear ca | clear cb | clear cp | clear w1)
  obtain ⟨w5, rfl⟩ : ∃ x, x = w1 := ⟨_, rfl⟩
  go_loopw [11] (fun i wr => ∃ k : Nat, i = .int .i64 k ∧ k ≤ N ∧ Hid (∀ j, j < k → stepOk g p j = true) ∧ Hid (∀ j : Nat, j < 16 → wr.cell? ⟨w.heap.size + 1, j, none⟩ = some (.bool (has (tgTo g p k) (j : Int))) ∧ wr.frozen? ⟨w.heap.size + 1, j, none⟩ = false) ∧ w.heap.size + 1 < wr.heap.size ∧ Below (w.alloc (.cells #[.int .i64 g.w, .int .i64 g.h] 25)).heap.size (w.alloc (.cells #[.int .i64 g.w, .int .i64 g.h] 25)) wr) (fun i _ => N - (intOf i).toNat)
  case atStart => exact ⟨0, rfl, Nat.zero_le _, Lib.hid fun j h => absurd h (Nat.not_lt_zero _), Lib.hid HM, by omega, HB1⟩
  case round =>
    clear HM HB1 hsz1
    obtain ⟨k, rfl, hk, HA, HM, hsz, HB⟩ := hrel
    obtain ⟨hc0, hf0, hz0⟩ := bcell HB
    simp only [World.size_alloc, World.size_setCell, World.size_drew, sz_drewN] at hz0
    have yy1 := lts1 hz0
    by_cases hlt : k < N
    · have i0 : (k : Int) < (N : Int) := by omega
      obtain ⟨t0, t1⟩ := target_range g p k
      obtain ⟨t, ht⟩ : ∃ t, patternTarget g p k = t := ⟨_, rfl⟩
      rw [ht] at t0 t1
      have HT := Lib.hid ht
      by_cases e1 : t < 0
      · have hs : stepOk g p k = false := by rw [stepOk, ht, decide_eq_false (by omega), Bool.false_and]
        have HS := Lib.hid hs
        clear hs ht
        go_wp2_with (go_at_call 21; refine (impl_PatternTarget g p k _).mono ?_; rintro e w1 ⟨he, hb1⟩; rw [HT.out] at he; subst he; obtain ⟨hc1, hf1, hz1⟩ := bcell hb1; (try simp only [World.size_alloc, World.size_setCell, World.size_drew, sz_drewN] at hz1); have hb2 := (by first | exact bw_then hb2 hb1 | exact bw_then (bw_drewN _ hb2) hb1 | exact bw_then (bw_alloc _ hb2) hb1 | exact bw_then (bw_drew hb2) hb1 | exact bw_then HB hb1 | exact bw_then (bw_drewN _ HB) hb1 | exact bw_then (bw_alloc _ HB) hb1 | exact bw_then (bw_drew HB) hb1 | exact hb1); obtain ⟨hc2, hf2, hz2⟩ := bcell hb2; (try simp only [World.size_alloc, World.size_setCell, World.size_drew, sz_drewN] at hz2); try (first | obtain ⟨hy1, hy2, hy3, hy4⟩ := lts4 hz2 | obtain ⟨hy1, hy2, hy3⟩ := lts3 hz2 | obtain ⟨hy1, hy2⟩ := lts2 hz2 | have hy1 := lts1 hz2); have hb9 := hb1)
        go_ret
        exact ⟨ret_bool (isPerm_no HNN.out k hlt HS.out).symm, (by with_reducible repeat (first | assumption | exact bw_refl _ | apply bw_alloc | apply bw_drew | apply bw_drewN | refine bw_set _ ?_ (by omega) | refine bw_then ?_ (by assumption)))⟩
      · obtain ⟨tn, htn⟩ : ∃ tn : Nat, t = (tn : Int) := ⟨t.toNat, by omega⟩
        subst htn
        have hn16 : tn < 16 := by omega
        obtain ⟨hm1, hm2⟩ := HM.out tn hn16
        have j0 : (0 : Int) ≤ (tn : Int) := by omega
        have j1 : (tn : Int) < 16 := by omega
        cases hh : has (tgTo g p k) (tn : Int)
        · have hs : stepOk g p k = true := by rw [stepOk, ht, hh, decide_eq_true (by omega)]; rfl
          have HS := Lib.hid hs
          have HTS := Lib.hid (show tgTo g p (k + 1) = tgTo g p k ++ [(tn : Int)] by rw [tgTo_succ, ht])
          rw [hh] at hm1
          clear hs ht hh
          go_wp2_with (go_at_call 21; refine (impl_PatternTarget g p k _).mono ?_; rintro e w1 ⟨he, hb1⟩; rw [HT.out] at he; subst he; obtain ⟨hc1, hf1, hz1⟩ := bcell hb1; (try simp only [World.size_alloc, World.size_setCell, World.size_drew, sz_drewN] at hz1); have hb2 := (by first | exact bw_then hb2 hb1 | exact bw_then (bw_drewN _ hb2) hb1 | exact bw_then (bw_alloc _ hb2) hb1 | exact bw_then (bw_drew hb2) hb1 | exact bw_then HB hb1 | exact bw_then (bw_drewN _ HB) hb1 | exact bw_then (bw_alloc _ HB) hb1 | exact bw_then (bw_drew HB) hb1 | exact hb1); obtain ⟨hc2, hf2, hz2⟩ := bcell hb2; (try simp only [World.size_alloc, World.size_setCell, World.size_drew, sz_drewN] at hz2); try (first | obtain ⟨hy1, hy2, hy3, hy4⟩ := lts4 hz2 | obtain ⟨hy1, hy2, hy3⟩ := lts3 hz2 | obtain ⟨hy1, hy2⟩ := lts2 hz2 | have hy1 := lts1 hz2); have hb9 := hb1)
          have HMN : ∀ j : Nat, j < 16 → (w1.setCell ⟨w.heap.size + 1, tn, none⟩ (.bool true)).cell? ⟨w.heap.size + 1, j, none⟩ = some (.bool (has (tgTo g p (k + 1)) (j : Int))) ∧ (w1.setCell ⟨w.heap.size + 1, tn, none⟩ (.bool true)).frozen? ⟨w.heap.size + 1, j, none⟩ = false := by
            intro j hj
            obtain ⟨q1, q2⟩ := HM.out j hj
            rw [HTS.out, has_snoc]
            by_cases e : j = tn
            · subst e
              have e2 : ((j : Int) == (j : Int)) = true := beq_self_eq_true _
              rw [e2, Bool.or_true]
              exact ⟨by go_simp, by go_simp⟩
            · have e2 : ((tn : Int) == (j : Int)) = false := beq_eq_false_iff_ne.2 (by omega)
              rw [e2, Bool.or_false]
              exact ⟨by go_simp, by go_simp⟩
          go_roundw
          case rel => exact ⟨k + 1, by go_num, by omega, Lib.hid (upto HA.out HS.out), Lib.hid HMN, by simp only [World.size_alloc, World.size_setCell, World.size_drew, sz_drewN]; omega, bw_set _ (by exact (by with_reducible repeat (first | assumption | exact bw_refl _ | apply bw_alloc | apply bw_drew | apply bw_drewN | refine bw_set _ ?_ (by omega) | refine bw_then ?_ (by assumption)))) (by simp only [World.size_alloc, World.size_setCell, World.size_drew, sz_drewN]; omega)⟩
          case measure => simp [intOf]; omega
        · have hs : stepOk g p k = false := by rw [stepOk, ht, hh, Bool.not_true, Bool.and_false]
          have HS := Lib.hid hs
          rw [hh] at hm1
          clear hs ht hh
          go_wp2_with (go_at_call 21; refine (impl_PatternTarget g p k _).mono ?_; rintro e w1 ⟨he, hb1⟩; rw [HT.out] at he; subst he; obtain ⟨hc1, hf1, hz1⟩ := bcell hb1; (try simp only [World.size_alloc, World.size_setCell, World.size_drew, sz_drewN] at hz1); have hb2 := (by first | exact bw_then hb2 hb1 | exact bw_then (bw_drewN _ hb2) hb1 | exact bw_then (bw_alloc _ hb2) hb1 | exact bw_then (bw_drew hb2) hb1 | exact bw_then HB hb1 | exact bw_then (bw_drewN _ HB) hb1 | exact bw_then (bw_alloc _ HB) hb1 | exact bw_then (bw_drew HB) hb1 | exact hb1); obtain ⟨hc2, hf2, hz2⟩ := bcell hb2; (try simp only [World.size_alloc, World.size_setCell, World.size_drew, sz_drewN] at hz2); try (first | obtain ⟨hy1, hy2, hy3, hy4⟩ := lts4 hz2 | obtain ⟨hy1, hy2, hy3⟩ := lts3 hz2 | obtain ⟨hy1, hy2⟩ := lts2 hz2 | have hy1 := lts1 hz2); have hb9 := hb1)
          go_ret
          exact ⟨ret_bool (isPerm_no HNN.out k hlt HS.out).symm, (by with_reducible repeat (first | assumption | exact bw_refl _ | apply bw_alloc | apply bw_drew | apply bw_drewN | refine bw_set _ ?_ (by omega) | refine bw_then ?_ (by assumption)))⟩
    · have i0 : ¬ (k : Int) < (N : Int) := by omega
      go_wp2_with (go_at_call 41; refine (impl_GridOk g _).mono ?_; rintro e w1 ⟨rfl, hb1⟩; obtain ⟨hc1, hf1, hz1⟩ := bcell hb1; (try simp only [World.size_alloc, World.size_setCell, World.size_drew, sz_drewN] at hz1); have hb2 := (by first | exact bw_then hb2 hb1 | exact bw_then (bw_drewN _ hb2) hb1 | exact bw_then (bw_alloc _ hb2) hb1 | exact bw_then (bw_drew hb2) hb1 | exact bw_then HB hb1 | exact bw_then (bw_drewN _ HB) hb1 | exact bw_then (bw_alloc _ HB) hb1 | exact bw_then (bw_drew HB) hb1 | exact hb1); obtain ⟨hc2, hf2, hz2⟩ := bcell hb2; (try simp only [World.size_alloc, World.size_setCell, World.size_drew, sz_drewN] at hz2); try (first | obtain ⟨hy1, hy2, hy3, hy4⟩ := lts4 hz2 | obtain ⟨hy1, hy2, hy3⟩ := lts3 hz2 | obtain ⟨hy1, hy2⟩ := lts2 hz2 | have hy1 := lts1 hz2); have hb9 := hb1)
      go_ret
      exact ⟨ret_bool (isPerm_yes HNN.out (fun j hj => HA.out j (by omega))).symm, (by with_reducible repeat (first | assumption | exact bw_refl _ | apply bw_alloc | apply bw_drew | apply bw_drewN | refine bw_set _ ?_ (by omega) | refine bw_then ?_ (by assumption)))⟩
theorem law_IsPermutation (g : Grid) (p : Int) (w : World) : Calls Try.prog 3 #[.agg #[.int .i64 g.w, .int .i64 g.h], .int .i64 p] w fun e w' => e = .returned (.bool true) ∧ Below w.heap.size w w' := by
  go_enter Try.func3, Try.ntmps3
  go_wp2_with (first | (go_at_call 10; refine (laws_toGrid g _).mono ?_; rintro e w1 ⟨rfl, hb1⟩; obtain ⟨hc1, hf1, hz1⟩ := bcell hb1; (try simp only [World.size_alloc, World.size_setCell, World.size_drew, sz_drewN] at hz1); have hb2 := (by first | exact bw_then hb2 hb1 | exact bw_then (bw_drewN _ hb2) hb1 | exact bw_then (bw_alloc _ hb2) hb1 | exact bw_then (bw_drew hb2) hb1 | exact bw_then HB hb1 | exact bw_then (bw_drewN _ HB) hb1 | exact bw_then (bw_alloc _ HB) hb1 | exact bw_then (bw_drew HB) hb1 | exact hb1); obtain ⟨hc2, hf2, hz2⟩ := bcell hb2; (try simp only [World.size_alloc, World.size_setCell, World.size_drew, sz_drewN] at hz2); try (first | obtain ⟨hy1, hy2, hy3, hy4⟩ := lts4 hz2 | obtain ⟨hy1, hy2, hy3⟩ := lts3 hz2 | obtain ⟨hy1, hy2⟩ := lts2 hz2 | have hy1 := lts1 hz2); have hb9 := hb1) | (go_at_call 9; refine (spec_IsPermutation g p _).mono ?_; rintro e w1 ⟨rfl, hb1⟩; obtain ⟨hc1, hf1, hz1⟩ := bcell hb1; (try simp only [World.size_alloc, World.size_setCell, World.size_drew, sz_drewN] at hz1); have hb2 := (by first | exact bw_then hb2 hb1 | exact bw_then (bw_drewN _ hb2) hb1 | exact bw_then (bw_alloc _ hb2) hb1 | exact bw_then (bw_drew hb2) hb1 | exact bw_then HB hb1 | exact bw_then (bw_drewN _ HB) hb1 | exact bw_then (bw_alloc _ HB) hb1 | exact bw_then (bw_drew HB) hb1 | exact hb1); obtain ⟨hc2, hf2, hz2⟩ := bcell hb2; (try simp only [World.size_alloc, World.size_setCell, World.size_drew, sz_drewN] at hz2); try (first | obtain ⟨hy1, hy2, hy3, hy4⟩ := lts4 hz2 | obtain ⟨hy1, hy2, hy3⟩ := lts3 hz2 | obtain ⟨hy1, hy2⟩ := lts2 hz2 | have hy1 := lts1 hz2); have hb9 := hb1) | (go_at_call 11; refine (impl_IsPermutation g p _).mono ?_; rintro e w1 ⟨rfl, hb1⟩; obtain ⟨hc1, hf1, hz1⟩ := bcell hb1; (try simp only [World.size_alloc, World.size_setCell, World.size_drew, sz_drewN] at hz1); have hb2 := (by first | exact bw_then hb2 hb1 | exact bw_then (bw_drewN _ hb2) hb1 | exact bw_then (bw_alloc _ hb2) hb1 | exact bw_then (bw_drew hb2) hb1 | exact bw_then HB hb1 | exact bw_then (bw_drewN _ HB) hb1 | exact bw_then (bw_alloc _ HB) hb1 | exact bw_then (bw_drew HB) hb1 | exact hb1); obtain ⟨hc2, hf2, hz2⟩ := bcell hb2; (try simp only [World.size_alloc, World.size_setCell, World.size_drew, sz_drewN] at hz2); try (first | obtain ⟨hy1, hy2, hy3, hy4⟩ := lts4 hz2 | obtain ⟨hy1, hy2, hy3⟩ := lts3 hz2 | obtain ⟨hy1, hy2⟩ := lts2 hz2 | have hy1 := lts1 hz2); have hb9 := hb1))
  go_ret
  exact ⟨rfl, (by with_reducible repeat (first | assumption | exact bw_refl _ | apply bw_alloc | apply bw_drew | apply bw_drewN | refine bw_set _ ?_ (by omega) | refine bw_then ?_ (by assumption)))⟩

end Go.Proofs.Ytglajejmnhmcfaa
