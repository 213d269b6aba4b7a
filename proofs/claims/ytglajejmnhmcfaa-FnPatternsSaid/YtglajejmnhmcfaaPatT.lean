/- Targets of the patterns: what the program and the reference return; for all numbers. -/
import Derived.Test.YtglajejmnhmcfaaPat
import Derived.Test.YtglajejmnhmcfaaLawI
set_option linter.unusedVariables false
set_option linter.unusedSimpArgs false
namespace Go.Proofs.Ytglajejmnhmcfaa
open Go.RowKit Go.Proofs.YtglajejmnhmcfaaW.PrintWords
open NoC

def patternTarget (g : Grid) (p n : Int) : Int :=
  if isNode g n then
    (if p = 1 then nodeAt g (n / g.w) (n % g.w) else if p = 2 then nodeCount g - 1 - n else if p = 3 then 0 else if p = 4 then nodeAt g ((n % g.w + 1) % g.w) (n / g.w) else -1)
  else -1
theorem impl_ColumnOf (g : Grid) (a : Int) (w : World) (h : isNode g a = true) : Calls Try.prog 49 #[.agg #[.int .i64 g.w, .int .i64 g.h], .int .i64 a] w fun e w' => e = .returned (.int .i64 (a % g.w)) ∧ Below w.heap.size w w' := by
  obtain ⟨c1, c2, c3, c4⟩ := node_bounds h
  obtain ⟨a1, a2, a3, a4, a5, a6⟩ := grid_bounds c1
  obtain ⟨d1, d2, d3, d4⟩ := div_bounds h
  go_enter Try.func49, Try.ntmps49
  go_wp2_with (go_at_call 48; refine (impl_isNode g _ _).mono ?_; rintro e w1 ⟨rfl, hb1⟩; obtain ⟨hc1, hf1, hz1⟩ := bcell hb1; (try simp only [World.size_alloc, World.size_setCell, World.size_drew, sz_drewN] at hz1); have hb2 := (by first | exact bw_then hb2 hb1 | exact bw_then (bw_drewN _ hb2) hb1 | exact bw_then (bw_alloc _ hb2) hb1 | exact bw_then (bw_drew hb2) hb1 | exact bw_then HB hb1 | exact bw_then (bw_drewN _ HB) hb1 | exact bw_then (bw_alloc _ HB) hb1 | exact bw_then (bw_drew HB) hb1 | exact hb1); obtain ⟨hc2, hf2, hz2⟩ := bcell hb2; (try simp only [World.size_alloc, World.size_setCell, World.size_drew, sz_drewN] at hz2); try (first | obtain ⟨hy1, hy2, hy3, hy4⟩ := lts4 hz2 | obtain ⟨hy1, hy2, hy3⟩ := lts3 hz2 | obtain ⟨hy1, hy2⟩ := lts2 hz2 | have hy1 := lts1 hz2); have hb9 := hb1)
  go_ret
  exact ⟨rfl, (by with_reducible repeat (first | assumption | exact bw_refl _ | apply bw_alloc | apply bw_drew | apply bw_drewN | refine bw_set _ ?_ (by omega) | refine bw_then ?_ (by assumption)))⟩
theorem impl_RowOf (g : Grid) (a : Int) (w : World) (h : isNode g a = true) : Calls Try.prog 50 #[.agg #[.int .i64 g.w, .int .i64 g.h], .int .i64 a] w fun e w' => e = .returned (.int .i64 (a / g.w)) ∧ Below w.heap.size w w' := by
  obtain ⟨c1, c2, c3, c4⟩ := node_bounds h
  obtain ⟨a1, a2, a3, a4, a5, a6⟩ := grid_bounds c1
  obtain ⟨d1, d2, d3, d4⟩ := div_bounds h
  go_enter Try.func50, Try.ntmps50
  go_wp2_with (go_at_call 48; refine (impl_isNode g _ _).mono ?_; rintro e w1 ⟨rfl, hb1⟩; obtain ⟨hc1, hf1, hz1⟩ := bcell hb1; (try simp only [World.size_alloc, World.size_setCell, World.size_drew, sz_drewN] at hz1); have hb2 := (by first | exact bw_then hb2 hb1 | exact bw_then (bw_drewN _ hb2) hb1 | exact bw_then (bw_alloc _ hb2) hb1 | exact bw_then (bw_drew hb2) hb1 | exact bw_then HB hb1 | exact bw_then (bw_drewN _ HB) hb1 | exact bw_then (bw_alloc _ HB) hb1 | exact bw_then (bw_drew HB) hb1 | exact hb1); obtain ⟨hc2, hf2, hz2⟩ := bcell hb2; (try simp only [World.size_alloc, World.size_setCell, World.size_drew, sz_drewN] at hz2); try (first | obtain ⟨hy1, hy2, hy3, hy4⟩ := lts4 hz2 | obtain ⟨hy1, hy2, hy3⟩ := lts3 hz2 | obtain ⟨hy1, hy2⟩ := lts2 hz2 | have hy1 := lts1 hz2); have hb9 := hb1)
  go_ret
  exact ⟨rfl, (by with_reducible repeat (first | assumption | exact bw_refl _ | apply bw_alloc | apply bw_drew | apply bw_drewN | refine bw_set _ ?_ (by omega) | refine bw_then ?_ (by assumption)))⟩
set_option maxHeartbeats 1000000 in
theorem impl_PatternTarget (g : Grid) (p n : Int) (w : World) : Calls Try.prog 21 #[.agg #[.int .i64 g.w, .int .i64 g.h], .int .i64 p, .int .i64 n] w fun e w' => e = .returned (.int .i64 (patternTarget g p n)) ∧ Below w.heap.size w w' := by
  go_enter Try.func21, Try.ntmps21
  cases h : isNode g n
  · go_wp2_with (go_at_call 48; refine (impl_isNode g _ _).mono ?_; rintro e w1 ⟨rfl, hb1⟩; obtain ⟨hc1, hf1, hz1⟩ := bcell hb1; (try simp only [World.size_alloc, World.size_setCell, World.size_drew, sz_drewN] at hz1); have hb2 := (by first | exact bw_then hb2 hb1 | exact bw_then (bw_drewN _ hb2) hb1 | exact bw_then (bw_alloc _ hb2) hb1 | exact bw_then (bw_drew hb2) hb1 | exact bw_then HB hb1 | exact bw_then (bw_drewN _ HB) hb1 | exact bw_then (bw_alloc _ HB) hb1 | exact bw_then (bw_drew HB) hb1 | exact hb1); obtain ⟨hc2, hf2, hz2⟩ := bcell hb2; (try simp only [World.size_alloc, World.size_setCell, World.size_drew, sz_drewN] at hz2); try (first | obtain ⟨hy1, hy2, hy3, hy4⟩ := lts4 hz2 | obtain ⟨hy1, hy2, hy3⟩ := lts3 hz2 | obtain ⟨hy1, hy2⟩ := lts2 hz2 | have hy1 := lts1 hz2); have hb9 := hb1)
    go_ret
    exact ⟨by simp [patternTarget, h], (by with_reducible repeat (first | assumption | exact bw_refl _ | apply bw_alloc | apply bw_drew | apply bw_drewN | refine bw_set _ ?_ (by omega) | refine bw_then ?_ (by assumption)))⟩
  · obtain ⟨c1, c2, c3, c4⟩ := node_bounds h
    obtain ⟨a1, a2, a3, a4, a5, a6⟩ := grid_bounds c1
    obtain ⟨d1, d2, d3, d4⟩ := div_bounds h
    obtain ⟨n0, n1⟩ := count_bounds g
    have m0 : 0 ≤ (n % g.w + 1) % g.w := Int.emod_nonneg _ (by omega)
    have m1 : (n % g.w + 1) % g.w ≤ 3 := by have := Int.emod_lt_of_pos (n % g.w + 1) (show 0 < g.w by omega); omega
    clear c1
    go_wp2_with (go_at_call 48; refine (impl_isNode g _ _).mono ?_; rintro e w1 ⟨rfl, hb1⟩; obtain ⟨hc1, hf1, hz1⟩ := bcell hb1; (try simp only [World.size_alloc, World.size_setCell, World.size_drew, sz_drewN] at hz1); have hb2 := (by first | exact bw_then hb2 hb1 | exact bw_then (bw_drewN _ hb2) hb1 | exact bw_then (bw_alloc _ hb2) hb1 | exact bw_then (bw_drew hb2) hb1 | exact bw_then HB hb1 | exact bw_then (bw_drewN _ HB) hb1 | exact bw_then (bw_alloc _ HB) hb1 | exact bw_then (bw_drew HB) hb1 | exact hb1); obtain ⟨hc2, hf2, hz2⟩ := bcell hb2; (try simp only [World.size_alloc, World.size_setCell, World.size_drew, sz_drewN] at hz2); try (first | obtain ⟨hy1, hy2, hy3, hy4⟩ := lts4 hz2 | obtain ⟨hy1, hy2, hy3⟩ := lts3 hz2 | obtain ⟨hy1, hy2⟩ := lts2 hz2 | have hy1 := lts1 hz2); have hb9 := hb1)
    refine wp_region_far (w.alloc (.cells #[.int .i64 g.w, .int .i64 g.h] 25)) (by kernel_rfl) (by kernel_rfl) (by with_reducible repeat (first | assumption | exact bw_refl _ | apply bw_alloc | apply bw_drew | apply bw_drewN | refine bw_set _ ?_ (by omega) | refine bw_then ?_ (by assumption))) ?_
    have hqc := far_cell (w.alloc (.cells #[.int .i64 g.w, .int .i64 g.h] 25))
    have hqf := far_frozen (w.alloc (.cells #[.int .i64 g.w, .int .i64 g.h] 25))
    repeat (first | go_big_quiet_step (first | (go_at_call 49; exact far_call (impl_ColumnOf g n _ h)) | (go_at_call 50; exact far_call (impl_RowOf g n _ h))) | quiet_step (first | (go_at_call 49; exact far_call (impl_ColumnOf g n _ h)) | (go_at_call 50; exact far_call (impl_RowOf g n _ h))))
    refine wpQuiet_nil ?_
    intro wq hbq
    clear hqc hqf
    obtain ⟨hcq, hfq, hzq⟩ := bcell hbq
    try simp only [World.size_alloc, World.size_setCell, World.size_drew, sz_drewN] at hzq
    have hp : p = 1 ∨ p = 2 ∨ p = 3 ∨ p = 4 ∨ ((p == 1) = false ∧ (p == 2) = false ∧ (p == 3) = false ∧ (p == 4) = false) := by
      simp only [beq_eq_false_iff_ne]
      omega
    rcases hp with rfl | rfl | rfl | rfl | ⟨f1, f2, f3, f4⟩
    · go_wp2_with (go_at_call 51; refine (impl_NodeAt g _ _ _).mono ?_; rintro e w1 ⟨rfl, hb1⟩; obtain ⟨hc1, hf1, hz1⟩ := bcell hb1; (try simp only [World.size_alloc, World.size_setCell, World.size_drew, sz_drewN] at hz1); have hb2 := (by first | exact bw_then hb2 hb1 | exact bw_then (bw_drewN _ hb2) hb1 | exact bw_then (bw_alloc _ hb2) hb1 | exact bw_then (bw_drew hb2) hb1 | exact bw_then HB hb1 | exact bw_then (bw_drewN _ HB) hb1 | exact bw_then (bw_alloc _ HB) hb1 | exact bw_then (bw_drew HB) hb1 | exact hb1); obtain ⟨hc2, hf2, hz2⟩ := bcell hb2; (try simp only [World.size_alloc, World.size_setCell, World.size_drew, sz_drewN] at hz2); try (first | obtain ⟨hy1, hy2, hy3, hy4⟩ := lts4 hz2 | obtain ⟨hy1, hy2, hy3⟩ := lts3 hz2 | obtain ⟨hy1, hy2⟩ := lts2 hz2 | have hy1 := lts1 hz2); have hb9 := hb1)
      go_ret
      exact ⟨by simp [patternTarget, h], (by with_reducible repeat (first | assumption | exact bw_refl _ | apply bw_alloc | apply bw_drew | apply bw_drewN | refine bw_set _ ?_ (by omega) | refine bw_then ?_ (by assumption)))⟩
    · go_wp2_with (go_at_call 40; refine (impl_NodeCount g _).mono ?_; rintro e w1 ⟨rfl, hb1⟩; obtain ⟨hc1, hf1, hz1⟩ := bcell hb1; (try simp only [World.size_alloc, World.size_setCell, World.size_drew, sz_drewN] at hz1); have hb2 := (by first | exact bw_then hb2 hb1 | exact bw_then (bw_drewN _ hb2) hb1 | exact bw_then (bw_alloc _ hb2) hb1 | exact bw_then (bw_drew hb2) hb1 | exact bw_then HB hb1 | exact bw_then (bw_drewN _ HB) hb1 | exact bw_then (bw_alloc _ HB) hb1 | exact bw_then (bw_drew HB) hb1 | exact hb1); obtain ⟨hc2, hf2, hz2⟩ := bcell hb2; (try simp only [World.size_alloc, World.size_setCell, World.size_drew, sz_drewN] at hz2); try (first | obtain ⟨hy1, hy2, hy3, hy4⟩ := lts4 hz2 | obtain ⟨hy1, hy2, hy3⟩ := lts3 hz2 | obtain ⟨hy1, hy2⟩ := lts2 hz2 | have hy1 := lts1 hz2); have hb9 := hb1)
      go_ret
      exact ⟨by simp [patternTarget, h], (by with_reducible repeat (first | assumption | exact bw_refl _ | apply bw_alloc | apply bw_drew | apply bw_drewN | refine bw_set _ ?_ (by omega) | refine bw_then ?_ (by assumption)))⟩
    · go_wp2
      go_ret
      exact ⟨by simp [patternTarget, h], (by with_reducible repeat (first | assumption | exact bw_refl _ | apply bw_alloc | apply bw_drew | apply bw_drewN | refine bw_set _ ?_ (by omega) | refine bw_then ?_ (by assumption)))⟩
    · go_wp2
      refine wp_region_far (w.alloc (.cells #[.int .i64 g.w, .int .i64 g.h] 25)) (by kernel_rfl) (by kernel_rfl) (by with_reducible repeat (first | assumption | exact bw_refl _ | apply bw_alloc | apply bw_drew | apply bw_drewN | refine bw_set _ ?_ (by omega) | refine bw_then ?_ (by assumption))) ?_
      have hqc := far_cell (w.alloc (.cells #[.int .i64 g.w, .int .i64 g.h] 25))
      have hqf := far_frozen (w.alloc (.cells #[.int .i64 g.w, .int .i64 g.h] 25))
      repeat (first | go_big_quiet_step ((go_at_call 51; exact far_call (impl_NodeAt g _ _ _))) | quiet_step ((go_at_call 51; exact far_call (impl_NodeAt g _ _ _))))
      refine wpQuiet_nil ?_
      intro wq hbq
      clear hqc hqf
      obtain ⟨hcq, hfq, hzq⟩ := bcell hbq
      try simp only [World.size_alloc, World.size_setCell, World.size_drew, sz_drewN] at hzq
      go_wp2
      go_ret
      exact ⟨by simp [patternTarget, h], (by with_reducible repeat (first | assumption | exact bw_refl _ | apply bw_alloc | apply bw_drew | apply bw_drewN | refine bw_set _ ?_ (by omega) | refine bw_then ?_ (by assumption)))⟩
    · go_wp2
      go_ret
      exact ⟨by simp only [beq_eq_false_iff_ne] at f1 f2 f3 f4; simp [patternTarget, h, f1, f2, f3, f4], (by with_reducible repeat (first | assumption | exact bw_refl _ | apply bw_alloc | apply bw_drew | apply bw_drewN | refine bw_set _ ?_ (by omega) | refine bw_then ?_ (by assumption)))⟩
set_option maxHeartbeats 1000000 in
theorem spec_PatternTarget (g : Grid) (p n : Int) (w : World) : Calls Try.prog 37 #[.agg #[.int .i64 g.w, .int .i64 g.h], .int .i64 p, .int .i64 n] w fun e w' => e = .returned (.int .i64 (patternTarget g p n)) ∧ Below w.heap.size w w' := by
  go_enter Try.func37, Try.ntmps37
  cases h : isNode g n
  · go_wp2_with (go_at_call 61; refine (spec_l02Has g _ _).mono ?_; rintro e w1 ⟨rfl, hb1⟩; obtain ⟨hc1, hf1, hz1⟩ := bcell hb1; (try simp only [World.size_alloc, World.size_setCell, World.size_drew, sz_drewN] at hz1); have hb2 := (by first | exact bw_then hb2 hb1 | exact bw_then (bw_drewN _ hb2) hb1 | exact bw_then (bw_alloc _ hb2) hb1 | exact bw_then (bw_drew hb2) hb1 | exact bw_then HB hb1 | exact bw_then (bw_drewN _ HB) hb1 | exact bw_then (bw_alloc _ HB) hb1 | exact bw_then (bw_drew HB) hb1 | exact hb1); obtain ⟨hc2, hf2, hz2⟩ := bcell hb2; (try simp only [World.size_alloc, World.size_setCell, World.size_drew, sz_drewN] at hz2); try (first | obtain ⟨hy1, hy2, hy3, hy4⟩ := lts4 hz2 | obtain ⟨hy1, hy2, hy3⟩ := lts3 hz2 | obtain ⟨hy1, hy2⟩ := lts2 hz2 | have hy1 := lts1 hz2); have hb9 := hb1)
    go_ret
    exact ⟨by simp [patternTarget, h], (by with_reducible repeat (first | assumption | exact bw_refl _ | apply bw_alloc | apply bw_drew | apply bw_drewN | refine bw_set _ ?_ (by omega) | refine bw_then ?_ (by assumption)))⟩
  · obtain ⟨c1, c2, c3, c4⟩ := node_bounds h
    obtain ⟨a1, a2, a3, a4, a5, a6⟩ := grid_bounds c1
    obtain ⟨d1, d2, d3, d4⟩ := div_bounds h
    obtain ⟨n0, n1⟩ := count_bounds g
    have m0 : 0 ≤ (n % g.w + 1) % g.w := Int.emod_nonneg _ (by omega)
    have m1 : (n % g.w + 1) % g.w ≤ 3 := by have := Int.emod_lt_of_pos (n % g.w + 1) (show 0 < g.w by omega); omega
    clear c1
    have hp : p = 1 ∨ p = 2 ∨ p = 3 ∨ p = 4 ∨ ((p == 1) = false ∧ (p == 2) = false ∧ (p == 3) = false ∧ (p == 4) = false) := by
      simp only [beq_eq_false_iff_ne]
      omega
    rcases hp with rfl | rfl | rfl | rfl | ⟨f1, f2, f3, f4⟩
    · go_wp2_with (first | (go_at_call 61; refine (spec_l02Has g _ _).mono ?_; rintro e w1 ⟨rfl, hb1⟩; obtain ⟨hc1, hf1, hz1⟩ := bcell hb1; (try simp only [World.size_alloc, World.size_setCell, World.size_drew, sz_drewN] at hz1); have hb2 := (by first | exact bw_then hb2 hb1 | exact bw_then (bw_drewN _ hb2) hb1 | exact bw_then (bw_alloc _ hb2) hb1 | exact bw_then (bw_drew hb2) hb1 | exact bw_then HB hb1 | exact bw_then (bw_drewN _ HB) hb1 | exact bw_then (bw_alloc _ HB) hb1 | exact bw_then (bw_drew HB) hb1 | exact hb1); obtain ⟨hc2, hf2, hz2⟩ := bcell hb2; (try simp only [World.size_alloc, World.size_setCell, World.size_drew, sz_drewN] at hz2); try (first | obtain ⟨hy1, hy2, hy3, hy4⟩ := lts4 hz2 | obtain ⟨hy1, hy2, hy3⟩ := lts3 hz2 | obtain ⟨hy1, hy2⟩ := lts2 hz2 | have hy1 := lts1 hz2); have hb9 := hb1) | (go_at_call 62; refine (spec_NodeAt g _ _ _).mono ?_; rintro e w1 ⟨rfl, hb1⟩; obtain ⟨hc1, hf1, hz1⟩ := bcell hb1; (try simp only [World.size_alloc, World.size_setCell, World.size_drew, sz_drewN] at hz1); have hb2 := (by first | exact bw_then hb2 hb1 | exact bw_then (bw_drewN _ hb2) hb1 | exact bw_then (bw_alloc _ hb2) hb1 | exact bw_then (bw_drew hb2) hb1 | exact bw_then HB hb1 | exact bw_then (bw_drewN _ HB) hb1 | exact bw_then (bw_alloc _ HB) hb1 | exact bw_then (bw_drew HB) hb1 | exact hb1); obtain ⟨hc2, hf2, hz2⟩ := bcell hb2; (try simp only [World.size_alloc, World.size_setCell, World.size_drew, sz_drewN] at hz2); try (first | obtain ⟨hy1, hy2, hy3, hy4⟩ := lts4 hz2 | obtain ⟨hy1, hy2, hy3⟩ := lts3 hz2 | obtain ⟨hy1, hy2⟩ := lts2 hz2 | have hy1 := lts1 hz2); have hb9 := hb1))
      go_ret
      exact ⟨by simp [patternTarget, h], (by with_reducible repeat (first | assumption | exact bw_refl _ | apply bw_alloc | apply bw_drew | apply bw_drewN | refine bw_set _ ?_ (by omega) | refine bw_then ?_ (by assumption)))⟩
    · go_wp2_with (first | (go_at_call 61; refine (spec_l02Has g _ _).mono ?_; rintro e w1 ⟨rfl, hb1⟩; obtain ⟨hc1, hf1, hz1⟩ := bcell hb1; (try simp only [World.size_alloc, World.size_setCell, World.size_drew, sz_drewN] at hz1); have hb2 := (by first | exact bw_then hb2 hb1 | exact bw_then (bw_drewN _ hb2) hb1 | exact bw_then (bw_alloc _ hb2) hb1 | exact bw_then (bw_drew hb2) hb1 | exact bw_then HB hb1 | exact bw_then (bw_drewN _ HB) hb1 | exact bw_then (bw_alloc _ HB) hb1 | exact bw_then (bw_drew HB) hb1 | exact hb1); obtain ⟨hc2, hf2, hz2⟩ := bcell hb2; (try simp only [World.size_alloc, World.size_setCell, World.size_drew, sz_drewN] at hz2); try (first | obtain ⟨hy1, hy2, hy3, hy4⟩ := lts4 hz2 | obtain ⟨hy1, hy2, hy3⟩ := lts3 hz2 | obtain ⟨hy1, hy2⟩ := lts2 hz2 | have hy1 := lts1 hz2); have hb9 := hb1) | (go_at_call 36; refine (spec_NodeCount g _).mono ?_; rintro e w1 ⟨rfl, hb1⟩; obtain ⟨hc1, hf1, hz1⟩ := bcell hb1; (try simp only [World.size_alloc, World.size_setCell, World.size_drew, sz_drewN] at hz1); have hb2 := (by first | exact bw_then hb2 hb1 | exact bw_then (bw_drewN _ hb2) hb1 | exact bw_then (bw_alloc _ hb2) hb1 | exact bw_then (bw_drew hb2) hb1 | exact bw_then HB hb1 | exact bw_then (bw_drewN _ HB) hb1 | exact bw_then (bw_alloc _ HB) hb1 | exact bw_then (bw_drew HB) hb1 | exact hb1); obtain ⟨hc2, hf2, hz2⟩ := bcell hb2; (try simp only [World.size_alloc, World.size_setCell, World.size_drew, sz_drewN] at hz2); try (first | obtain ⟨hy1, hy2, hy3, hy4⟩ := lts4 hz2 | obtain ⟨hy1, hy2, hy3⟩ := lts3 hz2 | obtain ⟨hy1, hy2⟩ := lts2 hz2 | have hy1 := lts1 hz2); have hb9 := hb1))
      go_ret
      exact ⟨by simp [patternTarget, h], (by with_reducible repeat (first | assumption | exact bw_refl _ | apply bw_alloc | apply bw_drew | apply bw_drewN | refine bw_set _ ?_ (by omega) | refine bw_then ?_ (by assumption)))⟩
    · go_wp2_with (first | (go_at_call 61; refine (spec_l02Has g _ _).mono ?_; rintro e w1 ⟨rfl, hb1⟩; obtain ⟨hc1, hf1, hz1⟩ := bcell hb1; (try simp only [World.size_alloc, World.size_setCell, World.size_drew, sz_drewN] at hz1); have hb2 := (by first | exact bw_then hb2 hb1 | exact bw_then (bw_drewN _ hb2) hb1 | exact bw_then (bw_alloc _ hb2) hb1 | exact bw_then (bw_drew hb2) hb1 | exact bw_then HB hb1 | exact bw_then (bw_drewN _ HB) hb1 | exact bw_then (bw_alloc _ HB) hb1 | exact bw_then (bw_drew HB) hb1 | exact hb1); obtain ⟨hc2, hf2, hz2⟩ := bcell hb2; (try simp only [World.size_alloc, World.size_setCell, World.size_drew, sz_drewN] at hz2); try (first | obtain ⟨hy1, hy2, hy3, hy4⟩ := lts4 hz2 | obtain ⟨hy1, hy2, hy3⟩ := lts3 hz2 | obtain ⟨hy1, hy2⟩ := lts2 hz2 | have hy1 := lts1 hz2); have hb9 := hb1) | (go_at_call 36; refine (spec_NodeCount g _).mono ?_; rintro e w1 ⟨rfl, hb1⟩; obtain ⟨hc1, hf1, hz1⟩ := bcell hb1; (try simp only [World.size_alloc, World.size_setCell, World.size_drew, sz_drewN] at hz1); have hb2 := (by first | exact bw_then hb2 hb1 | exact bw_then (bw_drewN _ hb2) hb1 | exact bw_then (bw_alloc _ hb2) hb1 | exact bw_then (bw_drew hb2) hb1 | exact bw_then HB hb1 | exact bw_then (bw_drewN _ HB) hb1 | exact bw_then (bw_alloc _ HB) hb1 | exact bw_then (bw_drew HB) hb1 | exact hb1); obtain ⟨hc2, hf2, hz2⟩ := bcell hb2; (try simp only [World.size_alloc, World.size_setCell, World.size_drew, sz_drewN] at hz2); try (first | obtain ⟨hy1, hy2, hy3, hy4⟩ := lts4 hz2 | obtain ⟨hy1, hy2, hy3⟩ := lts3 hz2 | obtain ⟨hy1, hy2⟩ := lts2 hz2 | have hy1 := lts1 hz2); have hb9 := hb1))
      go_ret
      exact ⟨by simp [patternTarget, h], (by with_reducible repeat (first | assumption | exact bw_refl _ | apply bw_alloc | apply bw_drew | apply bw_drewN | refine bw_set _ ?_ (by omega) | refine bw_then ?_ (by assumption)))⟩
    · go_wp2_with (first | (go_at_call 61; refine (spec_l02Has g _ _).mono ?_; rintro e w1 ⟨rfl, hb1⟩; obtain ⟨hc1, hf1, hz1⟩ := bcell hb1; (try simp only [World.size_alloc, World.size_setCell, World.size_drew, sz_drewN] at hz1); have hb2 := (by first | exact bw_then hb2 hb1 | exact bw_then (bw_drewN _ hb2) hb1 | exact bw_then (bw_alloc _ hb2) hb1 | exact bw_then (bw_drew hb2) hb1 | exact bw_then HB hb1 | exact bw_then (bw_drewN _ HB) hb1 | exact bw_then (bw_alloc _ HB) hb1 | exact bw_then (bw_drew HB) hb1 | exact hb1); obtain ⟨hc2, hf2, hz2⟩ := bcell hb2; (try simp only [World.size_alloc, World.size_setCell, World.size_drew, sz_drewN] at hz2); try (first | obtain ⟨hy1, hy2, hy3, hy4⟩ := lts4 hz2 | obtain ⟨hy1, hy2, hy3⟩ := lts3 hz2 | obtain ⟨hy1, hy2⟩ := lts2 hz2 | have hy1 := lts1 hz2); have hb9 := hb1) | (go_at_call 36; refine (spec_NodeCount g _).mono ?_; rintro e w1 ⟨rfl, hb1⟩; obtain ⟨hc1, hf1, hz1⟩ := bcell hb1; (try simp only [World.size_alloc, World.size_setCell, World.size_drew, sz_drewN] at hz1); have hb2 := (by first | exact bw_then hb2 hb1 | exact bw_then (bw_drewN _ hb2) hb1 | exact bw_then (bw_alloc _ hb2) hb1 | exact bw_then (bw_drew hb2) hb1 | exact bw_then HB hb1 | exact bw_then (bw_drewN _ HB) hb1 | exact bw_then (bw_alloc _ HB) hb1 | exact bw_then (bw_drew HB) hb1 | exact hb1); obtain ⟨hc2, hf2, hz2⟩ := bcell hb2; (try simp only [World.size_alloc, World.size_setCell, World.size_drew, sz_drewN] at hz2); try (first | obtain ⟨hy1, hy2, hy3, hy4⟩ := lts4 hz2 | obtain ⟨hy1, hy2, hy3⟩ := lts3 hz2 | obtain ⟨hy1, hy2⟩ := lts2 hz2 | have hy1 := lts1 hz2); have hb9 := hb1))
      refine wp_region_far (w.alloc (.cells #[.int .i64 g.w, .int .i64 g.h] 25)) (by kernel_rfl) (by kernel_rfl) (by with_reducible repeat (first | assumption | exact bw_refl _ | apply bw_alloc | apply bw_drew | apply bw_drewN | refine bw_set _ ?_ (by omega) | refine bw_then ?_ (by assumption))) ?_
      have hqc := far_cell (w.alloc (.cells #[.int .i64 g.w, .int .i64 g.h] 25))
      have hqf := far_frozen (w.alloc (.cells #[.int .i64 g.w, .int .i64 g.h] 25))
      repeat (first | go_big_quiet_step ((go_at_call 62; exact far_call (spec_NodeAt g _ _ _))) | quiet_step ((go_at_call 62; exact far_call (spec_NodeAt g _ _ _))))
      refine wpQuiet_nil ?_
      intro wq hbq
      clear hqc hqf
      obtain ⟨hcq, hfq, hzq⟩ := bcell hbq
      try simp only [World.size_alloc, World.size_setCell, World.size_drew, sz_drewN] at hzq
      go_wp2
      go_ret
      exact ⟨by simp [patternTarget, h], (by with_reducible repeat (first | assumption | exact bw_refl _ | apply bw_alloc | apply bw_drew | apply bw_drewN | refine bw_set _ ?_ (by omega) | refine bw_then ?_ (by assumption)))⟩
    · go_wp2_with (first | (go_at_call 61; refine (spec_l02Has g _ _).mono ?_; rintro e w1 ⟨rfl, hb1⟩; obtain ⟨hc1, hf1, hz1⟩ := bcell hb1; (try simp only [World.size_alloc, World.size_setCell, World.size_drew, sz_drewN] at hz1); have hb2 := (by first | exact bw_then hb2 hb1 | exact bw_then (bw_drewN _ hb2) hb1 | exact bw_then (bw_alloc _ hb2) hb1 | exact bw_then (bw_drew hb2) hb1 | exact bw_then HB hb1 | exact bw_then (bw_drewN _ HB) hb1 | exact bw_then (bw_alloc _ HB) hb1 | exact bw_then (bw_drew HB) hb1 | exact hb1); obtain ⟨hc2, hf2, hz2⟩ := bcell hb2; (try simp only [World.size_alloc, World.size_setCell, World.size_drew, sz_drewN] at hz2); try (first | obtain ⟨hy1, hy2, hy3, hy4⟩ := lts4 hz2 | obtain ⟨hy1, hy2, hy3⟩ := lts3 hz2 | obtain ⟨hy1, hy2⟩ := lts2 hz2 | have hy1 := lts1 hz2); have hb9 := hb1) | (go_at_call 36; refine (spec_NodeCount g _).mono ?_; rintro e w1 ⟨rfl, hb1⟩; obtain ⟨hc1, hf1, hz1⟩ := bcell hb1; (try simp only [World.size_alloc, World.size_setCell, World.size_drew, sz_drewN] at hz1); have hb2 := (by first | exact bw_then hb2 hb1 | exact bw_then (bw_drewN _ hb2) hb1 | exact bw_then (bw_alloc _ hb2) hb1 | exact bw_then (bw_drew hb2) hb1 | exact bw_then HB hb1 | exact bw_then (bw_drewN _ HB) hb1 | exact bw_then (bw_alloc _ HB) hb1 | exact bw_then (bw_drew HB) hb1 | exact hb1); obtain ⟨hc2, hf2, hz2⟩ := bcell hb2; (try simp only [World.size_alloc, World.size_setCell, World.size_drew, sz_drewN] at hz2); try (first | obtain ⟨hy1, hy2, hy3, hy4⟩ := lts4 hz2 | obtain ⟨hy1, hy2, hy3⟩ := lts3 hz2 | obtain ⟨hy1, hy2⟩ := lts2 hz2 | have hy1 := lts1 hz2); have hb9 := hb1))
      go_ret
      exact ⟨by simp only [beq_eq_false_iff_ne] at f1 f2 f3 f4; simp [patternTarget, h, f1, f2, f3, f4], (by with_reducible repeat (first | assumption | exact bw_refl _ | apply bw_alloc | apply bw_drew | apply bw_drewN | refine bw_set _ ?_ (by omega) | refine bw_then ?_ (by assumption)))⟩
end Go.Proofs.Ytglajejmnhmcfaa
