/- Networks of one's own: copied by the laws, marked by them. -/
import Derived.Test.YtinnfahmfggghaaMarkN
set_option linter.unusedVariables false
set_option linter.unusedSimpArgs false
namespace Go.Proofs.Ytinnfahmfggghaa
open Go.RowKit Go.Proofs.YtinnfahmfggghaaW.PrintWords
open NoC

theorem RU.off {α : Type} {d : Kd α} {e : Nat} {w : World} {lo hi : Nat} {v : Value} {xs : List α} (h : RU d e w lo hi v xs) {g : Nat} (hg : g < lo) (j : Nat) (u : Value) : RU d e (w.setCell ⟨g, j, none⟩ u) lo hi v xs :=
  h.step (fun k h1 _ _ => Below.heap_setCell w ⟨g, j, none⟩ u k (by show k ≠ g; omega))
theorem OB.off {w : World} {lo hi : Nat} {v : Value} {l : List (List Flit)} {vs : List Value} (h : OB w lo hi v l vs) {g : Nat} (hg : g < lo) (j : Nat) (u : Value) : OB (w.setCell ⟨g, j, none⟩ u) lo hi v l vs :=
  h.step (fun k h1 _ _ => Below.heap_setCell w ⟨g, j, none⟩ u k (by show k ≠ g; omega))
theorem RU.bel {α : Type} {d : Kd α} {e : Nat} {w w1 : World} {lo hi : Nat} {v : Value} {xs : List α} (hb : Below w.heap.size w w1) (h : RU d e w lo hi v xs) : RU d e w1 lo hi v xs := h.below hb
theorem OB.bel {w w1 : World} {lo hi : Nat} {v : Value} {l : List (List Flit)} {vs : List Value} (hb : Below w.heap.size w w1) (h : OB w lo hi v l vs) : OB w1 lo hi v l vs := h.below hb
set_option maxHeartbeats 4000000 in
set_option maxRecDepth 100000 in
theorem laws_toNet2 (n : Net) (q : NA) (w : World) (hr : NetR 142 w n q) : Calls Try.prog 18 #[.agg (netCells n q)] w fun e w' => GotNI w w' n e ∧ Below w.heap.size w w' := by
  have H := Lib.hid hr
  clear hr
  unfold netCells
  go_enter Try.func18, Try.ntmps18
  go_wp2_with fail
  refine (laws_toMesh n.mesh q.a1 q.c1 _ (by exact Kd.C_below H.out.br (by with_reducible repeat (first | assumption | exact bw_refl _ | apply bw_alloc | apply bw_drew | apply bw_drewN | refine bw_set _ ?_ (by omega) | refine bw_then ?_ (by assumption)))) H.out.h1).mono ?_
  rintro e w1 ⟨hg1, hb1⟩
  obtain ⟨v1, rfl, HO1⟩ := hg1
  obtain ⟨A1, c1, rfl⟩ := Kd.R_slice HO1
  obtain ⟨hc1, hf1, hz1⟩ := bcell hb1; (try simp only [World.size_alloc, World.size_setCell, World.size_drew, sz_drewN] at hz1); have hb2 := (by first | exact bw_then hb2 hb1 | exact bw_then (bw_drewN _ hb2) hb1 | exact bw_then (bw_alloc _ hb2) hb1 | exact bw_then (bw_drew hb2) hb1 | exact bw_then HB hb1 | exact bw_then (bw_drewN _ HB) hb1 | exact bw_then (bw_alloc _ HB) hb1 | exact bw_then (bw_drew HB) hb1 | exact hb1); obtain ⟨hc2, hf2, hz2⟩ := bcell hb2; (try simp only [World.size_alloc, World.size_setCell, World.size_drew, sz_drewN] at hz2); try (first | obtain ⟨hy1, hy2, hy3, hy4⟩ := lts4 hz2 | obtain ⟨hy1, hy2, hy3⟩ := lts3 hz2 | obtain ⟨hy1, hy2⟩ := lts2 hz2 | have hy1 := lts1 hz2); have hb9 := hb1
  have za1 : w.heap.size < w1.heap.size := by omega
  have zb1 : w.heap.size + 1 < w1.heap.size := by omega
  have zc1 : w.heap.size + 1 + 1 < w1.heap.size := by omega
  have U1 : RU (Kd.int .i64) 3 w1 (w.heap.size + 1 + 1 + 1) w1.heap.size _ _ := RU.of HO1 (by simp only [World.size_alloc, World.size_setCell, World.size_drew, sz_drewN]; omega) (Nat.le_refl _)
  clear HO1
  go_wp2_with fail
  refine (laws_toClasses n.pa n.pb q.a2 q.a3 q.c2 q.c3 _ (by exact Kd.C_below H.out.pa (by with_reducible repeat (first | assumption | exact bw_refl _ | apply bw_alloc | apply bw_drew | apply bw_drewN | refine bw_set _ ?_ (by omega) | refine bw_then ?_ (by assumption)))) H.out.h2 (by exact Kd.C_below H.out.pb (by with_reducible repeat (first | assumption | exact bw_refl _ | apply bw_alloc | apply bw_drew | apply bw_drewN | refine bw_set _ ?_ (by omega) | refine bw_then ?_ (by assumption)))) H.out.h3).mono ?_
  rintro e w2 ⟨hg1, hb1⟩
  obtain ⟨v2, v3, rfl, HO2, HO3, hap⟩ := hg1
  obtain ⟨A2, c2, rfl⟩ := Kd.R_slice HO2
  obtain ⟨A3, c3, rfl⟩ := Kd.R_slice HO3
  obtain ⟨hc1, hf1, hz1⟩ := bcell hb1; (try simp only [World.size_alloc, World.size_setCell, World.size_drew, sz_drewN] at hz1); have hb2 := (by first | exact bw_then hb2 hb1 | exact bw_then (bw_drewN _ hb2) hb1 | exact bw_then (bw_alloc _ hb2) hb1 | exact bw_then (bw_drew hb2) hb1 | exact bw_then HB hb1 | exact bw_then (bw_drewN _ HB) hb1 | exact bw_then (bw_alloc _ HB) hb1 | exact bw_then (bw_drew HB) hb1 | exact hb1); obtain ⟨hc2, hf2, hz2⟩ := bcell hb2; (try simp only [World.size_alloc, World.size_setCell, World.size_drew, sz_drewN] at hz2); try (first | obtain ⟨hy1, hy2, hy3, hy4⟩ := lts4 hz2 | obtain ⟨hy1, hy2, hy3⟩ := lts3 hz2 | obtain ⟨hy1, hy2⟩ := lts2 hz2 | have hy1 := lts1 hz2); have hb9 := hb1
  have za2 : w.heap.size < w2.heap.size := by omega
  have zb2 : w.heap.size + 1 < w2.heap.size := by omega
  have zc2 : w.heap.size + 1 + 1 < w2.heap.size := by omega
  have U2 : RU (Kd.int .i64) 3 w2 w1.heap.size w2.heap.size _ _ := RU.of HO2 (by simp only [World.size_alloc, World.size_setCell, World.size_drew, sz_drewN]; omega) (Nat.le_refl _)
  have U3 : RU (Kd.int .i64) 3 w2 w1.heap.size w2.heap.size _ _ := RU.of HO3 (by simp only [World.size_alloc, World.size_setCell, World.size_drew, sz_drewN]; omega) (Nat.le_refl _)
  have zz2 : w1.heap.size ≤ w2.heap.size := by omega
  clear HO2 HO3
  go_wp2_with fail
  refine (laws_toFlitSS2 n.bufs q.a4 q.c4 _ (by exact Kd.C_below H.out.bufs (by with_reducible repeat (first | assumption | exact bw_refl _ | apply bw_alloc | apply bw_drew | apply bw_drewN | refine bw_set _ ?_ (by omega) | refine bw_then ?_ (by assumption)))) H.out.h4 (Lib.hid H.out.h9)).mono ?_
  rintro e w3 ⟨hg1, hb1⟩
  obtain ⟨v4, vs4, rfl, HO4⟩ := hg1
  obtain ⟨A4, c4, rfl⟩ := HO4.slice
  obtain ⟨hc1, hf1, hz1⟩ := bcell hb1; (try simp only [World.size_alloc, World.size_setCell, World.size_drew, sz_drewN] at hz1); have hb2 := (by first | exact bw_then hb2 hb1 | exact bw_then (bw_drewN _ hb2) hb1 | exact bw_then (bw_alloc _ hb2) hb1 | exact bw_then (bw_drew hb2) hb1 | exact bw_then HB hb1 | exact bw_then (bw_drewN _ HB) hb1 | exact bw_then (bw_alloc _ HB) hb1 | exact bw_then (bw_drew HB) hb1 | exact hb1); obtain ⟨hc2, hf2, hz2⟩ := bcell hb2; (try simp only [World.size_alloc, World.size_setCell, World.size_drew, sz_drewN] at hz2); try (first | obtain ⟨hy1, hy2, hy3, hy4⟩ := lts4 hz2 | obtain ⟨hy1, hy2, hy3⟩ := lts3 hz2 | obtain ⟨hy1, hy2⟩ := lts2 hz2 | have hy1 := lts1 hz2); have hb9 := hb1
  have za3 : w.heap.size < w3.heap.size := by omega
  have zb3 : w.heap.size + 1 < w3.heap.size := by omega
  have zc3 : w.heap.size + 1 + 1 < w3.heap.size := by omega
  have U4 : OB w3 w2.heap.size w3.heap.size _ _ vs4 := HO4.wide (by simp only [World.size_alloc, World.size_setCell, World.size_drew, sz_drewN]; omega) (Nat.le_refl _)
  have zz3 : w2.heap.size ≤ w3.heap.size := by omega
  clear HO4
  go_wp2_with fail
  refine (laws_toIntS n.owners q.a5 q.c5 _ (by exact Kd.C_below H.out.owners (by with_reducible repeat (first | assumption | exact bw_refl _ | apply bw_alloc | apply bw_drew | apply bw_drewN | refine bw_set _ ?_ (by omega) | refine bw_then ?_ (by assumption)))) H.out.h5).mono ?_
  rintro e w4 ⟨hg1, hb1⟩
  obtain ⟨v5, rfl, HO5⟩ := hg1
  obtain ⟨A5, c5, rfl⟩ := Kd.R_slice HO5
  obtain ⟨hc1, hf1, hz1⟩ := bcell hb1; (try simp only [World.size_alloc, World.size_setCell, World.size_drew, sz_drewN] at hz1); have hb2 := (by first | exact bw_then hb2 hb1 | exact bw_then (bw_drewN _ hb2) hb1 | exact bw_then (bw_alloc _ hb2) hb1 | exact bw_then (bw_drew hb2) hb1 | exact bw_then HB hb1 | exact bw_then (bw_drewN _ HB) hb1 | exact bw_then (bw_alloc _ HB) hb1 | exact bw_then (bw_drew HB) hb1 | exact hb1); obtain ⟨hc2, hf2, hz2⟩ := bcell hb2; (try simp only [World.size_alloc, World.size_setCell, World.size_drew, sz_drewN] at hz2); try (first | obtain ⟨hy1, hy2, hy3, hy4⟩ := lts4 hz2 | obtain ⟨hy1, hy2, hy3⟩ := lts3 hz2 | obtain ⟨hy1, hy2⟩ := lts2 hz2 | have hy1 := lts1 hz2); have hb9 := hb1
  have za4 : w.heap.size < w4.heap.size := by omega
  have zb4 : w.heap.size + 1 < w4.heap.size := by omega
  have zc4 : w.heap.size + 1 + 1 < w4.heap.size := by omega
  have U5 : RU (Kd.int .i64) 3 w4 w3.heap.size w4.heap.size _ _ := RU.of HO5 (by simp only [World.size_alloc, World.size_setCell, World.size_drew, sz_drewN]; omega) (Nat.le_refl _)
  have zz4 : w3.heap.size ≤ w4.heap.size := by omega
  clear HO5
  go_wp2_with fail
  refine (laws_toIntS n.turns q.a6 q.c6 _ (by exact Kd.C_below H.out.turns (by with_reducible repeat (first | assumption | exact bw_refl _ | apply bw_alloc | apply bw_drew | apply bw_drewN | refine bw_set _ ?_ (by omega) | refine bw_then ?_ (by assumption)))) H.out.h6).mono ?_
  rintro e w5 ⟨hg1, hb1⟩
  obtain ⟨v6, rfl, HO6⟩ := hg1
  obtain ⟨A6, c6, rfl⟩ := Kd.R_slice HO6
  obtain ⟨hc1, hf1, hz1⟩ := bcell hb1; (try simp only [World.size_alloc, World.size_setCell, World.size_drew, sz_drewN] at hz1); have hb2 := (by first | exact bw_then hb2 hb1 | exact bw_then (bw_drewN _ hb2) hb1 | exact bw_then (bw_alloc _ hb2) hb1 | exact bw_then (bw_drew hb2) hb1 | exact bw_then HB hb1 | exact bw_then (bw_drewN _ HB) hb1 | exact bw_then (bw_alloc _ HB) hb1 | exact bw_then (bw_drew HB) hb1 | exact hb1); obtain ⟨hc2, hf2, hz2⟩ := bcell hb2; (try simp only [World.size_alloc, World.size_setCell, World.size_drew, sz_drewN] at hz2); try (first | obtain ⟨hy1, hy2, hy3, hy4⟩ := lts4 hz2 | obtain ⟨hy1, hy2, hy3⟩ := lts3 hz2 | obtain ⟨hy1, hy2⟩ := lts2 hz2 | have hy1 := lts1 hz2); have hb9 := hb1
  have za5 : w.heap.size < w5.heap.size := by omega
  have zb5 : w.heap.size + 1 < w5.heap.size := by omega
  have zc5 : w.heap.size + 1 + 1 < w5.heap.size := by omega
  have U6 : RU (Kd.int .i64) 3 w5 w4.heap.size w5.heap.size _ _ := RU.of HO6 (by simp only [World.size_alloc, World.size_setCell, World.size_drew, sz_drewN]; omega) (Nat.le_refl _)
  have zz5 : w4.heap.size ≤ w5.heap.size := by omega
  clear HO6
  go_wp2_with fail
  refine (laws_toFlitSS2 n.srcs q.a7 q.c7 _ (by exact Kd.C_below H.out.srcs (by with_reducible repeat (first | assumption | exact bw_refl _ | apply bw_alloc | apply bw_drew | apply bw_drewN | refine bw_set _ ?_ (by omega) | refine bw_then ?_ (by assumption)))) H.out.h7 (Lib.hid H.out.h10)).mono ?_
  rintro e w6 ⟨hg1, hb1⟩
  obtain ⟨v7, vs7, rfl, HO7⟩ := hg1
  obtain ⟨A7, c7, rfl⟩ := HO7.slice
  obtain ⟨hc1, hf1, hz1⟩ := bcell hb1; (try simp only [World.size_alloc, World.size_setCell, World.size_drew, sz_drewN] at hz1); have hb2 := (by first | exact bw_then hb2 hb1 | exact bw_then (bw_drewN _ hb2) hb1 | exact bw_then (bw_alloc _ hb2) hb1 | exact bw_then (bw_drew hb2) hb1 | exact bw_then HB hb1 | exact bw_then (bw_drewN _ HB) hb1 | exact bw_then (bw_alloc _ HB) hb1 | exact bw_then (bw_drew HB) hb1 | exact hb1); obtain ⟨hc2, hf2, hz2⟩ := bcell hb2; (try simp only [World.size_alloc, World.size_setCell, World.size_drew, sz_drewN] at hz2); try (first | obtain ⟨hy1, hy2, hy3, hy4⟩ := lts4 hz2 | obtain ⟨hy1, hy2, hy3⟩ := lts3 hz2 | obtain ⟨hy1, hy2⟩ := lts2 hz2 | have hy1 := lts1 hz2); have hb9 := hb1
  have za6 : w.heap.size < w6.heap.size := by omega
  have zb6 : w.heap.size + 1 < w6.heap.size := by omega
  have zc6 : w.heap.size + 1 + 1 < w6.heap.size := by omega
  have U7 : OB w6 w5.heap.size w6.heap.size _ _ vs7 := HO7.wide (by simp only [World.size_alloc, World.size_setCell, World.size_drew, sz_drewN]; omega) (Nat.le_refl _)
  have zz6 : w5.heap.size ≤ w6.heap.size := by omega
  clear HO7
  go_wp2_with fail
  refine (laws_toFlitSS2 n.arrs q.a8 q.c8 _ (by exact Kd.C_below H.out.arrs (by with_reducible repeat (first | assumption | exact bw_refl _ | apply bw_alloc | apply bw_drew | apply bw_drewN | refine bw_set _ ?_ (by omega) | refine bw_then ?_ (by assumption)))) H.out.h8 (Lib.hid H.out.h11)).mono ?_
  rintro e w7 ⟨hg1, hb1⟩
  obtain ⟨v8, vs8, rfl, HO8⟩ := hg1
  obtain ⟨A8, c8, rfl⟩ := HO8.slice
  obtain ⟨hc1, hf1, hz1⟩ := bcell hb1; (try simp only [World.size_alloc, World.size_setCell, World.size_drew, sz_drewN] at hz1); have hb2 := (by first | exact bw_then hb2 hb1 | exact bw_then (bw_drewN _ hb2) hb1 | exact bw_then (bw_alloc _ hb2) hb1 | exact bw_then (bw_drew hb2) hb1 | exact bw_then HB hb1 | exact bw_then (bw_drewN _ HB) hb1 | exact bw_then (bw_alloc _ HB) hb1 | exact bw_then (bw_drew HB) hb1 | exact hb1); obtain ⟨hc2, hf2, hz2⟩ := bcell hb2; (try simp only [World.size_alloc, World.size_setCell, World.size_drew, sz_drewN] at hz2); try (first | obtain ⟨hy1, hy2, hy3, hy4⟩ := lts4 hz2 | obtain ⟨hy1, hy2, hy3⟩ := lts3 hz2 | obtain ⟨hy1, hy2⟩ := lts2 hz2 | have hy1 := lts1 hz2); have hb9 := hb1
  have za7 : w.heap.size < w7.heap.size := by omega
  have zb7 : w.heap.size + 1 < w7.heap.size := by omega
  have zc7 : w.heap.size + 1 + 1 < w7.heap.size := by omega
  have U8 : OB w7 w6.heap.size w7.heap.size _ _ vs8 := HO8.wide (by simp only [World.size_alloc, World.size_setCell, World.size_drew, sz_drewN]; omega) (Nat.le_refl _)
  have zz7 : w6.heap.size ≤ w7.heap.size := by omega
  clear HO8
  go_wp2
  refine bodyPost_ret (v := .agg (netCells n ⟨A1, A2, A3, A4, A5, A6, A7, A8, c1, c2, c3, c4, c5, c6, c7, c8⟩)) (by simp [results, Try.results18, go_sem, netCells, *]) rfl ⟨⟨_, seven (w.heap.size + 1 + 1 + 1) w1.heap.size w2.heap.size w3.heap.size w4.heap.size w5.heap.size w6.heap.size, seven w1.heap.size w2.heap.size w3.heap.size w4.heap.size w5.heap.size w6.heap.size w7.heap.size, vs4, vs7, vs8, rfl, lay_seq (by omega) zz2 zz3 zz4 zz5 zz6 zz7 (by omega) (by simp only [World.size_alloc, World.size_setCell, World.size_drew, sz_drewN]; omega), ?_⟩, (by with_reducible repeat (first | assumption | exact bw_refl _ | apply bw_alloc | apply bw_drew | apply bw_drewN | refine bw_set _ ?_ (by omega) | refine bw_then ?_ (by assumption)))⟩
  refine ⟨?_, ?_, ?_, apart_comm hap, ?_, ?_, ?_, ?_, ?_⟩
  all_goals (simp only [seven]; with_reducible repeat (first | exact U1 | exact U2 | exact U3 | exact U4 | exact U5 | exact U6 | exact U7 | exact U8 | (refine RU.off ?_ (by omega) _ _) | (refine OB.off ?_ (by omega) _ _) | (refine RU.bel (by assumption) ?_) | (refine OB.bel (by assumption) ?_)))
end Go.Proofs.Ytinnfahmfggghaa
