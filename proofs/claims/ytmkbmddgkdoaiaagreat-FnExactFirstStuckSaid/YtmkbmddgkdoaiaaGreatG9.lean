/- Lemmas for laws of this seat, for all inputs: Cp CpL StH Run Put. -/
import Derived.Test.YtmkbmddgkdoaiaaGreatG8
import Derived.Test.YtmkbmddgkdoaiaaGreatG5
import Derived.Test.YtmkbmddgkdoaiaaGreatG7
import Derived.Test.YtmkbmddgkdoaiaaGreatG2
/- Copies of tables, meshes and lists of flits: both sides; for all rows of at most two million entries. -/
set_option linter.unusedVariables false
set_option linter.unusedSimpArgs false
namespace Go.Proofs.YtmkbmddgkdoaiaaGreat
open Go.RowKit Go.Proofs.YtmkbmddgkdoaiaaGreatW.PrintWords
open NoC

theorem stp_refl (w : World) : Stp w w := ⟨Below.refl _ _⟩
theorem stp_drew {w W : World} (h : Stp w W) : Stp w W.drew := ⟨bw_drew h.h⟩
theorem stp_then {w W W' : World} (h : Stp w W) (k : Stp W W') : Stp w W' := ⟨bw_then h.h k.h⟩
theorem GotTab.at {w w' : World} {t : List Int} {e : Ending} (h : GotTab w w' t e) : ∃ A c, e = .returned (.agg #[.slice A t.length c]) ∧ Kd.R (Kd.int .i64) 3 w' w.heap.size (fun _ => True) (.slice A t.length c) t := by
  obtain ⟨v, rfl, hr⟩ := h
  obtain ⟨A, c, rfl⟩ := Kd.R_slice hr
  exact ⟨A, c, rfl, hr⟩
set_option maxHeartbeats 1000000 in
theorem impl_copyTable (t : List Int) (A : Option Addr) (c : Nat) (w : World) (hr : Kd.C (Kd.int .i64) w A t.length t) (hn : t.length ≤ 2097152) :
    Calls Tryz.prog 139 #[.agg #[.slice A t.length c]] w fun e w' => GotTab w w' t e ∧ Below w.heap.size w w' := by
  have R := Lib.hid hr
  clear hr
  go_enter Tryz.func139, Tryz.ntmps139
  go_wp2_with (at_builtin; (refine copy_int (B := ((w.alloc (.cells #[.slice A t.length c] 39)).alloc (.cells #[.slice none 0 0] 39)).heap.size) rfl (.tmp 3) (.tmp 5) rfl _ t A c rfl rfl (by with_reducible repeat (first | assumption | (refine lit_new ?_; first | done | rfl | (simp only [World.size_alloc, World.size_drew, World.size_setCell]; done)) | exact lit_new (by simp only [World.size_alloc, World.size_drew, World.size_setCell]) | refine lit_stp (by assumption) ?_ | refine lit_alloc _ ?_ | refine lit_drew ?_)) (by simp only [szs]; omega) (by exact Kd.C_below R.out bel) (by simp only [szs]; omega) (by omega) ?_; intro v1 w1 HO1 hb1 ht1; obtain ⟨A1, c1, rfl⟩ := Kd.R_slice HO1; obtain ⟨hc1, hf1, hz1⟩ := bcell hb1; (try simp only [szs] at hz1); have hb2 := (by first | exact bw_then hb2 hb1 | exact bw_then (bw_drewN _ hb2) hb1 | exact bw_then (bw_alloc _ hb2) hb1 | exact bw_then (bw_drew hb2) hb1 | exact bw_then HB hb1 | exact bw_then (bw_drewN _ HB) hb1 | exact bw_then (bw_alloc _ HB) hb1 | exact bw_then (bw_drew HB) hb1 | exact hb1); obtain ⟨hc2, hf2, hz2⟩ := bcell hb2; (try simp only [szs] at hz2); try (first | obtain ⟨hy1, hy2, hy3, hy4⟩ := lts4 hz2 | obtain ⟨hy1, hy2, hy3⟩ := lts3 hz2 | obtain ⟨hy1, hy2⟩ := lts2 hz2 | have hy1 := lts1 hz2); have hb9 := hb1))
  exact bodyPost_ret (v := .agg #[.slice A1 t.length c1]) (by simp [results, Tryz.results139, go_sem, *]) rfl ⟨⟨_, rfl, (by apply Kd.R_lower; (with_reducible repeat (first | exact HO1 | apply R_off | (apply R_belowC; assumption))); all_goals (first | omega | (simp only [szs]; omega)))⟩, bel⟩
set_option maxHeartbeats 1000000 in
theorem spec_l12Copy (t : List Int) (A : Option Addr) (c : Nat) (w : World) (hr : Kd.C (Kd.int .i64) w A t.length t) (hn : t.length ≤ 2097152) :
    Calls Tryz.prog 164 #[.agg #[.slice A t.length c]] w fun e w' => GotTab w w' t e ∧ Below w.heap.size w w' := by
  have R := Lib.hid hr
  clear hr
  go_enter Tryz.func164, Tryz.ntmps164
  go_wp2_with (at_builtin; (refine copy_int (B := ((w.alloc (.cells #[.slice A t.length c] 39)).alloc (.cells #[.slice none 0 0] 39)).heap.size) rfl (.tmp 3) (.tmp 5) rfl _ t A c rfl rfl (by with_reducible repeat (first | assumption | (refine lit_new ?_; first | done | rfl | (simp only [World.size_alloc, World.size_drew, World.size_setCell]; done)) | exact lit_new (by simp only [World.size_alloc, World.size_drew, World.size_setCell]) | refine lit_stp (by assumption) ?_ | refine lit_alloc _ ?_ | refine lit_drew ?_)) (by simp only [szs]; omega) (by exact Kd.C_below R.out bel) (by simp only [szs]; omega) (by omega) ?_; intro v1 w1 HO1 hb1 ht1; obtain ⟨A1, c1, rfl⟩ := Kd.R_slice HO1; obtain ⟨hc1, hf1, hz1⟩ := bcell hb1; (try simp only [szs] at hz1); have hb2 := (by first | exact bw_then hb2 hb1 | exact bw_then (bw_drewN _ hb2) hb1 | exact bw_then (bw_alloc _ hb2) hb1 | exact bw_then (bw_drew hb2) hb1 | exact bw_then HB hb1 | exact bw_then (bw_drewN _ HB) hb1 | exact bw_then (bw_alloc _ HB) hb1 | exact bw_then (bw_drew HB) hb1 | exact hb1); obtain ⟨hc2, hf2, hz2⟩ := bcell hb2; (try simp only [szs] at hz2); try (first | obtain ⟨hy1, hy2, hy3, hy4⟩ := lts4 hz2 | obtain ⟨hy1, hy2, hy3⟩ := lts3 hz2 | obtain ⟨hy1, hy2⟩ := lts2 hz2 | have hy1 := lts1 hz2); have hb9 := hb1))
  exact bodyPost_ret (v := .agg #[.slice A1 t.length c1]) (by simp [results, Tryz.results164, go_sem, *]) rfl ⟨⟨_, rfl, (by apply Kd.R_lower; (with_reducible repeat (first | exact HO1 | apply R_off | (apply R_belowC; assumption))); all_goals (first | omega | (simp only [szs]; omega)))⟩, bel⟩
set_option maxHeartbeats 2000000 in
theorem impl_copyMesh (m : Mesh) (A : Option Addr) (c : Nat) (w : World) (hr : Kd.C (Kd.int .i64) w A m.br.length m.br) (hn : m.br.length ≤ 2097152) :
    Calls Tryz.prog 101 #[.agg #[.int .i64 m.g.w, .int .i64 m.g.h, .slice A m.br.length c]] w fun e w' => GotMesh w w' m e ∧ Below w.heap.size w w' := by
  have R := Lib.hid hr
  clear hr
  have xx := (Box.new w w.heap.size #[.int .i64 m.g.w, .int .i64 m.g.h, .slice A m.br.length c] 38 rfl)
  have g0 : (w.alloc (.cells #[.int .i64 m.g.w, .int .i64 m.g.h, .slice A m.br.length c] 38)).cell? ⟨w.heap.size, 0, none⟩ = some (.int .i64 m.g.w) := xx.get 0
  have g1 : (w.alloc (.cells #[.int .i64 m.g.w, .int .i64 m.g.h, .slice A m.br.length c] 38)).cell? ⟨w.heap.size, 1, none⟩ = some (.int .i64 m.g.h) := xx.get 1
  have g2 : (w.alloc (.cells #[.int .i64 m.g.w, .int .i64 m.g.h, .slice A m.br.length c] 38)).cell? ⟨w.heap.size, 2, none⟩ = some (.slice A m.br.length c) := xx.get 2
  clear xx
  go_enter Tryz.func101, Tryz.ntmps101
  go_wp2_with fail
  go_region_held3 (fun w' => Below ((w.alloc (.cells #[.int .i64 m.g.w, .int .i64 m.g.h, .slice A m.br.length c] 38))).heap.size ((w.alloc (.cells #[.int .i64 m.g.w, .int .i64 m.g.h, .slice A m.br.length c] 38))) w' ∧ ∀ bq oq, bq < ((w.alloc (.cells #[.int .i64 m.g.w, .int .i64 m.g.h, .slice A m.br.length c] 38))).heap.size → w'.cell? ⟨bq, oq, none⟩ = ((w.alloc (.cells #[.int .i64 m.g.w, .int .i64 m.g.h, .slice A m.br.length c] 38))).cell? ⟨bq, oq, none⟩) (first | exact far_of bel) ( first | (refine copyS_int (B := ((w.alloc (.cells #[.int .i64 m.g.w, .int .i64 m.g.h, .slice A m.br.length c] 38)).alloc (.cells #[.int .i64 0, .int .i64 0, .slice none 0 0] 38)).heap.size) (by rfl) (.tmp 5) (.tmp 7) rfl _ m.br A c rfl rfl (by with_reducible repeat (first | assumption | (refine lit_new ?_; first | done | rfl | (simp only [World.size_alloc, World.size_drew, World.size_setCell]; done)) | exact lit_new (by simp only [World.size_alloc, World.size_drew, World.size_setCell]) | refine lit_stp (by assumption) ?_ | refine lit_alloc _ ?_ | refine lit_drew ?_)) (by simp only [szs]; omega) (by exact Kd.C_below R.out bel) (by simp only [szs]; omega) (by omega) ?_; intro v1 w1 HO1 hb1 ht1; obtain ⟨A1, c1, rfl⟩ := Kd.R_slice HO1; obtain ⟨hc1, hf1, hz1⟩ := bcell hb1; (try simp only [szs] at hz1); have hb2 := (by first | exact bw_then hb2 hb1 | exact bw_then (bw_drewN _ hb2) hb1 | exact bw_then (bw_alloc _ hb2) hb1 | exact bw_then (bw_drew hb2) hb1 | exact bw_then HB hb1 | exact bw_then (bw_drewN _ HB) hb1 | exact bw_then (bw_alloc _ HB) hb1 | exact bw_then (bw_drew HB) hb1 | exact hb1); obtain ⟨hc2, hf2, hz2⟩ := bcell hb2; (try simp only [szs] at hz2); try (first | obtain ⟨hy1, hy2, hy3, hy4⟩ := lts4 hz2 | obtain ⟨hy1, hy2, hy3⟩ := lts3 hz2 | obtain ⟨hy1, hy2⟩ := lts2 hz2 | have hy1 := lts1 hz2); have hb9 := hb1))
  all_goals go_wp2
  all_goals exact bodyPost_ret (v := .agg #[.int .i64 m.g.w, .int .i64 m.g.h, .slice A1 m.br.length c1]) (by simp [results, Tryz.results101, go_sem, *]) rfl ⟨⟨_, rfl, (by apply Kd.R_lower; (with_reducible repeat (first | exact HO1 | apply R_off | (apply R_belowC; assumption))); all_goals (first | omega | (simp only [szs]; omega)))⟩, bel⟩
set_option maxHeartbeats 2000000 in
theorem spec_l15Mesh (m : Mesh) (A : Option Addr) (c : Nat) (w : World) (hr : Kd.C (Kd.int .i64) w A m.br.length m.br) (hn : m.br.length ≤ 2097152) :
    Calls Tryz.prog 136 #[.agg #[.int .i64 m.g.w, .int .i64 m.g.h, .slice A m.br.length c]] w fun e w' => GotMesh w w' m e ∧ Below w.heap.size w w' := by
  have R := Lib.hid hr
  clear hr
  have xx := (Box.new w w.heap.size #[.int .i64 m.g.w, .int .i64 m.g.h, .slice A m.br.length c] 38 rfl)
  have g0 : (w.alloc (.cells #[.int .i64 m.g.w, .int .i64 m.g.h, .slice A m.br.length c] 38)).cell? ⟨w.heap.size, 0, none⟩ = some (.int .i64 m.g.w) := xx.get 0
  have g1 : (w.alloc (.cells #[.int .i64 m.g.w, .int .i64 m.g.h, .slice A m.br.length c] 38)).cell? ⟨w.heap.size, 1, none⟩ = some (.int .i64 m.g.h) := xx.get 1
  have g2 : (w.alloc (.cells #[.int .i64 m.g.w, .int .i64 m.g.h, .slice A m.br.length c] 38)).cell? ⟨w.heap.size, 2, none⟩ = some (.slice A m.br.length c) := xx.get 2
  clear xx
  go_enter Tryz.func136, Tryz.ntmps136
  go_wp2_with fail
  go_region_held3 (fun w' => Below ((w.alloc (.cells #[.int .i64 m.g.w, .int .i64 m.g.h, .slice A m.br.length c] 38))).heap.size ((w.alloc (.cells #[.int .i64 m.g.w, .int .i64 m.g.h, .slice A m.br.length c] 38))) w' ∧ ∀ bq oq, bq < ((w.alloc (.cells #[.int .i64 m.g.w, .int .i64 m.g.h, .slice A m.br.length c] 38))).heap.size → w'.cell? ⟨bq, oq, none⟩ = ((w.alloc (.cells #[.int .i64 m.g.w, .int .i64 m.g.h, .slice A m.br.length c] 38))).cell? ⟨bq, oq, none⟩) (first | exact far_of bel) ( first | (refine copyS_int (B := ((w.alloc (.cells #[.int .i64 m.g.w, .int .i64 m.g.h, .slice A m.br.length c] 38)).alloc (.cells #[.int .i64 0, .int .i64 0, .slice none 0 0] 38)).heap.size) (by rfl) (.tmp 5) (.tmp 7) rfl _ m.br A c rfl rfl (by with_reducible repeat (first | assumption | (refine lit_new ?_; first | done | rfl | (simp only [World.size_alloc, World.size_drew, World.size_setCell]; done)) | exact lit_new (by simp only [World.size_alloc, World.size_drew, World.size_setCell]) | refine lit_stp (by assumption) ?_ | refine lit_alloc _ ?_ | refine lit_drew ?_)) (by simp only [szs]; omega) (by exact Kd.C_below R.out bel) (by simp only [szs]; omega) (by omega) ?_; intro v1 w1 HO1 hb1 ht1; obtain ⟨A1, c1, rfl⟩ := Kd.R_slice HO1; obtain ⟨hc1, hf1, hz1⟩ := bcell hb1; (try simp only [szs] at hz1); have hb2 := (by first | exact bw_then hb2 hb1 | exact bw_then (bw_drewN _ hb2) hb1 | exact bw_then (bw_alloc _ hb2) hb1 | exact bw_then (bw_drew hb2) hb1 | exact bw_then HB hb1 | exact bw_then (bw_drewN _ HB) hb1 | exact bw_then (bw_alloc _ HB) hb1 | exact bw_then (bw_drew HB) hb1 | exact hb1); obtain ⟨hc2, hf2, hz2⟩ := bcell hb2; (try simp only [szs] at hz2); try (first | obtain ⟨hy1, hy2, hy3, hy4⟩ := lts4 hz2 | obtain ⟨hy1, hy2, hy3⟩ := lts3 hz2 | obtain ⟨hy1, hy2⟩ := lts2 hz2 | have hy1 := lts1 hz2); have hb9 := hb1))
  all_goals go_wp2
  all_goals exact bodyPost_ret (v := .agg #[.int .i64 m.g.w, .int .i64 m.g.h, .slice A1 m.br.length c1]) (by simp [results, Tryz.results136, go_sem, *]) rfl ⟨⟨_, rfl, (by apply Kd.R_lower; (with_reducible repeat (first | exact HO1 | apply R_off | (apply R_belowC; assumption))); all_goals (first | omega | (simp only [szs]; omega)))⟩, bel⟩
set_option maxHeartbeats 2000000 in
theorem impl_copyClasses (pa pb : List Int) (A B : Option Addr) (c d : Nat) (w : World) (hr : Kd.C (Kd.int .i64) w A pa.length pa) (hn : pa.length ≤ 2097152) (hs : Kd.C (Kd.int .i64) w B pb.length pb) (hm : pb.length ≤ 2097152) :
    Calls Tryz.prog 102 #[.agg #[.slice A pa.length c, .slice B pb.length d]] w fun e w' => GotCls w w' pa pb e ∧ Below w.heap.size w w' := by
  have R := Lib.hid hr
  have S := Lib.hid hs
  clear hr hs
  have xx := (Box.new w w.heap.size #[.slice A pa.length c, .slice B pb.length d] 41 rfl)
  have g0 : (w.alloc (.cells #[.slice A pa.length c, .slice B pb.length d] 41)).cell? ⟨w.heap.size, 0, none⟩ = some (.slice A pa.length c) := xx.get 0
  have g1 : (w.alloc (.cells #[.slice A pa.length c, .slice B pb.length d] 41)).cell? ⟨w.heap.size, 1, none⟩ = some (.slice B pb.length d) := xx.get 1
  clear xx
  go_enter Tryz.func102, Tryz.ntmps102
  go_wp2_with fail
  go_region_held3 (fun w' => Below ((w.alloc (.cells #[.slice A pa.length c, .slice B pb.length d] 41))).heap.size ((w.alloc (.cells #[.slice A pa.length c, .slice B pb.length d] 41))) w' ∧ ∀ bq oq, bq < ((w.alloc (.cells #[.slice A pa.length c, .slice B pb.length d] 41))).heap.size → w'.cell? ⟨bq, oq, none⟩ = ((w.alloc (.cells #[.slice A pa.length c, .slice B pb.length d] 41))).cell? ⟨bq, oq, none⟩) (first | exact far_of bel) ( first | (go_at_call_of 139 pa; refine (impl_copyTable pa A c _ (by exact Kd.C_below R.out bel) hn).mono ?_; rintro e wa ⟨hg1, hba⟩; obtain ⟨Aa, ca, rfl, HOA⟩ := hg1.at; have sa := bw_size hba; (try simp only [szs] at sa); have hb1 := hba; obtain ⟨hc1, hf1, hz1⟩ := bcell hb1; (try simp only [szs] at hz1); have hb2 := (by first | exact bw_then hb2 hb1 | exact bw_then (bw_drewN _ hb2) hb1 | exact bw_then (bw_alloc _ hb2) hb1 | exact bw_then (bw_drew hb2) hb1 | exact bw_then HB hb1 | exact bw_then (bw_drewN _ HB) hb1 | exact bw_then (bw_alloc _ HB) hb1 | exact bw_then (bw_drew HB) hb1 | exact hb1); obtain ⟨hc2, hf2, hz2⟩ := bcell hb2; (try simp only [szs] at hz2); try (first | obtain ⟨hy1, hy2, hy3, hy4⟩ := lts4 hz2 | obtain ⟨hy1, hy2, hy3⟩ := lts3 hz2 | obtain ⟨hy1, hy2⟩ := lts2 hz2 | have hy1 := lts1 hz2); have hb9 := hb1) | (go_at_call_of 139 pb; refine (impl_copyTable pb B d _ (by exact Kd.C_below S.out bel) hm).mono ?_; rintro e wb ⟨hg1, hbb⟩; obtain ⟨Ab, cb, rfl, HOB⟩ := hg1.at; have sb := bw_size hbb; (try simp only [szs] at sb); have hb1 := hbb; obtain ⟨hc1, hf1, hz1⟩ := bcell hb1; (try simp only [szs] at hz1); have hb2 := (by first | exact bw_then hb2 hb1 | exact bw_then (bw_drewN _ hb2) hb1 | exact bw_then (bw_alloc _ hb2) hb1 | exact bw_then (bw_drew hb2) hb1 | exact bw_then HB hb1 | exact bw_then (bw_drewN _ HB) hb1 | exact bw_then (bw_alloc _ HB) hb1 | exact bw_then (bw_drew HB) hb1 | exact hb1); obtain ⟨hc2, hf2, hz2⟩ := bcell hb2; (try simp only [szs] at hz2); try (first | obtain ⟨hy1, hy2, hy3, hy4⟩ := lts4 hz2 | obtain ⟨hy1, hy2, hy3⟩ := lts3 hz2 | obtain ⟨hy1, hy2⟩ := lts2 hz2 | have hy1 := lts1 hz2); have hb9 := hb1))
  all_goals go_wp2
  all_goals exact bodyPost_ret (v := .agg #[.slice Aa pa.length ca, .slice Ab pb.length cb]) (by simp [results, Tryz.results102, go_sem, *]) rfl ⟨⟨_, _, rfl, (by apply Kd.R_lower; (with_reducible repeat (first | exact HOA | apply R_off | (apply R_belowC; assumption))); all_goals (first | omega | (simp only [szs]; omega))), (by apply Kd.R_lower; (with_reducible repeat (first | exact HOB | apply R_off | (apply R_belowC; assumption))); all_goals (first | omega | (simp only [szs]; omega))), R_apart HOA HOB (by first | omega | (simp only [szs]; omega))⟩, bel⟩
set_option maxHeartbeats 2000000 in
theorem spec_l15Classes (pa pb : List Int) (A B : Option Addr) (c d : Nat) (w : World) (hr : Kd.C (Kd.int .i64) w A pa.length pa) (hn : pa.length ≤ 2097152) (hs : Kd.C (Kd.int .i64) w B pb.length pb) (hm : pb.length ≤ 2097152) :
    Calls Tryz.prog 137 #[.agg #[.slice A pa.length c, .slice B pb.length d]] w fun e w' => GotCls w w' pa pb e ∧ Below w.heap.size w w' := by
  have R := Lib.hid hr
  have S := Lib.hid hs
  clear hr hs
  have xx := (Box.new w w.heap.size #[.slice A pa.length c, .slice B pb.length d] 41 rfl)
  have g0 : (w.alloc (.cells #[.slice A pa.length c, .slice B pb.length d] 41)).cell? ⟨w.heap.size, 0, none⟩ = some (.slice A pa.length c) := xx.get 0
  have g1 : (w.alloc (.cells #[.slice A pa.length c, .slice B pb.length d] 41)).cell? ⟨w.heap.size, 1, none⟩ = some (.slice B pb.length d) := xx.get 1
  clear xx
  go_enter Tryz.func137, Tryz.ntmps137
  go_wp2_with fail
  go_region_held3 (fun w' => Below ((w.alloc (.cells #[.slice A pa.length c, .slice B pb.length d] 41))).heap.size ((w.alloc (.cells #[.slice A pa.length c, .slice B pb.length d] 41))) w' ∧ ∀ bq oq, bq < ((w.alloc (.cells #[.slice A pa.length c, .slice B pb.length d] 41))).heap.size → w'.cell? ⟨bq, oq, none⟩ = ((w.alloc (.cells #[.slice A pa.length c, .slice B pb.length d] 41))).cell? ⟨bq, oq, none⟩) (first | exact far_of bel) ( first | (go_at_call_of 164 pa; refine (spec_l12Copy pa A c _ (by exact Kd.C_below R.out bel) hn).mono ?_; rintro e wa ⟨hg1, hba⟩; obtain ⟨Aa, ca, rfl, HOA⟩ := hg1.at; have sa := bw_size hba; (try simp only [szs] at sa); have hb1 := hba; obtain ⟨hc1, hf1, hz1⟩ := bcell hb1; (try simp only [szs] at hz1); have hb2 := (by first | exact bw_then hb2 hb1 | exact bw_then (bw_drewN _ hb2) hb1 | exact bw_then (bw_alloc _ hb2) hb1 | exact bw_then (bw_drew hb2) hb1 | exact bw_then HB hb1 | exact bw_then (bw_drewN _ HB) hb1 | exact bw_then (bw_alloc _ HB) hb1 | exact bw_then (bw_drew HB) hb1 | exact hb1); obtain ⟨hc2, hf2, hz2⟩ := bcell hb2; (try simp only [szs] at hz2); try (first | obtain ⟨hy1, hy2, hy3, hy4⟩ := lts4 hz2 | obtain ⟨hy1, hy2, hy3⟩ := lts3 hz2 | obtain ⟨hy1, hy2⟩ := lts2 hz2 | have hy1 := lts1 hz2); have hb9 := hb1) | (go_at_call_of 164 pb; refine (spec_l12Copy pb B d _ (by exact Kd.C_below S.out bel) hm).mono ?_; rintro e wb ⟨hg1, hbb⟩; obtain ⟨Ab, cb, rfl, HOB⟩ := hg1.at; have sb := bw_size hbb; (try simp only [szs] at sb); have hb1 := hbb; obtain ⟨hc1, hf1, hz1⟩ := bcell hb1; (try simp only [szs] at hz1); have hb2 := (by first | exact bw_then hb2 hb1 | exact bw_then (bw_drewN _ hb2) hb1 | exact bw_then (bw_alloc _ hb2) hb1 | exact bw_then (bw_drew hb2) hb1 | exact bw_then HB hb1 | exact bw_then (bw_drewN _ HB) hb1 | exact bw_then (bw_alloc _ HB) hb1 | exact bw_then (bw_drew HB) hb1 | exact hb1); obtain ⟨hc2, hf2, hz2⟩ := bcell hb2; (try simp only [szs] at hz2); try (first | obtain ⟨hy1, hy2, hy3, hy4⟩ := lts4 hz2 | obtain ⟨hy1, hy2, hy3⟩ := lts3 hz2 | obtain ⟨hy1, hy2⟩ := lts2 hz2 | have hy1 := lts1 hz2); have hb9 := hb1))
  all_goals go_wp2
  all_goals exact bodyPost_ret (v := .agg #[.slice Aa pa.length ca, .slice Ab pb.length cb]) (by simp [results, Tryz.results137, go_sem, *]) rfl ⟨⟨_, _, rfl, (by apply Kd.R_lower; (with_reducible repeat (first | exact HOA | apply R_off | (apply R_belowC; assumption))); all_goals (first | omega | (simp only [szs]; omega))), (by apply Kd.R_lower; (with_reducible repeat (first | exact HOB | apply R_off | (apply R_belowC; assumption))); all_goals (first | omega | (simp only [szs]; omega))), R_apart HOA HOB (by first | omega | (simp only [szs]; omega))⟩, bel⟩
end Go.Proofs.YtmkbmddgkdoaiaaGreat
/- Copies of lists of rows of flits: both sides; for all lists of at most two million rows of at most two million flits. -/
set_option linter.unusedVariables false
set_option linter.unusedSimpArgs false
namespace Go.Proofs.YtmkbmddgkdoaiaaGreat
open Go.RowKit Go.Proofs.YtmkbmddgkdoaiaaGreatW.PrintWords
open NoC

theorem own_lit0 {e g B sz : Nat} {w : World} (h : Lit e w g) (hB : B ≤ g) : w.ownsRow B e sz (.slice (some ⟨g, 0, none⟩) 0 0) 0 [] :=
  ⟨by simp, .inr ⟨g, 0, #[], rfl, hB, h, Nat.le_refl _, Nat.zero_le _, by simp, by simp⟩⟩
theorem FR.nil (w : World) (lo : Nat) : FR w lo [] [] := ⟨rfl, fun i h => absurd h (Nat.not_lt_zero _), fun i j _ h => absurd h (Nat.not_lt_zero _)⟩
theorem FR.snoc {w : World} {lo : Nat} {vs : List Value} {l : List (List Flit)} {u : Value} {y : List Flit} (h : FR w lo vs l) (hu : kF.R 121 w lo (fun _ => True) u y) (ha : ∀ i : Nat, i < l.length → Apart (vr vs i) u) : FR w lo (vs ++ [u]) (l ++ [y]) := by
  have hl := h.len
  have e1 : ∀ i : Nat, i < l.length → vr (vs ++ [u]) i = vr vs i := fun i hi => vr_left (by omega)
  have e2 : vr (vs ++ [u]) l.length = u := by
    have := vr_right (a := vs) (b := [u]) (i := 0)
    rw [Nat.add_zero, hl] at this
    exact this
  refine ⟨by simp [hl], fun i hi => ?_, fun i j hij hj => ?_⟩
  · rw [List.length_append, List.length_singleton] at hi
    by_cases e : i < l.length
    · rw [e1 i e, rl_left e]
      exact h.row i e
    · obtain rfl : i = l.length := by omega
      rw [e2]
      have := rl_right (a := l) (b := [y]) (i := 0)
      rw [Nat.add_zero] at this
      rw [this]
      exact hu
  · rw [List.length_append, List.length_singleton] at hj
    by_cases e : j < l.length
    · rw [e1 i (by omega), e1 j e]
      exact h.ap i j hij e
    · obtain rfl : j = l.length := by omega
      rw [e2, e1 i hij]
      exact ha i hij
theorem FR.other {w w1 : World} {lo base n : Nat} {vs us : List Value} {l : List (List Flit)} {v : Value} (h : FR w lo vs l) (ho : w.ownsRow base 108 1 v n us) (hg : w.grownBy w1 v.ownBlock) : FR w1 lo vs l :=
  ⟨h.len, fun i hi => by obtain ⟨inner, hin⟩ := Kd.R_own (h.row i hi); exact R_grownF (h.row i hi) hg (own_type_ne hin ho (by decide)), h.ap⟩
theorem RF_other {w w1 : World} {lo base n : Nat} {us : List Value} {u : Value} {y : List Flit} {v : Value} (h : kF.R 121 w lo (fun _ => True) u y) (ho : w.ownsRow base 108 1 v n us) (hg : w.grownBy w1 v.ownBlock) : kF.R 121 w1 lo (fun _ => True) u y := by
  obtain ⟨inner, hin⟩ := Kd.R_own h
  exact R_grownF h hg (own_type_ne hin ho (by decide))
def GotOX (w w' : World) (l : List (List Flit)) (e : Ending) : Prop := ∃ A c vs, e = .returned (.slice A l.length c) ∧ w'.ownsRow w.heap.size 108 1 (.slice A l.length c) l.length vs ∧ FR w' w.heap.size vs l
theorem take_snocB (l : List (List Flit)) (k : Nat) (hk : k < l.length) : l.take (k + 1) = l.take k ++ [rl l k] := by
  have : rl l (k : Int) = l[k] := by simp [rl, List.getD_eq_getElem?_getD, hk]
  rw [this, List.take_succ_eq_append_getElem hk]
section
variable {ops : Array Oper} {rest : List Oper} {o : Oper} {a : Act} {Q : Exit → Act → World → Prop}
theorem app_row {B : Nat} {W0 W : World} (hgd : o.guard = none) (s x : Operand)
    (ho : o.op = .call { callee := .builtin .append, args := #[s, x], argTypes := #[42, 42] })
    (v u : Value) (vs : List Value) (l : List (List Flit)) (y : List Flit) (hs : a.eval s = v) (hx : a.eval x = .slice (some ⟨W.heap.size, 0, none⟩) 1 1) (h1 : u.oneCell' = true)
    (HO : W.ownsRow B 108 1 v vs.length vs) (HF : FR W B vs l) (HU : kF.R 121 W B (fun _ => True) u y) (ha : ∀ i : Nat, i < l.length → Apart (vr vs i) u)
    (HB : Below B W0 W) (hB : B ≤ W.heap.size) (hl : vs.length ≤ 10000000)
    (h : ∀ v1 w1, w1.ownsRow B 108 1 v1 (vs ++ [u]).length (vs ++ [u]) → FR w1 B (vs ++ [u]) (l ++ [y]) → Below B W0 w1 → wpList Tryz.prog ops Q rest (a.put o.dst v1) w1) : wpList Tryz.prog ops Q (o :: rest) a (W.alloc (.cells #[u] 108)) := by
  refine print_append (P := Tryz.prog) (w0 := W0) B hgd s x 42 108 (.slice none 0 0) 24 ho Tryz.underlying42 info_B rfl (by omega) v vs u hs hx h1 HO HB hB (by omega) ?_
  intro v1 w1 hown hb hg hat
  exact h v1 w1 hown ((HF.other HO hg).snoc (RF_other HU HO hg) ha) hb
end
set_option maxHeartbeats 2000000 in
set_option maxRecDepth 100000 in
theorem impl_copyLists (l : List (List Flit)) (A : Option Addr) (c : Nat) (w : World) (hr : (kB 121).C w A l.length l) (hn : l.length ≤ 2097152) (hm : Hid (∀ x ∈ l, x.length ≤ 2097152)) :
    Calls Tryz.prog 103 #[.slice A l.length c] w fun e w' => GotOX w w' l e ∧ Below w.heap.size w w' := by
  go_enter Tryz.func103, Tryz.ntmps103
  go_wp2
  go_loopw [3, 9] (fun v i wr => ∃ vs : List Value, i = .int .i64 vs.length ∧ vs.length ≤ l.length ∧ Hid (wr.ownsRow w.heap.size 108 1 v vs.length vs) ∧ Hid (FR wr w.heap.size vs (l.take vs.length)) ∧ Below w.heap.size w wr) (fun _ i _ => l.length - (intOf i).toNat)
  case atStart => exact ⟨[], rfl, Nat.zero_le _, Lib.hid (own_lit0 (lit_new rfl) (Nat.le_refl _)), Lib.hid (FR.nil _ _), bel⟩
  case round =>
    obtain ⟨vs, rfl, hk, HO, HF, HB⟩ := hrel
    obtain ⟨Ao, co, rfl⟩ := own_slice HO.out
    have hzr := bw_size HB
    by_cases hlt : vs.length < l.length
    · have i0 : (vs.length : Int) < (l.length : Int) := by omega
      have k0 : (0 : Int) ≤ (vs.length : Int) := by omega
      obtain ⟨b, off, rfl, hb, Ai, ci, p0, hle, hCi⟩ := rdB_at (Kd.C_below hr HB) vs.length hlt
      have hki := hm.out _ (rl_mem hlt)
      have HT := Lib.hid (take_snocB l vs.length hlt)
      have HW : Hid (∀ i : Nat, i < (l.take vs.length).length → Within (vr vs i) w.heap.size wr.heap.size) := Lib.hid (fun i hi => within_R (HF.out.row i hi))
      go_wp2_with (first | (at_builtin; refine copy_F (B := w.heap.size) rfl (.tmp 14) (.tmp 15) rfl _ (rl l vs.length) Ai ci rfl rfl (by with_reducible repeat (first | assumption | (refine lit_new ?_; first | done | rfl | (simp only [World.size_alloc, World.size_drew, World.size_setCell]; done)) | exact lit_new (by simp only [World.size_alloc, World.size_drew, World.size_setCell]) | refine lit_stp (by assumption) ?_ | refine lit_alloc _ ?_ | refine lit_drew ?_)) (by first | omega | (simp only [szs]; omega)) (by exact Kd.C_below hCi bel) (by first | omega | (simp only [szs]; omega)) (by omega) ?_; intro v1 w1 HO1 hb1 ht1; obtain ⟨A1, c1, rfl⟩ := Kd.R_slice HO1; have hz1 := bw_size hb1; (try simp only [szs] at hz1); have HT1 := Lib.hid ht1; clear ht1) | (at_builtin; refine app_row (W0 := w) rfl (.tmp 13) (.tmp 17) rfl _ _ vs (l.take vs.length) (rl l vs.length) rfl (by first | rfl | exact congrArg (fun z => Value.slice (some ⟨z, 0, none⟩) 1 1) (World.size_alloc _ _).symm) rfl (by exact pw_own_below HO.out bel) (by exact HF.out.below bel) HO1 (fun i hi => apart_of (HW.out i hi) HT1.out (fun k => by (try simp only [szs]); omega)) bel (by first | omega | (simp only [szs]; omega)) (by omega) ?_; intro v2 w2 HO2 HF2 HB2))
      go_roundw
      case rel => exact ⟨vs ++ [.slice A1 (rl l vs.length).length c1], by rw [List.length_append, List.length_singleton]; go_num, by simp; omega, Lib.hid HO2, Lib.hid (by rw [List.length_append, List.length_singleton, HT.out]; exact HF2), HB2⟩
      case measure => simp [intOf]; omega
    · have e : vs.length = l.length := by omega
      have HE := Lib.hid e
      have i0 : ¬ (vs.length : Int) < (l.length : Int) := by omega
      clear e
      go_wp2
      have hF := HF.out
      have hO := HO.out
      rw [HE.out, List.take_length] at hF
      go_ret
      refine ⟨⟨Ao, co, vs, by rw [HE.out]; rfl, by rw [HE.out] at hO; exact hO, hF⟩, HB⟩
set_option maxHeartbeats 2000000 in
set_option maxRecDepth 100000 in
theorem spec_l15Lists (l : List (List Flit)) (A : Option Addr) (c : Nat) (w : World) (hr : (kB 121).C w A l.length l) (hn : l.length ≤ 2097152) (hm : Hid (∀ x ∈ l, x.length ≤ 2097152)) :
    Calls Tryz.prog 138 #[.slice A l.length c] w fun e w' => GotOX w w' l e ∧ Below w.heap.size w w' := by
  go_enter Tryz.func138, Tryz.ntmps138
  go_wp2
  go_loopw [3, 4] (fun v i wr => ∃ vs : List Value, i = .int .i64 vs.length ∧ vs.length ≤ l.length ∧ Hid (wr.ownsRow w.heap.size 108 1 v vs.length vs) ∧ Hid (FR wr w.heap.size vs (l.take vs.length)) ∧ Below w.heap.size w wr) (fun _ i _ => l.length - (intOf i).toNat)
  case atStart => exact ⟨[], rfl, Nat.zero_le _, Lib.hid (own_lit0 (lit_new rfl) (Nat.le_refl _)), Lib.hid (FR.nil _ _), bel⟩
  case round =>
    obtain ⟨vs, rfl, hk, HO, HF, HB⟩ := hrel
    obtain ⟨Ao, co, rfl⟩ := own_slice HO.out
    have hzr := bw_size HB
    by_cases hlt : vs.length < l.length
    · have i0 : (vs.length : Int) < (l.length : Int) := by omega
      have k0 : (0 : Int) ≤ (vs.length : Int) := by omega
      obtain ⟨b, off, rfl, hb, Ai, ci, p0, hle, hCi⟩ := rdB_at (Kd.C_below hr HB) vs.length hlt
      have hki := hm.out _ (rl_mem hlt)
      have HT := Lib.hid (take_snocB l vs.length hlt)
      have HW : Hid (∀ i : Nat, i < (l.take vs.length).length → Within (vr vs i) w.heap.size wr.heap.size) := Lib.hid (fun i hi => within_R (HF.out.row i hi))
      go_wp2_with (first | (at_builtin; refine copy_F (B := w.heap.size) rfl (.tmp 13) (.tmp 17) rfl _ (rl l vs.length) Ai ci rfl rfl (by with_reducible repeat (first | assumption | (refine lit_new ?_; first | done | rfl | (simp only [World.size_alloc, World.size_drew, World.size_setCell]; done)) | exact lit_new (by simp only [World.size_alloc, World.size_drew, World.size_setCell]) | refine lit_stp (by assumption) ?_ | refine lit_alloc _ ?_ | refine lit_drew ?_)) (by first | omega | (simp only [szs]; omega)) (by exact Kd.C_below hCi bel) (by first | omega | (simp only [szs]; omega)) (by omega) ?_; intro v1 w1 HO1 hb1 ht1; obtain ⟨A1, c1, rfl⟩ := Kd.R_slice HO1; have hz1 := bw_size hb1; (try simp only [szs] at hz1); have HT1 := Lib.hid ht1; clear ht1) | (at_builtin; refine app_row (W0 := w) rfl (.tmp 12) (.tmp 19) rfl _ _ vs (l.take vs.length) (rl l vs.length) rfl (by first | rfl | exact congrArg (fun z => Value.slice (some ⟨z, 0, none⟩) 1 1) (World.size_alloc _ _).symm) rfl (by exact pw_own_below HO.out bel) (by exact HF.out.below bel) HO1 (fun i hi => apart_of (HW.out i hi) HT1.out (fun k => by (try simp only [szs]); omega)) bel (by first | omega | (simp only [szs]; omega)) (by omega) ?_; intro v2 w2 HO2 HF2 HB2))
      go_roundw
      case rel => exact ⟨vs ++ [.slice A1 (rl l vs.length).length c1], by rw [List.length_append, List.length_singleton]; go_num, by simp; omega, Lib.hid HO2, Lib.hid (by rw [List.length_append, List.length_singleton, HT.out]; exact HF2), HB2⟩
      case measure => simp [intOf]; omega
    · have e : vs.length = l.length := by omega
      have HE := Lib.hid e
      have i0 : ¬ (vs.length : Int) < (l.length : Int) := by omega
      clear e
      go_wp2
      have hF := HF.out
      have hO := HO.out
      rw [HE.out, List.take_length] at hF
      go_ret
      refine ⟨⟨Ao, co, vs, by rw [HE.out]; rfl, by rw [HE.out] at hO; exact hO, hF⟩, HB⟩
end Go.Proofs.YtmkbmddgkdoaiaaGreat
/- What the walks of a step use: appends of flits, grants' boxes, the rows' cells, lengths. -/
set_option linter.unusedVariables false
set_option linter.unusedSimpArgs false
namespace Go.Proofs.YtmkbmddgkdoaiaaGreat
open Go.RowKit Go.Proofs.YtmkbmddgkdoaiaaGreatW.PrintWords
open NoC

theorem cut_fromF (A : Option Addr) (n c : Nat) (h1 : 1 ≤ n) (W : World) : (Instr.slice 108 (.slice A n c) (some (.int .i64 1)) none none).run Tryz.prog W = .ok (.slice (if c = 1 then A else A.map (·.add 5)) (n - 1) (c - 1)) W := by
  obtain ⟨i, hi', hs⟩ := Option.map_eq_some_iff.1 info_F
  exact cut_from (P := Tryz.prog) 108 121 .i64 Tryz.underlying108 hi' 5 (congrArg (fun z => z.2.1) hs) A n c 1 (by omega) (by omega) W
section
variable {ops : Array Oper} {rest : List Oper} {o : Oper} {a : Act} {Q : Exit → Act → World → Prop}
theorem app_Fg {B : Nat} {W : World} (hgd : o.guard = none) (s x : Operand)
    (ho : o.op = .call { callee := .builtin .append, args := #[s, x], argTypes := #[108, 108] })
    (v : Value) (xs : List Flit) (q : Flit) (hs : a.eval s = v) (hx : a.eval x = .slice (some ⟨W.heap.size, 0, none⟩) 1 1)
    (HO : kF.R 121 W B (fun _ => True) v xs) (hB : B ≤ W.heap.size) (hl : xs.length ≤ 100000000)
    (h : ∀ v1 w1, kF.R 121 w1 B (fun _ => True) v1 (xs ++ [q]) → W.grownBy w1 v.ownBlock → Anew W v1 v → wpList Tryz.prog ops Q rest (a.put o.dst v1) w1) :
    wpList Tryz.prog ops Q (o :: rest) a (W.alloc (.cells #[.int .i64 q.pk, .int .i64 q.dst, .int .i64 q.cls, .bool q.head, .bool q.tail] 121)) :=
  Kd.R_append (P := Tryz.prog) kF (w0 := W) B hgd s x 108 121 (.agg #[.int .i64 0, .int .i64 0, .int .i64 0, .bool false, .bool false]) 32 ho Tryz.underlying108 info_F rfl (by decide) (by omega) v xs q (fCells q) (fun _ => True) (fun _ => False) hs hx rfl (fun _ h => h.elim) (fun _ _ => trivial) HO (Below.refl _ _) hB (by omega) (fun v1 w1 h1 _ h3 h4 => h v1 w1 h1 h3 (.inr h4))
end
def stTs (n : Net) : List Int := (allGrants n).map (fun g => behindN n g.node g.port (g.input % 2))
def stMs (n : Net) : List Flit := (allGrants n).map (mvF n)
theorem rg_mem {l : List Grant} {k : Nat} (h : k < l.length) : rg l k ∈ l := by
  have : rg l (k : Int) = l[k] := by simp [rg, List.getD_eq_getElem?_getD, h]
  rw [this]
  exact List.getElem_mem h
theorem rg_get {l : List Grant} {k : Nat} (h : k < l.length) : rg l (k : Int) = l[k] := by simp [rg, List.getD_eq_getElem?_getD, h]
theorem stTs_take (n : Net) (k : Nat) (h : k < (allGrants n).length) : (stTs n).take (k + 1) = (stTs n).take k ++ [behindN n (rg (allGrants n) k).node (rg (allGrants n) k).port ((rg (allGrants n) k).input % 2)] := by
  have h2 : k < (stTs n).length := by simp [stTs, h]
  rw [List.take_succ_eq_append_getElem h2, rg_get h]
  simp [stTs]
theorem stMs_take (n : Net) (k : Nat) (h : k < (allGrants n).length) : (stMs n).take (k + 1) = (stMs n).take k ++ [mvF n (rg (allGrants n) k)] := by
  have h2 : k < (stMs n).length := by simp [stMs, h]
  rw [List.take_succ_eq_append_getElem h2, rg_get h]
  simp [stMs]
theorem gs_take (n : Net) (k : Nat) (h : k < (allGrants n).length) : (allGrants n).take (k + 1) = (allGrants n).take k ++ [rg (allGrants n) k] := by
  rw [List.take_succ_eq_append_getElem h, rg_get h]
theorem nodup_take {n : Net} (ok : netOk n = true) {k : Nat} (h : k < (allGrants n).length) : ∀ g ∈ (allGrants n).take k, gIdx g ≠ gIdx (rg (allGrants n) k) := by
  intro g hg e
  have hn := (grants_GsOk ok).nodup
  obtain ⟨j, hj, rfl⟩ := List.getElem_of_mem hg
  rw [List.length_take] at hj
  rw [List.getElem_take, rg_get h] at e
  have := (List.pairwise_iff_getElem.1 hn) j k (by simp; omega) (by simp; omega) (by omega)
  simp only [List.getElem_map] at this
  exact this e
theorem pop_k {n : Net} (ok : netOk n = true) {k : Nat} (h : k < (allGrants n).length) : rl (popL n.bufs ((allGrants n).take k)) (gIdx (rg (allGrants n) k)) = rl n.bufs (gIdx (rg (allGrants n) k)) := by
  have hG := grants_GsOk ok
  exact popL_other _ _ _ (hG.range _ (rg_mem h)).1 (fun g hg => hG.range g (List.mem_of_mem_take hg)) (nodup_take ok h)
theorem pop_next {n : Net} (ok : netOk n = true) {k : Nat} (h : k < (allGrants n).length) : popL n.bufs ((allGrants n).take (k + 1)) = (popL n.bufs ((allGrants n).take k)).set (gIdx (rg (allGrants n) k)).toNat ((rl n.bufs (gIdx (rg (allGrants n) k))).drop 1) := by
  rw [gs_take n k h, popL_snoc, popB, pop_k ok h]
structure Lens (n x : Net) : Prop where
  b : x.bufs.length = n.bufs.length
  o : x.owners.length = n.owners.length
  t : x.turns.length = n.turns.length
  s : x.srcs.length = n.srcs.length
  a : x.arrs.length = n.arrs.length
theorem Lens.push {n x : Net} (h : Lens n x) (m : Net) (g : Grant) : Lens n (pushG m x g) := by
  unfold pushG
  split <;> exact ⟨by simp [h.b], by simp [h.o], by simp [h.t], by simp [h.s], by simp [h.a]⟩
theorem Lens.pushL {n m : Net} : ∀ (gs : List Grant) (x : Net), Lens n x → Lens n (pushL m x gs) := by
  intro gs
  induction gs with
  | nil => intro x h; exact h
  | cons g gs ih => intro x h; exact ih _ (h.push m g)
theorem Lens.pop (n : Net) : Lens n (afterPop n) := ⟨popL_len _ _, rfl, rfl, rfl, rfl⟩
theorem pushL_next (n x : Net) (k : Nat) (h : k < (allGrants n).length) : pushL n x ((allGrants n).take (k + 1)) = pushG n (pushL n x ((allGrants n).take k)) (rg (allGrants n) k) := by
  rw [gs_take n k h]
  simp [pushL]
theorem stTs_get (n : Net) (k : Nat) (h : k < (allGrants n).length) : ri (stTs n) k = behindN n (rg (allGrants n) k).node (rg (allGrants n) k).port ((rg (allGrants n) k).input % 2) := by
  rw [ri_get _ k (by simp [stTs, h]), rg_get h]
  simp [stTs]
theorem stMs_get (n : Net) (k : Nat) (h : k < (allGrants n).length) : rf (stMs n) k = mvF n (rg (allGrants n) k) := by
  rw [rf_get _ k (by simp [stMs, h]), rg_get h]
  simp [stMs]
def GB (w : World) (b : Nat) (g : Grant) : Prop := w.heap[b]? = some (.cells #[.int .i64 g.node, .int .i64 g.port, .int .i64 g.input] 76 (0, 0))
theorem GB.below {w w1 : World} {b : Nat} {g : Grant} (h : GB w b g) (hb : Below w.heap.size w w1) : GB w1 b g := blk_below h hb
theorem GB.far {w : World} {b c t : Nat} {g : Grant} (h : GB w b g) (hb : BlkT w c t) (ht : 76 ≠ t) (j : Nat) (u : Value) : GB (w.setCell ⟨c, j, none⟩ u) b g := by
  obtain ⟨cs, hc⟩ := hb
  exact blk_far (p := ⟨c, j, none⟩) h (blk_ne h hc ht) u
theorem GB.grown {w w1 : World} {b lo : Nat} {g : Grant} {v : Value} {y : List Flit} (h : GB w b g) (hg : w.grownBy w1 v.ownBlock) (hr : kF.R 121 w lo (fun _ => True) v y) : GB w1 b g := by
  obtain ⟨inner, hin⟩ := Kd.R_own hr
  exact blk_grown h hg (own_ne hin h (by decide))
theorem GB.cells {w : World} {b : Nat} {g : Grant} (h : GB w b g) : w.cell? ⟨b, 0, none⟩ = some (.int .i64 g.node) ∧ w.cell? ⟨b, 1, none⟩ = some (.int .i64 g.port) ∧ w.cell? ⟨b, 2, none⟩ = some (.int .i64 g.input) ∧ b < w.heap.size := ⟨blk_cell h 0, blk_cell h 1, blk_cell h 2, blk_lt h⟩
theorem BlkT.grown {w w1 : World} {g lo : Nat} {v : Value} {y : List Flit} (h : BlkT w g 108) (hg : w.grownBy w1 v.ownBlock) (hr : kF.R 121 w lo (fun _ => True) v y) : BlkT w1 g 108 := by
  obtain ⟨cs, hc⟩ := h
  obtain ⟨inner, hin⟩ := Kd.R_own hr
  exact ⟨cs, blk_grown hc hg (own_ne hin hc (by decide))⟩
theorem flC {w : World} {b off : Nat} {l : List Flit} (h : kF.C w (some ⟨b, off, none⟩) l.length l) (k : Nat) (hk : k < l.length) : b < w.heap.size ∧ w.cell? ⟨b, off + k * 5, none⟩ = some (.int .i64 (rf l k).pk) ∧ w.cell? ⟨b, off + k * 5 + 1, none⟩ = some (.int .i64 (rf l k).dst) ∧ w.cell? ⟨b, off + k * 5 + 2, none⟩ = some (.int .i64 (rf l k).cls) ∧ w.cell? ⟨b, off + k * 5 + 3, none⟩ = some (.bool (rf l k).head) ∧ w.cell? ⟨b, off + k * 5 + 4, none⟩ = some (.bool (rf l k).tail) := by
  obtain ⟨b', off', e, h1, h2⟩ := rdFl_at h k hk
  have e2 := Option.some.inj e
  injection e2 with e3 e4 e5
  subst e3 e4
  exact ⟨h1, h2⟩
section
variable {ops : Array Oper} {o : Oper} {a : Act} {Kc : Act → World → Prop} {Q' : Exit → Act → World → Prop}
theorem app_FgS {B : Nat} {W : World} (hw : Region.wanted o (yielded ops a.tmps) = true) (s x : Operand)
    (ho : o.op = .call { callee := .builtin .append, args := #[s, x], argTypes := #[108, 108] })
    (v : Value) (xs : List Flit) (q : Flit) (hs : a.eval s = v) (hx : a.eval x = .slice (some ⟨W.heap.size, 0, none⟩) 1 1)
    (HO : kF.R 121 W B (fun _ => True) v xs) (hB : B ≤ W.heap.size) (hl : xs.length ≤ 100000000)
    (h : ∀ v1 w1, kF.R 121 w1 B (fun _ => True) v1 (xs ++ [q]) → W.grownBy w1 v.ownBlock → Anew W v1 v → Kc (a.put o.dst v1) w1) :
    if Region.wanted o (yielded ops a.tmps) = true then Oper.wp Tryz.prog o a (W.alloc (.cells #[.int .i64 q.pk, .int .i64 q.dst, .int .i64 q.cls, .bool q.head, .bool q.tail] 121)) Kc Q' else Kc (a.put o.dst undef) (W.alloc (.cells #[.int .i64 q.pk, .int .i64 q.dst, .int .i64 q.cls, .bool q.head, .bool q.tail] 121)) :=
  Kd.R_append_step (P := Tryz.prog) kF (w0 := W) B hw s x 108 121 (.agg #[.int .i64 0, .int .i64 0, .int .i64 0, .bool false, .bool false]) 32 ho Tryz.underlying108 info_F rfl (by decide) (by omega) v xs q (fCells q) (fun _ => True) (fun _ => False) hs hx rfl (fun _ h => h.elim) (fun _ _ => trivial) HO (Below.refl _ _) hB (by omega) (fun v1 w1 h1 _ h3 h4 => h v1 w1 h1 h3 (.inr h4))
end
theorem rl_bound {l : List (List Flit)} (h : ∀ x ∈ l, x.length ≤ 2097152) (t : Nat) : (rl l (t : Int)).length ≤ 2097152 := by
  by_cases e : t < l.length
  · exact h _ (rl_mem e)
  · have : rl l (t : Int) = [] := by simp [rl, List.getD_eq_getElem?_getD, e]
    rw [this]
    simp
theorem all4 {w : World} {lo : Nat} {x : Net} {s : SV} (h : NX w lo x s.q s.v4 s.v7 s.v8) {t : Nat} (ht : t < x.bufs.length) : vr (allV s) t = vr s.v4 t := by
  unfold allV
  exact vr_left (by rw [h.l4]; exact ht)
theorem all8 {w : World} {lo : Nat} {x : Net} {s : SV} (h : NX w lo x s.q s.v4 s.v7 s.v8) {t : Nat} : vr (allV s) (x.bufs.length + (x.srcs.length + t)) = vr s.v8 t := by
  unfold allV
  rw [← h.l4, vr_right, ← h.l7, vr_right]
theorem ownI5 {w : World} {lo g k : Nat} {x : Net} {q : NA} {v4 v7 v8 : List Value} (h : NX w lo x q v4 v7 v8) (ea : q.a5 = some ⟨g, 0, none⟩) (hk : k < x.owners.length) : w.cell? ⟨g, k, none⟩ = some (.int .i64 (ri x.owners k)) ∧ w.frozen? ⟨g, k, none⟩ = false := by
  have h4 := h.owners
  rw [ea] at h4
  exact rowI_cell h4 k hk
theorem ownI6 {w : World} {lo g k : Nat} {x : Net} {q : NA} {v4 v7 v8 : List Value} (h : NX w lo x q v4 v7 v8) (ea : q.a6 = some ⟨g, 0, none⟩) (hk : k < x.turns.length) : w.cell? ⟨g, k, none⟩ = some (.int .i64 (ri x.turns k)) ∧ w.frozen? ⟨g, k, none⟩ = false := by
  have h4 := h.turns
  rw [ea] at h4
  exact rowI_cell h4 k hk
theorem blkI5 {w : World} {lo g : Nat} {x : Net} {q : NA} {v4 v7 v8 : List Value} (h : NX w lo x q v4 v7 v8) (ea : q.a5 = some ⟨g, 0, none⟩) (hp : 0 < x.owners.length) : BlkT w g 3 := by
  obtain ⟨i, hin⟩ := Kd.R_own h.owners
  exact own_typed hin g (by rw [ea]; rfl)
theorem blkI6 {w : World} {lo g : Nat} {x : Net} {q : NA} {v4 v7 v8 : List Value} (h : NX w lo x q v4 v7 v8) (ea : q.a6 = some ⟨g, 0, none⟩) (hp : 0 < x.turns.length) : BlkT w g 3 := by
  obtain ⟨i, hin⟩ := Kd.R_own h.turns
  exact own_typed hin g (by rw [ea]; rfl)
theorem bm_ne5 {w0 w : World} {lo bx g b off m c : Nat} {n0 x : Net} {s : SV} (h : ST w0 lo bx n0 s x w) (ea : s.q.a5 = some ⟨g, 0, none⟩) (em : s.vm = .slice (some ⟨b, off, none⟩) m c) (hp : 0 < x.owners.length) : ¬ b = g := by
  intro e
  obtain ⟨cs, hc⟩ := blkI5 h.nx ea hp
  obtain ⟨i, hin⟩ := Kd.R_own h.m
  exact own_ne hin hc (by decide) (by rw [em, ← e]; rfl)
theorem bx_ne6 {w0 w : World} {lo bx g : Nat} {n0 x : Net} {s : SV} (h : ST w0 lo bx n0 s x w) (ea : s.q.a6 = some ⟨g, 0, none⟩) (hp : 0 < x.turns.length) : ¬ bx = g := by
  obtain ⟨cs, hc⟩ := blkI6 h.nx ea hp
  exact blk_ne h.bt hc (by decide)
theorem own_twice {w0 w : World} {lo bx g k : Nat} {n0 x : Net} {s : SV} (h : ST w0 lo bx n0 s x w) (ea : s.q.a5 = some ⟨g, 0, none⟩) (hk : k < x.owners.length) (a b : Int) : ST w0 lo bx n0 s { x with owners := x.owners.set k b } ((w.setCell ⟨g, k, none⟩ (.int .i64 a)).setCell ⟨g, k, none⟩ (.int .i64 b)) := by
  have h2 := (h.setOwner ea hk a).setOwner (k := k) ea (by simpa using hk) b
  simp only [List.set_set] at h2
  exact h2
theorem own_t {n : Net} {g : Grant} {F0 : Flit} (hF : mvF n g = F0) (h : F0.tail = true) : gOwn n g = -1 := by rw [gOwn, hF, if_pos h]
theorem own_f {n : Net} {g : Grant} {F0 : Flit} (hF : mvF n g = F0) (h : F0.tail = false) : gOwn n g = g.input / 2 := by rw [gOwn, hF, if_neg (by simp [h])]
theorem push_eq4 {n x : Net} {g : Grant} {t at_ tn : Nat} {F0 : Flit} {R : List Flit} {v : Int} (h4 : g.port = 4) (ht : (t : Int) = g.node) (ha : 10 * g.node + 2 * g.port + g.input % 2 = (at_ : Int)) (hn : (tn : Int) = 5 * g.node + g.port) (hF : mvF n g = F0) (hR : rl x.arrs (t : Int) = R) (hv : gOwn n g = v) :
    pushG n x g = { x with arrs := x.arrs.set t (R ++ [F0]), owners := x.owners.set at_ v, turns := x.turns.set tn ((g.input + 1) % 10) } := by
  unfold pushG
  rw [if_pos h4, hv, hF, show (gAt g).toNat = at_ by unfold gAt; omega, show (gTurn g).toNat = tn by unfold gTurn; omega, show g.node.toNat = t by omega, ← ht, hR]
theorem push_eq {n x : Net} {g : Grant} {t at_ tn : Nat} {F0 : Flit} {R : List Flit} {v : Int} (h4 : ¬ g.port = 4) (ht : (t : Int) = gTo n g) (ha : 10 * g.node + 2 * g.port + g.input % 2 = (at_ : Int)) (hn : (tn : Int) = 5 * g.node + g.port) (hF : mvF n g = F0) (hR : rl x.bufs (t : Int) = R) (hv : gOwn n g = v) :
    pushG n x g = { x with bufs := x.bufs.set t (R ++ [F0]), owners := x.owners.set at_ v, turns := x.turns.set tn ((g.input + 1) % 10) } := by
  unfold pushG
  rw [if_neg h4, hv, hF, show (gAt g).toNat = at_ by unfold gAt; omega, show (gTurn g).toNat = tn by unfold gTurn; omega, show (gTo n g).toNat = t by omega, ← ht, hR]
theorem Lens.enter {n m : Net} : ∀ (ks : List Int) (x : Net), Lens n x → Lens n (enterL m x ks) := by
  intro ks
  induction ks with
  | nil => intro x h; exact h
  | cons a ks ih => intro x h; exact ih _ ⟨by simp [enterB, h.b], h.o, h.t, by simp [enterB, h.s], h.a⟩
theorem own_facts7 {w : World} {lo g j c len : Nat} {x : Net} {q : NA} {v4 u7 v8 : List Value} {A : Option Addr} (h : NX w lo x q v4 u7 v8) (ea : q.a7 = some ⟨g, 0, none⟩) (hj : j < x.srcs.length) (hv : vr u7 j = .slice A len c) : w.cell? ⟨g, j, none⟩ = some (.slice A len c) ∧ w.frozen? ⟨g, j, none⟩ = false := by
  have h4 := h.srcs
  rw [ea] at h4
  have := own_cell h4 hj
  rw [hv] at this
  exact this
theorem row_read7 {w : World} {lo j c : Nat} {x : Net} {q : NA} {v4 u7 v8 : List Value} {A : Option Addr} {xs : List Flit} (h : NX w lo x q v4 u7 v8) (hj : j < x.srcs.length) (hv : vr u7 j = .slice A xs.length c) (he : rl x.srcs j = xs) : kF.C w A xs.length xs := by
  have := h.row7 j hj
  rw [hv, he] at this
  exact (Kd.R_rowX this).2.2
theorem anew_ge {w : World} {u v : Value} {g lo hi : Nat} (h1 : w.heap.size ≤ g) (h2 : w.heap.size ≤ lo) (h : At2 g lo hi u) : Anew w u v := by
  cases e : u.ownBlock with
  | none => exact .inl e
  | some b =>
    refine .inr (.inr ⟨b, e, ?_⟩)
    have := h b e
    omega
theorem time_ok {n : Net} (ok : netOk n = true) : 0 ≤ n.time ∧ n.time ≤ 1000000 := by
  obtain ⟨_, _, _, _, _, _, _, _, _, _, h⟩ := netOk_parts ok
  exact inside_iff.1 h
theorem step_same (n : Net) : (stepN n).mesh = n.mesh ∧ (stepN n).pa = n.pa ∧ (stepN n).pb = n.pb := by
  have h1 := enterL_time n (enteringN n) (afterPush n)
  have h2 := pushL_same n (allGrants n) (afterPop n)
  exact ⟨h1.2.1.trans h2.2.1, h1.2.2.1.trans h2.2.2.1, h1.2.2.2.1.trans h2.2.2.2⟩
theorem step_lens (n : Net) : Lens n (stepN n) := by
  have := Lens.enter (enteringN n) _ ((Lens.pop n).pushL (allGrants n) (m := n)) (m := n)
  exact ⟨this.b, this.o, this.t, this.s, this.a⟩
theorem netCells_step (n : Net) (q : NA) : (netCells n q).setIfInBounds 10 (.int .i64 (n.time + 1)) = netCells (stepN n) q := by
  obtain ⟨h1, h2, h3⟩ := step_same n
  obtain ⟨l1, l2, l3, l4, l5⟩ := step_lens n
  unfold netCells
  rw [h1, h2, h3, l1, l2, l3, l4, l5]
  rfl
theorem own_facts8 {w : World} {lo g j c len : Nat} {x : Net} {q : NA} {v4 v7 u8 : List Value} {A : Option Addr} (h : NX w lo x q v4 v7 u8) (ea : q.a8 = some ⟨g, 0, none⟩) (hj : j < x.arrs.length) (hv : vr u8 j = .slice A len c) : w.cell? ⟨g, j, none⟩ = some (.slice A len c) ∧ w.frozen? ⟨g, j, none⟩ = false := by
  have h4 := h.arrs
  rw [ea] at h4
  have := own_cell h4 hj
  rw [hv] at this
  exact this
theorem own_facts {w : World} {lo g j c len : Nat} {x : Net} {q : NA} {u4 v7 v8 : List Value} {A : Option Addr} (h : NX w lo x q u4 v7 v8) (ea : q.a4 = some ⟨g, 0, none⟩) (hj : j < x.bufs.length) (hv : vr u4 j = .slice A len c) : w.cell? ⟨g, j, none⟩ = some (.slice A len c) ∧ w.frozen? ⟨g, j, none⟩ = false := by
  have h4 := h.bufs
  rw [ea] at h4
  have := own_cell h4 hj
  rw [hv] at this
  exact this
theorem anew_lit {w : World} {u v : Value} {hi : Nat} (h : At2 w.heap.size (w.heap.size + 1) hi u) : Anew w u v := by
  cases e : u.ownBlock with
  | none => exact .inl e
  | some b =>
    refine .inr (.inr ⟨b, e, ?_⟩)
    have := h b e
    omega
theorem row_read {w : World} {lo j c : Nat} {x : Net} {q : NA} {u4 v7 v8 : List Value} {A : Option Addr} {xs : List Flit} (h : NX w lo x q u4 v7 v8) (hj : j < x.bufs.length) (hv : vr u4 j = .slice A xs.length c) (he : rl x.bufs j = xs) : kF.C w A xs.length xs := by
  have := h.row4 j hj
  rw [hv, he] at this
  exact (Kd.R_rowX this).2.2
theorem lens_ok {n : Net} (ok : netOk n = true) : 0 < n.bufs.length ∧ 0 < n.owners.length ∧ 0 < n.turns.length ∧ 0 < n.srcs.length ∧ 0 < n.arrs.length := by
  obtain ⟨h0, h1, h2, h3, h4, h5, _⟩ := netOk_parts ok
  have := sized_count (classesOk_sized h0).1
  omega
end Go.Proofs.YtmkbmddgkdoaiaaGreat
/- Runs of a valid network: steps one after the other; no program, no memory. -/
set_option linter.unusedVariables false
set_option linter.unusedSimpArgs false
namespace Go.Proofs.YtmkbmddgkdoaiaaGreat
open NoC
def runN (n : Net) : Nat → Net
  | 0 => n
  | k + 1 => stepN (runN n k)
theorem runN_time (n : Net) : ∀ k : Nat, (runN n k).time = n.time + k := by
  intro k
  induction k with
  | zero => simp [runN]
  | succ k ih => show (runN n k).time + 1 = _; rw [ih]; omega
theorem runN_ok {n : Net} (ok : netOk n = true) : ∀ k : Nat, n.time + k ≤ 1000000 → netOk (runN n k) = true := by
  intro k
  induction k with
  | zero => intro _; exact ok
  | succ k ih =>
    intro h
    exact step_ok (ih (by omega)) (by rw [runN_time]; omega)
def stuckFrom (n : Net) (i : Nat) : Nat → Int
  | 0 => -1
  | f + 1 => if n.time + i ≤ 1000000 then if stuckN (runN n i) = true then i else stuckFrom n (i + 1) f else -1
def firstStuckN (n : Net) (most : Int) : Int := if inside most 0 400 = true then if netOk n = true then stuckFrom n 0 (most.toNat + 1) else -1 else -1
theorem step_arrs (n : Net) (t : Nat) : (rl (stepN n).arrs t).length ≤ (rl n.arrs t).length + (allGrants n).length := by
  have h1 := (enterL_time n (enteringN n) (afterPush n)).2.2.2.2.2.2
  have h2 := (pushL_rows n t (allGrants n) (afterPop n)).2
  have e : (stepN n).arrs = (afterPush n).arrs := (step_parts n).2.2.2.2.2
  rw [e]
  exact h2
theorem run_parts (n : Net) : ∀ k : Nat, (runN n k).mesh = n.mesh ∧ (runN n k).pa = n.pa ∧ (runN n k).pb = n.pb := by
  intro k
  induction k with
  | zero => exact ⟨rfl, rfl, rfl⟩
  | succ k ih =>
    obtain ⟨e1, e2, e3, _⟩ := step_parts (runN n k)
    exact ⟨e1.trans ih.1, e2.trans ih.2.1, e3.trans ih.2.2⟩
theorem run_lens (n : Net) : ∀ k : Nat, Lens n (runN n k) := by
  intro k
  induction k with
  | zero => exact ⟨rfl, rfl, rfl, rfl, rfl⟩
  | succ k ih =>
    have h := step_lens (runN n k)
    exact ⟨h.b.trans ih.b, h.o.trans ih.o, h.t.trans ih.t, h.s.trans ih.s, h.a.trans ih.a⟩
theorem run_arrs (n : Net) (t : Nat) : ∀ k : Nat, (rl (runN n k).arrs t).length ≤ (rl n.arrs t).length + 80 * k := by
  intro k
  induction k with
  | zero => exact Nat.le_refl _
  | succ k ih =>
    have h := step_arrs (runN n k) t
    have g := allGrants_len (runN n k)
    have e : runN n (k + 1) = stepN (runN n k) := rfl
    rw [e]
    omega
theorem rl_of_mem {l : List (List Flit)} {x : List Flit} (h : x ∈ l) : ∃ i : Nat, i < l.length ∧ rl l i = x := by
  obtain ⟨i, hi, rfl⟩ := List.getElem_of_mem h
  exact ⟨i, hi, by simp [rl, List.getD_eq_getElem?_getD, hi]⟩
theorem run_nb {n : Net} (nb : NB n) (hA : ∀ x ∈ n.arrs, x.length ≤ 1048576) (k : Nat) (hk : k ≤ 1000) (ok : netOk (runN n k) = true) : NB (runN n k) := by
  obtain ⟨e1, e2, e3⟩ := run_parts n k
  have L := run_lens n k
  obtain ⟨c, s1, s2, s3, s4, s5, hb, hs, _⟩ := netOk_parts ok
  refine ⟨by rw [e1]; exact nb.h1, by rw [e2]; exact nb.h2, by rw [e3]; exact nb.h3, by rw [L.b]; exact nb.h4, by rw [L.o]; exact nb.h5, by rw [L.t]; exact nb.h6, by rw [L.s]; exact nb.h7, by rw [L.a]; exact nb.h8, fun x hx => ?_, fun x hx => ?_, fun x hx => ?_⟩
  · obtain ⟨i, hi, rfl⟩ := rl_of_mem hx
    have := (bufOk_iff.1 (hb i hi)).2
    omega
  · obtain ⟨i, hi, rfl⟩ := rl_of_mem hx
    have := hs i hi
    simp only [srcOk, Bool.and_eq_true, decide_eq_true_eq] at this
    omega
  · obtain ⟨i, hi, rfl⟩ := rl_of_mem hx
    have h1 := run_arrs n i k
    have hi2 : i < n.arrs.length := by rw [← L.a]; exact hi
    have h2 := hA _ (rl_mem hi2)
    omega
end Go.Proofs.YtmkbmddgkdoaiaaGreat
/- A whole network stored into its box. -/
set_option linter.unusedVariables false
set_option linter.unusedSimpArgs false
namespace Go.Proofs.YtmkbmddgkdoaiaaGreat
open Go.RowKit Go.Proofs.YtmkbmddgkdoaiaaGreatW.PrintWords
open NoC

theorem cell_low {B : Nat} {w w1 : World} (h : Below B w w1) {b : Nat} (hb : b < B) (o : Nat) : w1.cell? ⟨b, o, none⟩ = w.cell? ⟨b, o, none⟩ := World.cell?_of_block (a := ⟨b, o, none⟩) (h.block b hb)
theorem bw_trans {B C : Nat} {a b c : World} (h : Below B a b) (k : Below C b c) (hc : B ≤ C) : Below B a c := ⟨k.os.trans h.os, k.tape.trans h.tape, k.output.trans h.output, Nat.le_trans h.size k.size, fun i hi => (k.block i (by omega)).trans (h.block i hi)⟩
theorem box_low {B : Nat} {w w1 : World} {b : Nat} {cs : Array Value} (h : Box w b cs) (hb : Below B w w1) (hB : b < B) : Box w1 b cs := ⟨Nat.lt_of_lt_of_le h.lt hb.size, fun o => (cell_low hb hB o).trans (h.get o)⟩
def BN (w : World) (b : Nat) : Prop := ∃ cs : Array Value, w.heap[b]? = some (.cells cs 44 (0, 0)) ∧ cs.size = 11
def putN (w : World) (b : Nat) (n : Net) (q : NA) : World := ((((((((((w.setCell ⟨b, 0, none⟩ (.int .i64 n.mesh.g.w)).setCell ⟨b, 1, none⟩ (.int .i64 n.mesh.g.h)).setCell ⟨b, 2, none⟩ (.slice q.a1 n.mesh.br.length q.c1)).setCell ⟨b, 3, none⟩ (.slice q.a2 n.pa.length q.c2)).setCell ⟨b, 4, none⟩ (.slice q.a3 n.pb.length q.c3)).setCell ⟨b, 5, none⟩ (.slice q.a4 n.bufs.length q.c4)).setCell ⟨b, 6, none⟩ (.slice q.a5 n.owners.length q.c5)).setCell ⟨b, 7, none⟩ (.slice q.a6 n.turns.length q.c6)).setCell ⟨b, 8, none⟩ (.slice q.a7 n.srcs.length q.c7)).setCell ⟨b, 9, none⟩ (.slice q.a8 n.arrs.length q.c8)).setCell ⟨b, 10, none⟩ (.int .i64 n.time)
section
variable {w w1 : World} {b : Nat} {n : Net} {q : NA}
theorem BN.below (h : BN w b) (hb : Below w.heap.size w w1) : BN w1 b := let ⟨cs, h1, h2⟩ := h; ⟨cs, blk_below h1 hb, h2⟩
theorem BN.low {B : Nat} (h : BN w b) (hb : Below B w w1) (hB : b < B) : BN w1 b := let ⟨cs, h1, h2⟩ := h; ⟨cs, (hb.block b hB).trans h1, h2⟩
theorem BN.blk (h : BN w b) : BlkT w b 44 := let ⟨cs, h1, _⟩ := h; ⟨cs, h1⟩
theorem BT.bn (h : BT w b n q) : BN w b := ⟨_, h, rfl⟩
theorem BN.far {c t : Nat} (h : BN w b) (hb : BlkT w c t) (ht : 44 ≠ t) (j : Nat) (u : Value) : BN (w.setCell ⟨c, j, none⟩ u) b := by
  obtain ⟨cs, h1, h2⟩ := h
  obtain ⟨c2, hc⟩ := hb
  exact ⟨cs, blk_far (p := ⟨c, j, none⟩) h1 (blk_ne h1 hc ht) u, h2⟩
theorem BN.off {c : Nat} (h : BN w b) (hne : b ≠ c) (j : Nat) (u : Value) : BN (w.setCell ⟨c, j, none⟩ u) b := by
  obtain ⟨cs, h1, h2⟩ := h
  exact ⟨cs, blk_far (p := ⟨c, j, none⟩) h1 hne u, h2⟩
theorem BN.get (h : BN w b) (i : Nat) (hi : i < 11) : ∃ v, w.cell? ⟨b, i, none⟩ = some v := by
  obtain ⟨cs, h1, h2⟩ := h
  exact ⟨cs[i], by rw [blk_cell h1 i]; exact Array.getElem?_eq_getElem (by omega)⟩
theorem BN.frozen (h : BN w b) (i : Nat) : w.frozen? ⟨b, i, none⟩ = false := by
  obtain ⟨cs, h1, h2⟩ := h
  exact blk_frozen h1 i
theorem BN.lt (h : BN w b) : b < w.heap.size := by
  obtain ⟨cs, h1, h2⟩ := h
  exact blk_lt h1
theorem list11 {l : List Value} (h : l.length = 11) : ∃ a0 a1 a2 a3 a4 a5 a6 a7 a8 a9 a10, l = [a0, a1, a2, a3, a4, a5, a6, a7, a8, a9, a10] := by
  match l, h with
  | [a0, a1, a2, a3, a4, a5, a6, a7, a8, a9, a10], _ => exact ⟨a0, a1, a2, a3, a4, a5, a6, a7, a8, a9, a10, rfl⟩
theorem putN_BT (h : BN w b) : BT (putN w b n q) b n q := by
  obtain ⟨⟨l⟩, h1, h2⟩ := h
  obtain ⟨a0, a1, a2, a3, a4, a5, a6, a7, a8, a9, a10, rfl⟩ := list11 h2
  have k1 : (w.setCell ⟨b, 0, none⟩ (.int .i64 n.mesh.g.w)).heap[b]? = some (.cells #[.int .i64 n.mesh.g.w, a1, a2, a3, a4, a5, a6, a7, a8, a9, a10] 44 (0, 0)) := (blk_set h1 0 (.int .i64 n.mesh.g.w)).trans rfl
  have k2 : ((w.setCell ⟨b, 0, none⟩ (.int .i64 n.mesh.g.w)).setCell ⟨b, 1, none⟩ (.int .i64 n.mesh.g.h)).heap[b]? = some (.cells #[.int .i64 n.mesh.g.w, .int .i64 n.mesh.g.h, a2, a3, a4, a5, a6, a7, a8, a9, a10] 44 (0, 0)) := (blk_set k1 1 (.int .i64 n.mesh.g.h)).trans rfl
  have k3 : (((w.setCell ⟨b, 0, none⟩ (.int .i64 n.mesh.g.w)).setCell ⟨b, 1, none⟩ (.int .i64 n.mesh.g.h)).setCell ⟨b, 2, none⟩ (.slice q.a1 n.mesh.br.length q.c1)).heap[b]? = some (.cells #[.int .i64 n.mesh.g.w, .int .i64 n.mesh.g.h, .slice q.a1 n.mesh.br.length q.c1, a3, a4, a5, a6, a7, a8, a9, a10] 44 (0, 0)) := (blk_set k2 2 (.slice q.a1 n.mesh.br.length q.c1)).trans rfl
  have k4 : ((((w.setCell ⟨b, 0, none⟩ (.int .i64 n.mesh.g.w)).setCell ⟨b, 1, none⟩ (.int .i64 n.mesh.g.h)).setCell ⟨b, 2, none⟩ (.slice q.a1 n.mesh.br.length q.c1)).setCell ⟨b, 3, none⟩ (.slice q.a2 n.pa.length q.c2)).heap[b]? = some (.cells #[.int .i64 n.mesh.g.w, .int .i64 n.mesh.g.h, .slice q.a1 n.mesh.br.length q.c1, .slice q.a2 n.pa.length q.c2, a4, a5, a6, a7, a8, a9, a10] 44 (0, 0)) := (blk_set k3 3 (.slice q.a2 n.pa.length q.c2)).trans rfl
  have k5 : (((((w.setCell ⟨b, 0, none⟩ (.int .i64 n.mesh.g.w)).setCell ⟨b, 1, none⟩ (.int .i64 n.mesh.g.h)).setCell ⟨b, 2, none⟩ (.slice q.a1 n.mesh.br.length q.c1)).setCell ⟨b, 3, none⟩ (.slice q.a2 n.pa.length q.c2)).setCell ⟨b, 4, none⟩ (.slice q.a3 n.pb.length q.c3)).heap[b]? = some (.cells #[.int .i64 n.mesh.g.w, .int .i64 n.mesh.g.h, .slice q.a1 n.mesh.br.length q.c1, .slice q.a2 n.pa.length q.c2, .slice q.a3 n.pb.length q.c3, a5, a6, a7, a8, a9, a10] 44 (0, 0)) := (blk_set k4 4 (.slice q.a3 n.pb.length q.c3)).trans rfl
  have k6 : ((((((w.setCell ⟨b, 0, none⟩ (.int .i64 n.mesh.g.w)).setCell ⟨b, 1, none⟩ (.int .i64 n.mesh.g.h)).setCell ⟨b, 2, none⟩ (.slice q.a1 n.mesh.br.length q.c1)).setCell ⟨b, 3, none⟩ (.slice q.a2 n.pa.length q.c2)).setCell ⟨b, 4, none⟩ (.slice q.a3 n.pb.length q.c3)).setCell ⟨b, 5, none⟩ (.slice q.a4 n.bufs.length q.c4)).heap[b]? = some (.cells #[.int .i64 n.mesh.g.w, .int .i64 n.mesh.g.h, .slice q.a1 n.mesh.br.length q.c1, .slice q.a2 n.pa.length q.c2, .slice q.a3 n.pb.length q.c3, .slice q.a4 n.bufs.length q.c4, a6, a7, a8, a9, a10] 44 (0, 0)) := (blk_set k5 5 (.slice q.a4 n.bufs.length q.c4)).trans rfl
  have k7 : (((((((w.setCell ⟨b, 0, none⟩ (.int .i64 n.mesh.g.w)).setCell ⟨b, 1, none⟩ (.int .i64 n.mesh.g.h)).setCell ⟨b, 2, none⟩ (.slice q.a1 n.mesh.br.length q.c1)).setCell ⟨b, 3, none⟩ (.slice q.a2 n.pa.length q.c2)).setCell ⟨b, 4, none⟩ (.slice q.a3 n.pb.length q.c3)).setCell ⟨b, 5, none⟩ (.slice q.a4 n.bufs.length q.c4)).setCell ⟨b, 6, none⟩ (.slice q.a5 n.owners.length q.c5)).heap[b]? = some (.cells #[.int .i64 n.mesh.g.w, .int .i64 n.mesh.g.h, .slice q.a1 n.mesh.br.length q.c1, .slice q.a2 n.pa.length q.c2, .slice q.a3 n.pb.length q.c3, .slice q.a4 n.bufs.length q.c4, .slice q.a5 n.owners.length q.c5, a7, a8, a9, a10] 44 (0, 0)) := (blk_set k6 6 (.slice q.a5 n.owners.length q.c5)).trans rfl
  have k8 : ((((((((w.setCell ⟨b, 0, none⟩ (.int .i64 n.mesh.g.w)).setCell ⟨b, 1, none⟩ (.int .i64 n.mesh.g.h)).setCell ⟨b, 2, none⟩ (.slice q.a1 n.mesh.br.length q.c1)).setCell ⟨b, 3, none⟩ (.slice q.a2 n.pa.length q.c2)).setCell ⟨b, 4, none⟩ (.slice q.a3 n.pb.length q.c3)).setCell ⟨b, 5, none⟩ (.slice q.a4 n.bufs.length q.c4)).setCell ⟨b, 6, none⟩ (.slice q.a5 n.owners.length q.c5)).setCell ⟨b, 7, none⟩ (.slice q.a6 n.turns.length q.c6)).heap[b]? = some (.cells #[.int .i64 n.mesh.g.w, .int .i64 n.mesh.g.h, .slice q.a1 n.mesh.br.length q.c1, .slice q.a2 n.pa.length q.c2, .slice q.a3 n.pb.length q.c3, .slice q.a4 n.bufs.length q.c4, .slice q.a5 n.owners.length q.c5, .slice q.a6 n.turns.length q.c6, a8, a9, a10] 44 (0, 0)) := (blk_set k7 7 (.slice q.a6 n.turns.length q.c6)).trans rfl
  have k9 : (((((((((w.setCell ⟨b, 0, none⟩ (.int .i64 n.mesh.g.w)).setCell ⟨b, 1, none⟩ (.int .i64 n.mesh.g.h)).setCell ⟨b, 2, none⟩ (.slice q.a1 n.mesh.br.length q.c1)).setCell ⟨b, 3, none⟩ (.slice q.a2 n.pa.length q.c2)).setCell ⟨b, 4, none⟩ (.slice q.a3 n.pb.length q.c3)).setCell ⟨b, 5, none⟩ (.slice q.a4 n.bufs.length q.c4)).setCell ⟨b, 6, none⟩ (.slice q.a5 n.owners.length q.c5)).setCell ⟨b, 7, none⟩ (.slice q.a6 n.turns.length q.c6)).setCell ⟨b, 8, none⟩ (.slice q.a7 n.srcs.length q.c7)).heap[b]? = some (.cells #[.int .i64 n.mesh.g.w, .int .i64 n.mesh.g.h, .slice q.a1 n.mesh.br.length q.c1, .slice q.a2 n.pa.length q.c2, .slice q.a3 n.pb.length q.c3, .slice q.a4 n.bufs.length q.c4, .slice q.a5 n.owners.length q.c5, .slice q.a6 n.turns.length q.c6, .slice q.a7 n.srcs.length q.c7, a9, a10] 44 (0, 0)) := (blk_set k8 8 (.slice q.a7 n.srcs.length q.c7)).trans rfl
  have k10 : ((((((((((w.setCell ⟨b, 0, none⟩ (.int .i64 n.mesh.g.w)).setCell ⟨b, 1, none⟩ (.int .i64 n.mesh.g.h)).setCell ⟨b, 2, none⟩ (.slice q.a1 n.mesh.br.length q.c1)).setCell ⟨b, 3, none⟩ (.slice q.a2 n.pa.length q.c2)).setCell ⟨b, 4, none⟩ (.slice q.a3 n.pb.length q.c3)).setCell ⟨b, 5, none⟩ (.slice q.a4 n.bufs.length q.c4)).setCell ⟨b, 6, none⟩ (.slice q.a5 n.owners.length q.c5)).setCell ⟨b, 7, none⟩ (.slice q.a6 n.turns.length q.c6)).setCell ⟨b, 8, none⟩ (.slice q.a7 n.srcs.length q.c7)).setCell ⟨b, 9, none⟩ (.slice q.a8 n.arrs.length q.c8)).heap[b]? = some (.cells #[.int .i64 n.mesh.g.w, .int .i64 n.mesh.g.h, .slice q.a1 n.mesh.br.length q.c1, .slice q.a2 n.pa.length q.c2, .slice q.a3 n.pb.length q.c3, .slice q.a4 n.bufs.length q.c4, .slice q.a5 n.owners.length q.c5, .slice q.a6 n.turns.length q.c6, .slice q.a7 n.srcs.length q.c7, .slice q.a8 n.arrs.length q.c8, a10] 44 (0, 0)) := (blk_set k9 9 (.slice q.a8 n.arrs.length q.c8)).trans rfl
  have k11 : (((((((((((w.setCell ⟨b, 0, none⟩ (.int .i64 n.mesh.g.w)).setCell ⟨b, 1, none⟩ (.int .i64 n.mesh.g.h)).setCell ⟨b, 2, none⟩ (.slice q.a1 n.mesh.br.length q.c1)).setCell ⟨b, 3, none⟩ (.slice q.a2 n.pa.length q.c2)).setCell ⟨b, 4, none⟩ (.slice q.a3 n.pb.length q.c3)).setCell ⟨b, 5, none⟩ (.slice q.a4 n.bufs.length q.c4)).setCell ⟨b, 6, none⟩ (.slice q.a5 n.owners.length q.c5)).setCell ⟨b, 7, none⟩ (.slice q.a6 n.turns.length q.c6)).setCell ⟨b, 8, none⟩ (.slice q.a7 n.srcs.length q.c7)).setCell ⟨b, 9, none⟩ (.slice q.a8 n.arrs.length q.c8)).setCell ⟨b, 10, none⟩ (.int .i64 n.time)).heap[b]? = some (.cells #[.int .i64 n.mesh.g.w, .int .i64 n.mesh.g.h, .slice q.a1 n.mesh.br.length q.c1, .slice q.a2 n.pa.length q.c2, .slice q.a3 n.pb.length q.c3, .slice q.a4 n.bufs.length q.c4, .slice q.a5 n.owners.length q.c5, .slice q.a6 n.turns.length q.c6, .slice q.a7 n.srcs.length q.c7, .slice q.a8 n.arrs.length q.c8, .int .i64 n.time] 44 (0, 0)) := (blk_set k10 10 (.int .i64 n.time)).trans rfl
  exact k11
theorem NX.put {lo : Nat} {m : Net} {p : NA} {v4 v7 v8 : List Value} (h : NX w lo m p v4 v7 v8) (hb : BN w b) : NX (putN w b n q) lo m p v4 v7 v8 := by
  have b0 := hb.blk
  unfold putN
  have h1 := h.typed b0 (by decide) (by decide) (by decide) 0 (.int .i64 n.mesh.g.w)
  have b1 := b0.set b 0 (.int .i64 n.mesh.g.w)
  have h2 := h1.typed b1 (by decide) (by decide) (by decide) 1 (.int .i64 n.mesh.g.h)
  have b2 := b1.set b 1 (.int .i64 n.mesh.g.h)
  have h3 := h2.typed b2 (by decide) (by decide) (by decide) 2 (.slice q.a1 n.mesh.br.length q.c1)
  have b3 := b2.set b 2 (.slice q.a1 n.mesh.br.length q.c1)
  have h4 := h3.typed b3 (by decide) (by decide) (by decide) 3 (.slice q.a2 n.pa.length q.c2)
  have b4 := b3.set b 3 (.slice q.a2 n.pa.length q.c2)
  have h5 := h4.typed b4 (by decide) (by decide) (by decide) 4 (.slice q.a3 n.pb.length q.c3)
  have b5 := b4.set b 4 (.slice q.a3 n.pb.length q.c3)
  have h6 := h5.typed b5 (by decide) (by decide) (by decide) 5 (.slice q.a4 n.bufs.length q.c4)
  have b6 := b5.set b 5 (.slice q.a4 n.bufs.length q.c4)
  have h7 := h6.typed b6 (by decide) (by decide) (by decide) 6 (.slice q.a5 n.owners.length q.c5)
  have b7 := b6.set b 6 (.slice q.a5 n.owners.length q.c5)
  have h8 := h7.typed b7 (by decide) (by decide) (by decide) 7 (.slice q.a6 n.turns.length q.c6)
  have b8 := b7.set b 7 (.slice q.a6 n.turns.length q.c6)
  have h9 := h8.typed b8 (by decide) (by decide) (by decide) 8 (.slice q.a7 n.srcs.length q.c7)
  have b9 := b8.set b 8 (.slice q.a7 n.srcs.length q.c7)
  have h10 := h9.typed b9 (by decide) (by decide) (by decide) 9 (.slice q.a8 n.arrs.length q.c8)
  have b10 := b9.set b 9 (.slice q.a8 n.arrs.length q.c8)
  have h11 := h10.typed b10 (by decide) (by decide) (by decide) 10 (.int .i64 n.time)
  have b11 := b10.set b 10 (.int .i64 n.time)
  exact h11
theorem below_put {B : Nat} {w0 : World} (h : Below B w0 w) (hB : B ≤ b) : Below B w0 (putN w b n q) := by
  unfold putN
  exact below_setc (below_setc (below_setc (below_setc (below_setc (below_setc (below_setc (below_setc (below_setc (below_setc (below_setc h hB 0 _) hB 1 _) hB 2 _) hB 3 _) hB 4 _) hB 5 _) hB 6 _) hB 7 _) hB 8 _) hB 9 _) hB 10 _
end
end Go.Proofs.YtmkbmddgkdoaiaaGreat
