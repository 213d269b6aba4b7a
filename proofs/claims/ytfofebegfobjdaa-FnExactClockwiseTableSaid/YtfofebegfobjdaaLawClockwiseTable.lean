/- The law FnExactClockwiseTable, walked: it answers true. -/
import Derived.Test.YtfofebegfobjdaaClock
import Derived.Test.YtfofebegfobjdaaMarkM
set_option linter.unusedVariables false
set_option linter.unusedSimpArgs false
namespace Go.Proofs.Ytfofebegfobjdaa
open Go.RowKit Go.Proofs.YtfofebegfobjdaaW.PrintWords
open NoC

set_option maxHeartbeats 4000000 in
set_option maxRecDepth 100000 in
theorem law_ClockwiseTable (w : World) :
    Calls Try.prog 5 #[] w fun e w' => e = .returned (.bool true) ∧ Below w.heap.size w w' := by
  obtain ⟨res, hres0⟩ : ∃ r, cwL 16 = r := ⟨_, rfl⟩
  have hres : res.length ≤ 1048576 := by rw [← hres0, cwL_len]; decide
  have HRES := Lib.hid hres0
  clear hres0
  have H0 := bw_refl w
  go_enter Try.func5, Try.ntmps5
  go_wp2_with (go_at_call 17; refine (spec_ClockwiseTable _).mono ?_; rintro e w1 ⟨hg1, hb1⟩; rw [HRES.out] at hg1; have hsz0 := H0.size; have hsz := hb1.size; replace H0 := bw_then H0 hb1; (try replace HWr := Kd.R_below HWr hb1); (try replace HG := Kd.R_below HG hb1); (try replace HH := Kd.R_below HH hb1); obtain ⟨vw, rfl, HWr⟩ := hg1; obtain ⟨Aw, cw, rfl⟩ := Kd.R_slice HWr; have IW := within_R HWr)
  have Bw : Box (w1.alloc (.cells #[.slice Aw res.length cw] 28)) w1.heap.size #[.slice Aw res.length cw] := Box.new w1 _ _ _ rfl
  have H0 : Below w.heap.size w (w1.alloc (.cells #[.slice Aw res.length cw] 28)) := bw_alloc _ H0
  have HWr := Kd.R_below HWr (bw_alloc (.cells #[.slice Aw res.length cw] 28) (bw_refl w1))
  have nw : w1.heap.size + 1 ≤ (w1.alloc (.cells #[.slice Aw res.length cw] 28)).heap.size := by rw [World.size_alloc]; exact Nat.le_refl _
  generalize hWw : w1.alloc (.cells #[.slice Aw res.length cw] 28) = wA at *
  clear hWw
  obtain ⟨yw, gw⟩ := Bw
  go_wp2_with (go_at_call 18; refine (impl_ClockwiseTable _).mono ?_; rintro e w1 ⟨hg1, hb1⟩; rw [HRES.out] at hg1; have hsz0 := H0.size; have hsz := hb1.size; replace H0 := bw_then H0 hb1; (try replace HWr := Kd.R_below HWr hb1); (try replace HG := Kd.R_below HG hb1); (try replace HH := Kd.R_below HH hb1); (try (have Bw := Box.below ⟨yw, gw⟩ hb1; obtain ⟨yw, gw⟩ := Bw)); obtain ⟨vg, rfl, HG⟩ := hg1; obtain ⟨Ag, cg, rfl⟩ := Kd.R_slice HG; have IG := within_R HG)
  have Bw := Box.alloc ⟨yw, gw⟩ (.cells #[.slice Ag res.length cg] 28)
  have Bg : Box (w1.alloc (.cells #[.slice Ag res.length cg] 28)) w1.heap.size #[.slice Ag res.length cg] := Box.new w1 _ _ _ rfl
  have H0 : Below w.heap.size w (w1.alloc (.cells #[.slice Ag res.length cg] 28)) := bw_alloc _ H0
  have HWr := Kd.R_below HWr (bw_alloc (.cells #[.slice Ag res.length cg] 28) (bw_refl w1))
  have HG := Kd.R_below HG (bw_alloc (.cells #[.slice Ag res.length cg] 28) (bw_refl w1))
  have ng : w1.heap.size + 1 ≤ (w1.alloc (.cells #[.slice Ag res.length cg] 28)).heap.size := by rw [World.size_alloc]; exact Nat.le_refl _
  generalize hWg : w1.alloc (.cells #[.slice Ag res.length cg] 28) = wB at *
  clear hWg
  obtain ⟨yw, gw⟩ := Bw
  obtain ⟨yg, gg⟩ := Bg
  go_wp2_with (first | (go_at_call 19; refine (laws_eqTable res res _ _ _ _ _ (Kd.R_row HG).2.2 hres (Kd.R_row HWr).2.2 hres).mono ?_; rintro e w1 ⟨he, hb1⟩; rw [eqL_self] at he; subst he; have hsz0 := H0.size; have hsz := hb1.size; replace H0 := bw_then H0 hb1; (try replace HWr := Kd.R_below HWr hb1); (try replace HG := Kd.R_below HG hb1); (try replace HH := Kd.R_below HH hb1); (try (have Bw := Box.below ⟨yw, gw⟩ hb1; obtain ⟨yw, gw⟩ := Bw)); (try (have Bg := Box.below ⟨yg, gg⟩ hb1; obtain ⟨yg, gg⟩ := Bg))) | (go_at_call 20; refine (laws_markTable res _ _ _ _ _ HG hres (by omega) (by omega)).mono ?_; rintro e w1 ⟨rfl, HG2, hg1⟩; have hsz0 := H0.size; have hsz := hg1.size; replace H0 := bw_grown H0 hg1 IG (by omega); replace HWr := R_grownI HWr hg1 (by first | exact apart_lt IW IG (by omega) | exact apart_gt IW IG (by omega)); have Bw := Box.grown ⟨yw, gw⟩ hg1 (box_out IG (by omega)); obtain ⟨yw, gw⟩ := Bw; have Bg := Box.grown ⟨yg, gg⟩ hg1 (box_out IG (by omega)); obtain ⟨yg, gg⟩ := Bg; replace HG := HG2; clear HG2) | (go_at_call 21; refine (laws_heldTable res.length 1 _ _ _ (Kd.R_row HG).2.2 hres (by omega) (by omega)).mono ?_; rintro e w1 ⟨rfl, hb1⟩; have hsz0 := H0.size; have hsz := hb1.size; replace H0 := bw_then H0 hb1; (try replace HWr := Kd.R_below HWr hb1); (try replace HG := Kd.R_below HG hb1); (try replace HH := Kd.R_below HH hb1); (try (have Bw := Box.below ⟨yw, gw⟩ hb1; obtain ⟨yw, gw⟩ := Bw)); (try (have Bg := Box.below ⟨yg, gg⟩ hb1; obtain ⟨yg, gg⟩ := Bg))))
  go_wp2_with (go_at_call 18; refine (impl_ClockwiseTable _).mono ?_; rintro e w1 ⟨hg1, hb1⟩; rw [HRES.out] at hg1; have hsz0 := H0.size; have hsz := hb1.size; replace H0 := bw_then H0 hb1; (try replace HWr := Kd.R_below HWr hb1); (try replace HG := Kd.R_below HG hb1); (try replace HH := Kd.R_below HH hb1); (try (have Bw := Box.below ⟨yw, gw⟩ hb1; obtain ⟨yw, gw⟩ := Bw)); (try (have Bg := Box.below ⟨yg, gg⟩ hb1; obtain ⟨yg, gg⟩ := Bg)); obtain ⟨vh, rfl, HH⟩ := hg1; obtain ⟨Ah, ch, rfl⟩ := Kd.R_slice HH; have IH := within_R HH)
  have Bw := Box.alloc ⟨yw, gw⟩ (.cells #[.slice Ah res.length ch] 28)
  have Bg := Box.alloc ⟨yg, gg⟩ (.cells #[.slice Ah res.length ch] 28)
  have Bh : Box (w1.alloc (.cells #[.slice Ah res.length ch] 28)) w1.heap.size #[.slice Ah res.length ch] := Box.new w1 _ _ _ rfl
  have H0 : Below w.heap.size w (w1.alloc (.cells #[.slice Ah res.length ch] 28)) := bw_alloc _ H0
  have HWr := Kd.R_below HWr (bw_alloc (.cells #[.slice Ah res.length ch] 28) (bw_refl w1))
  have HG := Kd.R_below HG (bw_alloc (.cells #[.slice Ah res.length ch] 28) (bw_refl w1))
  have HH := Kd.R_below HH (bw_alloc (.cells #[.slice Ah res.length ch] 28) (bw_refl w1))
  have nh : w1.heap.size + 1 ≤ (w1.alloc (.cells #[.slice Ah res.length ch] 28)).heap.size := by rw [World.size_alloc]; exact Nat.le_refl _
  generalize hWh : w1.alloc (.cells #[.slice Ah res.length ch] 28) = wC at *
  clear hWh
  obtain ⟨yw, gw⟩ := Bw
  obtain ⟨yg, gg⟩ := Bg
  obtain ⟨yh, gh⟩ := Bh
  go_wp2_with (first | (go_at_call 19; refine (laws_eqTable res res _ _ _ _ _ (Kd.R_row HH).2.2 hres (Kd.R_row HWr).2.2 hres).mono ?_; rintro e w1 ⟨he, hb1⟩; rw [eqL_self] at he; subst he; have hsz0 := H0.size; have hsz := hb1.size; replace H0 := bw_then H0 hb1; (try replace HWr := Kd.R_below HWr hb1); (try replace HG := Kd.R_below HG hb1); (try replace HH := Kd.R_below HH hb1); (try (have Bw := Box.below ⟨yw, gw⟩ hb1; obtain ⟨yw, gw⟩ := Bw)); (try (have Bg := Box.below ⟨yg, gg⟩ hb1; obtain ⟨yg, gg⟩ := Bg)); (try (have Bh := Box.below ⟨yh, gh⟩ hb1; obtain ⟨yh, gh⟩ := Bh))) | (go_at_call 21; refine (laws_heldTable res.length 1 _ _ _ (Kd.R_row HG).2.2 hres (by omega) (by omega)).mono ?_; rintro e w1 ⟨rfl, hb1⟩; have hsz0 := H0.size; have hsz := hb1.size; replace H0 := bw_then H0 hb1; (try replace HWr := Kd.R_below HWr hb1); (try replace HG := Kd.R_below HG hb1); (try replace HH := Kd.R_below HH hb1); (try (have Bw := Box.below ⟨yw, gw⟩ hb1; obtain ⟨yw, gw⟩ := Bw)); (try (have Bg := Box.below ⟨yg, gg⟩ hb1; obtain ⟨yg, gg⟩ := Bg)); (try (have Bh := Box.below ⟨yh, gh⟩ hb1; obtain ⟨yh, gh⟩ := Bh))))
  go_ret
  exact ⟨rfl, H0⟩
end Go.Proofs.Ytfofebegfobjdaa
