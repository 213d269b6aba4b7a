/- The law FnExactWaitCycle, walked: it answers true for all arguments. -/
import Derived.Test.YtfofebegfobjdaaCyc2
import Derived.Test.YtfofebegfobjdaaLawFit
set_option linter.unusedVariables false
set_option linter.unusedSimpArgs false
namespace Go.Proofs.Ytfofebegfobjdaa
open Go.RowKit Go.Proofs.YtfofebegfobjdaaW.PrintWords
open NoC

set_option maxHeartbeats 4000000 in
set_option maxRecDepth 100000 in
theorem law_WaitCycle (l : List Wait) (D : Option Addr) (n : Nat) (w : World) (hp : kW.C w D l.length l) (hkl : l.length ≤ 140737488355328) :
    Calls Try.prog 10 #[.slice D l.length n] w fun e w' => e = .returned (.bool true) ∧ Below w.heap.size w w' := by
  go_enter Try.func10, Try.ntmps10
  by_cases hs9 : szN l.length 1048576 < 0
  · go_wp2_with (go_at_call 37; refine (laws_szWaitS l _ D _ _ hkl (by omega) (by omega)).mono ?_; rintro e w' ⟨rfl, rfl⟩)
    go_ret
    exact ⟨rfl, (by with_reducible repeat (first | assumption | exact bw_refl _ | apply bw_alloc | apply bw_drew | apply bw_drewN | refine bw_set _ ?_ (by omega) | refine bw_then ?_ (by assumption)))⟩
  have hkl1 := szN_fits hs9
  have hl2 : l.length ≤ 1048576 := by omega
  clear hkl1
  have H0 := bw_refl w
  obtain ⟨res, hres0⟩ : ∃ r, wcL l = r := ⟨_, rfl⟩
  have hres : res.length ≤ 1048576 := by rw [← hres0]; exact Nat.le_trans (wcL_len2 l) hl2
  have HRES := Lib.hid hres0
  clear hres0
  go_wp2_with (first | (go_at_call 37; refine (laws_szWaitS l _ D _ _ hkl (by omega) (by omega)).mono ?_; rintro e w' ⟨rfl, rfl⟩) | (go_at_call 39; refine (laws_toWaitS l D _ _ (Kd.C_below hp H0) hl2).mono ?_; rintro e w1 ⟨hg1, hb1⟩; have hsz0 := H0.size; have hsz := hb1.size; replace H0 := bw_then H0 hb1; (try replace HWr := Kd.R_below HWr hb1); (try replace HX := Kd.R_below HX hb1); (try replace HG := Kd.R_below HG hb1); (try replace HH := Kd.R_below HH hb1); (try replace HT := Kd.R_below HT hb1); obtain ⟨vt, rfl, HT⟩ := hg1; obtain ⟨At, ct, rfl⟩ := Kd.R_slice HT; have IT := within_R HT) | (go_at_call 38; refine (spec_WaitCycle l _ _ _ (Kd.R_rowF HT).2.2 hl2).mono ?_; rintro e w1 ⟨hg1, hb1⟩; rw [HRES.out] at hg1; have hsz0 := H0.size; have hsz := hb1.size; replace H0 := bw_then H0 hb1; (try replace HWr := Kd.R_below HWr hb1); (try replace HX := Kd.R_below HX hb1); (try replace HG := Kd.R_below HG hb1); (try replace HH := Kd.R_below HH hb1); (try replace HT := Kd.R_below HT hb1); obtain ⟨vw, rfl, HWr⟩ := hg1; obtain ⟨Aw, cw, rfl⟩ := Kd.R_slice HWr; have IW := within_R HWr))
  obtain ⟨Ax, rfl⟩ : ∃ x, x = At := ⟨_, rfl⟩
  obtain ⟨cx, rfl⟩ : ∃ x, x = ct := ⟨_, rfl⟩
  have HX := HT
  have IX := IT
  clear HT IT
  go_wp2_with (go_at_call 40; refine (impl_WaitCycle l _ _ _ (Kd.R_rowF HX).2.2 hl2).mono ?_; rintro e w1 ⟨hg1, hb1⟩; rw [HRES.out] at hg1; have hsz0 := H0.size; have hsz := hb1.size; replace H0 := bw_then H0 hb1; (try replace HWr := Kd.R_below HWr hb1); (try replace HX := Kd.R_below HX hb1); (try replace HG := Kd.R_below HG hb1); (try replace HH := Kd.R_below HH hb1); (try replace HT := Kd.R_below HT hb1); obtain ⟨vg, rfl, HG⟩ := hg1; obtain ⟨Ag, cg, rfl⟩ := Kd.R_slice HG; have IG := within_R HG)
  go_wp2_with (first | (go_at_call 16; refine (laws_eqIntS res res _ _ _ _ _ (Kd.R_row HG).2.2 (Kd.R_row HWr).2.2 hres hres).mono ?_; rintro e w1 ⟨he, hb1⟩; rw [eqL_self] at he; subst he; have hsz0 := H0.size; have hsz := hb1.size; replace H0 := bw_then H0 hb1; (try replace HWr := Kd.R_below HWr hb1); (try replace HX := Kd.R_below HX hb1); (try replace HG := Kd.R_below HG hb1); (try replace HH := Kd.R_below HH hb1); (try replace HT := Kd.R_below HT hb1)) | (go_at_call 39; refine (laws_toWaitS l D _ _ (Kd.C_below hp H0) hl2).mono ?_; rintro e w1 ⟨hg1, hb1⟩; have hsz0 := H0.size; have hsz := hb1.size; replace H0 := bw_then H0 hb1; (try replace HWr := Kd.R_below HWr hb1); (try replace HX := Kd.R_below HX hb1); (try replace HG := Kd.R_below HG hb1); (try replace HH := Kd.R_below HH hb1); (try replace HT := Kd.R_below HT hb1); obtain ⟨vt, rfl, HT⟩ := hg1; obtain ⟨At, ct, rfl⟩ := Kd.R_slice HT; have IT := within_R HT) | (go_at_call 41; refine (laws_eqWaitS l _ _ _ _ _ (Kd.R_rowF HX).2.2 (Kd.R_rowF HT).2.2 hl2).mono ?_; rintro e w1 ⟨rfl, hb1⟩; have hsz0 := H0.size; have hsz := hb1.size; replace H0 := bw_then H0 hb1; (try replace HWr := Kd.R_below HWr hb1); (try replace HX := Kd.R_below HX hb1); (try replace HG := Kd.R_below HG hb1); (try replace HH := Kd.R_below HH hb1); (try replace HT := Kd.R_below HT hb1)) | (go_at_call 42; refine (laws_markWaitS l _ _ _ _ _ HX hl2 (by omega) (by omega)).mono ?_; rintro e w1 ⟨rfl, hg1⟩; have hsz0 := H0.size; have hsz := hg1.size; replace H0 := bw_grown H0 hg1 IX (by omega); (try replace HWr := R_grownI HWr hg1 (by first | exact apart_lt IW IX (by omega) | exact apart_gt IW IX (by omega))); (try replace HG := R_grownI HG hg1 (by first | exact apart_lt IG IX (by omega) | exact apart_gt IG IX (by omega))); (try replace HH := R_grownI HH hg1 (by first | exact apart_lt IH IX (by omega) | exact apart_gt IH IX (by omega))); (try replace HT := R_grownF HT hg1 (by first | exact apart_lt IT IX (by omega) | exact apart_gt IT IX (by omega)))) | (go_at_call 35; refine (laws_markIntS res _ _ _ _ _ HG hres (by omega) (by omega)).mono ?_; rintro e w1 ⟨rfl, HG2, hg1⟩; have hsz0 := H0.size; have hsz := hg1.size; replace H0 := bw_grown H0 hg1 IG (by omega); (try replace HWr := R_grownI HWr hg1 (by first | exact apart_lt IW IG (by omega) | exact apart_gt IW IG (by omega))); (try replace HX := R_grownF HX hg1 (by first | exact apart_lt IX IG (by omega) | exact apart_gt IX IG (by omega))); (try replace HH := R_grownI HH hg1 (by first | exact apart_lt IH IG (by omega) | exact apart_gt IH IG (by omega))); (try replace HT := R_grownF HT hg1 (by first | exact apart_lt IT IG (by omega) | exact apart_gt IT IG (by omega))); replace HG := HG2; clear HG2) | (go_at_call 36; refine (laws_heldIntS res.length 1 _ _ _ (Kd.R_row HG).2.2 hres (by omega) (by omega)).mono ?_; rintro e w' ⟨rfl, rfl⟩))
  go_wp2_with (first | (go_at_call 40; refine (impl_WaitCycle l _ _ _ (Kd.R_rowF HT).2.2 hl2).mono ?_; rintro e w1 ⟨hg1, hb1⟩; rw [HRES.out] at hg1; have hsz0 := H0.size; have hsz := hb1.size; replace H0 := bw_then H0 hb1; (try replace HWr := Kd.R_below HWr hb1); (try replace HX := Kd.R_below HX hb1); (try replace HG := Kd.R_below HG hb1); (try replace HH := Kd.R_below HH hb1); (try replace HT := Kd.R_below HT hb1); obtain ⟨vh, rfl, HH⟩ := hg1; obtain ⟨Ah, ch, rfl⟩ := Kd.R_slice HH; have IH := within_R HH) | (go_at_call 16; refine (laws_eqIntS res res _ _ _ _ _ (Kd.R_row HH).2.2 (Kd.R_row HWr).2.2 hres hres).mono ?_; rintro e w1 ⟨he, hb1⟩; rw [eqL_self] at he; subst he; have hsz0 := H0.size; have hsz := hb1.size; replace H0 := bw_then H0 hb1; (try replace HWr := Kd.R_below HWr hb1); (try replace HX := Kd.R_below HX hb1); (try replace HG := Kd.R_below HG hb1); (try replace HH := Kd.R_below HH hb1); (try replace HT := Kd.R_below HT hb1)) | (go_at_call 36; refine (laws_heldIntS res.length 1 _ _ _ (Kd.R_row HG).2.2 hres (by omega) (by omega)).mono ?_; rintro e w' ⟨rfl, rfl⟩))
  go_ret
  exact ⟨rfl, H0⟩
end Go.Proofs.Ytfofebegfobjdaa
