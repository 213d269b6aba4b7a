/- The law FnExactPatternPackets, walked: it answers true for all arguments. -/
import Derived.Test.YtglajejmnhmcfaaPkt
import Derived.Test.YtglajejmnhmcfaaMarkP
set_option linter.unusedVariables false
set_option linter.unusedSimpArgs false
namespace Go.Proofs.Ytglajejmnhmcfaa
open Go.RowKit Go.Proofs.YtglajejmnhmcfaaW.PrintWords
open NoC

set_option maxHeartbeats 4000000 in
set_option maxRecDepth 100000 in
theorem law_PatternPackets (g : Grid) (p n : Int) (w : World) :
    Calls Try.prog 4 #[.agg #[.int .i64 g.w, .int .i64 g.h], .int .i64 p, .int .i64 n] w fun e w' => e = .returned (.bool true) ∧ Below w.heap.size w w' := by
  obtain ⟨res, hres0⟩ : ∃ r, patternPackets g p n = r := ⟨_, rfl⟩
  have hres : res.length ≤ 1048576 := by
    rw [← hres0]
    unfold patternPackets
    split
    · have h1 := ptTo_len g p n (nodeCount g).toNat
      have h2 := count_le g
      omega
    · simp
  have HRES := Lib.hid hres0
  clear hres0
  go_enter Try.func4, Try.ntmps4
  go_wp2_with fail
  have B0 : Box (w.alloc (.cells #[.int .i64 g.w, .int .i64 g.h] 23)) w.heap.size #[.int .i64 g.w, .int .i64 g.h] := Box.new w _ _ _ rfl
  have H0 : Below w.heap.size w (w.alloc (.cells #[.int .i64 g.w, .int .i64 g.h] 23)) := bw_alloc _ (bw_refl w)
  have n0 : w.heap.size + 1 ≤ (w.alloc (.cells #[.int .i64 g.w, .int .i64 g.h] 23)).heap.size := by rw [World.size_alloc]; exact Nat.le_refl _
  generalize hW : w.alloc (.cells #[.int .i64 g.w, .int .i64 g.h] 23) = w0 at *
  clear hW
  obtain ⟨y0, g0⟩ := B0
  go_wp2_with (first | (go_at_call 10; refine (laws_toGrid g _).mono ?_; rintro e w1 ⟨rfl, hb1⟩; have hsz0 := H0.size; have hsz := hb1.size; replace H0 := bw_then H0 hb1; (try replace HWr := Kd.R_below HWr hb1); (try replace HG := Kd.R_below HG hb1); (try replace HH := Kd.R_below HH hb1); have B0 := Box.below ⟨y0, g0⟩ hb1; obtain ⟨y0, g0⟩ := B0) | (go_at_call 12; refine (spec_PatternPackets g p n _).mono ?_; rintro e w1 ⟨hg1, hb1⟩; rw [HRES.out] at hg1; have hsz0 := H0.size; have hsz := hb1.size; replace H0 := bw_then H0 hb1; (try replace HWr := Kd.R_below HWr hb1); (try replace HG := Kd.R_below HG hb1); (try replace HH := Kd.R_below HH hb1); have B0 := Box.below ⟨y0, g0⟩ hb1; obtain ⟨y0, g0⟩ := B0; obtain ⟨vw, rfl, HWr⟩ := hg1; obtain ⟨Aw, cw, rfl⟩ := Kd.R_slice HWr; have IW := within_R HWr))
  go_wp2_with (first | (go_at_call 10; refine (laws_toGrid g _).mono ?_; rintro e w1 ⟨rfl, hb1⟩; have hsz0 := H0.size; have hsz := hb1.size; replace H0 := bw_then H0 hb1; (try replace HWr := Kd.R_below HWr hb1); (try replace HG := Kd.R_below HG hb1); (try replace HH := Kd.R_below HH hb1); have B0 := Box.below ⟨y0, g0⟩ hb1; obtain ⟨y0, g0⟩ := B0) | (go_at_call 13; refine (impl_PatternPackets g p n _).mono ?_; rintro e w1 ⟨hg1, hb1⟩; rw [HRES.out] at hg1; have hsz0 := H0.size; have hsz := hb1.size; replace H0 := bw_then H0 hb1; (try replace HWr := Kd.R_below HWr hb1); (try replace HG := Kd.R_below HG hb1); (try replace HH := Kd.R_below HH hb1); have B0 := Box.below ⟨y0, g0⟩ hb1; obtain ⟨y0, g0⟩ := B0; obtain ⟨vg, rfl, HG⟩ := hg1; obtain ⟨Ag, cg, rfl⟩ := Kd.R_slice HG; have IG := within_R HG))
  go_wp2_with (first | (go_at_call 14; refine (laws_eqPacketS res _ _ _ _ _ (Kd.R_rowF HG).2.2 (Kd.R_rowF HWr).2.2 hres).mono ?_; rintro e w1 ⟨rfl, hb1⟩; have hsz0 := H0.size; have hsz := hb1.size; replace H0 := bw_then H0 hb1; (try replace HWr := Kd.R_below HWr hb1); (try replace HG := Kd.R_below HG hb1); (try replace HH := Kd.R_below HH hb1); have B0 := Box.below ⟨y0, g0⟩ hb1; obtain ⟨y0, g0⟩ := B0) | (go_at_call 15; refine (laws_markPacketS res _ _ _ _ _ HG hres (by omega) (by omega)).mono ?_; rintro e w1 ⟨rfl, HG2, hg1⟩; have hsz0 := H0.size; have hsz := hg1.size; replace H0 := bw_grown H0 hg1 IG (by omega); replace HWr := R_grownF HWr hg1 (by first | exact apart_lt IW IG (by omega) | exact apart_gt IW IG (by omega)); have B0 := Box.grown ⟨y0, g0⟩ hg1 (box_out IG (by omega)); obtain ⟨y0, g0⟩ := B0; replace HG := HG2; clear HG2) | (go_at_call 16; refine (laws_heldPacketS res.length 1 _ _ _ (Kd.R_rowF HG).2.2 hres (by omega) (by omega)).mono ?_; rintro e w' ⟨rfl, rfl⟩) | (go_at_call 10; refine (laws_toGrid g _).mono ?_; rintro e w1 ⟨rfl, hb1⟩; have hsz0 := H0.size; have hsz := hb1.size; replace H0 := bw_then H0 hb1; (try replace HWr := Kd.R_below HWr hb1); (try replace HG := Kd.R_below HG hb1); (try replace HH := Kd.R_below HH hb1); have B0 := Box.below ⟨y0, g0⟩ hb1; obtain ⟨y0, g0⟩ := B0) | (go_at_call 13; refine (impl_PatternPackets g p n _).mono ?_; rintro e w1 ⟨hg1, hb1⟩; rw [HRES.out] at hg1; have hsz0 := H0.size; have hsz := hb1.size; replace H0 := bw_then H0 hb1; (try replace HWr := Kd.R_below HWr hb1); (try replace HG := Kd.R_below HG hb1); (try replace HH := Kd.R_below HH hb1); have B0 := Box.below ⟨y0, g0⟩ hb1; obtain ⟨y0, g0⟩ := B0; obtain ⟨vh, rfl, HH⟩ := hg1; obtain ⟨Ah, ch, rfl⟩ := Kd.R_slice HH; have IH := within_R HH) | (go_at_call 14; refine (laws_eqPacketS res _ _ _ _ _ (Kd.R_rowF HH).2.2 (Kd.R_rowF HWr).2.2 hres).mono ?_; rintro e w1 ⟨rfl, hb1⟩; have hsz0 := H0.size; have hsz := hb1.size; replace H0 := bw_then H0 hb1; (try replace HWr := Kd.R_below HWr hb1); (try replace HG := Kd.R_below HG hb1); (try replace HH := Kd.R_below HH hb1); have B0 := Box.below ⟨y0, g0⟩ hb1; obtain ⟨y0, g0⟩ := B0))
  go_ret
  exact ⟨rfl, H0⟩
end Go.Proofs.Ytglajejmnhmcfaa
