/- Is a list of flits one whole packet: the reference. -/
import Derived.Test.YtinnfahmfggghaaWhI
set_option linter.unusedVariables false
set_option linter.unusedSimpArgs false
namespace Go.Proofs.Ytinnfahmfggghaa
open Go.RowKit Go.Proofs.YtinnfahmfggghaaW.PrintWords
open NoC

set_option maxHeartbeats 8000000 in
set_option maxRecDepth 100000 in
theorem spec_IsWhole (l : List Flit) (A : Option Addr) (c : Nat) (w : World) (hr : kF.C w A l.length l) (hn : l.length ≤ 1048576) :
    Calls Try.prog 162 #[.slice A l.length c] w fun e w' => e = .returned (.bool (wholeF l)) ∧ Below w.heap.size w w' := by
  have R := Lib.hid hr
  clear hr
  by_cases hz : l.length = 0
  · have HE := Lib.hid (wholeF_0 hz)
    have f0 : ¬ (0 : Int) < (l.length : Int) := by omega
    clear hz
    go_enter Try.func162, Try.ntmps162
    go_wp2
    go_loopw [3] (fun i wr => i = .int .i64 0 ∧ Below w.heap.size w wr) (fun _ _ => 0)
    case atStart => exact ⟨rfl, (by with_reducible repeat (first | assumption | exact bw_refl _ | apply bw_alloc | apply bw_drew | apply bw_drewN | refine bw_set _ ?_ (by omega) | refine bw_then ?_ (by assumption)))⟩
    case round =>
      obtain ⟨rfl, HB⟩ := hrel
      go_wp2
      go_ret
      exact ⟨ret_bool HE.out.symm, (by with_reducible repeat (first | assumption | exact bw_refl _ | apply bw_alloc | apply bw_drew | apply bw_drewN | refine bw_set _ ?_ (by omega) | refine bw_then ?_ (by assumption)))⟩
  have f9 : (0 : Int) < (l.length : Int) := by omega
  go_enter Try.func162, Try.ntmps162
  go_wp2
  go_loopw [3] (fun i wr => ∃ k : Nat, i = .int .i64 k ∧ k ≤ l.length ∧ Hid (wholeTo l k = true) ∧ Below w.heap.size w wr) (fun i _ => l.length - (intOf i).toNat)
  case atStart => exact ⟨0, rfl, Nat.zero_le _, Lib.hid rfl, (by with_reducible repeat (first | assumption | exact bw_refl _ | apply bw_alloc | apply bw_drew | apply bw_drewN | refine bw_set _ ?_ (by omega) | refine bw_then ?_ (by assumption)))⟩
  case round =>
    obtain ⟨k, rfl, hk, HT, HB⟩ := hrel
    have HC := Lib.hid (Kd.C_below R.out HB)
    by_cases hlt : k < l.length
    · obtain ⟨b, off, rfl, hb, p0, p1, p2, p3, p4⟩ := rdFl_at HC.out k hlt
      obtain ⟨b', off', hA, _, q0, q1, q2, _, _⟩ := rdFl_at HC.out 0 (by omega)
      injection hA with hA
      injection hA with hA1 hA2
      subst hA1 hA2
      clear HC
      simp only [Nat.zero_mul, Nat.add_zero, Int.natCast_zero, Int.ofNat_zero] at q0 q1 q2
      obtain ⟨x0, h0⟩ : ∃ x, (rf l (k : Int)).pk = x := ⟨_, rfl⟩
      obtain ⟨x1, h1⟩ : ∃ x, (rf l (k : Int)).dst = x := ⟨_, rfl⟩
      obtain ⟨x2, h2⟩ : ∃ x, (rf l (k : Int)).cls = x := ⟨_, rfl⟩
      obtain ⟨x3, h3⟩ : ∃ x, (rf l (k : Int)).head = x := ⟨_, rfl⟩
      obtain ⟨x4, h4⟩ : ∃ x, (rf l (k : Int)).tail = x := ⟨_, rfl⟩
      obtain ⟨y0, g0⟩ : ∃ x, (rf l 0).pk = x := ⟨_, rfl⟩
      obtain ⟨y1, g1⟩ : ∃ x, (rf l 0).dst = x := ⟨_, rfl⟩
      obtain ⟨y2, g2⟩ : ∃ x, (rf l 0).cls = x := ⟨_, rfl⟩
      rw [h0] at p0
      rw [h1] at p1
      rw [h2] at p2
      rw [h3] at p3
      rw [h4] at p4
      rw [g0] at q0
      rw [g1] at q1
      rw [g2] at q2
      have b1 : b < wr.heap.size := by have := bw_size HB; omega
      have bne : b ≠ wr.heap.size := by omega
      by_cases e0 : x0 = y0
      · by_cases e1 : x1 = y1
        · by_cases e2 : x2 = y2
          · obtain ⟨d0, hd0⟩ : ∃ d, decide (k = 0) = d := ⟨_, rfl⟩
            obtain ⟨d1, hd1⟩ : ∃ d, decide (k + 1 = l.length) = d := ⟨_, rfl⟩
            have HI := Lib.hid (isW_of (h0.trans (e0.trans g0.symm)) (h1.trans (e1.trans g1.symm)) (h2.trans (e2.trans g2.symm)) hd0 hd1 h3 h4)
            have f0 : ((k : Int) == 0) = d0 := by rw [← hd0]; by_cases h : k = 0 <;> simp [h]
            have f1 : ((k : Int) == (l.length : Int) - 1) = d1 := by
              rw [← hd1]
              by_cases h : k + 1 = l.length
              · have h' : (k : Int) = (l.length : Int) - 1 := by omega
                simp [h, h']
              · have h' : ¬ (k : Int) = (l.length : Int) - 1 := by omega
                simp [h, h']
            subst e0 e1 e2
            clear h0 h1 h2 h3 h4 g0 g1 g2 hd0 hd1
            cases hg : ((x3 == d0) && (x4 == d1))
            · have HM := Lib.hid (wholeF_miss hlt (HI.out.trans hg))
              clear HT HI
              cases x3 <;> cases d0 <;> cases x4 <;> cases d1 <;> first | (exact absurd hg (by decide)) | (clear hg; go_wp2; go_quiet (fail); go_wp2; go_ret; exact ⟨ret_bool HM.out.symm, (by with_reducible repeat (first | assumption | exact bw_refl _ | apply bw_alloc | apply bw_drew | apply bw_drewN | refine bw_set _ ?_ (by omega) | refine bw_then ?_ (by assumption)))⟩)
            · have HM : Hid (wholeTo l (k + 1) = true) := Lib.hid (by rw [wholeTo, HT.out, HI.out, hg]; rfl)
              clear HT HI
              cases x3 <;> cases d0 <;> cases x4 <;> cases d1 <;> first | (exact absurd hg (by decide)) | (clear hg; go_wp2; go_quiet (fail); go_wp2; go_roundw; (case rel => exact ⟨k + 1, by go_num, by omega, HM, (by with_reducible repeat (first | assumption | exact bw_refl _ | apply bw_alloc | apply bw_drew | apply bw_drewN | refine bw_set _ ?_ (by omega) | refine bw_then ?_ (by assumption)))⟩); (case measure => simp [intOf]; omega))
          · have HI := isW_2 (l := l) (i := k) (by rw [h2, g2]; exact e2)
            clear h0 h1 h2 h3 h4 g0 g1 g2
            have f5 : (x2 != y2) = true := bne_iff_ne.2 e2
            have HM := Lib.hid (wholeF_miss hlt (HI))
            clear HI
            clear HT
            go_wp2
            go_quiet (fail)
            go_wp2
            go_ret
            exact ⟨ret_bool HM.out.symm, (by with_reducible repeat (first | assumption | exact bw_refl _ | apply bw_alloc | apply bw_drew | apply bw_drewN | refine bw_set _ ?_ (by omega) | refine bw_then ?_ (by assumption)))⟩
        · have HI := isW_1 (l := l) (i := k) (by rw [h1, g1]; exact e1)
          clear h0 h1 h2 h3 h4 g0 g1 g2
          have f5 : (x1 != y1) = true := bne_iff_ne.2 e1
          have HM := Lib.hid (wholeF_miss hlt (HI))
          clear HI
          clear HT
          go_wp2
          go_quiet (fail)
          go_wp2
          go_ret
          exact ⟨ret_bool HM.out.symm, (by with_reducible repeat (first | assumption | exact bw_refl _ | apply bw_alloc | apply bw_drew | apply bw_drewN | refine bw_set _ ?_ (by omega) | refine bw_then ?_ (by assumption)))⟩
      · have HI := isW_0 (l := l) (i := k) (by rw [h0, g0]; exact e0)
        clear h0 h1 h2 h3 h4 g0 g1 g2
        have f5 : (x0 != y0) = true := bne_iff_ne.2 e0
        have HM := Lib.hid (wholeF_miss hlt (HI))
        clear HI
        clear HT
        go_wp2
        go_quiet (fail)
        go_wp2
        go_ret
        exact ⟨ret_bool HM.out.symm, (by with_reducible repeat (first | assumption | exact bw_refl _ | apply bw_alloc | apply bw_drew | apply bw_drewN | refine bw_set _ ?_ (by omega) | refine bw_then ?_ (by assumption)))⟩
    · obtain rfl : k = l.length := by omega
      have HM := Lib.hid (wholeF_all (by omega) HT.out)
      go_wp2
      go_ret
      exact ⟨ret_bool ((decide_eq_true (by omega)).trans HM.out.symm), (by with_reducible repeat (first | assumption | exact bw_refl _ | apply bw_alloc | apply bw_drew | apply bw_drewN | refine bw_set _ ?_ (by omega) | refine bw_then ?_ (by assumption)))⟩
end Go.Proofs.Ytinnfahmfggghaa
