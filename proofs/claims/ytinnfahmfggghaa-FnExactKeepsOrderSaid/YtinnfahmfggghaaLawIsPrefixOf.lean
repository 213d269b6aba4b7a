/- Is a list the beginning of another? What the program and the reference return; for all lists of at most a million numbers. -/
import Derived.Test.YtinnfahmfggghaaLawI
import Derived.Test.YtinnfahmfggghaaBox
import Derived.Test.YtinnfahmfggghaaLawFit
set_option linter.unusedVariables false
set_option linter.unusedSimpArgs false
namespace Go.Proofs.Ytinnfahmfggghaa
open Go.RowKit Go.Proofs.YtinnfahmfggghaaW.PrintWords
open NoC

def isPre (a b : List Int) : Bool := decide (a.length ≤ b.length) && eqL a (b.take a.length)
theorem ri_take (b : List Int) (n j : Nat) (h : j < n) : ri (b.take n) j = ri b j := by
  simp [ri, List.getElem?_take, h]
theorem isPre_yes {a b : List Int} (hl : a.length ≤ b.length) (h : ∀ j : Nat, j < a.length → ri a j = ri b j) : isPre a b = true := by
  unfold isPre
  rw [decide_eq_true hl, eqL_yes (by rw [List.length_take]; omega) (fun j hj => by rw [ri_take _ _ _ hj]; exact h j hj)]
  rfl
theorem isPre_no1 {a b : List Int} (h : ¬ a.length ≤ b.length) : isPre a b = false := by
  unfold isPre
  rw [decide_eq_false h, Bool.false_and]
theorem isPre_no2 {a b : List Int} (j : Nat) (hj : j < a.length) (h : ¬ ri a j = ri b j) : isPre a b = false := by
  unfold isPre
  rw [eqL_no (fun e => h (by rw [← ri_take b a.length j hj, ← e])), Bool.and_false]

set_option maxHeartbeats 1000000 in
theorem slices_Equal_int (a b : List Int) (A B : Option Addr) (c d : Nat) (w : World) (hr : Kd.C (Kd.int .i64) w A a.length a) (hs : Kd.C (Kd.int .i64) w B b.length b) (hn : a.length ≤ 1048576) (hm : b.length ≤ 1048576) :
    Calls Try.prog 137 #[.slice A a.length c, .slice B b.length d] w fun e w' => e = .returned (.bool (eqL a b)) ∧ Below w.heap.size w w' := by
  go_enter Try.func137, Try.ntmps137
  by_cases hl : a.length = b.length
  · have e1 : ((a.length : Int) != (b.length : Int)) = false := bne_eq_false_iff_eq.2 (by omega)
    have HL := Lib.hid hl
    clear hl
    go_wp2
    go_loopw [13] (fun i wr => ∃ k : Nat, k ≤ a.length ∧ i = .int .i64 k ∧ Hid (∀ j : Nat, j < k → ri a j = ri b j) ∧ Below w.heap.size w wr) (fun i _ => a.length - (intOf i).toNat)
    case atStart => exact ⟨0, Nat.zero_le _, rfl, Lib.hid fun j h => absurd h (Nat.not_lt_zero _), (by with_reducible repeat (first | assumption | exact bw_refl _ | apply bw_alloc | apply bw_drew | apply bw_drewN | refine bw_set _ ?_ (by omega) | refine bw_then ?_ (by assumption)))⟩
    case round =>
      obtain ⟨k, hk, rfl, HA, HB⟩ := hrel
      obtain ⟨hc0, hf0, hz0⟩ := bcell HB
      by_cases hlt : k < a.length
      · obtain ⟨b1, o1, rfl, hb1, hx⟩ := rdI_at hr k hlt
        have hxk := hx k hlt
        have HLo := HL.out
        obtain ⟨b2, o2, rfl, hb2, hy⟩ := rdI_at hs k (by omega)
        have hyk := hy k (by omega)
        clear hx hy
        have i0 : (0 : Int) ≤ (k : Int) := by omega
        have i1 : (k : Int) < (a.length : Int) := by omega
        have i2 : (k : Int) < (b.length : Int) := by omega
        clear HLo
        by_cases e : ri a k = ri b k
        · have e2 : (ri a k != ri b k) = false := bne_eq_false_iff_eq.2 e
          have E := Lib.hid e
          clear e
          go_wp2
          try (go_quiet (fail); go_wp2)
          go_roundw
          case rel => exact ⟨k + 1, by omega, by go_num, Lib.hid (upto HA.out E.out), (by with_reducible repeat (first | assumption | exact bw_refl _ | apply bw_alloc | apply bw_drew | apply bw_drewN | refine bw_set _ ?_ (by omega) | refine bw_then ?_ (by assumption)))⟩
          case measure => simp [intOf]; omega
        · have e2 : (ri a k != ri b k) = true := bne_iff_ne.2 e
          have E := Lib.hid e
          clear e
          go_wp2
          try (go_quiet (fail); go_wp2)
          go_ret
          exact ⟨ret_bool (eqL_no (fun h => E.out (by rw [h]))).symm, (by with_reducible repeat (first | assumption | exact bw_refl _ | apply bw_alloc | apply bw_drew | apply bw_drewN | refine bw_set _ ?_ (by omega) | refine bw_then ?_ (by assumption)))⟩
      · go_wp2
        go_ret
        exact ⟨ret_bool (eqL_yes HL.out (fun j hj => HA.out j (by omega))).symm, (by with_reducible repeat (first | assumption | exact bw_refl _ | apply bw_alloc | apply bw_drew | apply bw_drewN | refine bw_set _ ?_ (by omega) | refine bw_then ?_ (by assumption)))⟩
  · have e1 : ((a.length : Int) != (b.length : Int)) = true := bne_iff_ne.2 (by omega)
    have HL := Lib.hid hl
    clear hl
    go_wp2
    go_ret
    exact ⟨ret_bool (eqL_no (fun h => HL.out (by rw [h]))).symm, (by with_reducible repeat (first | assumption | exact bw_refl _ | apply bw_alloc | apply bw_drew | apply bw_drewN | refine bw_set _ ?_ (by omega) | refine bw_then ?_ (by assumption)))⟩
theorem info_one : (Try.prog.info? 3).map (·.size) = some 1 := by kernel_rfl
set_option maxHeartbeats 1000000 in
theorem impl_IsPrefixOf (a b : List Int) (A B : Option Addr) (c d : Nat) (w : World) (hr : Kd.C (Kd.int .i64) w A a.length a) (hs : Kd.C (Kd.int .i64) w B b.length b) (hn : a.length ≤ 1048576) (hm : b.length ≤ 1048576) (hd : b.length ≤ d) :
    Calls Try.prog 78 #[.slice A a.length c, .slice B b.length d] w fun e w' => e = .returned (.bool (isPre a b)) ∧ Below w.heap.size w w' := by
  go_enter Try.func78, Try.ntmps78
  by_cases hl : a.length ≤ b.length
  · have e1 : decide ((a.length : Int) ≤ (b.length : Int)) = true := decide_eq_true (by omega)
    have hC := Kd.C_take hs hl
    have hlt : (b.take a.length).length = a.length := by rw [List.length_take]; omega
    rw [hlt] at hC
    have hC' : Kd.C (Kd.int .i64) w B (b.take a.length).length (b.take a.length) := by rw [hlt]; exact hC
    have hE := slices_Equal_int a (b.take a.length) A B c d w hr hC' hn (by omega)
    rw [hlt] at hE
    have HE := Lib.hid hE
    have hcut : ∀ w : World, (Instr.slice 24 (.slice B b.length d) none (some (.int .i64 (a.length : Int))) none).run Try.prog w = .ok (.slice B a.length d) w := by
      intro w
      obtain ⟨i, hi, _⟩ := Option.map_eq_some_iff.1 info_one
      have := cut_to (P := Try.prog) 24 3 .i64 Try.underlying24 hi B b.length d (a.length : Int) (by omega) (by omega) hd w
      simpa using this
    have hp : isPre a b = eqL a (b.take a.length) := by rw [isPre, decide_eq_true hl, Bool.true_and]
    have HP := Lib.hid hp
    clear hE hC hC' hlt hp
    go_wp2_with (go_at_call 137; refine HE.out.mono ?_; rintro e w1 ⟨rfl, hb1⟩; obtain ⟨hc1, hf1, hz1⟩ := bcell hb1; (try simp only [World.size_alloc, World.size_setCell, World.size_drew, sz_drewN] at hz1); have hb2 := (by first | exact bw_then hb2 hb1 | exact bw_then (bw_drewN _ hb2) hb1 | exact bw_then (bw_alloc _ hb2) hb1 | exact bw_then (bw_drew hb2) hb1 | exact bw_then HB hb1 | exact bw_then (bw_drewN _ HB) hb1 | exact bw_then (bw_alloc _ HB) hb1 | exact bw_then (bw_drew HB) hb1 | exact hb1); obtain ⟨hc2, hf2, hz2⟩ := bcell hb2; (try simp only [World.size_alloc, World.size_setCell, World.size_drew, sz_drewN] at hz2); try (first | obtain ⟨hy1, hy2, hy3, hy4⟩ := lts4 hz2 | obtain ⟨hy1, hy2, hy3⟩ := lts3 hz2 | obtain ⟨hy1, hy2⟩ := lts2 hz2 | have hy1 := lts1 hz2); have hb9 := hb1)
    go_ret
    exact ⟨ret_bool HP.out.symm, (by with_reducible repeat (first | assumption | exact bw_refl _ | apply bw_alloc | apply bw_drew | apply bw_drewN | refine bw_set _ ?_ (by omega) | refine bw_then ?_ (by assumption)))⟩
  · have e1 : decide ((a.length : Int) ≤ (b.length : Int)) = false := decide_eq_false (by omega)
    go_wp2
    go_ret
    exact ⟨ret_bool (isPre_no1 hl).symm, (by with_reducible repeat (first | assumption | exact bw_refl _ | apply bw_alloc | apply bw_drew | apply bw_drewN | refine bw_set _ ?_ (by omega) | refine bw_then ?_ (by assumption)))⟩
set_option maxHeartbeats 1000000 in
theorem spec_IsPrefixOf (a b : List Int) (A B : Option Addr) (c d : Nat) (w : World) (hr : Kd.C (Kd.int .i64) w A a.length a) (hs : Kd.C (Kd.int .i64) w B b.length b) (hn : a.length ≤ 1048576) (hm : b.length ≤ 1048576) :
    Calls Try.prog 73 #[.slice A a.length c, .slice B b.length d] w fun e w' => e = .returned (.bool (isPre a b)) ∧ Below w.heap.size w w' := by
  go_enter Try.func73, Try.ntmps73
  go_wp2
  go_loopw [5] (fun i wr => ∃ k : Nat, k ≤ a.length ∧ k ≤ b.length ∧ i = .int .i64 k ∧ Hid (∀ j : Nat, j < k → ri a j = ri b j) ∧ Below w.heap.size w wr) (fun i _ => a.length - (intOf i).toNat)
  case atStart => exact ⟨0, Nat.zero_le _, Nat.zero_le _, rfl, Lib.hid fun j h => absurd h (Nat.not_lt_zero _), (by with_reducible repeat (first | assumption | exact bw_refl _ | apply bw_alloc | apply bw_drew | apply bw_drewN | refine bw_set _ ?_ (by omega) | refine bw_then ?_ (by assumption)))⟩
  case round =>
    obtain ⟨k, hk, hkb, rfl, HA, HB⟩ := hrel
    obtain ⟨hc0, hf0, hz0⟩ := bcell HB
    by_cases hlt : k < a.length
    · by_cases hlb : k < b.length
      · obtain ⟨b1, o1, rfl, hb1, hx⟩ := rdI_at hr k hlt
        have hxk := hx k hlt
        obtain ⟨b2, o2, rfl, hb2, hy⟩ := rdI_at hs k hlb
        have hyk := hy k hlb
        clear hx hy
        have i0 : (0 : Int) ≤ (k : Int) := by omega
        have i1 : (k : Int) < (a.length : Int) := by omega
        have i2 : (k : Int) < (b.length : Int) := by omega
        have i3 : decide ((b.length : Int) ≤ (k : Int)) = false := decide_eq_false (by omega)
        by_cases e : ri a k = ri b k
        · have e2 : (ri a k != ri b k) = false := bne_eq_false_iff_eq.2 e
          have E := Lib.hid e
          clear e
          go_wp2
          try (go_quiet (fail); go_wp2)
          go_roundw
          case rel => exact ⟨k + 1, by omega, by omega, by go_num, Lib.hid (upto HA.out E.out), (by with_reducible repeat (first | assumption | exact bw_refl _ | apply bw_alloc | apply bw_drew | apply bw_drewN | refine bw_set _ ?_ (by omega) | refine bw_then ?_ (by assumption)))⟩
          case measure => simp [intOf]; omega
        · have e2 : (ri a k != ri b k) = true := bne_iff_ne.2 e
          have E := Lib.hid e
          clear e
          go_wp2
          try (go_quiet (fail); go_wp2)
          go_ret
          exact ⟨ret_bool (isPre_no2 k hlt E.out).symm, (by with_reducible repeat (first | assumption | exact bw_refl _ | apply bw_alloc | apply bw_drew | apply bw_drewN | refine bw_set _ ?_ (by omega) | refine bw_then ?_ (by assumption)))⟩
      · have i3 : decide ((b.length : Int) ≤ (k : Int)) = true := decide_eq_true (by omega)
        have HN := Lib.hid (isPre_no1 (a := a) (b := b) (by omega))
        go_wp2
        try (go_quiet (fail); go_wp2)
        go_ret
        exact ⟨ret_bool HN.out.symm, (by with_reducible repeat (first | assumption | exact bw_refl _ | apply bw_alloc | apply bw_drew | apply bw_drewN | refine bw_set _ ?_ (by omega) | refine bw_then ?_ (by assumption)))⟩
    · go_wp2
      go_ret
      exact ⟨ret_bool (isPre_yes (by omega) (fun j hj => HA.out j (by omega))).symm, (by with_reducible repeat (first | assumption | exact bw_refl _ | apply bw_alloc | apply bw_drew | apply bw_drewN | refine bw_set _ ?_ (by omega) | refine bw_then ?_ (by assumption)))⟩

end Go.Proofs.Ytinnfahmfggghaa
