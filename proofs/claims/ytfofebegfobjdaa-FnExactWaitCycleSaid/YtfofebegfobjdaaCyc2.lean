/- The cycle among waits: what the reference returns; for all lists of at most a million waits. -/
import Derived.Test.YtfofebegfobjdaaCyc
set_option linter.unusedVariables false
set_option linter.unusedSimpArgs false
namespace Go.Proofs.Ytfofebegfobjdaa
open Go.RowKit Go.Proofs.YtfofebegfobjdaaW.PrintWords
open NoC

theorem cyc_len2 (l : List Wait) (s : Int) : ∀ (k : Nat) (a : Int) (out : List Int), 1 ≤ out.length → (cyc l s k a out).length + 1 ≤ out.length + k := by
  intro k
  induction k with
  | zero => intro a out h; simp [cyc]; omega
  | succ k ih =>
    intro a out h
    unfold cyc
    split
    · simp; omega
    · split
      · omega
      · split
        · simp; omega
        · have := ih (rw_ l (widx l a)).b (out ++ [(rw_ l (widx l a)).b]) (by simp)
          simp only [List.length_append, List.length_singleton] at this
          omega
theorem wcL_len2 (l : List Wait) : (wcL l).length ≤ l.length := by
  unfold wcL
  cases h : ((List.range l.length).map (cycAt l)).find? (fun r => decide (0 < r.length)) with
  | none => simp
  | some r =>
    have hm := List.mem_of_find?_eq_some h
    simp only [List.mem_map, List.mem_range] at hm
    obtain ⟨q, hq, rfl⟩ := hm
    have := cyc_len2 l (rw_ l q).a l.length (rw_ l q).a [(rw_ l q).a] (by simp)
    simp only [List.length_singleton] at this
    show (cycAt l q).length ≤ l.length
    unfold cycAt
    omega
def nextV (l : List Wait) (x : Int) : Int := if widx l x = -1 then -1 else (rw_ l (widx l x)).b
def nextK (l : List Wait) (x : Int) : Bool := decide (¬ widx l x = -1)
theorem next_yes {l : List Wait} {x : Int} {j : Nat} (h : widx l x = j) : nextV l x = (rw_ l j).b ∧ nextK l x = true := by
  unfold nextV nextK
  rw [h, if_neg (by omega)]
  exact ⟨rfl, decide_eq_true (by omega)⟩
theorem next_no {l : List Wait} {x : Int} (h : widx l x = -1) : nextV l x = -1 ∧ nextK l x = false := by
  unfold nextV nextK
  rw [h, if_pos rfl]
  exact ⟨rfl, by simp⟩
set_option maxHeartbeats 1000000 in
theorem spec_l24Next (l : List Wait) (x : Int) (D : Option Addr) (n : Nat) (w : World) (hp : kW.C w D l.length l) (hkl : l.length ≤ 1048576) :
    Calls Try.prog 56 #[.slice D l.length n, .int .i64 x] w fun e w' => e = .returned (.tuple #[.int .i64 (nextV l x), .bool (nextK l x)]) ∧ Below w.heap.size w w' := by
  go_enter Try.func56, Try.ntmps56
  go_wp2
  go_loopw [6] (fun i wr => ∃ j : Nat, i = .int .i64 j ∧ j ≤ l.length ∧ Hid (∀ q : Nat, q < j → ¬ (rw_ l q).a = x) ∧ Below w.heap.size w wr) (fun i _ => l.length - (intOf i).toNat)
  case atStart => exact ⟨0, rfl, Nat.zero_le _, Lib.hid fun x h => absurd h (Nat.not_lt_zero _), (by with_reducible repeat (first | assumption | exact bw_refl _ | apply bw_alloc | apply bw_drew | apply bw_drewN | refine bw_set _ ?_ (by omega) | refine bw_then ?_ (by assumption)))⟩
  case round =>
    obtain ⟨j, rfl, hj, HA, HB⟩ := hrel
    obtain ⟨hc0, hf0, hz0⟩ := bcell HB
    by_cases hlt : j < l.length
    · obtain ⟨b, off, rfl, hbl, p0, p1⟩ := rdW_at hp j hlt
      by_cases e : (rw_ l j).a = x
      · have f1 : ((rw_ l j).a == x) = true := beq_iff_eq.2 e
        obtain ⟨k1, k2⟩ := next_yes (widx_yes j hlt e HA.out)
        have K1 := Lib.hid k1
        have K2 := Lib.hid k2
        clear e k1 k2
        go_wp2
        go_ret2
        exact ⟨by rw [K1.out, K2.out]; rfl, (by with_reducible repeat (first | assumption | exact bw_refl _ | apply bw_alloc | apply bw_drew | apply bw_drewN | refine bw_set _ ?_ (by omega) | refine bw_then ?_ (by assumption)))⟩
      · have f1 : ((rw_ l j).a == x) = false := beq_eq_false_iff_ne.2 e
        have E := Lib.hid e
        clear e
        go_wp2
        go_roundw
        case rel => exact ⟨j + 1, by go_num, by omega, Lib.hid (upto HA.out E.out), (by with_reducible repeat (first | assumption | exact bw_refl _ | apply bw_alloc | apply bw_drew | apply bw_drewN | refine bw_set _ ?_ (by omega) | refine bw_then ?_ (by assumption)))⟩
        case measure => simp [intOf]; omega
    · obtain ⟨k1, k2⟩ := next_no (widx_no (x := x) (l := l) (fun q hq => HA.out q (by omega)))
      have K1 := Lib.hid k1
      have K2 := Lib.hid k2
      clear k1 k2
      go_wp2
      go_ret2
      exact ⟨by rw [K1.out, K2.out]; rfl, (by with_reducible repeat (first | assumption | exact bw_refl _ | apply bw_alloc | apply bw_drew | apply bw_drewN | refine bw_set _ ?_ (by omega) | refine bw_then ?_ (by assumption)))⟩
set_option maxHeartbeats 4000000 in
theorem spec_WaitCycle (l : List Wait) (D : Option Addr) (n : Nat) (w : World) (hp : kW.C w D l.length l) (hkl : l.length ≤ 1048576) :
    Calls Try.prog 38 #[.slice D l.length n] w fun e w' => GotI w w' (wcL l) e ∧ Below w.heap.size w w' := by
  go_enter Try.func38, Try.ntmps38
  go_wp2
  go_loopw [3] (fun i wr => ∃ j : Nat, i = .int .i64 j ∧ j ≤ l.length ∧ Hid (∀ q, q < j → cycAt l q = []) ∧ Below w.heap.size w wr) (fun i _ => l.length - (intOf i).toNat)
  case atStart => exact ⟨0, rfl, Nat.zero_le _, Lib.hid fun q h => absurd h (Nat.not_lt_zero _), (by with_reducible repeat (first | assumption | exact bw_refl _ | apply bw_alloc | apply bw_drew | apply bw_drewN | refine bw_set _ ?_ (by omega) | refine bw_then ?_ (by assumption)))⟩
  case round =>
    obtain ⟨j, rfl, hj, HA, HB0⟩ := hrel
    obtain ⟨hc0, hf0, hz0⟩ := bcell HB0
    by_cases hlt : j < l.length
    · obtain ⟨b, off, rfl, hbl, p0, p1⟩ := rdW_at hp j hlt
      obtain ⟨s, hs⟩ : ∃ s, (rw_ l j).a = s := ⟨_, rfl⟩
      rw [hs] at p0
      have zb : b < wr.heap.size := by omega
      have HSS := Lib.hid hs
      have HCA := Lib.hid (show cycAt l j = cyc l s l.length s [s] by rw [cycAt, hs])
      clear hs p1
      obtain ⟨wo, rfl⟩ : ∃ x : World, x = wr := ⟨_, rfl⟩
      go_wp2
      go_loopw [4, 5, 6] (fun v a i wi => ∃ (k : Nat) (at_ : Int) (out : List Int), i = .int .i64 k ∧ a = .int .i64 at_ ∧ k ≤ l.length ∧ (1 ≤ out.length ∧ out.length ≤ k + 1) ∧ Hid (cycAt l j = cyc l s (l.length - k) at_ out) ∧ Kd.R (Kd.int .i64) 3 wi w.heap.size (fun _ => True) v out ∧ Below w.heap.size w wi) (fun _ _ i _ => l.length - (intOf i).toNat)
      case atStart => exact ⟨0, s, [s], rfl, rfl, Nat.zero_le _, ⟨Nat.le_refl _, by simp⟩, Lib.hid (by rw [Nat.sub_zero]; exact HCA.out), R_one (W0 := w) s (bw_size HB0), (by with_reducible repeat (first | assumption | exact bw_refl _ | apply bw_alloc | apply bw_drew | apply bw_drewN | refine bw_set _ ?_ (by omega) | refine bw_then ?_ (by assumption)))⟩
      case round =>
        have HBo := Lib.hid HB0
        clear HB0 hc0 hf0 hz0
        obtain ⟨k, at_, out, rfl, rfl, hk, ⟨ho1, ho2⟩, HC, HO, HB⟩ := hrel
        obtain ⟨Ao, co, rfl⟩ := Kd.R_slice HO
        obtain ⟨hc0, hf0, hz0⟩ := bcell HB
        by_cases hlt2 : k < l.length
        · obtain ⟨u, hu⟩ : ∃ u, l.length - k = u + 1 := ⟨l.length - k - 1, by omega⟩
          have HK := Lib.hid hu
          have HKK := Lib.hid (show l.length - (k + 1) = u by omega)
          clear hu
          obtain ⟨ix, hix⟩ : ∃ x, widx l at_ = x := ⟨_, rfl⟩
          have hr := widx_range l at_
          rw [hix] at hr
          rcases hr with rfl | ⟨q, hq, rfl⟩
          · have HN1 := Lib.hid (next_no hix).1
            have HN2 := Lib.hid (next_no hix).2
            have HE := Lib.hid (show cycAt l j = [] by rw [HC.out, HK.out, cyc, if_pos hix])
            clear hix
            go_wp2_with (go_at_call 56; refine (spec_l24Next l at_ _ _ _ (by exact Kd.C_below hp (by with_reducible repeat (first | assumption | exact bw_refl _ | apply bw_alloc | apply bw_drew | apply bw_drewN | refine bw_set _ ?_ (by omega) | refine bw_then ?_ (by assumption)))) hkl).mono ?_; rintro e w1 ⟨he, hb1⟩; rw [HN1.out, HN2.out] at he; subst he; obtain ⟨hc1, hf1, hz1⟩ := bcell hb1; (try simp only [World.size_alloc, World.size_setCell, World.size_drew, sz_drewN] at hz1); have hb2 := (by first | exact bw_then hb2 hb1 | exact bw_then (bw_drewN _ hb2) hb1 | exact bw_then (bw_alloc _ hb2) hb1 | exact bw_then (bw_drew hb2) hb1 | exact bw_then HB hb1 | exact bw_then (bw_drewN _ HB) hb1 | exact bw_then (bw_alloc _ HB) hb1 | exact bw_then (bw_drew HB) hb1 | exact hb1); obtain ⟨hc2, hf2, hz2⟩ := bcell hb2; (try simp only [World.size_alloc, World.size_setCell, World.size_drew, sz_drewN] at hz2); try (first | obtain ⟨hy1, hy2, hy3, hy4⟩ := lts4 hz2 | obtain ⟨hy1, hy2, hy3⟩ := lts3 hz2 | obtain ⟨hy1, hy2⟩ := lts2 hz2 | have hy1 := lts1 hz2); have hb9 := hb1)
            go_roundw
            case rel => exact ⟨j + 1, by go_num, by omega, Lib.hid (upto HA.out HE.out), (by with_reducible repeat (first | assumption | exact bw_refl _ | apply bw_alloc | apply bw_drew | apply bw_drewN | refine bw_set _ ?_ (by omega) | refine bw_then ?_ (by assumption)))⟩
            case measure => simp [intOf]; omega
          · obtain ⟨nx, hnx⟩ : ∃ x, (rw_ l q).b = x := ⟨_, rfl⟩
            have hv := (next_yes hix).1
            rw [hnx] at hv
            have HN1 := Lib.hid hv
            have HN2 := Lib.hid (next_yes hix).2
            have hq1 : ¬ ((q : Int) = -1) := by omega
            by_cases e1 : nx = s
            · have f1 : (nx == s) = true := beq_iff_eq.2 e1
              have hcy : cycAt l j = out := by rw [HC.out, HK.out, cyc, hix, if_neg hq1, hnx, if_pos e1]
              have HCY := Lib.hid hcy
              have HW := Lib.hid (wcL_yes j hlt (by rw [hcy]; exact ho1) HA.out)
              clear hcy e1 hv hix hnx hq1
              go_wp2_with (go_at_call 56; refine (spec_l24Next l at_ _ _ _ (by exact Kd.C_below hp (by with_reducible repeat (first | assumption | exact bw_refl _ | apply bw_alloc | apply bw_drew | apply bw_drewN | refine bw_set _ ?_ (by omega) | refine bw_then ?_ (by assumption)))) hkl).mono ?_; rintro e w1 ⟨he, hb1⟩; rw [HN1.out, HN2.out] at he; subst he; obtain ⟨hc1, hf1, hz1⟩ := bcell hb1; (try simp only [World.size_alloc, World.size_setCell, World.size_drew, sz_drewN] at hz1); have hb2 := (by first | exact bw_then hb2 hb1 | exact bw_then (bw_drewN _ hb2) hb1 | exact bw_then (bw_alloc _ hb2) hb1 | exact bw_then (bw_drew hb2) hb1 | exact bw_then HB hb1 | exact bw_then (bw_drewN _ HB) hb1 | exact bw_then (bw_alloc _ HB) hb1 | exact bw_then (bw_drew HB) hb1 | exact hb1); obtain ⟨hc2, hf2, hz2⟩ := bcell hb2; (try simp only [World.size_alloc, World.size_setCell, World.size_drew, sz_drewN] at hz2); try (first | obtain ⟨hy1, hy2, hy3, hy4⟩ := lts4 hz2 | obtain ⟨hy1, hy2, hy3⟩ := lts3 hz2 | obtain ⟨hy1, hy2⟩ := lts2 hz2 | have hy1 := lts1 hz2); have hb9 := hb1)
              go_ret
              exact ⟨by rw [HW.out, HCY.out]; exact ⟨_, rfl, (by exact Kd.R_below HO (by with_reducible repeat (first | assumption | exact bw_refl _ | apply bw_alloc | apply bw_drew | apply bw_drewN | refine bw_set _ ?_ (by omega) | refine bw_then ?_ (by assumption))))⟩, (by with_reducible repeat (first | assumption | exact bw_refl _ | apply bw_alloc | apply bw_drew | apply bw_drewN | refine bw_set _ ?_ (by omega) | refine bw_then ?_ (by assumption)))⟩
            · have f1 : (nx == s) = false := beq_eq_false_iff_ne.2 e1
              by_cases e2 : nx = -1
              · have f2 : (nx == -1) = true := beq_iff_eq.2 e2
                have HE := Lib.hid (show cycAt l j = [] by rw [HC.out, HK.out, cyc, hix, if_neg hq1, hnx, if_neg e1, if_pos e2])
                clear e1 e2 hv hix hnx hq1
                go_wp2_with (go_at_call 56; refine (spec_l24Next l at_ _ _ _ (by exact Kd.C_below hp (by with_reducible repeat (first | assumption | exact bw_refl _ | apply bw_alloc | apply bw_drew | apply bw_drewN | refine bw_set _ ?_ (by omega) | refine bw_then ?_ (by assumption)))) hkl).mono ?_; rintro e w1 ⟨he, hb1⟩; rw [HN1.out, HN2.out] at he; subst he; obtain ⟨hc1, hf1, hz1⟩ := bcell hb1; (try simp only [World.size_alloc, World.size_setCell, World.size_drew, sz_drewN] at hz1); have hb2 := (by first | exact bw_then hb2 hb1 | exact bw_then (bw_drewN _ hb2) hb1 | exact bw_then (bw_alloc _ hb2) hb1 | exact bw_then (bw_drew hb2) hb1 | exact bw_then HB hb1 | exact bw_then (bw_drewN _ HB) hb1 | exact bw_then (bw_alloc _ HB) hb1 | exact bw_then (bw_drew HB) hb1 | exact hb1); obtain ⟨hc2, hf2, hz2⟩ := bcell hb2; (try simp only [World.size_alloc, World.size_setCell, World.size_drew, sz_drewN] at hz2); try (first | obtain ⟨hy1, hy2, hy3, hy4⟩ := lts4 hz2 | obtain ⟨hy1, hy2, hy3⟩ := lts3 hz2 | obtain ⟨hy1, hy2⟩ := lts2 hz2 | have hy1 := lts1 hz2); have hb9 := hb1)
                go_roundw
                case rel => exact ⟨j + 1, by go_num, by omega, Lib.hid (upto HA.out HE.out), (by with_reducible repeat (first | assumption | exact bw_refl _ | apply bw_alloc | apply bw_drew | apply bw_drewN | refine bw_set _ ?_ (by omega) | refine bw_then ?_ (by assumption)))⟩
                case measure => simp [intOf]; omega
              · have f2 : (nx == -1) = false := beq_eq_false_iff_ne.2 e2
                have HCY := Lib.hid (show cycAt l j = cyc l s u nx (out ++ [nx]) by rw [HC.out, HK.out, cyc, hix, if_neg hq1, hnx, if_neg e1, if_neg e2])
                clear e1 e2 hv hix hnx hq1
                go_wp2_with (first | (go_at_call 56; refine (spec_l24Next l at_ _ _ _ (by exact Kd.C_below hp (by with_reducible repeat (first | assumption | exact bw_refl _ | apply bw_alloc | apply bw_drew | apply bw_drewN | refine bw_set _ ?_ (by omega) | refine bw_then ?_ (by assumption)))) hkl).mono ?_; rintro e w1 ⟨he, hb1⟩; rw [HN1.out, HN2.out] at he; subst he; obtain ⟨hc1, hf1, hz1⟩ := bcell hb1; (try simp only [World.size_alloc, World.size_setCell, World.size_drew, sz_drewN] at hz1); have hb2 := (by first | exact bw_then hb2 hb1 | exact bw_then (bw_drewN _ hb2) hb1 | exact bw_then (bw_alloc _ hb2) hb1 | exact bw_then (bw_drew hb2) hb1 | exact bw_then HB hb1 | exact bw_then (bw_drewN _ HB) hb1 | exact bw_then (bw_alloc _ HB) hb1 | exact bw_then (bw_drew HB) hb1 | exact hb1); obtain ⟨hc2, hf2, hz2⟩ := bcell hb2; (try simp only [World.size_alloc, World.size_setCell, World.size_drew, sz_drewN] at hz2); try (first | obtain ⟨hy1, hy2, hy3, hy4⟩ := lts4 hz2 | obtain ⟨hy1, hy2, hy3⟩ := lts3 hz2 | obtain ⟨hy1, hy2⟩ := lts2 hz2 | have hy1 := lts1 hz2); have hb9 := hb1) | (at_builtin; refine app_int (W0 := w) rfl (.tmp 56) (.tmp 58) 24 3 rfl Try.underlying24 info_int _ out _ rfl (by first | rfl | exact congrArg (fun z => Value.slice (some ⟨z, 0, none⟩) 1 1) (by simp only [World.size_alloc, World.size_setCell, World.size_drew, sz_drewN])) (by exact Kd.R_below HO (by with_reducible repeat (first | assumption | exact bw_refl _ | apply bw_alloc | apply bw_drew | apply bw_drewN | refine bw_set _ ?_ (by omega) | refine bw_then ?_ (by assumption)))) (by with_reducible repeat (first | assumption | exact bw_refl _ | apply bw_alloc | apply bw_drew | apply bw_drewN | refine bw_set _ ?_ (by omega) | refine bw_then ?_ (by assumption))) (by omega) ?_; intro v1 w2 HO2 HB2))
                go_roundw
                case rel => exact ⟨k + 1, nx, out ++ [nx], by go_num, rfl, by omega, ⟨by simp, by simp; omega⟩, Lib.hid (by rw [HKK.out]; exact HCY.out), HO2, HB2⟩
                case measure => simp [intOf]; omega
        · have HE := Lib.hid (show cycAt l j = [] by rw [HC.out, show l.length - k = 0 by omega, cyc])
          go_wp2
          go_roundw
          case rel => exact ⟨j + 1, by go_num, by omega, Lib.hid (upto HA.out HE.out), (by with_reducible repeat (first | assumption | exact bw_refl _ | apply bw_alloc | apply bw_drew | apply bw_drewN | refine bw_set _ ?_ (by omega) | refine bw_then ?_ (by assumption)))⟩
          case measure => simp [intOf]; omega
    · go_wp2
      go_ret
      exact ⟨by rw [wcL_no (fun q hq => HA.out q (by omega))]; exact GotI.mk (W0 := w) (Kd.R_lower (Kd.R_below (R_empty (W0 := wr) _ _ (Nat.le_refl _)) (bw_refl _)) (bw_size HB0)) (Nat.le_refl _), (by with_reducible repeat (first | assumption | exact bw_refl _ | apply bw_alloc | apply bw_drew | apply bw_drewN | refine bw_set _ ?_ (by omega) | refine bw_then ?_ (by assumption)))⟩
end Go.Proofs.Ytfofebegfobjdaa
