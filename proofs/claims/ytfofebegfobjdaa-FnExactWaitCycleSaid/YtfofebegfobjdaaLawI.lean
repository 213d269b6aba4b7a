/- The laws' own words on ints, grids, meshes, tables and classes: measure, copy, compare; for all lists of at most a million entries. -/
import Derived.Test.YtfofebegfobjdaaOwn
import Derived.Test.YtfofebegfobjdaaM3
set_option linter.unusedVariables false
set_option linter.unusedSimpArgs false
namespace Go.Proofs.Ytfofebegfobjdaa
open Go.RowKit Go.Proofs.YtfofebegfobjdaaW.PrintWords
open NoC

set_option maxHeartbeats 1000000 in
theorem laws_toIntS (l : List Int) (A : Option Addr) (c : Nat) (w : World) (hr : Kd.C (Kd.int .i64) w A l.length l) (hn : l.length ≤ 1048576) :
    Calls Try.prog 14 #[.slice A l.length c] w fun e w' => GotI w w' l e ∧ Below w.heap.size w w' := by
  go_enter Try.func14, Try.ntmps14
  go_wp2_with (first | (refine make_int (W0 := w) rfl (N := 7) rfl 24 3 (.tmp 6) (.tmp 6) rfl l.length rfl rfl Try.underlying24 info_int (by omega) (by with_reducible repeat (first | assumption | exact bw_refl _ | apply bw_alloc | apply bw_drew | apply bw_drewN | refine bw_set _ ?_ (by omega) | refine bw_then ?_ (by assumption))) ?_; intro v1 w1 HO1 HB1; obtain ⟨hc1, hf1, hz1⟩ := bcell HB1; (try simp only [World.size_alloc, World.size_setCell, World.size_drew, sz_drewN] at hz1); have hb2 := HB1; have hb9 := HB1))
  go_loopw [4] (fun i wr => ∃ (k : Nat) (x : List Int), i = .int .i64 k ∧ k ≤ l.length ∧ Hid (x.length = l.length) ∧ Hid (∀ j : Nat, j < k → ri x j = ri l j) ∧ Kd.R (Kd.int .i64) 3 wr w.heap.size (fun _ => True) v1 x ∧ Below w.heap.size w wr) (fun i _ => l.length - (intOf i).toNat)
  case atStart => exact ⟨0, List.replicate l.length 0, rfl, Nat.zero_le _, Lib.hid (by simp), Lib.hid fun j h => absurd h (Nat.not_lt_zero _), HO1, HB1⟩
  case round =>
    obtain ⟨k, x, rfl, hk, HL, HA, HO, HB⟩ := hrel
    obtain ⟨hc0, hf0, hz0⟩ := bcell HB
    by_cases hlt : k < l.length
    · obtain ⟨b, off, rfl, hb, hx⟩ := rdI_at hr k hlt
      have hxk := hx k hlt
      clear hx
      obtain ⟨g, cap, hv, hgb, hgl, cells, HG⟩ := Kd.R_form HO (by have := HL.out; omega)
      rw [HL.out] at hv
      rw [hv] at HO
      subst hv
      clear HG
      obtain ⟨hx9, hf9⟩ := rowI_cell HO k hlt
      have HP := rowI_set HO k (ri l k)
      have HS := Lib.hid HP
      clear HP
      go_wp2
      go_roundw
      case rel => exact ⟨k + 1, x.set k (ri l k), by go_num, by omega, Lib.hid (by rw [List.length_set]; exact HL.out), Lib.hid (upto (fun j hj => by rw [set_get (by have := HL.out; omega) j (by have := HL.out; omega), if_neg (by omega)]; exact HA.out j hj) (by rw [set_get (by have := HL.out; omega) k (by have := HL.out; omega), if_pos rfl])), HS.out, bw_set _ HB hgb⟩
      case measure => simp [intOf]; omega
    · go_wp2
      go_ret
      exact ⟨by have := same_get HL.out (fun j hj => HA.out j (by omega)); subst this; exact ⟨_, rfl, HO⟩, (by with_reducible repeat (first | assumption | exact bw_refl _ | apply bw_alloc | apply bw_drew | apply bw_drewN | refine bw_set _ ?_ (by omega) | refine bw_then ?_ (by assumption)))⟩

theorem laws_eqIntS (a b : List Int) (A B : Option Addr) (c d : Nat) (w : World) (hr : Kd.C (Kd.int .i64) w A a.length a) (hs : Kd.C (Kd.int .i64) w B b.length b) (hn : a.length ≤ 1048576) (hm : b.length ≤ 1048576) :
    Calls Try.prog 16 #[.slice A a.length c, .slice B b.length d] w fun e w' => e = .returned (.bool (eqL a b)) ∧ Below w.heap.size w w' := by
  go_enter Try.func16, Try.ntmps16
  by_cases hl : a.length = b.length
  · have e1 : ((a.length : Int) != (b.length : Int)) = false := by simp [hl]
    have HL := Lib.hid hl
    have hlb : a.length ≤ b.length := by omega
    clear hl
    go_wp2
    go_loopw [5] (fun i wr => ∃ k : Nat, k ≤ a.length ∧ i = .int .i64 k ∧ Hid (∀ j : Nat, j < k → ri a j = ri b j) ∧ Below w.heap.size w wr) (fun i _ => a.length - (intOf i).toNat)
    case atStart => exact ⟨0, Nat.zero_le _, rfl, Lib.hid fun j h => absurd h (Nat.not_lt_zero _), (by with_reducible repeat (first | assumption | exact bw_refl _ | apply bw_alloc | apply bw_drew | apply bw_drewN | refine bw_set _ ?_ (by omega) | refine bw_then ?_ (by assumption)))⟩
    case round =>
      obtain ⟨k, hk, rfl, HA, HB⟩ := hrel
      obtain ⟨hc0, hf0, hz0⟩ := bcell HB
      by_cases hlt : k < a.length
      · obtain ⟨b1, o1, rfl, hb1, hx⟩ := rdI_at hr k hlt
        have hxk := hx k hlt
        obtain ⟨b2, o2, rfl, hb2, hy⟩ := rdI_at hs k (by omega)
        have hyk := hy k (by omega)
        clear hx hy
        have i0 : (0 : Int) ≤ (k : Int) := by omega
        have i1 : (k : Int) < (a.length : Int) := by omega
        have i2 : (k : Int) < (b.length : Int) := by omega
        by_cases e : ri a k = ri b k
        · have e2 : (ri a k != ri b k) = false := bne_eq_false_iff_eq.2 e
          have E := Lib.hid e
          clear e
          go_wp2
          try (go_quiet (fail); go_wp2)
          go_roundw
          case rel => exact ⟨k + 1, by omega, by go_num, Lib.hid (upto HA.out E.out), (by with_reducible repeat (first | assumption | exact bw_refl _ | apply bw_alloc | apply bw_drew | apply bw_drewN | refine bw_set _ ?_ (by omega) | refine bw_then ?_ (by assumption)))⟩
          case measure => simp [intOf]; omega
        · have e2 : (ri a k != ri b k) = true := bne_iff_ne.2 e
          have E := Lib.hid e
          clear e
          go_wp2
          try (go_quiet (fail); go_wp2)
          go_ret
          exact ⟨ret_bool (eqL_no (fun h => E.out (by rw [h]))).symm, (by with_reducible repeat (first | assumption | exact bw_refl _ | apply bw_alloc | apply bw_drew | apply bw_drewN | refine bw_set _ ?_ (by omega) | refine bw_then ?_ (by assumption)))⟩
      · go_wp2
        go_ret
        exact ⟨ret_bool (eqL_yes HL.out (fun j hj => HA.out j (by omega))).symm, (by with_reducible repeat (first | assumption | exact bw_refl _ | apply bw_alloc | apply bw_drew | apply bw_drewN | refine bw_set _ ?_ (by omega) | refine bw_then ?_ (by assumption)))⟩
  · have e1 : ((a.length : Int) != (b.length : Int)) = true := bne_iff_ne.2 (by omega)
    have HL := Lib.hid hl
    clear hl
    go_wp2
    go_ret
    exact ⟨ret_bool (eqL_no (fun h => HL.out (by rw [h]))).symm, (by with_reducible repeat (first | assumption | exact bw_refl _ | apply bw_alloc | apply bw_drew | apply bw_drewN | refine bw_set _ ?_ (by omega) | refine bw_then ?_ (by assumption)))⟩

theorem laws_toGrid (g : Grid) (w : World) : Calls Try.prog 30 #[.agg #[.int .i64 g.w, .int .i64 g.h]] w fun e w' => e = .returned (.agg #[.int .i64 g.w, .int .i64 g.h]) ∧ Below w.heap.size w w' := by
  go_enter Try.func30, Try.ntmps30
  go_wp2
  exact bodyPost_ret (v := .agg #[.int .i64 g.w, .int .i64 g.h]) (by simp [results, Try.results30, go_sem]) rfl ⟨rfl, (by with_reducible repeat (first | assumption | exact bw_refl _ | apply bw_alloc | apply bw_drew | apply bw_drewN | refine bw_set _ ?_ (by omega) | refine bw_then ?_ (by assumption)))⟩
theorem laws_toPacket (p : Packet) (w : World) : Calls Try.prog 46 #[.agg #[.int .i64 p.id, .int .i64 p.src, .int .i64 p.dst, .int .i64 p.cls, .int .i64 p.len]] w fun e w' => e = .returned (.agg #[.int .i64 p.id, .int .i64 p.src, .int .i64 p.dst, .int .i64 p.cls, .int .i64 p.len]) ∧ Below w.heap.size w w' := by
  go_enter Try.func46, Try.ntmps46
  go_wp2
  exact bodyPost_ret (v := .agg #[.int .i64 p.id, .int .i64 p.src, .int .i64 p.dst, .int .i64 p.cls, .int .i64 p.len]) (by simp [results, Try.results46, go_sem]) rfl ⟨rfl, (by with_reducible repeat (first | assumption | exact bw_refl _ | apply bw_alloc | apply bw_drew | apply bw_drewN | refine bw_set _ ?_ (by omega) | refine bw_then ?_ (by assumption)))⟩
theorem laws_eqTable (a b : List Int) (A B : Option Addr) (c d : Nat) (w : World) (hr : Kd.C (Kd.int .i64) w A a.length a) (hn : a.length ≤ 1048576) (hs : Kd.C (Kd.int .i64) w B b.length b) (hm : b.length ≤ 1048576) :
    Calls Try.prog 19 #[.agg #[.slice A a.length c], .agg #[.slice B b.length d]] w fun e w' => e = .returned (.bool (eqL a b)) ∧ Below w.heap.size w w' := by
  go_enter Try.func19, Try.ntmps19
  cases h2 : eqL a b
  · go_wp2_with (first | (go_at_call 16; refine (laws_eqIntS a b A B _ _ _ (by exact Kd.C_below hr (by with_reducible repeat (first | assumption | exact bw_refl _ | apply bw_alloc | apply bw_drew | apply bw_drewN | refine bw_set _ ?_ (by omega) | refine bw_then ?_ (by assumption)))) (by exact Kd.C_below hs (by with_reducible repeat (first | assumption | exact bw_refl _ | apply bw_alloc | apply bw_drew | apply bw_drewN | refine bw_set _ ?_ (by omega) | refine bw_then ?_ (by assumption)))) hn hm).mono ?_; rintro e w1 ⟨he, hb1⟩; rw [h2] at he; subst he; obtain ⟨hc1, hf1, hz1⟩ := bcell hb1; (try simp only [World.size_alloc, World.size_setCell, World.size_drew, sz_drewN] at hz1); have hb2 := (by first | exact bw_then hb2 hb1 | exact bw_then (bw_drewN _ hb2) hb1 | exact bw_then (bw_alloc _ hb2) hb1 | exact bw_then (bw_drew hb2) hb1 | exact bw_then HB hb1 | exact bw_then (bw_drewN _ HB) hb1 | exact bw_then (bw_alloc _ HB) hb1 | exact bw_then (bw_drew HB) hb1 | exact hb1); obtain ⟨hc2, hf2, hz2⟩ := bcell hb2; (try simp only [World.size_alloc, World.size_setCell, World.size_drew, sz_drewN] at hz2); try (first | obtain ⟨hy1, hy2, hy3, hy4⟩ := lts4 hz2 | obtain ⟨hy1, hy2, hy3⟩ := lts3 hz2 | obtain ⟨hy1, hy2⟩ := lts2 hz2 | have hy1 := lts1 hz2); have hb9 := hb1))
    go_ret
    exact ⟨rfl, (by with_reducible repeat (first | assumption | exact bw_refl _ | apply bw_alloc | apply bw_drew | apply bw_drewN | refine bw_set _ ?_ (by omega) | refine bw_then ?_ (by assumption)))⟩
  · go_wp2_with (first | (go_at_call 16; refine (laws_eqIntS a b A B _ _ _ (by exact Kd.C_below hr (by with_reducible repeat (first | assumption | exact bw_refl _ | apply bw_alloc | apply bw_drew | apply bw_drewN | refine bw_set _ ?_ (by omega) | refine bw_then ?_ (by assumption)))) (by exact Kd.C_below hs (by with_reducible repeat (first | assumption | exact bw_refl _ | apply bw_alloc | apply bw_drew | apply bw_drewN | refine bw_set _ ?_ (by omega) | refine bw_then ?_ (by assumption)))) hn hm).mono ?_; rintro e w1 ⟨he, hb1⟩; rw [h2] at he; subst he; obtain ⟨hc1, hf1, hz1⟩ := bcell hb1; (try simp only [World.size_alloc, World.size_setCell, World.size_drew, sz_drewN] at hz1); have hb2 := (by first | exact bw_then hb2 hb1 | exact bw_then (bw_drewN _ hb2) hb1 | exact bw_then (bw_alloc _ hb2) hb1 | exact bw_then (bw_drew hb2) hb1 | exact bw_then HB hb1 | exact bw_then (bw_drewN _ HB) hb1 | exact bw_then (bw_alloc _ HB) hb1 | exact bw_then (bw_drew HB) hb1 | exact hb1); obtain ⟨hc2, hf2, hz2⟩ := bcell hb2; (try simp only [World.size_alloc, World.size_setCell, World.size_drew, sz_drewN] at hz2); try (first | obtain ⟨hy1, hy2, hy3, hy4⟩ := lts4 hz2 | obtain ⟨hy1, hy2, hy3⟩ := lts3 hz2 | obtain ⟨hy1, hy2⟩ := lts2 hz2 | have hy1 := lts1 hz2); have hb9 := hb1))
    go_ret
    exact ⟨rfl, (by with_reducible repeat (first | assumption | exact bw_refl _ | apply bw_alloc | apply bw_drew | apply bw_drewN | refine bw_set _ ?_ (by omega) | refine bw_then ?_ (by assumption)))⟩
end Go.Proofs.Ytfofebegfobjdaa
