/- The whole packets of a list of flits: both sides. -/
import Derived.Test.YtinnfahmfggghaaWhS
set_option linter.unusedVariables false
set_option linter.unusedSimpArgs false
namespace Go.Proofs.Ytinnfahmfggghaa
open Go.RowKit Go.Proofs.YtinnfahmfggghaaW.PrintWords
open NoC

/-- A cut of a row of flits, as the machine cuts it. -/
theorem cut_F (A : Option Addr) (n c : Nat) (lo hi : Int) (h0 : 0 ≤ lo) (h1 : lo ≤ hi) (h2 : hi ≤ n) (hc : n ≤ c) (W : World) :
    (Instr.slice 107 (.slice A n c) (some (.int .i64 lo)) (some (.int .i64 hi)) none).run Try.prog W = .ok (.slice (if c = lo.toNat then A else A.map (·.add (lo.toNat * 5))) (hi.toNat - lo.toNat) (c - lo.toNat)) W := by
  obtain ⟨i, hi', hs⟩ := Option.map_eq_some_iff.1 info_F
  exact cut_mid (P := Try.prog) 107 142 .i64 .i64 Try.underlying107 hi' 5 (congrArg (fun z => z.2.1) hs) A n c lo hi h0 h1 h2 hc W
def GotWP (w w' : World) (l : List Flit) (e : Ending) : Prop := ∃ v, e = .returned (.tuple #[v, .bool (wholeB l)]) ∧ Kd.R (Kd.int .i64) 3 w' w.heap.size (fun _ => True) v (wholeP l)
set_option maxHeartbeats 8000000 in
set_option maxRecDepth 100000 in
theorem impl_WholePackets (l : List Flit) (A : Option Addr) (c : Nat) (w : World) (hr : kF.C w A l.length l) (hn : l.length ≤ 1048576) (hc : l.length ≤ c) :
    Calls Try.prog 136 #[.slice A l.length c] w fun e w' => GotWP w w' l e ∧ Below w.heap.size w w' := by
  have R := Lib.hid hr
  clear hr
  go_enter Try.func136, Try.ntmps136
  go_wp2
  go_loopw [4, 5, 6] (fun v f t wr => ∃ (k fr : Nat) (ids : List Int), t = .int .i64 ((k : Int) + 1) ∧ f = .int .i64 fr ∧ k ≤ l.length ∧ fr ≤ k ∧ Hid (wpAt l k = (ids, fr)) ∧ ids.length ≤ k ∧ Kd.R (Kd.int .i64) 3 wr w.heap.size (fun _ => True) v ids ∧ Below w.heap.size w wr) (fun _ _ t _ => l.length + 1 - (intOf t).toNat)
  case atStart => exact ⟨0, 0, [], rfl, rfl, Nat.zero_le _, Nat.zero_le _, Lib.hid rfl, Nat.zero_le _, R_empty (W0 := w) _ _ (bw_size (by with_reducible repeat (first | assumption | exact bw_refl _ | apply bw_alloc | apply bw_drew | apply bw_drewN | refine bw_set _ ?_ (by omega) | refine bw_then ?_ (by assumption)))), (by with_reducible repeat (first | assumption | exact bw_refl _ | apply bw_alloc | apply bw_drew | apply bw_drewN | refine bw_set _ ?_ (by omega) | refine bw_then ?_ (by assumption)))⟩
  case round =>
    obtain ⟨k, fr, ids, rfl, rfl, hk, hfr, HW, hid, HO, HB⟩ := hrel
    obtain ⟨Ao, co, rfl⟩ := Kd.R_slice HO
    obtain ⟨hcr, hfz, hzr⟩ := bcell HB
    by_cases hlt : k < l.length
    · have i0 : (k : Int) + 1 ≤ (l.length : Int) := by omega
      have C1 := Lib.hid (Kd.C_mid (c := c) (lo := fr) (hi := k + 1) R.out (by omega) (by omega) hc)
      have hl : ((l.take (k + 1)).drop fr).length = k + 1 - fr := by rw [List.length_drop, List.length_take]; omega
      obtain ⟨m, hm⟩ : ∃ m, (l.take (k + 1)).drop fr = m := ⟨_, rfl⟩
      rw [hm] at C1 hl
      have HM := Lib.hid hm
      have HL := Lib.hid hl
      have hcut : ∀ W : World, (Instr.slice 107 (.slice A l.length c) (some (.int .i64 (fr : Int))) (some (.int .i64 ((k : Int) + 1))) none).run Try.prog W = .ok (.slice (if c = fr then A else A.map (·.add (fr * 5))) m.length (c - fr)) W := by
        intro W
        have := cut_F A l.length c fr ((k : Int) + 1) (by omega) (by omega) (by omega) hc W
        rw [this, hl]
        congr 2
      have hmn : m.length ≤ 1048576 := by omega
      clear hl hm
      obtain ⟨A2, hA2⟩ : ∃ A2, (if c = fr then A else A.map (·.add (fr * 5))) = A2 := ⟨_, rfl⟩
      rw [hA2] at hcut
      rw [show kF.sz = 5 from rfl, hA2] at C1
      clear hA2
      cases hw : wholeF m
      · have HV := Lib.hid (wpAt_no HW.out (by rw [HM.out]; exact hw))
        have H2 := Lib.hid hw
        clear hw
        go_wp2_with (go_at_call 163; refine (impl_IsWhole m A2 _ _ (by exact Kd.C_below C1.out (by with_reducible repeat (first | assumption | exact bw_refl _ | apply bw_alloc | apply bw_drew | apply bw_drewN | refine bw_set _ ?_ (by omega) | refine bw_then ?_ (by assumption)))) hmn).mono ?_; rintro e w1 ⟨he, hb1⟩; rw [H2.out] at he; subst he; obtain ⟨hc1, hf1, hz1⟩ := bcell hb1; (try simp only [World.size_alloc, World.size_setCell, World.size_drew, sz_drewN] at hz1); have hb2 := (by first | exact bw_then hb2 hb1 | exact bw_then (bw_drewN _ hb2) hb1 | exact bw_then (bw_alloc _ hb2) hb1 | exact bw_then (bw_drew hb2) hb1 | exact bw_then HB hb1 | exact bw_then (bw_drewN _ HB) hb1 | exact bw_then (bw_alloc _ HB) hb1 | exact bw_then (bw_drew HB) hb1 | exact hb1); obtain ⟨hc2, hf2, hz2⟩ := bcell hb2; (try simp only [World.size_alloc, World.size_setCell, World.size_drew, sz_drewN] at hz2); try (first | obtain ⟨hy1, hy2, hy3, hy4⟩ := lts4 hz2 | obtain ⟨hy1, hy2, hy3⟩ := lts3 hz2 | obtain ⟨hy1, hy2⟩ := lts2 hz2 | have hy1 := lts1 hz2); have hb9 := hb1)
        go_roundw
        case rel => exact ⟨k + 1, fr, ids, by go_num, rfl, by omega, by omega, HV, by omega, (by exact Kd.R_below HO (by with_reducible repeat (first | assumption | exact bw_refl _ | apply bw_alloc | apply bw_drew | apply bw_drewN | refine bw_set _ ?_ (by omega) | refine bw_then ?_ (by assumption)))), (by with_reducible repeat (first | assumption | exact bw_refl _ | apply bw_alloc | apply bw_drew | apply bw_drewN | refine bw_set _ ?_ (by omega) | refine bw_then ?_ (by assumption)))⟩
        case measure => simp [intOf]; omega
      · have HV := Lib.hid (wpAt_yes HW.out (by rw [HM.out]; exact hw))
        have H2 := Lib.hid hw
        clear hw
        obtain ⟨b, off, hA, hb, RF⟩ : ∃ b off, A = some ⟨b, off, none⟩ ∧ b < w.heap.size ∧ w.cell? ⟨b, off + fr * 5, none⟩ = some (.int .i64 (rf l fr).pk) := by
          obtain ⟨b, off, h1, h2, h3, _⟩ := rdFl_at R.out fr (by omega)
          exact ⟨b, off, h1, h2, h3⟩
        subst hA
        have i1 : (fr : Int) < (l.length : Int) := by omega
        obtain ⟨x, hx⟩ : ∃ x, (rf l (fr : Int)).pk = x := ⟨_, rfl⟩
        rw [hx] at RF HV
        clear hx
        go_wp2_with (first | (go_at_call 163; refine (impl_IsWhole m A2 _ _ (by exact Kd.C_below C1.out (by with_reducible repeat (first | assumption | exact bw_refl _ | apply bw_alloc | apply bw_drew | apply bw_drewN | refine bw_set _ ?_ (by omega) | refine bw_then ?_ (by assumption)))) hmn).mono ?_; rintro e w1 ⟨he, hb1⟩; rw [H2.out] at he; subst he; obtain ⟨hc1, hf1, hz1⟩ := bcell hb1; (try simp only [World.size_alloc, World.size_setCell, World.size_drew, sz_drewN] at hz1); have hb2 := (by first | exact bw_then hb2 hb1 | exact bw_then (bw_drewN _ hb2) hb1 | exact bw_then (bw_alloc _ hb2) hb1 | exact bw_then (bw_drew hb2) hb1 | exact bw_then HB hb1 | exact bw_then (bw_drewN _ HB) hb1 | exact bw_then (bw_alloc _ HB) hb1 | exact bw_then (bw_drew HB) hb1 | exact hb1); obtain ⟨hc2, hf2, hz2⟩ := bcell hb2; (try simp only [World.size_alloc, World.size_setCell, World.size_drew, sz_drewN] at hz2); try (first | obtain ⟨hy1, hy2, hy3, hy4⟩ := lts4 hz2 | obtain ⟨hy1, hy2, hy3⟩ := lts3 hz2 | obtain ⟨hy1, hy2⟩ := lts2 hz2 | have hy1 := lts1 hz2); have hb9 := hb1) | (at_builtin; refine app_int (W0 := w) rfl (.tmp 19) (.tmp 25) 24 3 rfl Try.underlying24 info_int _ ids x rfl (by first | rfl | exact congrArg (fun z => Value.slice (some ⟨z, 0, none⟩) 1 1) (World.size_alloc _ _).symm) (by exact Kd.R_below HO (by with_reducible repeat (first | assumption | exact bw_refl _ | apply bw_alloc | apply bw_drew | apply bw_drewN | refine bw_set _ ?_ (by omega) | refine bw_then ?_ (by assumption)))) (by with_reducible repeat (first | assumption | exact bw_refl _ | apply bw_alloc | apply bw_drew | apply bw_drewN | refine bw_set _ ?_ (by omega) | refine bw_then ?_ (by assumption))) (by omega) ?_; intro v1 w1 HO1 HB1; obtain ⟨hc1, hf1, hz1⟩ := bcell HB1; (try simp only [World.size_alloc, World.size_setCell, World.size_drew, sz_drewN] at hz1); have hb2 := HB1; have hb9 := HB1))
        go_roundw
        case rel => exact ⟨k + 1, k + 1, ids ++ [x], by go_num, by go_num, by omega, by omega, HV, by simp; omega, (by exact Kd.R_below HO1 (by with_reducible repeat (first | assumption | exact bw_refl _ | apply bw_alloc | apply bw_drew | apply bw_drewN | refine bw_set _ ?_ (by omega) | refine bw_then ?_ (by assumption)))), (by with_reducible repeat (first | assumption | exact bw_refl _ | apply bw_alloc | apply bw_drew | apply bw_drewN | refine bw_set _ ?_ (by omega) | refine bw_then ?_ (by assumption)))⟩
        case measure => simp [intOf]; omega
    · obtain rfl : k = l.length := by omega
      have i0 : ¬ (l.length : Int) + 1 ≤ (l.length : Int) := by omega
      by_cases h : fr < l.length
      · have i1 : (fr : Int) < (l.length : Int) := by omega
        have HE := Lib.hid (wholeP_no HW.out h)
        clear h
        go_wp2
        exact bodyPost_ret (v := .tuple #[.slice none 0 0, .bool false]) (by simp [results, Try.results136, go_sem]) rfl ⟨⟨_, by rw [HE.out.2], by rw [HE.out.1]; exact R_nil' _ _ w _⟩, (by with_reducible repeat (first | assumption | exact bw_refl _ | apply bw_alloc | apply bw_drew | apply bw_drewN | refine bw_set _ ?_ (by omega) | refine bw_then ?_ (by assumption)))⟩
      · have i1 : ¬ (fr : Int) < (l.length : Int) := by omega
        have HE := Lib.hid (wholeP_yes HW.out h)
        clear h
        go_wp2
        exact bodyPost_ret (v := .tuple #[.slice Ao ids.length co, .bool true]) (by simp [results, Try.results136, go_sem]) rfl ⟨⟨_, by rw [HE.out.2], by rw [HE.out.1]; exact (by exact Kd.R_below HO (by with_reducible repeat (first | assumption | exact bw_refl _ | apply bw_alloc | apply bw_drew | apply bw_drewN | refine bw_set _ ?_ (by omega) | refine bw_then ?_ (by assumption))))⟩, (by with_reducible repeat (first | assumption | exact bw_refl _ | apply bw_alloc | apply bw_drew | apply bw_drewN | refine bw_set _ ?_ (by omega) | refine bw_then ?_ (by assumption)))⟩
set_option maxHeartbeats 8000000 in
set_option maxRecDepth 100000 in
theorem spec_WholePackets (l : List Flit) (A : Option Addr) (c : Nat) (w : World) (hr : kF.C w A l.length l) (hn : l.length ≤ 1048576) (hc : l.length ≤ c) :
    Calls Try.prog 131 #[.slice A l.length c] w fun e w' => GotWP w w' l e ∧ Below w.heap.size w w' := by
  have R := Lib.hid hr
  clear hr
  go_enter Try.func131, Try.ntmps131
  go_wp2
  go_loopw [4, 5, 6] (fun v f t wr => ∃ (k fr : Nat) (ids : List Int), t = .int .i64 k ∧ f = .int .i64 fr ∧ k ≤ l.length ∧ fr ≤ k ∧ Hid (wpAt l k = (ids, fr)) ∧ ids.length ≤ k ∧ Kd.R (Kd.int .i64) 3 wr w.heap.size (fun _ => True) v ids ∧ Below w.heap.size w wr) (fun _ _ t _ => l.length - (intOf t).toNat)
  case atStart => exact ⟨0, 0, [], rfl, rfl, Nat.zero_le _, Nat.zero_le _, Lib.hid rfl, Nat.zero_le _, R_empty (W0 := w) _ _ (bw_size (by with_reducible repeat (first | assumption | exact bw_refl _ | apply bw_alloc | apply bw_drew | apply bw_drewN | refine bw_set _ ?_ (by omega) | refine bw_then ?_ (by assumption)))), (by with_reducible repeat (first | assumption | exact bw_refl _ | apply bw_alloc | apply bw_drew | apply bw_drewN | refine bw_set _ ?_ (by omega) | refine bw_then ?_ (by assumption)))⟩
  case round =>
    obtain ⟨k, fr, ids, rfl, rfl, hk, hfr, HW, hid, HO, HB⟩ := hrel
    obtain ⟨Ao, co, rfl⟩ := Kd.R_slice HO
    obtain ⟨hcr, hfz, hzr⟩ := bcell HB
    by_cases hlt : k < l.length
    · have i0 : (k : Int) < (l.length : Int) := by omega
      have C1 := Lib.hid (Kd.C_mid (c := c) (lo := fr) (hi := k + 1) R.out (by omega) (by omega) hc)
      have hl : ((l.take (k + 1)).drop fr).length = k + 1 - fr := by rw [List.length_drop, List.length_take]; omega
      obtain ⟨m, hm⟩ : ∃ m, (l.take (k + 1)).drop fr = m := ⟨_, rfl⟩
      rw [hm] at C1 hl
      have HM := Lib.hid hm
      have HL := Lib.hid hl
      have hcut : ∀ W : World, (Instr.slice 107 (.slice A l.length c) (some (.int .i64 (fr : Int))) (some (.int .i64 ((k : Int) + 1))) none).run Try.prog W = .ok (.slice (if c = fr then A else A.map (·.add (fr * 5))) m.length (c - fr)) W := by
        intro W
        have := cut_F A l.length c fr ((k : Int) + 1) (by omega) (by omega) (by omega) hc W
        rw [this, hl]
        congr 2
      have hmn : m.length ≤ 1048576 := by omega
      clear hl hm
      obtain ⟨A2, hA2⟩ : ∃ A2, (if c = fr then A else A.map (·.add (fr * 5))) = A2 := ⟨_, rfl⟩
      rw [hA2] at hcut
      rw [show kF.sz = 5 from rfl, hA2] at C1
      clear hA2
      cases hw : wholeF m
      · have HV := Lib.hid (wpAt_no HW.out (by rw [HM.out]; exact hw))
        have H2 := Lib.hid hw
        clear hw
        go_wp2_with (go_at_call 162; refine (spec_IsWhole m A2 _ _ (by exact Kd.C_below C1.out (by with_reducible repeat (first | assumption | exact bw_refl _ | apply bw_alloc | apply bw_drew | apply bw_drewN | refine bw_set _ ?_ (by omega) | refine bw_then ?_ (by assumption)))) hmn).mono ?_; rintro e w1 ⟨he, hb1⟩; rw [H2.out] at he; subst he; obtain ⟨hc1, hf1, hz1⟩ := bcell hb1; (try simp only [World.size_alloc, World.size_setCell, World.size_drew, sz_drewN] at hz1); have hb2 := (by first | exact bw_then hb2 hb1 | exact bw_then (bw_drewN _ hb2) hb1 | exact bw_then (bw_alloc _ hb2) hb1 | exact bw_then (bw_drew hb2) hb1 | exact bw_then HB hb1 | exact bw_then (bw_drewN _ HB) hb1 | exact bw_then (bw_alloc _ HB) hb1 | exact bw_then (bw_drew HB) hb1 | exact hb1); obtain ⟨hc2, hf2, hz2⟩ := bcell hb2; (try simp only [World.size_alloc, World.size_setCell, World.size_drew, sz_drewN] at hz2); try (first | obtain ⟨hy1, hy2, hy3, hy4⟩ := lts4 hz2 | obtain ⟨hy1, hy2, hy3⟩ := lts3 hz2 | obtain ⟨hy1, hy2⟩ := lts2 hz2 | have hy1 := lts1 hz2); have hb9 := hb1)
        go_roundw
        case rel => exact ⟨k + 1, fr, ids, by go_num, rfl, by omega, by omega, HV, by omega, (by exact Kd.R_below HO (by with_reducible repeat (first | assumption | exact bw_refl _ | apply bw_alloc | apply bw_drew | apply bw_drewN | refine bw_set _ ?_ (by omega) | refine bw_then ?_ (by assumption)))), (by with_reducible repeat (first | assumption | exact bw_refl _ | apply bw_alloc | apply bw_drew | apply bw_drewN | refine bw_set _ ?_ (by omega) | refine bw_then ?_ (by assumption)))⟩
        case measure => simp [intOf]; omega
      · have HV := Lib.hid (wpAt_yes HW.out (by rw [HM.out]; exact hw))
        have hpk := wpAt_same hfr hlt (by rw [HM.out]; exact hw)
        rw [← hpk] at HV
        have H2 := Lib.hid hw
        clear hw hpk
        obtain ⟨b, off, hA, hb, RF⟩ : ∃ b off, A = some ⟨b, off, none⟩ ∧ b < w.heap.size ∧ w.cell? ⟨b, off + k * 5, none⟩ = some (.int .i64 (rf l k).pk) := by
          obtain ⟨b, off, h1, h2, h3, _⟩ := rdFl_at R.out k (by omega)
          exact ⟨b, off, h1, h2, h3⟩
        subst hA
        obtain ⟨x, hx⟩ : ∃ x, (rf l (k : Int)).pk = x := ⟨_, rfl⟩
        rw [hx] at RF HV
        clear hx
        go_wp2_with (first | (go_at_call 162; refine (spec_IsWhole m A2 _ _ (by exact Kd.C_below C1.out (by with_reducible repeat (first | assumption | exact bw_refl _ | apply bw_alloc | apply bw_drew | apply bw_drewN | refine bw_set _ ?_ (by omega) | refine bw_then ?_ (by assumption)))) hmn).mono ?_; rintro e w1 ⟨he, hb1⟩; rw [H2.out] at he; subst he; obtain ⟨hc1, hf1, hz1⟩ := bcell hb1; (try simp only [World.size_alloc, World.size_setCell, World.size_drew, sz_drewN] at hz1); have hb2 := (by first | exact bw_then hb2 hb1 | exact bw_then (bw_drewN _ hb2) hb1 | exact bw_then (bw_alloc _ hb2) hb1 | exact bw_then (bw_drew hb2) hb1 | exact bw_then HB hb1 | exact bw_then (bw_drewN _ HB) hb1 | exact bw_then (bw_alloc _ HB) hb1 | exact bw_then (bw_drew HB) hb1 | exact hb1); obtain ⟨hc2, hf2, hz2⟩ := bcell hb2; (try simp only [World.size_alloc, World.size_setCell, World.size_drew, sz_drewN] at hz2); try (first | obtain ⟨hy1, hy2, hy3, hy4⟩ := lts4 hz2 | obtain ⟨hy1, hy2, hy3⟩ := lts3 hz2 | obtain ⟨hy1, hy2⟩ := lts2 hz2 | have hy1 := lts1 hz2); have hb9 := hb1) | (at_builtin; refine app_int (W0 := w) rfl (.tmp 20) (.tmp 26) 24 3 rfl Try.underlying24 info_int _ ids x rfl (by first | rfl | exact congrArg (fun z => Value.slice (some ⟨z, 0, none⟩) 1 1) (World.size_alloc _ _).symm) (by exact Kd.R_below HO (by with_reducible repeat (first | assumption | exact bw_refl _ | apply bw_alloc | apply bw_drew | apply bw_drewN | refine bw_set _ ?_ (by omega) | refine bw_then ?_ (by assumption)))) (by with_reducible repeat (first | assumption | exact bw_refl _ | apply bw_alloc | apply bw_drew | apply bw_drewN | refine bw_set _ ?_ (by omega) | refine bw_then ?_ (by assumption))) (by omega) ?_; intro v1 w1 HO1 HB1; obtain ⟨hc1, hf1, hz1⟩ := bcell HB1; (try simp only [World.size_alloc, World.size_setCell, World.size_drew, sz_drewN] at hz1); have hb2 := HB1; have hb9 := HB1))
        go_roundw
        case rel => exact ⟨k + 1, k + 1, ids ++ [x], by go_num, by go_num, by omega, by omega, HV, by simp; omega, (by exact Kd.R_below HO1 (by with_reducible repeat (first | assumption | exact bw_refl _ | apply bw_alloc | apply bw_drew | apply bw_drewN | refine bw_set _ ?_ (by omega) | refine bw_then ?_ (by assumption)))), (by with_reducible repeat (first | assumption | exact bw_refl _ | apply bw_alloc | apply bw_drew | apply bw_drewN | refine bw_set _ ?_ (by omega) | refine bw_then ?_ (by assumption)))⟩
        case measure => simp [intOf]; omega
    · obtain rfl : k = l.length := by omega
      have i0 : ¬ (l.length : Int) < (l.length : Int) := by omega
      by_cases h : fr < l.length
      · have i1 : (fr : Int) < (l.length : Int) := by omega
        have HE := Lib.hid (wholeP_no HW.out h)
        clear h
        go_wp2
        exact bodyPost_ret (v := .tuple #[.slice (some ⟨wr.heap.size, 0, none⟩) 0 0, .bool false]) (by simp [results, Try.results131, go_sem]) rfl ⟨⟨_, by rw [HE.out.2], by rw [HE.out.1]; exact R_empty (W0 := w) _ _ (bw_size HB)⟩, (by with_reducible repeat (first | assumption | exact bw_refl _ | apply bw_alloc | apply bw_drew | apply bw_drewN | refine bw_set _ ?_ (by omega) | refine bw_then ?_ (by assumption)))⟩
      · have i1 : ¬ (fr : Int) < (l.length : Int) := by omega
        have HE := Lib.hid (wholeP_yes HW.out h)
        clear h
        go_wp2
        exact bodyPost_ret (v := .tuple #[.slice Ao ids.length co, .bool true]) (by simp [results, Try.results131, go_sem]) rfl ⟨⟨_, by rw [HE.out.2], by rw [HE.out.1]; exact (by exact Kd.R_below HO (by with_reducible repeat (first | assumption | exact bw_refl _ | apply bw_alloc | apply bw_drew | apply bw_drewN | refine bw_set _ ?_ (by omega) | refine bw_then ?_ (by assumption))))⟩, (by with_reducible repeat (first | assumption | exact bw_refl _ | apply bw_alloc | apply bw_drew | apply bw_drewN | refine bw_set _ ?_ (by omega) | refine bw_then ?_ (by assumption)))⟩
end Go.Proofs.Ytinnfahmfggghaa
