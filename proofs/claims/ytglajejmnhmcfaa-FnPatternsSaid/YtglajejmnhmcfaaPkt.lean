/- The packets of a pattern, and whether it is a permutation: what the program and the reference return; for all numbers. -/
import Derived.Test.YtglajejmnhmcfaaPatT
import Derived.Test.YtglajejmnhmcfaaLawP
import Derived.Test.YtglajejmnhmcfaaM4
set_option linter.unusedVariables false
set_option linter.unusedSimpArgs false
namespace Go.Proofs.Ytglajejmnhmcfaa
open Go.RowKit Go.Proofs.YtglajejmnhmcfaaW.PrintWords
open NoC

def goes (g : Grid) (p : Int) (k : Nat) : Bool := decide (0 ≤ patternTarget g p k) && patternTarget g p k != (k : Int)
def ptTo (g : Grid) (p n : Int) : Nat → List Packet
  | 0 => []
  | k + 1 => if goes g p k then ptTo g p n k ++ [⟨((ptTo g p n k).length : Int) + 1, k, patternTarget g p k, (k : Int) % 2, n⟩] else ptTo g p n k
theorem ptTo_len (g : Grid) (p n : Int) : ∀ k, (ptTo g p n k).length ≤ k := by
  intro k
  induction k with
  | zero => simp [ptTo]
  | succ k ih =>
    unfold ptTo
    split
    · simp; exact ih
    · omega
def patternPackets (g : Grid) (p n : Int) : List Packet := if inside n 1 5 then ptTo g p n (nodeCount g).toNat else []
theorem app_P {ops : Array Oper} {rest : List Oper} {o : Oper} {a : Act} {Q : Exit → Act → World → Prop} {W0 W : World} (hgd : o.guard = none) (s x : Operand)
    (ho : o.op = .call { callee := .builtin .append, args := #[s, x], argTypes := #[28, 28] })
    (v : Value) (xs : List Packet) (q : Packet) (hs : a.eval s = v) (hx : a.eval x = .slice (some ⟨W.heap.size, 0, none⟩) 1 1)
    (HO : kP.R 40 W W0.heap.size (fun _ => True) v xs) (HB : Below W0.heap.size W0 W) (hl : xs.length ≤ 100000000)
    (h : ∀ v1 w1, kP.R 40 w1 W0.heap.size (fun _ => True) v1 (xs ++ [q]) → Below W0.heap.size W0 w1 → wpList Try.prog ops Q rest (a.put o.dst v1) w1) :
    wpList Try.prog ops Q (o :: rest) a (W.alloc (.cells #[.int .i64 q.id, .int .i64 q.src, .int .i64 q.dst, .int .i64 q.cls, .int .i64 q.len] 40)) :=
  app_own kP hgd s x 28 40 (.agg #[.int .i64 0, .int .i64 0, .int .i64 0, .int .i64 0, .int .i64 0]) 40 ho Try.underlying28 info_P rfl (by decide) (by omega) v xs q (pkCells q) hs hx rfl HO HB (by omega) h
theorem target_range (g : Grid) (p n : Int) : -1 ≤ patternTarget g p n ∧ patternTarget g p n ≤ 15 := by
  have hna : ∀ x y, -1 ≤ nodeAt g x y ∧ nodeAt g x y ≤ 15 := by
    intro x y
    unfold nodeAt
    split
    · rename_i h
      simp only [Bool.and_eq_true, inside_iff] at h
      obtain ⟨⟨hg, hx⟩, hy⟩ := h
      obtain ⟨a1, a2, a3, a4, a5, a6⟩ := grid_bounds hg
      have h1 : 0 ≤ y * g.w := Int.mul_nonneg hy.1 (by omega)
      have h2 : y * g.w ≤ (g.h - 1) * g.w := Int.mul_le_mul_of_nonneg_right hy.2 (by omega)
      have h3 : (g.h - 1) * g.w = g.w * g.h - g.w := by rw [Int.sub_mul, Int.one_mul, Int.mul_comm]
      omega
    · omega
  unfold patternTarget
  split
  · rename_i h
    obtain ⟨c1, c2, c3, c4⟩ := node_bounds h
    have hc : nodeCount g = g.w * g.h := by unfold nodeCount; rw [if_pos c1]
    obtain ⟨a1, a2, a3, a4, a5, a6⟩ := grid_bounds c1
    split
    · exact hna _ _
    · split
      · omega
      · split
        · omega
        · split
          · exact hna _ _
          · omega
  · omega

set_option maxHeartbeats 2000000 in
theorem impl_PatternPackets (g : Grid) (p n : Int) (w : World) : Calls Try.prog 13 #[.agg #[.int .i64 g.w, .int .i64 g.h], .int .i64 p, .int .i64 n] w fun e w' => GotP w w' (patternPackets g p n) e ∧ Below w.heap.size w w' := by
  obtain ⟨n0, n1⟩ := count_le g
  obtain ⟨N, hN⟩ : ∃ N : Nat, nodeCount g = (N : Int) := ⟨(nodeCount g).toNat, by omega⟩
  have hN16 : N ≤ 16 := by omega
  have hpp : (nodeCount g).toNat = N := by omega
  have HNN := Lib.hid hpp
  have HC := Lib.hid hN
  clear hN n0 n1 hpp
  go_enter Try.func13, Try.ntmps13
  cases hin : inside n 1 5
  · go_wp2_with (go_at_call 43; refine (impl_inside _ _ _ _).mono ?_; rintro e w' ⟨rfl, rfl⟩)
    go_ret
    exact ⟨by rw [patternPackets, hin]; exact ⟨_, rfl, (by exact Kd.R_lower (R_empty' (W0 := (w.alloc (.cells #[.int .i64 g.w, .int .i64 g.h] 25))) (W := (w.alloc (.cells #[.int .i64 g.w, .int .i64 g.h] 25))) _ _ (Nat.le_refl _) _ (by simp only [World.size_alloc, World.size_setCell, World.size_drew, sz_drewN])) (by simp only [World.size_alloc, World.size_setCell, World.size_drew, sz_drewN]; omega))⟩, (by with_reducible repeat (first | assumption | exact bw_refl _ | apply bw_alloc | apply bw_drew | apply bw_drewN | refine bw_set _ ?_ (by omega) | refine bw_then ?_ (by assumption)))⟩
  go_wp2_with (first | (go_at_call 43; refine (impl_inside _ _ _ _).mono ?_; rintro e w' ⟨rfl, rfl⟩) | (go_at_call 40; refine (impl_NodeCount g _).mono ?_; rintro e w1 ⟨he, hb1⟩; rw [HC.out] at he; subst he; obtain ⟨hc1, hf1, hz1⟩ := bcell hb1; (try simp only [World.size_alloc, World.size_setCell, World.size_drew, sz_drewN] at hz1); have hb2 := (by first | exact bw_then hb2 hb1 | exact bw_then (bw_drewN _ hb2) hb1 | exact bw_then (bw_alloc _ hb2) hb1 | exact bw_then (bw_drew hb2) hb1 | exact bw_then HB hb1 | exact bw_then (bw_drewN _ HB) hb1 | exact bw_then (bw_alloc _ HB) hb1 | exact bw_then (bw_drew HB) hb1 | exact hb1); obtain ⟨hc2, hf2, hz2⟩ := bcell hb2; (try simp only [World.size_alloc, World.size_setCell, World.size_drew, sz_drewN] at hz2); try (first | obtain ⟨hy1, hy2, hy3, hy4⟩ := lts4 hz2 | obtain ⟨hy1, hy2, hy3⟩ := lts3 hz2 | obtain ⟨hy1, hy2⟩ := lts2 hz2 | have hy1 := lts1 hz2); have hb9 := hb1))
  go_loopw [7, 17] (fun v i wr => ∃ k : Nat, i = .int .i64 k ∧ k ≤ N ∧ kP.R 40 wr (w.alloc (.cells #[.int .i64 g.w, .int .i64 g.h] 25)).heap.size (fun _ => True) v (ptTo g p n k) ∧ Below (w.alloc (.cells #[.int .i64 g.w, .int .i64 g.h] 25)).heap.size (w.alloc (.cells #[.int .i64 g.w, .int .i64 g.h] 25)) wr) (fun _ i _ => N - (intOf i).toNat)
  case atStart => exact ⟨0, rfl, Nat.zero_le _, Kd.R_below (R_empty' (W0 := (w.alloc (.cells #[.int .i64 g.w, .int .i64 g.h] 25))) (W := (w.alloc (.cells #[.int .i64 g.w, .int .i64 g.h] 25))) _ _ (Nat.le_refl _) _ (by simp only [World.size_alloc, World.size_setCell, World.size_drew, sz_drewN])) (by with_reducible repeat (first | assumption | exact bw_refl _ | apply bw_alloc | apply bw_drew | apply bw_drewN | refine bw_set _ ?_ (by omega) | refine bw_then ?_ (by assumption))), (by with_reducible repeat (first | assumption | exact bw_refl _ | apply bw_alloc | apply bw_drew | apply bw_drewN | refine bw_set _ ?_ (by omega) | refine bw_then ?_ (by assumption)))⟩
  case round =>
    obtain ⟨k, rfl, hk, HO, HB⟩ := hrel
    obtain ⟨Ao, co, rfl⟩ := Kd.R_slice HO
    have hlen := ptTo_len g p n k
    obtain ⟨hc0, hf0, hz0⟩ := bcell HB
    simp only [World.size_alloc, World.size_setCell, World.size_drew, sz_drewN] at hz0
    have yy1 := lts1 hz0
    by_cases hlt : k < N
    · have i0 : (k : Int) < (N : Int) := by omega
      obtain ⟨t0, t1⟩ := target_range g p k
      obtain ⟨t, ht⟩ : ∃ t, patternTarget g p k = t := ⟨_, rfl⟩
      rw [ht] at t0 t1
      have HT := Lib.hid ht
      by_cases e1 : 0 ≤ t
      · by_cases e2 : t = k
        · have f2 : (t != (k : Int)) = false := bne_eq_false_iff_eq.2 e2
          have hs : ptTo g p n (k + 1) = ptTo g p n k := by rw [ptTo, if_neg (by simp [goes, ht, e2])]
          have HS := Lib.hid hs
          clear hs ht e2
          go_wp2_with (first | (go_at_call 21; refine (impl_PatternTarget g p k _).mono ?_; rintro e w1 ⟨he, hb1⟩; rw [HT.out] at he; subst he; obtain ⟨hc1, hf1, hz1⟩ := bcell hb1; (try simp only [World.size_alloc, World.size_setCell, World.size_drew, sz_drewN] at hz1); have hb2 := (by first | exact bw_then hb2 hb1 | exact bw_then (bw_drewN _ hb2) hb1 | exact bw_then (bw_alloc _ hb2) hb1 | exact bw_then (bw_drew hb2) hb1 | exact bw_then HB hb1 | exact bw_then (bw_drewN _ HB) hb1 | exact bw_then (bw_alloc _ HB) hb1 | exact bw_then (bw_drew HB) hb1 | exact hb1); obtain ⟨hc2, hf2, hz2⟩ := bcell hb2; (try simp only [World.size_alloc, World.size_setCell, World.size_drew, sz_drewN] at hz2); try (first | obtain ⟨hy1, hy2, hy3, hy4⟩ := lts4 hz2 | obtain ⟨hy1, hy2, hy3⟩ := lts3 hz2 | obtain ⟨hy1, hy2⟩ := lts2 hz2 | have hy1 := lts1 hz2); have hb9 := hb1))
          go_roundw
          case rel => exact ⟨k + 1, by go_num, by omega, by rw [HS.out]; exact (by exact Kd.R_below HO (by with_reducible repeat (first | assumption | exact bw_refl _ | apply bw_alloc | apply bw_drew | apply bw_drewN | refine bw_set _ ?_ (by omega) | refine bw_then ?_ (by assumption)))), (by with_reducible repeat (first | assumption | exact bw_refl _ | apply bw_alloc | apply bw_drew | apply bw_drewN | refine bw_set _ ?_ (by omega) | refine bw_then ?_ (by assumption)))⟩
          case measure => simp [intOf]; omega
        · have f2 : (t != (k : Int)) = true := bne_iff_ne.2 e2
          have hs : ptTo g p n (k + 1) = ptTo g p n k ++ [⟨((ptTo g p n k).length : Int) + 1, k, t, (k : Int) % 2, n⟩] := by rw [ptTo, if_pos (by simp [goes, ht, e1, e2]), ht]
          have HS := Lib.hid hs
          clear hs ht e2
          go_wp2_with (first | (go_at_call 21; refine (impl_PatternTarget g p k _).mono ?_; rintro e w1 ⟨he, hb1⟩; rw [HT.out] at he; subst he; obtain ⟨hc1, hf1, hz1⟩ := bcell hb1; (try simp only [World.size_alloc, World.size_setCell, World.size_drew, sz_drewN] at hz1); have hb2 := (by first | exact bw_then hb2 hb1 | exact bw_then (bw_drewN _ hb2) hb1 | exact bw_then (bw_alloc _ hb2) hb1 | exact bw_then (bw_drew hb2) hb1 | exact bw_then HB hb1 | exact bw_then (bw_drewN _ HB) hb1 | exact bw_then (bw_alloc _ HB) hb1 | exact bw_then (bw_drew HB) hb1 | exact hb1); obtain ⟨hc2, hf2, hz2⟩ := bcell hb2; (try simp only [World.size_alloc, World.size_setCell, World.size_drew, sz_drewN] at hz2); try (first | obtain ⟨hy1, hy2, hy3, hy4⟩ := lts4 hz2 | obtain ⟨hy1, hy2, hy3⟩ := lts3 hz2 | obtain ⟨hy1, hy2⟩ := lts2 hz2 | have hy1 := lts1 hz2); have hb9 := hb1) | (at_builtin; refine app_P (W0 := (w.alloc (.cells #[.int .i64 g.w, .int .i64 g.h] 25))) rfl (.tmp 31) (.tmp 41) rfl _ (ptTo g p n k) ⟨((ptTo g p n k).length : Int) + 1, k, t, (k : Int) % 2, n⟩ rfl rfl (by exact Kd.R_below HO (by with_reducible repeat (first | assumption | exact bw_refl _ | apply bw_alloc | apply bw_drew | apply bw_drewN | refine bw_set _ ?_ (by omega) | refine bw_then ?_ (by assumption)))) (by with_reducible repeat (first | assumption | exact bw_refl _ | apply bw_alloc | apply bw_drew | apply bw_drewN | refine bw_set _ ?_ (by omega) | refine bw_then ?_ (by assumption))) (by omega) ?_; intro v1 w1 HO1 HB1; obtain ⟨hc1, hf1, hz1⟩ := bcell HB1; (try simp only [World.size_alloc, World.size_setCell, World.size_drew, sz_drewN] at hz1); have hb2 := HB1; have hb9 := HB1))
          go_roundw
          case rel => exact ⟨k + 1, by go_num, by omega, by rw [HS.out]; exact HO1, HB1⟩
          case measure => simp [intOf]; omega
      · have hs : ptTo g p n (k + 1) = ptTo g p n k := by rw [ptTo, if_neg (by simp [goes, ht]; omega)]
        have HS := Lib.hid hs
        clear hs ht
        go_wp2_with (first | (go_at_call 21; refine (impl_PatternTarget g p k _).mono ?_; rintro e w1 ⟨he, hb1⟩; rw [HT.out] at he; subst he; obtain ⟨hc1, hf1, hz1⟩ := bcell hb1; (try simp only [World.size_alloc, World.size_setCell, World.size_drew, sz_drewN] at hz1); have hb2 := (by first | exact bw_then hb2 hb1 | exact bw_then (bw_drewN _ hb2) hb1 | exact bw_then (bw_alloc _ hb2) hb1 | exact bw_then (bw_drew hb2) hb1 | exact bw_then HB hb1 | exact bw_then (bw_drewN _ HB) hb1 | exact bw_then (bw_alloc _ HB) hb1 | exact bw_then (bw_drew HB) hb1 | exact hb1); obtain ⟨hc2, hf2, hz2⟩ := bcell hb2; (try simp only [World.size_alloc, World.size_setCell, World.size_drew, sz_drewN] at hz2); try (first | obtain ⟨hy1, hy2, hy3, hy4⟩ := lts4 hz2 | obtain ⟨hy1, hy2, hy3⟩ := lts3 hz2 | obtain ⟨hy1, hy2⟩ := lts2 hz2 | have hy1 := lts1 hz2); have hb9 := hb1))
        go_roundw
        case rel => exact ⟨k + 1, by go_num, by omega, by rw [HS.out]; exact (by exact Kd.R_below HO (by with_reducible repeat (first | assumption | exact bw_refl _ | apply bw_alloc | apply bw_drew | apply bw_drewN | refine bw_set _ ?_ (by omega) | refine bw_then ?_ (by assumption)))), (by with_reducible repeat (first | assumption | exact bw_refl _ | apply bw_alloc | apply bw_drew | apply bw_drewN | refine bw_set _ ?_ (by omega) | refine bw_then ?_ (by assumption)))⟩
        case measure => simp [intOf]; omega
    · have i0 : ¬ (k : Int) < (N : Int) := by omega
      go_wp2
      go_ret
      have hke : k = N := by omega
      subst hke
      exact ⟨by rw [patternPackets, hin, if_pos rfl, HNN.out]; exact ⟨_, rfl, Kd.R_lower (by exact Kd.R_below HO (by with_reducible repeat (first | assumption | exact bw_refl _ | apply bw_alloc | apply bw_drew | apply bw_drewN | refine bw_set _ ?_ (by omega) | refine bw_then ?_ (by assumption)))) (by simp only [World.size_alloc, World.size_setCell, World.size_drew, sz_drewN]; omega)⟩, (by with_reducible repeat (first | assumption | exact bw_refl _ | apply bw_alloc | apply bw_drew | apply bw_drewN | refine bw_set _ ?_ (by omega) | refine bw_then ?_ (by assumption)))⟩

set_option maxHeartbeats 2000000 in
theorem spec_PatternPackets (g : Grid) (p n : Int) (w : World) : Calls Try.prog 12 #[.agg #[.int .i64 g.w, .int .i64 g.h], .int .i64 p, .int .i64 n] w fun e w' => GotP w w' (patternPackets g p n) e ∧ Below w.heap.size w w' := by
  obtain ⟨n0, n1⟩ := count_le g
  obtain ⟨N, hN⟩ : ∃ N : Nat, nodeCount g = (N : Int) := ⟨(nodeCount g).toNat, by omega⟩
  have hN16 : N ≤ 16 := by omega
  have hpp : (nodeCount g).toNat = N := by omega
  have HNN := Lib.hid hpp
  have HC := Lib.hid hN
  clear hN n0 n1 hpp
  go_enter Try.func12, Try.ntmps12
  cases hin : inside n 1 5
  · go_wp2
    go_loopw [7, 8] (fun v i wr => i = .int .i64 0 ∧ v = .slice (some ⟨w.heap.size + 1, 0, none⟩) 0 0 ∧ Below ((w.alloc (.cells #[.int .i64 g.w, .int .i64 g.h] 25)).alloc (.cells #[] 40)).heap.size ((w.alloc (.cells #[.int .i64 g.w, .int .i64 g.h] 25)).alloc (.cells #[] 40)) wr) (fun _ i _ => 0)
    case atStart => exact ⟨rfl, by first | rfl | (simp; done), (by with_reducible repeat (first | assumption | exact bw_refl _ | apply bw_alloc | apply bw_drew | apply bw_drewN | refine bw_set _ ?_ (by omega) | refine bw_then ?_ (by assumption)))⟩
    case round =>
      obtain ⟨rfl, rfl, HBB⟩ := hrel
      obtain ⟨hcI, hfI, hzI⟩ := bcell HBB
      simp only [World.size_alloc, World.size_setCell, World.size_drew, sz_drewN] at hzI
      obtain ⟨yy1, yy2⟩ := lts2 hzI
      by_cases hz : 0 < N
      · have i0 : (0 : Int) < (N : Int) := by omega
        go_wp2_with (first | (go_at_call 36; refine (spec_NodeCount g _).mono ?_; rintro e w1 ⟨he, hb1⟩; rw [HC.out] at he; subst he; obtain ⟨hc1, hf1, hz1⟩ := bcell hb1; (try simp only [World.size_alloc, World.size_setCell, World.size_drew, sz_drewN] at hz1); have hb2 := (by first | exact bw_then hb2 hb1 | exact bw_then (bw_drewN _ hb2) hb1 | exact bw_then (bw_alloc _ hb2) hb1 | exact bw_then (bw_drew hb2) hb1 | exact bw_then HB hb1 | exact bw_then (bw_drewN _ HB) hb1 | exact bw_then (bw_alloc _ HB) hb1 | exact bw_then (bw_drew HB) hb1 | exact hb1); obtain ⟨hc2, hf2, hz2⟩ := bcell hb2; (try simp only [World.size_alloc, World.size_setCell, World.size_drew, sz_drewN] at hz2); try (first | obtain ⟨hy1, hy2, hy3, hy4⟩ := lts4 hz2 | obtain ⟨hy1, hy2, hy3⟩ := lts3 hz2 | obtain ⟨hy1, hy2⟩ := lts2 hz2 | have hy1 := lts1 hz2); have hb9 := hb1) | (go_at_call 42; refine (spec_l01In _ _ _ _).mono ?_; rintro e w' ⟨rfl, rfl⟩))
        try (go_quiet (first | (go_at_call 36; exact far_call (Calls.says (spec_NodeCount g _) (congrArg (Value.int .i64) HC.out))) | (go_at_call 42; exact far_same (spec_l01In _ _ _ _))); go_wp2)
        go_ret
        exact ⟨by rw [patternPackets, hin]; exact ⟨_, rfl, Kd.R_lower (Kd.R_below (R_empty' (W0 := (w.alloc (.cells #[.int .i64 g.w, .int .i64 g.h] 25))) (W := (w.alloc (.cells #[.int .i64 g.w, .int .i64 g.h] 25))) _ _ (Nat.le_refl _) _ (by simp only [World.size_alloc, World.size_setCell, World.size_drew, sz_drewN])) (bw_then HBB (by with_reducible repeat (first | assumption | exact bw_refl _ | apply bw_alloc | apply bw_drew | apply bw_drewN | refine bw_set _ ?_ (by omega) | refine bw_then ?_ (by assumption))))) (by simp only [World.size_alloc, World.size_setCell, World.size_drew, sz_drewN]; omega)⟩, (by with_reducible repeat (first | assumption | exact bw_refl _ | apply bw_alloc | apply bw_drew | apply bw_drewN | refine bw_set _ ?_ (by omega) | refine bw_then ?_ (by assumption)))⟩
      · have i0 : ¬ (0 : Int) < (N : Int) := by omega
        go_wp2_with (first | (go_at_call 36; refine (spec_NodeCount g _).mono ?_; rintro e w1 ⟨he, hb1⟩; rw [HC.out] at he; subst he; obtain ⟨hc1, hf1, hz1⟩ := bcell hb1; (try simp only [World.size_alloc, World.size_setCell, World.size_drew, sz_drewN] at hz1); have hb2 := (by first | exact bw_then hb2 hb1 | exact bw_then (bw_drewN _ hb2) hb1 | exact bw_then (bw_alloc _ hb2) hb1 | exact bw_then (bw_drew hb2) hb1 | exact bw_then HB hb1 | exact bw_then (bw_drewN _ HB) hb1 | exact bw_then (bw_alloc _ HB) hb1 | exact bw_then (bw_drew HB) hb1 | exact hb1); obtain ⟨hc2, hf2, hz2⟩ := bcell hb2; (try simp only [World.size_alloc, World.size_setCell, World.size_drew, sz_drewN] at hz2); try (first | obtain ⟨hy1, hy2, hy3, hy4⟩ := lts4 hz2 | obtain ⟨hy1, hy2, hy3⟩ := lts3 hz2 | obtain ⟨hy1, hy2⟩ := lts2 hz2 | have hy1 := lts1 hz2); have hb9 := hb1) | (go_at_call 42; refine (spec_l01In _ _ _ _).mono ?_; rintro e w' ⟨rfl, rfl⟩))
        go_ret
        exact ⟨by rw [patternPackets, hin]; exact ⟨_, rfl, Kd.R_lower (Kd.R_below (R_empty' (W0 := (w.alloc (.cells #[.int .i64 g.w, .int .i64 g.h] 25))) (W := (w.alloc (.cells #[.int .i64 g.w, .int .i64 g.h] 25))) _ _ (Nat.le_refl _) _ (by simp only [World.size_alloc, World.size_setCell, World.size_drew, sz_drewN])) (bw_then HBB (by with_reducible repeat (first | assumption | exact bw_refl _ | apply bw_alloc | apply bw_drew | apply bw_drewN | refine bw_set _ ?_ (by omega) | refine bw_then ?_ (by assumption))))) (by simp only [World.size_alloc, World.size_setCell, World.size_drew, sz_drewN]; omega)⟩, (by with_reducible repeat (first | assumption | exact bw_refl _ | apply bw_alloc | apply bw_drew | apply bw_drewN | refine bw_set _ ?_ (by omega) | refine bw_then ?_ (by assumption)))⟩
  go_wp2
  go_loopw [7, 8] (fun v i wr => ∃ k : Nat, i = .int .i64 k ∧ k ≤ N ∧ kP.R 40 wr (w.alloc (.cells #[.int .i64 g.w, .int .i64 g.h] 25)).heap.size (fun _ => True) v (ptTo g p n k) ∧ Below (w.alloc (.cells #[.int .i64 g.w, .int .i64 g.h] 25)).heap.size (w.alloc (.cells #[.int .i64 g.w, .int .i64 g.h] 25)) wr) (fun _ i _ => N - (intOf i).toNat)
  case atStart => exact ⟨0, rfl, Nat.zero_le _, Kd.R_below (R_empty' (W0 := (w.alloc (.cells #[.int .i64 g.w, .int .i64 g.h] 25))) (W := (w.alloc (.cells #[.int .i64 g.w, .int .i64 g.h] 25))) _ _ (Nat.le_refl _) _ (by simp only [World.size_alloc, World.size_setCell, World.size_drew, sz_drewN])) (by with_reducible repeat (first | assumption | exact bw_refl _ | apply bw_alloc | apply bw_drew | apply bw_drewN | refine bw_set _ ?_ (by omega) | refine bw_then ?_ (by assumption))), (by with_reducible repeat (first | assumption | exact bw_refl _ | apply bw_alloc | apply bw_drew | apply bw_drewN | refine bw_set _ ?_ (by omega) | refine bw_then ?_ (by assumption)))⟩
  case round =>
    obtain ⟨k, rfl, hk, HO, HB⟩ := hrel
    obtain ⟨Ao, co, rfl⟩ := Kd.R_slice HO
    have hlen := ptTo_len g p n k
    obtain ⟨hc0, hf0, hz0⟩ := bcell HB
    simp only [World.size_alloc, World.size_setCell, World.size_drew, sz_drewN] at hz0
    have yy1 := lts1 hz0
    by_cases hlt : k < N
    · have i0 : (k : Int) < (N : Int) := by omega
      obtain ⟨t0, t1⟩ := target_range g p k
      obtain ⟨t, ht⟩ : ∃ t, patternTarget g p k = t := ⟨_, rfl⟩
      rw [ht] at t0 t1
      have HT := Lib.hid ht
      by_cases e1 : 0 ≤ t
      · by_cases e2 : t = k
        · have f2 : (t != (k : Int)) = false := bne_eq_false_iff_eq.2 e2
          have hs : ptTo g p n (k + 1) = ptTo g p n k := by rw [ptTo, if_neg (by simp [goes, ht, e2])]
          have HS := Lib.hid hs
          clear hs ht e2
          go_wp2_with (first | (go_at_call 36; refine (spec_NodeCount g _).mono ?_; rintro e w1 ⟨he, hb1⟩; rw [HC.out] at he; subst he; obtain ⟨hc1, hf1, hz1⟩ := bcell hb1; (try simp only [World.size_alloc, World.size_setCell, World.size_drew, sz_drewN] at hz1); have hb2 := (by first | exact bw_then hb2 hb1 | exact bw_then (bw_drewN _ hb2) hb1 | exact bw_then (bw_alloc _ hb2) hb1 | exact bw_then (bw_drew hb2) hb1 | exact bw_then HB hb1 | exact bw_then (bw_drewN _ HB) hb1 | exact bw_then (bw_alloc _ HB) hb1 | exact bw_then (bw_drew HB) hb1 | exact hb1); obtain ⟨hc2, hf2, hz2⟩ := bcell hb2; (try simp only [World.size_alloc, World.size_setCell, World.size_drew, sz_drewN] at hz2); try (first | obtain ⟨hy1, hy2, hy3, hy4⟩ := lts4 hz2 | obtain ⟨hy1, hy2, hy3⟩ := lts3 hz2 | obtain ⟨hy1, hy2⟩ := lts2 hz2 | have hy1 := lts1 hz2); have hb9 := hb1) | (go_at_call 42; refine (spec_l01In _ _ _ _).mono ?_; rintro e w' ⟨rfl, rfl⟩) | (go_at_call 37; refine (spec_PatternTarget g p k _).mono ?_; rintro e w1 ⟨he, hb1⟩; rw [HT.out] at he; subst he; obtain ⟨hc1, hf1, hz1⟩ := bcell hb1; (try simp only [World.size_alloc, World.size_setCell, World.size_drew, sz_drewN] at hz1); have hb2 := (by first | exact bw_then hb2 hb1 | exact bw_then (bw_drewN _ hb2) hb1 | exact bw_then (bw_alloc _ hb2) hb1 | exact bw_then (bw_drew hb2) hb1 | exact bw_then HB hb1 | exact bw_then (bw_drewN _ HB) hb1 | exact bw_then (bw_alloc _ HB) hb1 | exact bw_then (bw_drew HB) hb1 | exact hb1); obtain ⟨hc2, hf2, hz2⟩ := bcell hb2; (try simp only [World.size_alloc, World.size_setCell, World.size_drew, sz_drewN] at hz2); try (first | obtain ⟨hy1, hy2, hy3, hy4⟩ := lts4 hz2 | obtain ⟨hy1, hy2, hy3⟩ := lts3 hz2 | obtain ⟨hy1, hy2⟩ := lts2 hz2 | have hy1 := lts1 hz2); have hb9 := hb1))
          go_roundw
          case rel => exact ⟨k + 1, by go_num, by omega, by rw [HS.out]; exact (by exact Kd.R_below HO (by with_reducible repeat (first | assumption | exact bw_refl _ | apply bw_alloc | apply bw_drew | apply bw_drewN | refine bw_set _ ?_ (by omega) | refine bw_then ?_ (by assumption)))), (by with_reducible repeat (first | assumption | exact bw_refl _ | apply bw_alloc | apply bw_drew | apply bw_drewN | refine bw_set _ ?_ (by omega) | refine bw_then ?_ (by assumption)))⟩
          case measure => simp [intOf]; omega
        · have f2 : (t != (k : Int)) = true := bne_iff_ne.2 e2
          have hs : ptTo g p n (k + 1) = ptTo g p n k ++ [⟨((ptTo g p n k).length : Int) + 1, k, t, (k : Int) % 2, n⟩] := by rw [ptTo, if_pos (by simp [goes, ht, e1, e2]), ht]
          have HS := Lib.hid hs
          clear hs ht e2
          go_wp2_with (first | (go_at_call 36; refine (spec_NodeCount g _).mono ?_; rintro e w1 ⟨he, hb1⟩; rw [HC.out] at he; subst he; obtain ⟨hc1, hf1, hz1⟩ := bcell hb1; (try simp only [World.size_alloc, World.size_setCell, World.size_drew, sz_drewN] at hz1); have hb2 := (by first | exact bw_then hb2 hb1 | exact bw_then (bw_drewN _ hb2) hb1 | exact bw_then (bw_alloc _ hb2) hb1 | exact bw_then (bw_drew hb2) hb1 | exact bw_then HB hb1 | exact bw_then (bw_drewN _ HB) hb1 | exact bw_then (bw_alloc _ HB) hb1 | exact bw_then (bw_drew HB) hb1 | exact hb1); obtain ⟨hc2, hf2, hz2⟩ := bcell hb2; (try simp only [World.size_alloc, World.size_setCell, World.size_drew, sz_drewN] at hz2); try (first | obtain ⟨hy1, hy2, hy3, hy4⟩ := lts4 hz2 | obtain ⟨hy1, hy2, hy3⟩ := lts3 hz2 | obtain ⟨hy1, hy2⟩ := lts2 hz2 | have hy1 := lts1 hz2); have hb9 := hb1) | (go_at_call 42; refine (spec_l01In _ _ _ _).mono ?_; rintro e w' ⟨rfl, rfl⟩) | (go_at_call 37; refine (spec_PatternTarget g p k _).mono ?_; rintro e w1 ⟨he, hb1⟩; rw [HT.out] at he; subst he; obtain ⟨hc1, hf1, hz1⟩ := bcell hb1; (try simp only [World.size_alloc, World.size_setCell, World.size_drew, sz_drewN] at hz1); have hb2 := (by first | exact bw_then hb2 hb1 | exact bw_then (bw_drewN _ hb2) hb1 | exact bw_then (bw_alloc _ hb2) hb1 | exact bw_then (bw_drew hb2) hb1 | exact bw_then HB hb1 | exact bw_then (bw_drewN _ HB) hb1 | exact bw_then (bw_alloc _ HB) hb1 | exact bw_then (bw_drew HB) hb1 | exact hb1); obtain ⟨hc2, hf2, hz2⟩ := bcell hb2; (try simp only [World.size_alloc, World.size_setCell, World.size_drew, sz_drewN] at hz2); try (first | obtain ⟨hy1, hy2, hy3, hy4⟩ := lts4 hz2 | obtain ⟨hy1, hy2, hy3⟩ := lts3 hz2 | obtain ⟨hy1, hy2⟩ := lts2 hz2 | have hy1 := lts1 hz2); have hb9 := hb1) | (at_builtin; refine app_P (W0 := (w.alloc (.cells #[.int .i64 g.w, .int .i64 g.h] 25))) rfl (.tmp 32) (.tmp 42) rfl _ (ptTo g p n k) ⟨((ptTo g p n k).length : Int) + 1, k, t, (k : Int) % 2, n⟩ rfl rfl (by exact Kd.R_below HO (by with_reducible repeat (first | assumption | exact bw_refl _ | apply bw_alloc | apply bw_drew | apply bw_drewN | refine bw_set _ ?_ (by omega) | refine bw_then ?_ (by assumption)))) (by with_reducible repeat (first | assumption | exact bw_refl _ | apply bw_alloc | apply bw_drew | apply bw_drewN | refine bw_set _ ?_ (by omega) | refine bw_then ?_ (by assumption))) (by omega) ?_; intro v1 w1 HO1 HB1; obtain ⟨hc1, hf1, hz1⟩ := bcell HB1; (try simp only [World.size_alloc, World.size_setCell, World.size_drew, sz_drewN] at hz1); have hb2 := HB1; have hb9 := HB1))
          go_roundw
          case rel => exact ⟨k + 1, by go_num, by omega, by rw [HS.out]; exact HO1, HB1⟩
          case measure => simp [intOf]; omega
      · have hs : ptTo g p n (k + 1) = ptTo g p n k := by rw [ptTo, if_neg (by simp [goes, ht]; omega)]
        have HS := Lib.hid hs
        clear hs ht
        go_wp2_with (first | (go_at_call 36; refine (spec_NodeCount g _).mono ?_; rintro e w1 ⟨he, hb1⟩; rw [HC.out] at he; subst he; obtain ⟨hc1, hf1, hz1⟩ := bcell hb1; (try simp only [World.size_alloc, World.size_setCell, World.size_drew, sz_drewN] at hz1); have hb2 := (by first | exact bw_then hb2 hb1 | exact bw_then (bw_drewN _ hb2) hb1 | exact bw_then (bw_alloc _ hb2) hb1 | exact bw_then (bw_drew hb2) hb1 | exact bw_then HB hb1 | exact bw_then (bw_drewN _ HB) hb1 | exact bw_then (bw_alloc _ HB) hb1 | exact bw_then (bw_drew HB) hb1 | exact hb1); obtain ⟨hc2, hf2, hz2⟩ := bcell hb2; (try simp only [World.size_alloc, World.size_setCell, World.size_drew, sz_drewN] at hz2); try (first | obtain ⟨hy1, hy2, hy3, hy4⟩ := lts4 hz2 | obtain ⟨hy1, hy2, hy3⟩ := lts3 hz2 | obtain ⟨hy1, hy2⟩ := lts2 hz2 | have hy1 := lts1 hz2); have hb9 := hb1) | (go_at_call 42; refine (spec_l01In _ _ _ _).mono ?_; rintro e w' ⟨rfl, rfl⟩) | (go_at_call 37; refine (spec_PatternTarget g p k _).mono ?_; rintro e w1 ⟨he, hb1⟩; rw [HT.out] at he; subst he; obtain ⟨hc1, hf1, hz1⟩ := bcell hb1; (try simp only [World.size_alloc, World.size_setCell, World.size_drew, sz_drewN] at hz1); have hb2 := (by first | exact bw_then hb2 hb1 | exact bw_then (bw_drewN _ hb2) hb1 | exact bw_then (bw_alloc _ hb2) hb1 | exact bw_then (bw_drew hb2) hb1 | exact bw_then HB hb1 | exact bw_then (bw_drewN _ HB) hb1 | exact bw_then (bw_alloc _ HB) hb1 | exact bw_then (bw_drew HB) hb1 | exact hb1); obtain ⟨hc2, hf2, hz2⟩ := bcell hb2; (try simp only [World.size_alloc, World.size_setCell, World.size_drew, sz_drewN] at hz2); try (first | obtain ⟨hy1, hy2, hy3, hy4⟩ := lts4 hz2 | obtain ⟨hy1, hy2, hy3⟩ := lts3 hz2 | obtain ⟨hy1, hy2⟩ := lts2 hz2 | have hy1 := lts1 hz2); have hb9 := hb1))
        go_roundw
        case rel => exact ⟨k + 1, by go_num, by omega, by rw [HS.out]; exact (by exact Kd.R_below HO (by with_reducible repeat (first | assumption | exact bw_refl _ | apply bw_alloc | apply bw_drew | apply bw_drewN | refine bw_set _ ?_ (by omega) | refine bw_then ?_ (by assumption)))), (by with_reducible repeat (first | assumption | exact bw_refl _ | apply bw_alloc | apply bw_drew | apply bw_drewN | refine bw_set _ ?_ (by omega) | refine bw_then ?_ (by assumption)))⟩
        case measure => simp [intOf]; omega
    · have i0 : ¬ (k : Int) < (N : Int) := by omega
      go_wp2_with (first | (go_at_call 36; refine (spec_NodeCount g _).mono ?_; rintro e w1 ⟨he, hb1⟩; rw [HC.out] at he; subst he; obtain ⟨hc1, hf1, hz1⟩ := bcell hb1; (try simp only [World.size_alloc, World.size_setCell, World.size_drew, sz_drewN] at hz1); have hb2 := (by first | exact bw_then hb2 hb1 | exact bw_then (bw_drewN _ hb2) hb1 | exact bw_then (bw_alloc _ hb2) hb1 | exact bw_then (bw_drew hb2) hb1 | exact bw_then HB hb1 | exact bw_then (bw_drewN _ HB) hb1 | exact bw_then (bw_alloc _ HB) hb1 | exact bw_then (bw_drew HB) hb1 | exact hb1); obtain ⟨hc2, hf2, hz2⟩ := bcell hb2; (try simp only [World.size_alloc, World.size_setCell, World.size_drew, sz_drewN] at hz2); try (first | obtain ⟨hy1, hy2, hy3, hy4⟩ := lts4 hz2 | obtain ⟨hy1, hy2, hy3⟩ := lts3 hz2 | obtain ⟨hy1, hy2⟩ := lts2 hz2 | have hy1 := lts1 hz2); have hb9 := hb1) | (go_at_call 42; refine (spec_l01In _ _ _ _).mono ?_; rintro e w' ⟨rfl, rfl⟩))
      go_ret
      have hke : k = N := by omega
      subst hke
      exact ⟨by rw [patternPackets, hin, if_pos rfl, HNN.out]; exact ⟨_, rfl, Kd.R_lower (by exact Kd.R_below HO (by with_reducible repeat (first | assumption | exact bw_refl _ | apply bw_alloc | apply bw_drew | apply bw_drewN | refine bw_set _ ?_ (by omega) | refine bw_then ?_ (by assumption)))) (by simp only [World.size_alloc, World.size_setCell, World.size_drew, sz_drewN]; omega)⟩, (by with_reducible repeat (first | assumption | exact bw_refl _ | apply bw_alloc | apply bw_drew | apply bw_drewN | refine bw_set _ ?_ (by omega) | refine bw_then ?_ (by assumption)))⟩

end Go.Proofs.Ytglajejmnhmcfaa
