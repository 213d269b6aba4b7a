/- Lemmas for laws of this seat, for all inputs: WalkT TabOk Load FlOk Cp. -/
import Derived.Test.YtaihmgbflhbebaaGreatU4
import Derived.Test.YtaihmgbflhbebaaGreatU3
set_option linter.unusedVariables false
set_option linter.unusedSimpArgs false
namespace Go.Proofs.YtaihmgbflhbebaaGreat
open Go.RowKit Go.Proofs.YtaihmgbflhbebaaGreatW.PrintWords
open NoC
set_option maxHeartbeats 1000000 in
theorem impl_WalkTable (m : Mesh) (t : List Int) (a b : Int) (A B : Option Addr) (c d : Nat) (w : World) (hr : Kd.C (Kd.int .i64) w A m.br.length m.br) (hn : m.br.length ≤ 2097152) (ht : Kd.C (Kd.int .i64) w B t.length t) (hk : t.length ≤ 2097152) :
  Calls Tryz.prog 118 #[.agg #[.int .i64 m.g.w, .int .i64 m.g.h, .slice A m.br.length c], .agg #[.slice B t.length d], .int .i64 a, .int .i64 b] w fun e w' => GotI w w' (wt m t a b) e ∧ Below w.heap.size w w' := by
 obtain ⟨n0, n1⟩ := count_le m.g
 go_enter Tryz.func118, Tryz.ntmps118
 by_cases hab : a = b
 ·have e1 : (a == b) = true := beq_iff_eq.2 hab
  have HAB := Lib.hid hab
  clear hab
  go_wp2
  go_ret
  exact ⟨by rw [show wt m t a b = [] by simp [wt, HAB.out]]; exact GotI.nil _ _, bel⟩
 have e1 : (a == b) = false := beq_eq_false_iff_ne.2 hab
 have HAB := Lib.hid hab
 clear hab
 cases hm : meshOk m
 ·go_wp2_with (go_at_call 115; refine (impl_MeshOk m _ _ _ (by exact Kd.C_below hr bel) hn).mono ?_; rintro e w1 ⟨rfl, hb1⟩; obtain ⟨hc1, hf1, hz1⟩ := bcell hb1; (try simp only [szs] at hz1); have hb2 := far2; obtain ⟨hc2, hf2, hz2⟩ := bcell hb2; (try simp only [szs] at hz2); try (first | obtain ⟨hy1, hy2, hy3, hy4⟩ := lts4 hz2 | obtain ⟨hy1, hy2, hy3⟩ := lts3 hz2 | obtain ⟨hy1, hy2⟩ := lts2 hz2 | have hy1 := lts1 hz2); have hb9 := hb1)
  go_ret
  exact ⟨by rw [show wt m t a b = [] by simp [wt, sized, hm]]; exact GotI.nil _ _, bel⟩
 cases ha : isNode m.g a
 ·go_wp2_with (first | (go_at_call 115; refine (impl_MeshOk m _ _ _ (by exact Kd.C_below hr bel) hn).mono ?_; rintro e w1 ⟨rfl, hb1⟩; obtain ⟨hc1, hf1, hz1⟩ := bcell hb1; (try simp only [szs] at hz1); have hb2 := far2; obtain ⟨hc2, hf2, hz2⟩ := bcell hb2; (try simp only [szs] at hz2); try (first | obtain ⟨hy1, hy2, hy3, hy4⟩ := lts4 hz2 | obtain ⟨hy1, hy2, hy3⟩ := lts3 hz2 | obtain ⟨hy1, hy2⟩ := lts2 hz2 | have hy1 := lts1 hz2); have hb9 := hb1) | (go_at_call 81; refine (impl_isNode m.g _ _).mono ?_; rintro e w1 ⟨rfl, hb1⟩; obtain ⟨hc1, hf1, hz1⟩ := bcell hb1; (try simp only [szs] at hz1); have hb2 := far2; obtain ⟨hc2, hf2, hz2⟩ := bcell hb2; (try simp only [szs] at hz2); try (first | obtain ⟨hy1, hy2, hy3, hy4⟩ := lts4 hz2 | obtain ⟨hy1, hy2, hy3⟩ := lts3 hz2 | obtain ⟨hy1, hy2⟩ := lts2 hz2 | have hy1 := lts1 hz2); have hb9 := hb1))
  go_ret
  exact ⟨by rw [show wt m t a b = [] by simp [wt, ha]]; exact GotI.nil _ _, bel⟩
 cases hb : isNode m.g b
 ·go_wp2_with (first | (go_at_call 115; refine (impl_MeshOk m _ _ _ (by exact Kd.C_below hr bel) hn).mono ?_; rintro e w1 ⟨rfl, hb1⟩; obtain ⟨hc1, hf1, hz1⟩ := bcell hb1; (try simp only [szs] at hz1); have hb2 := far2; obtain ⟨hc2, hf2, hz2⟩ := bcell hb2; (try simp only [szs] at hz2); try (first | obtain ⟨hy1, hy2, hy3, hy4⟩ := lts4 hz2 | obtain ⟨hy1, hy2, hy3⟩ := lts3 hz2 | obtain ⟨hy1, hy2⟩ := lts2 hz2 | have hy1 := lts1 hz2); have hb9 := hb1) | (go_at_call 81; refine (impl_isNode m.g _ _).mono ?_; rintro e w1 ⟨rfl, hb1⟩; obtain ⟨hc1, hf1, hz1⟩ := bcell hb1; (try simp only [szs] at hz1); have hb2 := far2; obtain ⟨hc2, hf2, hz2⟩ := bcell hb2; (try simp only [szs] at hz2); try (first | obtain ⟨hy1, hy2, hy3, hy4⟩ := lts4 hz2 | obtain ⟨hy1, hy2, hy3⟩ := lts3 hz2 | obtain ⟨hy1, hy2⟩ := lts2 hz2 | have hy1 := lts1 hz2); have hb9 := hb1))
  go_ret
  exact ⟨by rw [show wt m t a b = [] by simp [wt, hb]]; exact GotI.nil _ _, bel⟩
 go_wp2_with (first | (go_at_call 115; refine (impl_MeshOk m _ _ _ (by exact Kd.C_below hr bel) hn).mono ?_; rintro e w1 ⟨rfl, hb1⟩; obtain ⟨hc1, hf1, hz1⟩ := bcell hb1; (try simp only [szs] at hz1); have hb2 := far2; obtain ⟨hc2, hf2, hz2⟩ := bcell hb2; (try simp only [szs] at hz2); try (first | obtain ⟨hy1, hy2, hy3, hy4⟩ := lts4 hz2 | obtain ⟨hy1, hy2, hy3⟩ := lts3 hz2 | obtain ⟨hy1, hy2⟩ := lts2 hz2 | have hy1 := lts1 hz2); have hb9 := hb1) | (go_at_call 81; refine (impl_isNode m.g _ _).mono ?_; rintro e w1 ⟨rfl, hb1⟩; obtain ⟨hc1, hf1, hz1⟩ := bcell hb1; (try simp only [szs] at hz1); have hb2 := far2; obtain ⟨hc2, hf2, hz2⟩ := bcell hb2; (try simp only [szs] at hz2); try (first | obtain ⟨hy1, hy2, hy3, hy4⟩ := lts4 hz2 | obtain ⟨hy1, hy2, hy3⟩ := lts3 hz2 | obtain ⟨hy1, hy2⟩ := lts2 hz2 | have hy1 := lts1 hz2); have hb9 := hb1))
 go_loopg [9, 10] ((nodeCount m.g).toNat + 1) (fun k v x wr => ∃ (out : List Int) (n : Int), x = .int .i64 n ∧ Hid (isNode m.g n = true) ∧ (k + out.length = (nodeCount m.g).toNat + 1 ∧ out.length ≤ (nodeCount m.g).toNat) ∧ Hid (wt m t a b = walkFrom m t b n out) ∧ Kd.R (Kd.int .i64) 3 wr ((w.alloc (.cells #[.int .i64 m.g.w, .int .i64 m.g.h, .slice A m.br.length c] 28)).alloc (.cells #[.slice B t.length d] 30)).heap.size (fun _ => True) v out ∧ Below ((w.alloc (.cells #[.int .i64 m.g.w, .int .i64 m.g.h, .slice A m.br.length c] 28)).alloc (.cells #[.slice B t.length d] 30)).heap.size ((w.alloc (.cells #[.int .i64 m.g.w, .int .i64 m.g.h, .slice A m.br.length c] 28)).alloc (.cells #[.slice B t.length d] 30)) wr)
 case atStart => exact ⟨[], a, rfl, Lib.hid ha, by simp, Lib.hid (wt_start HAB.out ha hb), R_empty (W0 := (w.alloc (.cells #[.int .i64 m.g.w, .int .i64 m.g.h, .slice A m.br.length c] 28)).alloc (.cells #[.slice B t.length d] 30)) _ _ (bw_size bel), bel⟩
 case round =>
  obtain ⟨out, n, rfl, HN, ⟨hlen, hlo⟩, HW, HO, HB⟩ := hrel
  have hlen' := Lib.hid hlen
  clear hlen
  obtain ⟨Ao, co, rfl⟩ := Kd.R_slice HO
  obtain ⟨hc0, hf0, hz0⟩ := bcell HB
  simp only [szs] at hz0
  obtain ⟨p, hp⟩ : ∃ p, portAt m t n b = p := ⟨_, rfl⟩
  have hpr := portAt_range m t n b
  rw [hp] at hpr
  obtain ⟨hp1, hp2⟩ := hpr
  have HP := Lib.hid hp
  clear hp
  obtain ⟨q1, q2, q3, q4⟩ := node_bounds HN.out
  clear q1 q3
  by_cases c1 : p < 0
  ·go_wp2_with (first | (go_at_call 121; refine (impl_PortAt m t n b A B c d _ (by exact Kd.C_below hr bel) hn (by exact Kd.C_below ht bel) hk).mono ?_; rintro e w1 ⟨he, hb1⟩; rw [HP.out] at he; subst he; obtain ⟨hc1, hf1, hz1⟩ := bcell hb1; (try simp only [szs] at hz1); have hb2 := far2; obtain ⟨hc2, hf2, hz2⟩ := bcell hb2; (try simp only [szs] at hz2); try (first | obtain ⟨hy1, hy2, hy3, hy4⟩ := lts4 hz2 | obtain ⟨hy1, hy2, hy3⟩ := lts3 hz2 | obtain ⟨hy1, hy2⟩ := lts2 hz2 | have hy1 := lts1 hz2); have hb9 := hb1))
   go_ret
   exact ⟨by rw [HW.out, walk_bad HN.out hb hlo (by rw [HP.out]; exact c1)]; exact GotI.nil _ _, bel⟩
  by_cases c2 : p = 4
  ·subst c2
   by_cases c3 : n = b
   ·have e3 : (n != b) = false := bne_eq_false_iff_eq.2 c3
    have C3 := Lib.hid c3
    clear c3
    go_wp2_with (first | (go_at_call 121; refine (impl_PortAt m t n b A B c d _ (by exact Kd.C_below hr bel) hn (by exact Kd.C_below ht bel) hk).mono ?_; rintro e w1 ⟨he, hb1⟩; rw [HP.out] at he; subst he; obtain ⟨hc1, hf1, hz1⟩ := bcell hb1; (try simp only [szs] at hz1); have hb2 := far2; obtain ⟨hc2, hf2, hz2⟩ := bcell hb2; (try simp only [szs] at hz2); try (first | obtain ⟨hy1, hy2, hy3, hy4⟩ := lts4 hz2 | obtain ⟨hy1, hy2, hy3⟩ := lts3 hz2 | obtain ⟨hy1, hy2⟩ := lts2 hz2 | have hy1 := lts1 hz2); have hb9 := hb1))
    go_ret
    exact ⟨by rw [HW.out, walk_here HN.out hb hlo HP.out, if_pos C3.out]; exact GotI.mk (W0 := (w.alloc (.cells #[.int .i64 m.g.w, .int .i64 m.g.h, .slice A m.br.length c] 28)).alloc (.cells #[.slice B t.length d] 30)) (by exact Kd.R_below HO bel) (by simp only [szs]; omega), bel⟩
   ·have e3 : (n != b) = true := bne_iff_ne.2 c3
    have C3 := Lib.hid c3
    clear c3
    go_wp2_with (first | (go_at_call 121; refine (impl_PortAt m t n b A B c d _ (by exact Kd.C_below hr bel) hn (by exact Kd.C_below ht bel) hk).mono ?_; rintro e w1 ⟨he, hb1⟩; rw [HP.out] at he; subst he; obtain ⟨hc1, hf1, hz1⟩ := bcell hb1; (try simp only [szs] at hz1); have hb2 := far2; obtain ⟨hc2, hf2, hz2⟩ := bcell hb2; (try simp only [szs] at hz2); try (first | obtain ⟨hy1, hy2, hy3, hy4⟩ := lts4 hz2 | obtain ⟨hy1, hy2, hy3⟩ := lts3 hz2 | obtain ⟨hy1, hy2⟩ := lts2 hz2 | have hy1 := lts1 hz2); have hb9 := hb1))
    go_ret
    exact ⟨by rw [HW.out, walk_here HN.out hb hlo HP.out, if_neg C3.out]; exact GotI.nil _ _, bel⟩
  have e2 : (p == 4) = false := beq_eq_false_iff_ne.2 c2
  have C2 := Lib.hid c2
  clear c2
  have p0 : 0 ≤ p := by omega
  have p3 : p ≤ 3 := by have := C2.out; omega
  have hch : hasChannel m (4 * n + p) = hasChannel m (4 * n + portAt m t n b) := by rw [HP.out]
  have HCH := Lib.hid hch
  clear hch
  cases hc : hasChannel m (4 * n + p)
  ·go_wp2_with (first | (go_at_call 121; refine (impl_PortAt m t n b A B c d _ (by exact Kd.C_below hr bel) hn (by exact Kd.C_below ht bel) hk).mono ?_; rintro e w1 ⟨he, hb1⟩; rw [HP.out] at he; subst he; obtain ⟨hc1, hf1, hz1⟩ := bcell hb1; (try simp only [szs] at hz1); have hb2 := far2; obtain ⟨hc2, hf2, hz2⟩ := bcell hb2; (try simp only [szs] at hz2); try (first | obtain ⟨hy1, hy2, hy3, hy4⟩ := lts4 hz2 | obtain ⟨hy1, hy2, hy3⟩ := lts3 hz2 | obtain ⟨hy1, hy2⟩ := lts2 hz2 | have hy1 := lts1 hz2); have hb9 := hb1) | (go_at_call 141; refine (impl_HasChannel m _ A c _ (by exact Kd.C_below hr bel) hn).mono ?_; rintro e w1 ⟨rfl, hb1⟩; obtain ⟨hc1, hf1, hz1⟩ := bcell hb1; (try simp only [szs] at hz1); have hb2 := far2; obtain ⟨hc2, hf2, hz2⟩ := bcell hb2; (try simp only [szs] at hz2); try (first | obtain ⟨hy1, hy2, hy3, hy4⟩ := lts4 hz2 | obtain ⟨hy1, hy2, hy3⟩ := lts3 hz2 | obtain ⟨hy1, hy2⟩ := lts2 hz2 | have hy1 := lts1 hz2); have hb9 := hb1))
   go_ret
   exact ⟨by rw [HW.out, walk_stop HN.out hb hlo (by rw [HP.out]; exact p0) (by rw [HP.out]; exact C2.out) (by rw [← HCH.out]; exact hc)]; exact GotI.nil _ _, bel⟩
  by_cases c4 : (out.length : Int) = nodeCount m.g
  ·have e4 : ((out.length : Int) == nodeCount m.g) = true := beq_iff_eq.2 c4
   have C4 := Lib.hid c4
   clear c4
   go_wp2_with (first | (go_at_call 121; refine (impl_PortAt m t n b A B c d _ (by exact Kd.C_below hr bel) hn (by exact Kd.C_below ht bel) hk).mono ?_; rintro e w1 ⟨he, hb1⟩; rw [HP.out] at he; subst he; obtain ⟨hc1, hf1, hz1⟩ := bcell hb1; (try simp only [szs] at hz1); have hb2 := far2; obtain ⟨hc2, hf2, hz2⟩ := bcell hb2; (try simp only [szs] at hz2); try (first | obtain ⟨hy1, hy2, hy3, hy4⟩ := lts4 hz2 | obtain ⟨hy1, hy2, hy3⟩ := lts3 hz2 | obtain ⟨hy1, hy2⟩ := lts2 hz2 | have hy1 := lts1 hz2); have hb9 := hb1) | (go_at_call 141; refine (impl_HasChannel m _ A c _ (by exact Kd.C_below hr bel) hn).mono ?_; rintro e w1 ⟨rfl, hb1⟩; obtain ⟨hc1, hf1, hz1⟩ := bcell hb1; (try simp only [szs] at hz1); have hb2 := far2; obtain ⟨hc2, hf2, hz2⟩ := bcell hb2; (try simp only [szs] at hz2); try (first | obtain ⟨hy1, hy2, hy3, hy4⟩ := lts4 hz2 | obtain ⟨hy1, hy2, hy3⟩ := lts3 hz2 | obtain ⟨hy1, hy2⟩ := lts2 hz2 | have hy1 := lts1 hz2); have hb9 := hb1) | (go_at_call 48; refine (impl_NodeCount m.g _).mono ?_; rintro e w1 ⟨rfl, hb1⟩; obtain ⟨hc1, hf1, hz1⟩ := bcell hb1; (try simp only [szs] at hz1); have hb2 := far2; obtain ⟨hc2, hf2, hz2⟩ := bcell hb2; (try simp only [szs] at hz2); try (first | obtain ⟨hy1, hy2, hy3, hy4⟩ := lts4 hz2 | obtain ⟨hy1, hy2, hy3⟩ := lts3 hz2 | obtain ⟨hy1, hy2⟩ := lts2 hz2 | have hy1 := lts1 hz2); have hb9 := hb1))
   go_ret
   exact ⟨by rw [HW.out, walk_full HN.out hb C4.out (by rw [HP.out]; exact p0) (by rw [HP.out]; exact C2.out)]; exact GotI.nil _ _, bel⟩
  have e4 : ((out.length : Int) == nodeCount m.g) = false := beq_eq_false_iff_ne.2 c4
  have hlt : out.length < (nodeCount m.g).toNat := by omega
  clear c4
  have hnn := next_node p0 p3 hc
  have HNN := Lib.hid hnn
  clear hnn
  have HC := Lib.hid hc
  go_wp2_with (first | (go_at_call 121; refine (impl_PortAt m t n b A B c d _ (by exact Kd.C_below hr bel) hn (by exact Kd.C_below ht bel) hk).mono ?_; rintro e w1 ⟨he, hb1⟩; rw [HP.out] at he; subst he; obtain ⟨hc1, hf1, hz1⟩ := bcell hb1; (try simp only [szs] at hz1); have hb2 := far2; obtain ⟨hc2, hf2, hz2⟩ := bcell hb2; (try simp only [szs] at hz2); try (first | obtain ⟨hy1, hy2, hy3, hy4⟩ := lts4 hz2 | obtain ⟨hy1, hy2, hy3⟩ := lts3 hz2 | obtain ⟨hy1, hy2⟩ := lts2 hz2 | have hy1 := lts1 hz2); have hb9 := hb1) | (go_at_call 141; refine (impl_HasChannel m _ A c _ (by exact Kd.C_below hr bel) hn).mono ?_; rintro e w1 ⟨rfl, hb1⟩; obtain ⟨hc1, hf1, hz1⟩ := bcell hb1; (try simp only [szs] at hz1); have hb2 := far2; obtain ⟨hc2, hf2, hz2⟩ := bcell hb2; (try simp only [szs] at hz2); try (first | obtain ⟨hy1, hy2, hy3, hy4⟩ := lts4 hz2 | obtain ⟨hy1, hy2, hy3⟩ := lts3 hz2 | obtain ⟨hy1, hy2⟩ := lts2 hz2 | have hy1 := lts1 hz2); have hb9 := hb1) | (go_at_call 48; refine (impl_NodeCount m.g _).mono ?_; rintro e w1 ⟨rfl, hb1⟩; obtain ⟨hc1, hf1, hz1⟩ := bcell hb1; (try simp only [szs] at hz1); have hb2 := far2; obtain ⟨hc2, hf2, hz2⟩ := bcell hb2; (try simp only [szs] at hz2); try (first | obtain ⟨hy1, hy2, hy3, hy4⟩ := lts4 hz2 | obtain ⟨hy1, hy2, hy3⟩ := lts3 hz2 | obtain ⟨hy1, hy2⟩ := lts2 hz2 | have hy1 := lts1 hz2); have hb9 := hb1) | (at_builtin; refine app_int (W0 := (w.alloc (.cells #[.int .i64 m.g.w, .int .i64 m.g.h, .slice A m.br.length c] 28)).alloc (.cells #[.slice B t.length d] 30)) rfl (.tmp 67) (.tmp 72) 26 3 rfl Tryz.underlying26 info_int _ out _ rfl rfl (by exact Kd.R_below HO bel) bel (by omega) ?_; intro v1 w1 HO1 HB1; obtain ⟨hc1, hf1, hz1⟩ := bcell HB1; (try simp only [szs] at hz1); have hb2 := HB1; have hb9 := HB1) | (go_at_call 109; refine (impl_endOf m n p A c _ HN.out p0 p3).mono ?_; rintro e w1 ⟨rfl, hb1⟩; obtain ⟨hc1, hf1, hz1⟩ := bcell hb1; (try simp only [szs] at hz1); have hb2 := far2; obtain ⟨hc2, hf2, hz2⟩ := bcell hb2; (try simp only [szs] at hz2); try (first | obtain ⟨hy1, hy2, hy3, hy4⟩ := lts4 hz2 | obtain ⟨hy1, hy2, hy3⟩ := lts3 hz2 | obtain ⟨hy1, hy2⟩ := lts2 hz2 | have hy1 := lts1 hz2); have hb9 := hb1))
  have key : wt m t a b = walkFrom m t b (nextNode m.g n p) (out ++ [4 * n + p]) := by
   rw [HW.out, walk_on HN.out hb (by omega) (by rw [HP.out]; exact p0) (by rw [HP.out]; exact C2.out) (by rw [HP.out]; exact HC.out), HP.out]
  go_roundg ((nodeCount m.g).toNat - out.length)
  case measure => have := hlen'.out; omega
  case rel => exact ⟨out ++ [4 * n + p], _, rfl, HNN, ⟨by simp; omega, by simp; omega⟩, Lib.hid key, (by exact Kd.R_below HO1 bel), bel⟩

set_option maxHeartbeats 1000000 in
theorem spec_l04Walk (m : Mesh) (t : List Int) (a b : Int) (A B : Option Addr) (c d : Nat) (w : World) (hr : Kd.C (Kd.int .i64) w A m.br.length m.br) (hn : m.br.length ≤ 2097152) (ht : Kd.C (Kd.int .i64) w B t.length t) (hs : sized m t = true) (ha : isNode m.g a = true) (hb : isNode m.g b = true) :
  Calls Tryz.prog 144 #[.agg #[.int .i64 m.g.w, .int .i64 m.g.h, .slice A m.br.length c], .agg #[.slice B t.length d], .int .i64 a, .int .i64 b] w fun e w' => GotI w w' (walkFrom m t b a []) e ∧ Below w.heap.size w w' := by
 obtain ⟨n0, n1⟩ := count_le m.g
 obtain ⟨hm, hsz⟩ := sized_iff.1 hs
 have HSZ := Lib.hid hsz
 clear hsz
 go_enter Tryz.func144, Tryz.ntmps144
 go_wp2_with (go_at_call 96; refine (spec_NodeCount m.g _).mono ?_; rintro e w1 ⟨rfl, hb1⟩; obtain ⟨hc1, hf1, hz1⟩ := bcell hb1; (try simp only [szs] at hz1); have hb2 := far2; obtain ⟨hc2, hf2, hz2⟩ := bcell hb2; (try simp only [szs] at hz2); try (first | obtain ⟨hy1, hy2, hy3, hy4⟩ := lts4 hz2 | obtain ⟨hy1, hy2, hy3⟩ := lts3 hz2 | obtain ⟨hy1, hy2⟩ := lts2 hz2 | have hy1 := lts1 hz2); have hb9 := hb1)
 go_loopg [9, 11] ((nodeCount m.g).toNat + 1) (fun k v x wr => ∃ (out : List Int) (n : Int), x = .int .i64 n ∧ Hid (isNode m.g n = true) ∧ Hid (k + out.length = (nodeCount m.g).toNat + 1) ∧ Hid (walkFrom m t b a [] = walkFrom m t b n out) ∧ Kd.R (Kd.int .i64) 3 wr ((w.alloc (.cells #[.int .i64 m.g.w, .int .i64 m.g.h, .slice A m.br.length c] 28)).alloc (.cells #[.slice B t.length d] 30)).heap.size (fun _ => True) v out ∧ Below ((w.alloc (.cells #[.int .i64 m.g.w, .int .i64 m.g.h, .slice A m.br.length c] 28)).alloc (.cells #[.slice B t.length d] 30)).heap.size ((w.alloc (.cells #[.int .i64 m.g.w, .int .i64 m.g.h, .slice A m.br.length c] 28)).alloc (.cells #[.slice B t.length d] 30)) wr)
 case atStart => exact ⟨[], a, rfl, Lib.hid ha, Lib.hid (by simp), Lib.hid rfl, (by exact Kd.R_below (R_empty' (W0 := (w.alloc (.cells #[.int .i64 m.g.w, .int .i64 m.g.h, .slice A m.br.length c] 28)).alloc (.cells #[.slice B t.length d] 30)) (W := (w.alloc (.cells #[.int .i64 m.g.w, .int .i64 m.g.h, .slice A m.br.length c] 28)).alloc (.cells #[.slice B t.length d] 30)) _ _ (Nat.le_refl _) _ (by simp)) bel), bel⟩
 case round =>
  obtain ⟨out, n, rfl, HN, hlen, HW, HO, HB⟩ := hrel
  obtain ⟨Ao, co, rfl⟩ := Kd.R_slice HO
  obtain ⟨hc0, hf0, hz0⟩ := bcell HB
  simp only [szs] at hz0
  by_cases hlo : out.length ≤ (nodeCount m.g).toNat
  ·obtain ⟨q1, q2, q3, q4⟩ := node_bounds HN.out
   clear q1 q3
   obtain ⟨p1, p2, p3, p4⟩ := entry_place (g := m.g) (a := n) (b := b) HN.out hb
   have q5 : n * nodeCount m.g + b < (t.length : Int) := by rw [HSZ.out]; exact p4
   have hbb := node_bounds hb
   have hb0 : 0 ≤ b := hbb.2.1
   have hb1 : b ≤ 15 := hbb.2.2.2
   clear hbb p4
   obtain ⟨bb, off, rfl, hbl, hx⟩ := rdI_at ht (n * nodeCount m.g + b).toNat (by omega)
   have hxe := hx (n * nodeCount m.g + b).toNat (by omega)
   rw [Int.toNat_of_nonneg p3] at hxe
   obtain ⟨z1, z2, z3, z4, z5, z6⟩ := more hbl
   clear hx
   obtain ⟨p, hp⟩ : ∃ p, ri t (n * nodeCount m.g + b) = p := ⟨_, rfl⟩
   rw [hp] at hxe
   have hpe : entry m t n b = p := hp
   have HP := Lib.hid hpe
   clear hp hpe
   have hw := walkE (b := b) (at_ := n) hs hlo
   rw [HP.out] at hw
   have HE := Lib.hid hw
   clear hw
   by_cases c2 : p = 4
   ·subst c2
    by_cases c3 : n = b
    ·have e3 : (n != b) = false := bne_eq_false_iff_eq.2 c3
     have C3 := Lib.hid c3
     clear c3
     go_wp2
     go_ret
     exact ⟨by rw [HW.out, HE.out, if_pos trivial, if_pos C3.out]; exact GotI.mk (W0 := (w.alloc (.cells #[.int .i64 m.g.w, .int .i64 m.g.h, .slice A m.br.length c] 28)).alloc (.cells #[.slice (some ⟨bb, off, none⟩) t.length d] 30)) (by exact Kd.R_below HO bel) (by simp only [szs]; omega), bel⟩
    ·have e3 : (n != b) = true := bne_iff_ne.2 c3
     have C3 := Lib.hid c3
     clear c3
     go_wp2
     go_ret
     exact ⟨by rw [HW.out, HE.out, if_pos trivial, if_neg C3.out]; exact GotI.mk (W0 := (w.alloc (.cells #[.int .i64 m.g.w, .int .i64 m.g.h, .slice A m.br.length c] 28)).alloc (.cells #[.slice (some ⟨bb, off, none⟩) t.length d] 30)) (R_empty _ _ (bw_size bel)) (by simp only [szs]; omega), bel⟩
   have e2 : (p == 4) = false := beq_eq_false_iff_ne.2 c2
   have C2 := Lib.hid c2
   clear c2
   cases hi : inside p 0 3
   ·go_wp2_with (go_at_call 132; refine (spec_l01In _ _ _ _).mono ?_; rintro e w' ⟨rfl, rfl⟩)
    go_ret
    exact ⟨by rw [HW.out, HE.out, if_neg C2.out, hi]; exact GotI.mk (W0 := (w.alloc (.cells #[.int .i64 m.g.w, .int .i64 m.g.h, .slice A m.br.length c] 28)).alloc (.cells #[.slice (some ⟨bb, off, none⟩) t.length d] 30)) (R_empty _ _ (bw_size bel)) (by simp only [szs]; omega), bel⟩
   obtain ⟨p0, p7⟩ := inside_iff.1 hi
   cases hc : live m (4 * n + p)
   ·go_wp2_with (first | (go_at_call 132; refine (spec_l01In _ _ _ _).mono ?_; rintro e w' ⟨rfl, rfl⟩) | (go_at_call 149; refine (spec_l03Has m _ A c _ (by exact Kd.C_below hr bel) hn).mono ?_; rintro e w1 ⟨rfl, hb1⟩; obtain ⟨hc1, hf1, hz1⟩ := bcell hb1; (try simp only [szs] at hz1); have hb2 := far2; obtain ⟨hc2, hf2, hz2⟩ := bcell hb2; (try simp only [szs] at hz2); try (first | obtain ⟨hy1, hy2, hy3, hy4⟩ := lts4 hz2 | obtain ⟨hy1, hy2, hy3⟩ := lts3 hz2 | obtain ⟨hy1, hy2⟩ := lts2 hz2 | have hy1 := lts1 hz2); have hb9 := hb1))
    go_ret
    exact ⟨by rw [HW.out, HE.out, if_neg C2.out, hc, Bool.and_false]; exact GotI.mk (W0 := (w.alloc (.cells #[.int .i64 m.g.w, .int .i64 m.g.h, .slice A m.br.length c] 28)).alloc (.cells #[.slice (some ⟨bb, off, none⟩) t.length d] 30)) (R_empty _ _ (bw_size bel)) (by simp only [szs]; omega), bel⟩
   have HC := Lib.hid hc
   go_wp2_with (first | (go_at_call 132; refine (spec_l01In _ _ _ _).mono ?_; rintro e w' ⟨rfl, rfl⟩) | (go_at_call 149; refine (spec_l03Has m _ A c _ (by exact Kd.C_below hr bel) hn).mono ?_; rintro e w1 ⟨rfl, hb1⟩; obtain ⟨hc1, hf1, hz1⟩ := bcell hb1; (try simp only [szs] at hz1); have hb2 := far2; obtain ⟨hc2, hf2, hz2⟩ := bcell hb2; (try simp only [szs] at hz2); try (first | obtain ⟨hy1, hy2, hy3, hy4⟩ := lts4 hz2 | obtain ⟨hy1, hy2, hy3⟩ := lts3 hz2 | obtain ⟨hy1, hy2⟩ := lts2 hz2 | have hy1 := lts1 hz2); have hb9 := hb1) | (at_builtin; refine app_int (W0 := (w.alloc (.cells #[.int .i64 m.g.w, .int .i64 m.g.h, .slice A m.br.length c] 28)).alloc (.cells #[.slice (some ⟨bb, off, none⟩) t.length d] 30)) rfl (.tmp 51) (.tmp 56) 26 3 rfl Tryz.underlying26 info_int _ out _ rfl rfl (by exact Kd.R_below HO bel) bel (by omega) ?_; intro v1 w1 HO1 HB1; obtain ⟨hc1, hf1, hz1⟩ := bcell HB1; (try simp only [szs] at hz1); have hb2 := HB1; have hb9 := HB1) | (go_at_call 137; refine (spec_NextNode m.g _ _ _).mono ?_; rintro e w1 ⟨rfl, hb1⟩; obtain ⟨hc1, hf1, hz1⟩ := bcell hb1; (try simp only [szs] at hz1); have hb2 := far2; obtain ⟨hc2, hf2, hz2⟩ := bcell hb2; (try simp only [szs] at hz2); try (first | obtain ⟨hy1, hy2, hy3, hy4⟩ := lts4 hz2 | obtain ⟨hy1, hy2, hy3⟩ := lts3 hz2 | obtain ⟨hy1, hy2⟩ := lts2 hz2 | have hy1 := lts1 hz2); have hb9 := hb1))
   have key : walkFrom m t b a [] = walkFrom m t b (nextNode m.g n p) (out ++ [4 * n + p]) := by
    rw [HW.out, HE.out, if_neg C2.out, hi, HC.out]; rfl
   go_roundg ((nodeCount m.g).toNat - out.length)
   case measure => have := hlen.out; omega
   case rel => exact ⟨out ++ [4 * n + p], _, rfl, Lib.hid (next_live p0 p7 hm HC.out), Lib.hid (by simp; omega), Lib.hid key, (by exact Kd.R_below HO1 bel), bel⟩
  ·go_wp2
   go_ret
   exact ⟨by rw [HW.out, walk_over (by omega)]; exact GotI.mk (W0 := (w.alloc (.cells #[.int .i64 m.g.w, .int .i64 m.g.h, .slice A m.br.length c] 28)).alloc (.cells #[.slice B t.length d] 30)) (R_empty _ _ (bw_size bel)) (by simp only [szs]; omega), bel⟩
theorem spec_l04Sized (m : Mesh) (t : List Int) (A B : Option Addr) (c d : Nat) (w : World) (hr : Kd.C (Kd.int .i64) w A m.br.length m.br) (hn : m.br.length ≤ 2097152) (hk : t.length ≤ 2097152) :
    Calls Tryz.prog 143 #[.agg #[.int .i64 m.g.w, .int .i64 m.g.h, .slice A m.br.length c], .agg #[.slice B t.length d]] w fun e w' => e = .returned (.bool (sized m t)) ∧ Below w.heap.size w w' := by
  obtain ⟨n0, n1⟩ := count_le m.g
  have p5 : 0 ≤ nodeCount m.g * nodeCount m.g := Int.mul_nonneg n0 n0
  have p6 : nodeCount m.g * nodeCount m.g ≤ 256 := Int.mul_le_mul n1 n1 n0 (by omega)
  go_enter Tryz.func143, Tryz.ntmps143
  cases hm : meshOk m
  · go_wp2_with (first | (go_at_call 96; refine (spec_NodeCount m.g _).mono ?_; rintro e w1 ⟨rfl, hb1⟩; obtain ⟨hc1, hf1, hz1⟩ := bcell hb1; (try simp only [szs] at hz1); have hb2 := far2; obtain ⟨hc2, hf2, hz2⟩ := bcell hb2; (try simp only [szs] at hz2); try (first | obtain ⟨hy1, hy2, hy3, hy4⟩ := lts4 hz2 | obtain ⟨hy1, hy2, hy3⟩ := lts3 hz2 | obtain ⟨hy1, hy2⟩ := lts2 hz2 | have hy1 := lts1 hz2); have hb9 := hb1) | (go_at_call 148; refine (spec_MeshOk m _ _ _ (by exact Kd.C_below hr bel) hn).mono ?_; rintro e w1 ⟨rfl, hb1⟩; obtain ⟨hc1, hf1, hz1⟩ := bcell hb1; (try simp only [szs] at hz1); have hb2 := far2; obtain ⟨hc2, hf2, hz2⟩ := bcell hb2; (try simp only [szs] at hz2); try (first | obtain ⟨hy1, hy2, hy3, hy4⟩ := lts4 hz2 | obtain ⟨hy1, hy2, hy3⟩ := lts3 hz2 | obtain ⟨hy1, hy2⟩ := lts2 hz2 | have hy1 := lts1 hz2); have hb9 := hb1))
    go_ret
    exact ⟨ret_bool (by simp [sized, hm]), bel⟩
  · go_wp2_with (first | (go_at_call 96; refine (spec_NodeCount m.g _).mono ?_; rintro e w1 ⟨rfl, hb1⟩; obtain ⟨hc1, hf1, hz1⟩ := bcell hb1; (try simp only [szs] at hz1); have hb2 := far2; obtain ⟨hc2, hf2, hz2⟩ := bcell hb2; (try simp only [szs] at hz2); try (first | obtain ⟨hy1, hy2, hy3, hy4⟩ := lts4 hz2 | obtain ⟨hy1, hy2, hy3⟩ := lts3 hz2 | obtain ⟨hy1, hy2⟩ := lts2 hz2 | have hy1 := lts1 hz2); have hb9 := hb1) | (go_at_call 148; refine (spec_MeshOk m _ _ _ (by exact Kd.C_below hr bel) hn).mono ?_; rintro e w1 ⟨rfl, hb1⟩; obtain ⟨hc1, hf1, hz1⟩ := bcell hb1; (try simp only [szs] at hz1); have hb2 := far2; obtain ⟨hc2, hf2, hz2⟩ := bcell hb2; (try simp only [szs] at hz2); try (first | obtain ⟨hy1, hy2, hy3, hy4⟩ := lts4 hz2 | obtain ⟨hy1, hy2, hy3⟩ := lts3 hz2 | obtain ⟨hy1, hy2⟩ := lts2 hz2 | have hy1 := lts1 hz2); have hb9 := hb1))
    go_ret
    exact ⟨ret_bool (by simp [sized, hm]; first | done | rfl | (rw [Bool.eq_iff_iff]; simp)), bel⟩

theorem impl_TableOk_1 (m : Mesh) (t : List Int) (a b : Int) (A B : Option Addr) (c d gm gt : Nat) (w : World) (hr : Kd.C (Kd.int .i64) w A m.br.length m.br) (hn : m.br.length ≤ 2097152) (ht : Kd.C (Kd.int .i64) w B t.length t) (hk : t.length ≤ 2097152)
    (h0 : w.cell? ⟨gm, 0, none⟩ = some (.int .i64 m.g.w)) (h1 : w.cell? ⟨gm, 1, none⟩ = some (.int .i64 m.g.h)) (h2 : w.cell? ⟨gm, 2, none⟩ = some (.slice A m.br.length c)) (h3 : w.cell? ⟨gt, 0, none⟩ = some (.slice B t.length d)) :
    Calls Tryz.prog 117 #[.int .i64 a, .int .i64 b, .pointer (some ⟨gm, 0, none⟩), .pointer (some ⟨gt, 0, none⟩)] w fun e w' => e = .returned (.bool (decide (0 < (wt m t a b).length))) ∧ Below w.heap.size w w' := by
  go_enter Tryz.func117, Tryz.ntmps117
  go_wp2_with (go_at_call 118; refine (impl_WalkTable m t a b A B c d _ (by exact Kd.C_below hr bel) hn (by exact Kd.C_below ht bel) hk).mono ?_; rintro e w1 ⟨hg1, hb1⟩; obtain ⟨A1, c1, rfl, hk1, hr1⟩ := hg1.read; obtain ⟨hc1, hf1, hz1⟩ := bcell hb1; (try simp only [szs] at hz1); have hb2 := far2; obtain ⟨hc2, hf2, hz2⟩ := bcell hb2; (try simp only [szs] at hz2); try (first | obtain ⟨hy1, hy2, hy3, hy4⟩ := lts4 hz2 | obtain ⟨hy1, hy2, hy3⟩ := lts3 hz2 | obtain ⟨hy1, hy2⟩ := lts2 hz2 | have hy1 := lts1 hz2); have hb9 := hb1)
  go_ret
  exact ⟨ret_bool (by first | rfl | simp), bel⟩

set_option maxHeartbeats 1000000 in
theorem impl_pairs_TableOk (m : Mesh) (t : List Int) (A B : Option Addr) (c d gm gt : Nat) (w : World) (hr : Kd.C (Kd.int .i64) w A m.br.length m.br) (hn : m.br.length ≤ 2097152) (ht : Kd.C (Kd.int .i64) w B t.length t) (hk : t.length ≤ 2097152)
  (h0 : w.cell? ⟨gm, 0, none⟩ = some (.int .i64 m.g.w)) (h1 : w.cell? ⟨gm, 1, none⟩ = some (.int .i64 m.g.h)) (h2 : w.cell? ⟨gm, 2, none⟩ = some (.slice A m.br.length c)) (h3 : w.cell? ⟨gt, 0, none⟩ = some (.slice B t.length d)) :
  Calls Tryz.prog 116 #[.agg #[.int .i64 m.g.w, .int .i64 m.g.h], .func (.func 117) #[] #[.pointer (some ⟨gm, 0, none⟩), .pointer (some ⟨gt, 0, none⟩)]] w fun e w' => e = .returned (.bool (pairsOk m t)) ∧ Below w.heap.size w w' := by
 obtain ⟨n0, n1⟩ := count_le m.g
 obtain ⟨n, hnn⟩ : ∃ n : Nat, nodeCount m.g = (n : Int) := ⟨(nodeCount m.g).toNat, by omega⟩
 have hn16 : n ≤ 16 := by omega
 have hN : nN m.g = n := by unfold nN; omega
 have HN := Lib.hid hN
 have HC := Lib.hid hnn
 clear hN n0 n1 hnn
 have g0 := World.block_lt_of_cell? w _ h0
 have g1 := World.block_lt_of_cell? w _ h3
 have hcall : ∀ (a b : Int) (w' : World), Below w.heap.size w w' → Calls Tryz.prog 117 #[.int .i64 a, .int .i64 b, .pointer (some ⟨gm, 0, none⟩), .pointer (some ⟨gt, 0, none⟩)] w' fun e w'' => e = .returned (.bool (decide (0 < (wt m t a b).length))) ∧ Below w'.heap.size w' w'' := by
  intro a b w' hb
  obtain ⟨hc, _, _⟩ := bcell hb
  exact impl_TableOk_1 m t a b A B c d gm gt w' (Kd.C_below hr hb) hn (Kd.C_below ht hb) hk ((hc _ _ g0).trans h0) ((hc _ _ g0).trans h1) ((hc _ _ g0).trans h2) ((hc _ _ g1).trans h3)
 have HCALL := Lib.hid hcall
 clear hcall h0 h1 h2 h3 g0 g1
 go_enter Tryz.func116, Tryz.ntmps116
 go_wp2_with (go_at_call 48; refine (impl_NodeCount m.g _).mono ?_; rintro e w1 ⟨he, hb1⟩; rw [HC.out] at he; subst he; obtain ⟨hc1, hf1, hz1⟩ := bcell hb1; (try simp only [szs] at hz1); have hb2 := far2; obtain ⟨hc2, hf2, hz2⟩ := bcell hb2; (try simp only [szs] at hz2); try (first | obtain ⟨hy1, hy2, hy3, hy4⟩ := lts4 hz2 | obtain ⟨hy1, hy2, hy3⟩ := lts3 hz2 | obtain ⟨hy1, hy2⟩ := lts2 hz2 | have hy1 := lts1 hz2); have hb9 := hb1)
 go_loopw [11] (fun i wr => ∃ a : Nat, a ≤ n ∧ i = .int .i64 a ∧ Hid (∀ x, x < a → allI (nN m.g) (pairOk m t x) = true) ∧ Below w.heap.size w wr) (fun i _ => n - (intOf i).toNat)
 case atStart => exact ⟨0, Nat.zero_le _, rfl, Lib.hid fun x h => absurd h (Nat.not_lt_zero _), bel⟩
 case round =>
  obtain ⟨a, ha, rfl, HA, HB⟩ := hrel
  by_cases hlt : a < n
  ·obtain ⟨wo, rfl⟩ : ∃ wo : World, wo = wr := ⟨_, rfl⟩
   go_wp2
   go_loopw [15] (fun i wr => ∃ b : Nat, b ≤ n ∧ i = .int .i64 b ∧ Hid (∀ x, x < b → pairOk m t a x = true) ∧ Below w.heap.size w wr) (fun i _ => n - (intOf i).toNat)
   case atStart => exact ⟨0, Nat.zero_le _, rfl, Lib.hid fun x h => absurd h (Nat.not_lt_zero _), HB⟩
   case round =>
    obtain ⟨b, hb, rfl, HA2, HB2⟩ := hrel
    by_cases hlt2 : b < n
    ·by_cases e : a = b
     ·have e1 : ((a : Int) != (b : Int)) = false := by simp [e]
      have E := Lib.hid e
      clear e
      go_wp2
      go_roundw
      case rel => exact ⟨b + 1, by omega, by go_num, Lib.hid (upto HA2.out (by simp [pairOk, E.out])), bel⟩
      case measure => simp [intOf]; omega
     ·have e1 : ((a : Int) != (b : Int)) = true := bne_iff_ne.2 (by omega)
      have E := Lib.hid e
      clear e
      cases hp : decide (0 < (wt m t (a : Int) (b : Int)).length)
      ·have HP := Lib.hid hp
       clear hp
       go_wp2_with (go_at_call 117; refine (HCALL.out _ _ _ (by exact bel)).mono ?_; rintro e w1 ⟨he, hb1⟩; rw [HP.out] at he; subst he; obtain ⟨hc1, hf1, hz1⟩ := bcell hb1; (try simp only [szs] at hz1); have hb2 := far2; obtain ⟨hc2, hf2, hz2⟩ := bcell hb2; (try simp only [szs] at hz2); try (first | obtain ⟨hy1, hy2, hy3, hy4⟩ := lts4 hz2 | obtain ⟨hy1, hy2, hy3⟩ := lts3 hz2 | obtain ⟨hy1, hy2⟩ := lts2 hz2 | have hy1 := lts1 hz2); have hb9 := hb1)
       go_ret
       exact ⟨ret_bool (allI_false a (by rw [HN.out]; exact hlt) (allI_false b (by rw [HN.out]; exact hlt2) (by simp [pairOk, E.out, HP.out]))).symm, bel⟩
      ·have HP := Lib.hid hp
       clear hp
       go_wp2_with (go_at_call 117; refine (HCALL.out _ _ _ (by exact bel)).mono ?_; rintro e w1 ⟨he, hb1⟩; rw [HP.out] at he; subst he; obtain ⟨hc1, hf1, hz1⟩ := bcell hb1; (try simp only [szs] at hz1); have hb2 := far2; obtain ⟨hc2, hf2, hz2⟩ := bcell hb2; (try simp only [szs] at hz2); try (first | obtain ⟨hy1, hy2, hy3, hy4⟩ := lts4 hz2 | obtain ⟨hy1, hy2, hy3⟩ := lts3 hz2 | obtain ⟨hy1, hy2⟩ := lts2 hz2 | have hy1 := lts1 hz2); have hb9 := hb1)
       go_roundw
       case rel => exact ⟨b + 1, by omega, by go_num, Lib.hid (upto HA2.out (by simp [pairOk, E.out, HP.out])), bel⟩
       case measure => simp [intOf]; omega
    ·go_wp2
     go_roundw
     case rel => exact ⟨a + 1, by omega, by go_num, Lib.hid (upto HA.out (allI_true (fun x hx => HA2.out x (by rw [HN.out] at hx; omega)))), bel⟩
     case measure => simp [intOf]; omega
  ·go_wp2
   go_ret
   exact ⟨ret_bool (allI_true (fun x hx => HA.out x (by rw [HN.out] at hx; omega))).symm, bel⟩

set_option maxHeartbeats 1000000 in
theorem impl_TableOk (m : Mesh) (t : List Int) (A B : Option Addr) (c d : Nat) (w : World) (hr : Kd.C (Kd.int .i64) w A m.br.length m.br) (hn : m.br.length ≤ 2097152) (ht : Kd.C (Kd.int .i64) w B t.length t) (hk : t.length ≤ 2097152) :
  Calls Tryz.prog 80 #[.agg #[.int .i64 m.g.w, .int .i64 m.g.h, .slice A m.br.length c], .agg #[.slice B t.length d]] w fun e w' => e = .returned (.bool (tableOk m t)) ∧ Below w.heap.size w w' := by
 have htk := tableOk_parts m t
 have HTK := Lib.hid htk
 obtain ⟨n0, n1⟩ := count_le m.g
 obtain ⟨n, hnn⟩ : ∃ n : Nat, nodeCount m.g = (n : Int) := ⟨(nodeCount m.g).toNat, by omega⟩
 have hn16 : n ≤ 16 := by omega
 have hN : nN m.g = n := by unfold nN; omega
 have HN := Lib.hid hN
 have HC := Lib.hid hnn
 clear hN n0 n1 hnn htk
 have p5 : 0 ≤ (n : Int) * (n : Int) := Int.mul_nonneg (by omega) (by omega)
 have p6 : (n : Int) * (n : Int) ≤ 256 := by
  have := Int.mul_le_mul (show (n : Int) ≤ 16 by omega) (show (n : Int) ≤ 16 by omega) (show 0 ≤ (n : Int) by omega) (by omega)
  omega
 go_enter Tryz.func80, Tryz.ntmps80
 cases hm : meshOk m
 ·go_wp2_with (first | (go_at_call 48; refine (impl_NodeCount m.g _).mono ?_; rintro e w1 ⟨he, hb1⟩; rw [HC.out] at he; subst he; obtain ⟨hc1, hf1, hz1⟩ := bcell hb1; (try simp only [szs] at hz1); have hb2 := far2; obtain ⟨hc2, hf2, hz2⟩ := bcell hb2; (try simp only [szs] at hz2); try (first | obtain ⟨hy1, hy2, hy3, hy4⟩ := lts4 hz2 | obtain ⟨hy1, hy2, hy3⟩ := lts3 hz2 | obtain ⟨hy1, hy2⟩ := lts2 hz2 | have hy1 := lts1 hz2); have hb9 := hb1) | (go_at_call 115; refine (impl_MeshOk m _ _ _ (by exact Kd.C_below hr bel) hn).mono ?_; rintro e w1 ⟨rfl, hb1⟩; obtain ⟨hc1, hf1, hz1⟩ := bcell hb1; (try simp only [szs] at hz1); have hb2 := far2; obtain ⟨hc2, hf2, hz2⟩ := bcell hb2; (try simp only [szs] at hz2); try (first | obtain ⟨hy1, hy2, hy3, hy4⟩ := lts4 hz2 | obtain ⟨hy1, hy2, hy3⟩ := lts3 hz2 | obtain ⟨hy1, hy2⟩ := lts2 hz2 | have hy1 := lts1 hz2); have hb9 := hb1))
  go_ret
  exact ⟨ret_bool (by rw [HTK.out]; simp [sized, hm]), bel⟩
 by_cases hs : (t.length : Int) = (n : Int) * (n : Int)
 ·have e1 : ((t.length : Int) != (n : Int) * (n : Int)) = false := bne_eq_false_iff_eq.2 hs
  have hsz : sized m t = true := sized_iff.2 ⟨hm, by rw [HC.out]; exact hs⟩
  have HSZ := Lib.hid hsz
  have HS := Lib.hid hs
  clear hs hsz
  go_wp2_with (first | (go_at_call 48; refine (impl_NodeCount m.g _).mono ?_; rintro e w1 ⟨he, hb1⟩; rw [HC.out] at he; subst he; obtain ⟨hc1, hf1, hz1⟩ := bcell hb1; (try simp only [szs] at hz1); have hb2 := far2; obtain ⟨hc2, hf2, hz2⟩ := bcell hb2; (try simp only [szs] at hz2); try (first | obtain ⟨hy1, hy2, hy3, hy4⟩ := lts4 hz2 | obtain ⟨hy1, hy2, hy3⟩ := lts3 hz2 | obtain ⟨hy1, hy2⟩ := lts2 hz2 | have hy1 := lts1 hz2); have hb9 := hb1) | (go_at_call 115; refine (impl_MeshOk m _ _ _ (by exact Kd.C_below hr bel) hn).mono ?_; rintro e w1 ⟨rfl, hb1⟩; obtain ⟨hc1, hf1, hz1⟩ := bcell hb1; (try simp only [szs] at hz1); have hb2 := far2; obtain ⟨hc2, hf2, hz2⟩ := bcell hb2; (try simp only [szs] at hz2); try (first | obtain ⟨hy1, hy2, hy3, hy4⟩ := lts4 hz2 | obtain ⟨hy1, hy2, hy3⟩ := lts3 hz2 | obtain ⟨hy1, hy2⟩ := lts2 hz2 | have hy1 := lts1 hz2); have hb9 := hb1))
  go_loopw [23] (fun i wr => ∃ a : Nat, a ≤ n ∧ i = .int .i64 a ∧ Hid (∀ x : Nat, x < a → (entry m t x x == 4) = true) ∧ Below ((w.alloc (.cells #[.int .i64 m.g.w, .int .i64 m.g.h, .slice A m.br.length c] 28)).alloc (.cells #[.slice B t.length d] 30)).heap.size ((w.alloc (.cells #[.int .i64 m.g.w, .int .i64 m.g.h, .slice A m.br.length c] 28)).alloc (.cells #[.slice B t.length d] 30)) wr) (fun i _ => n - (intOf i).toNat)
  case atStart => exact ⟨0, Nat.zero_le _, rfl, Lib.hid fun x h => absurd h (Nat.not_lt_zero _), bel⟩
  case round =>
   obtain ⟨a, ha, rfl, HA, HB⟩ := hrel
   obtain ⟨hc0, hf0, hz0⟩ := bcell HB
   simp only [szs] at hz0
   by_cases hlt : a < n
   ·have hpl := entry_place (g := m.g) (a := (a : Int)) (b := (a : Int)) (isNode_nat (by rw [HN.out]; exact hlt)) (isNode_nat (by rw [HN.out]; exact hlt))
    rw [HC.out] at hpl
    obtain ⟨q1, q2, q3, q4⟩ := hpl
    have q5 : (a : Int) * (n : Int) + (a : Int) < (t.length : Int) := by rw [HS.out]; exact q4
    clear q4
    obtain ⟨bb, off, rfl, hbl, hx⟩ := rdI_at ht ((a : Int) * (n : Int) + (a : Int)).toNat (by omega)
    have hxe := hx ((a : Int) * (n : Int) + (a : Int)).toNat (by omega)
    rw [Int.toNat_of_nonneg q3] at hxe
    obtain ⟨z1, z2, z3, z4, z5, z6⟩ := more hbl
    clear hx
    obtain ⟨p, hp⟩ : ∃ p, ri t ((a : Int) * (n : Int) + (a : Int)) = p := ⟨_, rfl⟩
    rw [hp] at hxe
    have hpe : entry m t a a = p := by unfold entry; rw [HC.out]; exact hp
    have HP := Lib.hid hpe
    clear hp hpe
    have htn : ((a : Int) * (n : Int) + (a : Int)).toNat = a * n + a := by omega
    rw [htn] at hxe
    have q6 : a * n + a < t.length := by omega
    clear htn
    by_cases c : p = 4
    ·subst c
     go_wp2
     go_roundw
     case rel => exact ⟨a + 1, by omega, by go_num, Lib.hid (upto HA.out (by rw [HP.out]; rfl)), bel⟩
     case measure => simp [intOf]; omega
    ·have e2 : (p != 4) = true := bne_iff_ne.2 c
     have C := Lib.hid c
     clear c
     go_wp2
     go_ret
     exact ⟨ret_bool (by rw [HTK.out, show diagOk m t = false from allI_false a (by rw [HN.out]; exact hlt) (by rw [HP.out]; simpa using C.out)]; simp), bel⟩
   ·have hbd : diagOk m t = true := allI_true (fun x hx => HA.out x (by rw [HN.out] at hx; omega))
    have HBD := Lib.hid hbd
    clear hbd
    go_wp2_with (go_at_call 116; refine (impl_pairs_TableOk m t A B c d _ _ _ (by exact Kd.C_below hr bel) hn (by exact Kd.C_below ht bel) hk ?_ ?_ ?_ ?_).mono ?_; go_simp; go_simp; go_simp; go_simp; rintro e w1 ⟨rfl, hb1⟩; obtain ⟨hc1, hf1, hz1⟩ := bcell hb1; (try simp only [szs] at hz1); have hb2 := far2; obtain ⟨hc2, hf2, hz2⟩ := bcell hb2; (try simp only [szs] at hz2); try (first | obtain ⟨hy1, hy2, hy3, hy4⟩ := lts4 hz2 | obtain ⟨hy1, hy2, hy3⟩ := lts3 hz2 | obtain ⟨hy1, hy2⟩ := lts2 hz2 | have hy1 := lts1 hz2); have hb9 := hb1)
    go_ret
    exact ⟨ret_bool (by rw [HTK.out, HSZ.out, HBD.out]; simp), bel⟩
 ·have e1 : ((t.length : Int) != (n : Int) * (n : Int)) = true := bne_iff_ne.2 hs
  have HS := Lib.hid hs
  clear hs
  go_wp2_with (first | (go_at_call 48; refine (impl_NodeCount m.g _).mono ?_; rintro e w1 ⟨he, hb1⟩; rw [HC.out] at he; subst he; obtain ⟨hc1, hf1, hz1⟩ := bcell hb1; (try simp only [szs] at hz1); have hb2 := far2; obtain ⟨hc2, hf2, hz2⟩ := bcell hb2; (try simp only [szs] at hz2); try (first | obtain ⟨hy1, hy2, hy3, hy4⟩ := lts4 hz2 | obtain ⟨hy1, hy2, hy3⟩ := lts3 hz2 | obtain ⟨hy1, hy2⟩ := lts2 hz2 | have hy1 := lts1 hz2); have hb9 := hb1) | (go_at_call 115; refine (impl_MeshOk m _ _ _ (by exact Kd.C_below hr bel) hn).mono ?_; rintro e w1 ⟨rfl, hb1⟩; obtain ⟨hc1, hf1, hz1⟩ := bcell hb1; (try simp only [szs] at hz1); have hb2 := far2; obtain ⟨hc2, hf2, hz2⟩ := bcell hb2; (try simp only [szs] at hz2); try (first | obtain ⟨hy1, hy2, hy3, hy4⟩ := lts4 hz2 | obtain ⟨hy1, hy2, hy3⟩ := lts3 hz2 | obtain ⟨hy1, hy2⟩ := lts2 hz2 | have hy1 := lts1 hz2); have hb9 := hb1))
  go_ret
  exact ⟨ret_bool (by rw [HTK.out]; simp [sized, HC.out, HS.out]), bel⟩

set_option maxHeartbeats 1000000 in
theorem spec_TableOk (m : Mesh) (t : List Int) (A B : Option Addr) (c d : Nat) (w : World) (hr : Kd.C (Kd.int .i64) w A m.br.length m.br) (hn : m.br.length ≤ 2097152) (ht : Kd.C (Kd.int .i64) w B t.length t) (hk : t.length ≤ 2097152) :
  Calls Tryz.prog 129 #[.agg #[.int .i64 m.g.w, .int .i64 m.g.h, .slice A m.br.length c], .agg #[.slice B t.length d]] w fun e w' => e = .returned (.bool (tableOk m t)) ∧ Below w.heap.size w w' := by
 have htk := tableOk_cells m t
 have HTK := Lib.hid htk
 obtain ⟨n0, n1⟩ := count_le m.g
 obtain ⟨n, hnn⟩ : ∃ n : Nat, nodeCount m.g = (n : Int) := ⟨(nodeCount m.g).toNat, by omega⟩
 have hn16 : n ≤ 16 := by omega
 have hN : nN m.g = n := by unfold nN; omega
 have HN := Lib.hid hN
 have HC := Lib.hid hnn
 clear hN n0 n1 hnn htk
 go_enter Tryz.func129, Tryz.ntmps129
 cases hsz : sized m t
 ·go_wp2_with (go_at_call 143; refine (spec_l04Sized m t A B _ _ _ (by exact Kd.C_below hr bel) hn hk).mono ?_; rintro e w1 ⟨rfl, hb1⟩; obtain ⟨hc1, hf1, hz1⟩ := bcell hb1; (try simp only [szs] at hz1); have hb2 := far2; obtain ⟨hc2, hf2, hz2⟩ := bcell hb2; (try simp only [szs] at hz2); try (first | obtain ⟨hy1, hy2, hy3, hy4⟩ := lts4 hz2 | obtain ⟨hy1, hy2, hy3⟩ := lts3 hz2 | obtain ⟨hy1, hy2⟩ := lts2 hz2 | have hy1 := lts1 hz2); have hb9 := hb1)
  go_ret
  exact ⟨ret_bool (by rw [HTK.out, hsz]; rfl), bel⟩
 have hs := (sized_iff.1 hsz).2
 rw [HC.out] at hs
 have HS := Lib.hid hs
 clear hs
 go_wp2_with (first | (go_at_call 143; refine (spec_l04Sized m t A B _ _ _ (by exact Kd.C_below hr bel) hn hk).mono ?_; rintro e w1 ⟨rfl, hb1⟩; obtain ⟨hc1, hf1, hz1⟩ := bcell hb1; (try simp only [szs] at hz1); have hb2 := far2; obtain ⟨hc2, hf2, hz2⟩ := bcell hb2; (try simp only [szs] at hz2); try (first | obtain ⟨hy1, hy2, hy3, hy4⟩ := lts4 hz2 | obtain ⟨hy1, hy2, hy3⟩ := lts3 hz2 | obtain ⟨hy1, hy2⟩ := lts2 hz2 | have hy1 := lts1 hz2); have hb9 := hb1) | (go_at_call 96; refine (spec_NodeCount m.g _).mono ?_; rintro e w1 ⟨he, hb1⟩; rw [HC.out] at he; subst he; obtain ⟨hc1, hf1, hz1⟩ := bcell hb1; (try simp only [szs] at hz1); have hb2 := far2; obtain ⟨hc2, hf2, hz2⟩ := bcell hb2; (try simp only [szs] at hz2); try (first | obtain ⟨hy1, hy2, hy3, hy4⟩ := lts4 hz2 | obtain ⟨hy1, hy2, hy3⟩ := lts3 hz2 | obtain ⟨hy1, hy2⟩ := lts2 hz2 | have hy1 := lts1 hz2); have hb9 := hb1))
 go_loopw [6] (fun i wr => ∃ a : Nat, a ≤ n ∧ i = .int .i64 a ∧ Hid (∀ x : Nat, x < a → allI (nN m.g) (cellOk m t x) = true) ∧ Below ((w.alloc (.cells #[.int .i64 m.g.w, .int .i64 m.g.h, .slice A m.br.length c] 28)).alloc (.cells #[.slice B t.length d] 30)).heap.size ((w.alloc (.cells #[.int .i64 m.g.w, .int .i64 m.g.h, .slice A m.br.length c] 28)).alloc (.cells #[.slice B t.length d] 30)) wr) (fun i _ => n - (intOf i).toNat)
 case atStart => exact ⟨0, Nat.zero_le _, rfl, Lib.hid fun x h => absurd h (Nat.not_lt_zero _), bel⟩
 case round =>
  obtain ⟨a, ha, rfl, HA, HB⟩ := hrel
  by_cases hlt : a < n
  ·obtain ⟨wo, rfl⟩ : ∃ wo : World, wo = wr := ⟨_, rfl⟩
   go_wp2
   go_loopw [7] (fun i wr => ∃ b : Nat, b ≤ n ∧ i = .int .i64 b ∧ Hid (∀ x, x < b → cellOk m t a x = true) ∧ Below ((w.alloc (.cells #[.int .i64 m.g.w, .int .i64 m.g.h, .slice A m.br.length c] 28)).alloc (.cells #[.slice B t.length d] 30)).heap.size ((w.alloc (.cells #[.int .i64 m.g.w, .int .i64 m.g.h, .slice A m.br.length c] 28)).alloc (.cells #[.slice B t.length d] 30)) wr) (fun i _ => n - (intOf i).toNat)
   case atStart => exact ⟨0, Nat.zero_le _, rfl, Lib.hid fun x h => absurd h (Nat.not_lt_zero _), HB⟩
   case round =>
    have HBo := Lib.hid HB
    clear HB
    obtain ⟨b, hb, rfl, HA2, HB⟩ := hrel
    obtain ⟨hc0, hf0, hz0⟩ := bcell HB
    simp only [szs] at hz0
    by_cases hlt2 : b < n
    ·have hna := isNode_nat (g := m.g) (a := a) (by rw [HN.out]; exact hlt)
     have hnb := isNode_nat (g := m.g) (a := b) (by rw [HN.out]; exact hlt2)
     have HNA := Lib.hid hna
     have HNB := Lib.hid hnb
     clear hna hnb
     by_cases e : a = b
     ·subst e
      have hpl := entry_place HNA.out HNA.out
      rw [HC.out] at hpl
      obtain ⟨q1, q2, q3, q4⟩ := hpl
      have q5 : (a : Int) * (n : Int) + (a : Int) < (t.length : Int) := by rw [HS.out]; exact q4
      clear q4
      obtain ⟨bb, off, rfl, hbl, hx⟩ := rdI_at ht ((a : Int) * (n : Int) + (a : Int)).toNat (by omega)
      have hxe := hx ((a : Int) * (n : Int) + (a : Int)).toNat (by omega)
      rw [Int.toNat_of_nonneg q3] at hxe
      obtain ⟨z1, z2, z3, z4, z5, z6⟩ := more hbl
      clear hx
      obtain ⟨p, hp⟩ : ∃ p, ri t ((a : Int) * (n : Int) + (a : Int)) = p := ⟨_, rfl⟩
      rw [hp] at hxe
      have hpe : entry m t a a = p := by unfold entry; rw [HC.out]; exact hp
      have HP := Lib.hid hpe
      clear hp hpe
      have htn : ((a : Int) * (n : Int) + (a : Int)).toNat = a * n + a := by omega
      rw [htn] at hxe
      have q6 : a * n + a < t.length := by omega
      clear htn
      have e1 : ((a : Int) == (a : Int)) = true := beq_self_eq_true _
      have e2 : ((a : Int) != (a : Int)) = false := by simp
      by_cases c : p = 4
      ·subst c
       go_wp2
       go_roundw
       case rel => exact ⟨a + 1, by omega, by go_num, Lib.hid (upto HA2.out (by simp [cellOk, HP.out])), bel⟩
       case measure => simp [intOf]; omega
      ·have e3 : (p != 4) = true := bne_iff_ne.2 c
       have C := Lib.hid c
       clear c
       go_wp2
       go_ret
       exact ⟨ret_bool (by rw [HTK.out, allI_false a (by rw [HN.out]; exact hlt) (allI_false a (by rw [HN.out]; exact hlt) (by simp [cellOk, HP.out, C.out])), Bool.and_false]), bel⟩
     ·have e1 : ((a : Int) == (b : Int)) = false := beq_eq_false_iff_ne.2 (by omega)
      have e2 : ((a : Int) != (b : Int)) = true := bne_iff_ne.2 (by omega)
      have E := Lib.hid e
      clear e
      have SZ2 := Lib.hid hsz
      by_cases c : (walkFrom m t b a []).length = 0
      ·have e3 : (((walkFrom m t b a []).length : Int) == 0) = true := by simp [c]
       have C := Lib.hid c
       clear c
       go_wp2_with (go_at_call 144; refine (spec_l04Walk m t a b A B _ _ _ (by exact Kd.C_below hr bel) hn (by exact Kd.C_below ht bel) SZ2.out HNA.out HNB.out).mono ?_; rintro e w1 ⟨hg1, hb1⟩; obtain ⟨A1, c1, rfl, hk1, hr1⟩ := hg1.read; obtain ⟨hc1, hf1, hz1⟩ := bcell hb1; (try simp only [szs] at hz1); have hb2 := far2; obtain ⟨hc2, hf2, hz2⟩ := bcell hb2; (try simp only [szs] at hz2); try (first | obtain ⟨hy1, hy2, hy3, hy4⟩ := lts4 hz2 | obtain ⟨hy1, hy2, hy3⟩ := lts3 hz2 | obtain ⟨hy1, hy2⟩ := lts2 hz2 | have hy1 := lts1 hz2); have hb9 := hb1)
       go_ret
       exact ⟨ret_bool (by rw [HTK.out, allI_false a (by rw [HN.out]; exact hlt) (allI_false b (by rw [HN.out]; exact hlt2) (by simp only [cellOk, if_neg E.out, C.out]; rfl)), Bool.and_false]), bel⟩
      ·have e3 : (((walkFrom m t b a []).length : Int) == 0) = false := beq_eq_false_iff_ne.2 (by omega)
       have C := Lib.hid c
       clear c
       go_wp2_with (go_at_call 144; refine (spec_l04Walk m t a b A B _ _ _ (by exact Kd.C_below hr bel) hn (by exact Kd.C_below ht bel) SZ2.out HNA.out HNB.out).mono ?_; rintro e w1 ⟨hg1, hb1⟩; obtain ⟨A1, c1, rfl, hk1, hr1⟩ := hg1.read; obtain ⟨hc1, hf1, hz1⟩ := bcell hb1; (try simp only [szs] at hz1); have hb2 := far2; obtain ⟨hc2, hf2, hz2⟩ := bcell hb2; (try simp only [szs] at hz2); try (first | obtain ⟨hy1, hy2, hy3, hy4⟩ := lts4 hz2 | obtain ⟨hy1, hy2, hy3⟩ := lts3 hz2 | obtain ⟨hy1, hy2⟩ := lts2 hz2 | have hy1 := lts1 hz2); have hb9 := hb1)
       go_roundw
       case rel => exact ⟨b + 1, by omega, by go_num, Lib.hid (upto HA2.out (by have := C.out; simp only [cellOk, if_neg E.out]; exact decide_eq_true (by omega))), bel⟩
       case measure => simp [intOf]; omega
    ·go_wp2
     go_roundw
     case rel => exact ⟨a + 1, by omega, by go_num, Lib.hid (upto HA.out (allI_true (fun x hx => HA2.out x (by rw [HN.out] at hx; omega)))), bel⟩
     case measure => simp [intOf]; omega
  ·go_wp2
   go_ret
   exact ⟨ret_bool (by rw [HTK.out, hsz, allI_true (fun x hx => HA.out x (by rw [HN.out] at hx; omega))]; rfl), bel⟩
theorem spec_PacketOk (g : Grid) (p : Packet) (w : World) : Calls Tryz.prog 134 #[.agg #[.int .i64 g.w, .int .i64 g.h], .agg #[.int .i64 p.id, .int .i64 p.src, .int .i64 p.dst, .int .i64 p.cls, .int .i64 p.len]] w fun e w' => e = .returned (.bool (packetOk g p)) ∧ Below w.heap.size w w' := by
  go_enter Tryz.func134, Tryz.ntmps134
  cases h1 : inside p.id 1 9999
  · go_wp2_with (first | (go_at_call 132; refine (spec_l01In _ _ _ _).mono ?_; rintro e w' ⟨rfl, rfl⟩) | (go_at_call 145; refine (spec_l02Has g _ _).mono ?_; rintro e w1 ⟨rfl, hb1⟩; obtain ⟨hc1, hf1, hz1⟩ := bcell hb1; (try simp only [szs] at hz1); have hb2 := far2; obtain ⟨hc2, hf2, hz2⟩ := bcell hb2; (try simp only [szs] at hz2); try (first | obtain ⟨hy1, hy2, hy3, hy4⟩ := lts4 hz2 | obtain ⟨hy1, hy2, hy3⟩ := lts3 hz2 | obtain ⟨hy1, hy2⟩ := lts2 hz2 | have hy1 := lts1 hz2); have hb9 := hb1))
    go_ret
    exact ⟨ret_bool (by simp [packetOk, h1]), bel⟩
  cases h2 : isNode g p.src
  · go_wp2_with (first | (go_at_call 132; refine (spec_l01In _ _ _ _).mono ?_; rintro e w' ⟨rfl, rfl⟩) | (go_at_call 145; refine (spec_l02Has g _ _).mono ?_; rintro e w1 ⟨rfl, hb1⟩; obtain ⟨hc1, hf1, hz1⟩ := bcell hb1; (try simp only [szs] at hz1); have hb2 := far2; obtain ⟨hc2, hf2, hz2⟩ := bcell hb2; (try simp only [szs] at hz2); try (first | obtain ⟨hy1, hy2, hy3, hy4⟩ := lts4 hz2 | obtain ⟨hy1, hy2, hy3⟩ := lts3 hz2 | obtain ⟨hy1, hy2⟩ := lts2 hz2 | have hy1 := lts1 hz2); have hb9 := hb1))
    go_ret
    exact ⟨ret_bool (by simp [packetOk, h2]), bel⟩
  cases h3 : isNode g p.dst
  · go_wp2_with (first | (go_at_call 132; refine (spec_l01In _ _ _ _).mono ?_; rintro e w' ⟨rfl, rfl⟩) | (go_at_call 145; refine (spec_l02Has g _ _).mono ?_; rintro e w1 ⟨rfl, hb1⟩; obtain ⟨hc1, hf1, hz1⟩ := bcell hb1; (try simp only [szs] at hz1); have hb2 := far2; obtain ⟨hc2, hf2, hz2⟩ := bcell hb2; (try simp only [szs] at hz2); try (first | obtain ⟨hy1, hy2, hy3, hy4⟩ := lts4 hz2 | obtain ⟨hy1, hy2, hy3⟩ := lts3 hz2 | obtain ⟨hy1, hy2⟩ := lts2 hz2 | have hy1 := lts1 hz2); have hb9 := hb1))
    go_ret
    exact ⟨ret_bool (by simp [packetOk, h3]), bel⟩
  by_cases h4 : p.src = p.dst
  · have e4 : (p.src != p.dst) = false := bne_eq_false_iff_eq.2 h4
    have H4 := Lib.hid h4
    clear h4
    go_wp2_with (first | (go_at_call 132; refine (spec_l01In _ _ _ _).mono ?_; rintro e w' ⟨rfl, rfl⟩) | (go_at_call 145; refine (spec_l02Has g _ _).mono ?_; rintro e w1 ⟨rfl, hb1⟩; obtain ⟨hc1, hf1, hz1⟩ := bcell hb1; (try simp only [szs] at hz1); have hb2 := far2; obtain ⟨hc2, hf2, hz2⟩ := bcell hb2; (try simp only [szs] at hz2); try (first | obtain ⟨hy1, hy2, hy3, hy4⟩ := lts4 hz2 | obtain ⟨hy1, hy2, hy3⟩ := lts3 hz2 | obtain ⟨hy1, hy2⟩ := lts2 hz2 | have hy1 := lts1 hz2); have hb9 := hb1))
    go_ret
    exact ⟨ret_bool (by simp [packetOk, H4.out]), bel⟩
  have e4 : (p.src != p.dst) = true := bne_iff_ne.2 h4
  have H4 := Lib.hid h4
  clear h4
  cases h5 : inside p.cls 0 1
  · go_wp2_with (first | (go_at_call 132; refine (spec_l01In _ _ _ _).mono ?_; rintro e w' ⟨rfl, rfl⟩) | (go_at_call 145; refine (spec_l02Has g _ _).mono ?_; rintro e w1 ⟨rfl, hb1⟩; obtain ⟨hc1, hf1, hz1⟩ := bcell hb1; (try simp only [szs] at hz1); have hb2 := far2; obtain ⟨hc2, hf2, hz2⟩ := bcell hb2; (try simp only [szs] at hz2); try (first | obtain ⟨hy1, hy2, hy3, hy4⟩ := lts4 hz2 | obtain ⟨hy1, hy2, hy3⟩ := lts3 hz2 | obtain ⟨hy1, hy2⟩ := lts2 hz2 | have hy1 := lts1 hz2); have hb9 := hb1))
    go_ret
    exact ⟨ret_bool (by simp [packetOk, h5]), bel⟩
  · go_wp2_with (first | (go_at_call 132; refine (spec_l01In _ _ _ _).mono ?_; rintro e w' ⟨rfl, rfl⟩) | (go_at_call 145; refine (spec_l02Has g _ _).mono ?_; rintro e w1 ⟨rfl, hb1⟩; obtain ⟨hc1, hf1, hz1⟩ := bcell hb1; (try simp only [szs] at hz1); have hb2 := far2; obtain ⟨hc2, hf2, hz2⟩ := bcell hb2; (try simp only [szs] at hz2); try (first | obtain ⟨hy1, hy2, hy3, hy4⟩ := lts4 hz2 | obtain ⟨hy1, hy2, hy3⟩ := lts3 hz2 | obtain ⟨hy1, hy2⟩ := lts2 hz2 | have hy1 := lts1 hz2); have hb9 := hb1))
    go_ret
    exact ⟨ret_bool (by simp [packetOk, h1, h2, h3, H4.out, h5]), bel⟩

theorem impl_ClassesOk (m : Mesh) (pa pb : List Int) (A B C : Option Addr) (c d k : Nat) (w : World) (hr : Kd.C (Kd.int .i64) w A m.br.length m.br) (hn : m.br.length ≤ 2097152) (ha : Kd.C (Kd.int .i64) w B pa.length pa) (hka : pa.length ≤ 2097152) (hb : Kd.C (Kd.int .i64) w C pb.length pb) (hkb : pb.length ≤ 2097152) :
    Calls Tryz.prog 49 #[.agg #[.int .i64 m.g.w, .int .i64 m.g.h, .slice A m.br.length c], .agg #[.slice B pa.length d, .slice C pb.length k]] w fun e w' => e = .returned (.bool (classesOk m pa pb)) ∧ Below w.heap.size w w' := by
  go_enter Tryz.func49, Tryz.ntmps49
  cases h1 : tableOk m pa
  · go_wp2_with (first | (go_at_call 80; refine (impl_TableOk m pa A B _ _ _ (by exact Kd.C_below hr bel) hn (by exact Kd.C_below ha bel) hka).mono ?_; rintro e w1 ⟨rfl, hb1⟩; obtain ⟨hc1, hf1, hz1⟩ := bcell hb1; (try simp only [szs] at hz1); have hb2 := far2; obtain ⟨hc2, hf2, hz2⟩ := bcell hb2; (try simp only [szs] at hz2); try (first | obtain ⟨hy1, hy2, hy3, hy4⟩ := lts4 hz2 | obtain ⟨hy1, hy2, hy3⟩ := lts3 hz2 | obtain ⟨hy1, hy2⟩ := lts2 hz2 | have hy1 := lts1 hz2); have hb9 := hb1))
    go_ret
    exact ⟨ret_bool (by simp [classesOk, h1]), bel⟩
  · go_wp2_with (first | (go_at_call_of 80 pa; refine (impl_TableOk m pa A B _ _ _ (by exact Kd.C_below hr bel) hn (by exact Kd.C_below ha bel) hka).mono ?_; rintro e w1 ⟨rfl, hb1⟩; obtain ⟨hc1, hf1, hz1⟩ := bcell hb1; (try simp only [szs] at hz1); have hb2 := far2; obtain ⟨hc2, hf2, hz2⟩ := bcell hb2; (try simp only [szs] at hz2); try (first | obtain ⟨hy1, hy2, hy3, hy4⟩ := lts4 hz2 | obtain ⟨hy1, hy2, hy3⟩ := lts3 hz2 | obtain ⟨hy1, hy2⟩ := lts2 hz2 | have hy1 := lts1 hz2); have hb9 := hb1) | (go_at_call_of 80 pb; refine (impl_TableOk m pb A C _ _ _ (by exact Kd.C_below hr bel) hn (by exact Kd.C_below hb bel) hkb).mono ?_; rintro e w1 ⟨rfl, hb1⟩; obtain ⟨hc1, hf1, hz1⟩ := bcell hb1; (try simp only [szs] at hz1); have hb2 := far2; obtain ⟨hc2, hf2, hz2⟩ := bcell hb2; (try simp only [szs] at hz2); try (first | obtain ⟨hy1, hy2, hy3, hy4⟩ := lts4 hz2 | obtain ⟨hy1, hy2, hy3⟩ := lts3 hz2 | obtain ⟨hy1, hy2⟩ := lts2 hz2 | have hy1 := lts1 hz2); have hb9 := hb1))
    go_ret
    exact ⟨ret_bool (by simp [classesOk, h1]), bel⟩
theorem spec_ClassesOk (m : Mesh) (pa pb : List Int) (A B C : Option Addr) (c d k : Nat) (w : World) (hr : Kd.C (Kd.int .i64) w A m.br.length m.br) (hn : m.br.length ≤ 2097152) (ha : Kd.C (Kd.int .i64) w B pa.length pa) (hka : pa.length ≤ 2097152) (hb : Kd.C (Kd.int .i64) w C pb.length pb) (hkb : pb.length ≤ 2097152) :
    Calls Tryz.prog 98 #[.agg #[.int .i64 m.g.w, .int .i64 m.g.h, .slice A m.br.length c], .agg #[.slice B pa.length d, .slice C pb.length k]] w fun e w' => e = .returned (.bool (classesOk m pa pb)) ∧ Below w.heap.size w w' := by
  go_enter Tryz.func98, Tryz.ntmps98
  cases h1 : tableOk m pa
  · go_wp2_with (first | (go_at_call 129; refine (spec_TableOk m pa A B _ _ _ (by exact Kd.C_below hr bel) hn (by exact Kd.C_below ha bel) hka).mono ?_; rintro e w1 ⟨rfl, hb1⟩; obtain ⟨hc1, hf1, hz1⟩ := bcell hb1; (try simp only [szs] at hz1); have hb2 := far2; obtain ⟨hc2, hf2, hz2⟩ := bcell hb2; (try simp only [szs] at hz2); try (first | obtain ⟨hy1, hy2, hy3, hy4⟩ := lts4 hz2 | obtain ⟨hy1, hy2, hy3⟩ := lts3 hz2 | obtain ⟨hy1, hy2⟩ := lts2 hz2 | have hy1 := lts1 hz2); have hb9 := hb1))
    go_ret
    exact ⟨ret_bool (by simp [classesOk, h1]), bel⟩
  · go_wp2_with (first | (go_at_call_of 129 pa; refine (spec_TableOk m pa A B _ _ _ (by exact Kd.C_below hr bel) hn (by exact Kd.C_below ha bel) hka).mono ?_; rintro e w1 ⟨rfl, hb1⟩; obtain ⟨hc1, hf1, hz1⟩ := bcell hb1; (try simp only [szs] at hz1); have hb2 := far2; obtain ⟨hc2, hf2, hz2⟩ := bcell hb2; (try simp only [szs] at hz2); try (first | obtain ⟨hy1, hy2, hy3, hy4⟩ := lts4 hz2 | obtain ⟨hy1, hy2, hy3⟩ := lts3 hz2 | obtain ⟨hy1, hy2⟩ := lts2 hz2 | have hy1 := lts1 hz2); have hb9 := hb1) | (go_at_call_of 129 pb; refine (spec_TableOk m pb A C _ _ _ (by exact Kd.C_below hr bel) hn (by exact Kd.C_below hb bel) hkb).mono ?_; rintro e w1 ⟨rfl, hb1⟩; obtain ⟨hc1, hf1, hz1⟩ := bcell hb1; (try simp only [szs] at hz1); have hb2 := far2; obtain ⟨hc2, hf2, hz2⟩ := bcell hb2; (try simp only [szs] at hz2); try (first | obtain ⟨hy1, hy2, hy3, hy4⟩ := lts4 hz2 | obtain ⟨hy1, hy2, hy3⟩ := lts3 hz2 | obtain ⟨hy1, hy2⟩ := lts2 hz2 | have hy1 := lts1 hz2); have hb9 := hb1))
    go_ret
    exact ⟨ret_bool (by simp [classesOk, h1]), bel⟩

theorem impl_tableFor_b (pa pb : List Int) (B C : Option Addr) (d k : Nat) (cl : Int) (hc : (cl == 1) = true) (w : World) :
    Calls Tryz.prog 122 #[.agg #[.slice B pa.length d, .slice C pb.length k], .int .i64 cl] w fun e w' => e = .returned (.agg #[.slice C pb.length k]) ∧ Below w.heap.size w w' := by
  go_enter Tryz.func122, Tryz.ntmps122
  go_wp2
  exact bodyPost_ret (v := .agg #[.slice C pb.length k]) (by simp [results, Tryz.results122, go_sem]) rfl ⟨rfl, bel⟩
theorem impl_tableFor_a (pa pb : List Int) (B C : Option Addr) (d k : Nat) (cl : Int) (hc : (cl == 1) = false) (w : World) :
    Calls Tryz.prog 122 #[.agg #[.slice B pa.length d, .slice C pb.length k], .int .i64 cl] w fun e w' => e = .returned (.agg #[.slice B pa.length d]) ∧ Below w.heap.size w w' := by
  go_enter Tryz.func122, Tryz.ntmps122
  go_wp2
  exact bodyPost_ret (v := .agg #[.slice B pa.length d]) (by simp [results, Tryz.results122, go_sem]) rfl ⟨rfl, bel⟩

theorem impl_areInside (l : List Int) (lo hi : Int) (A : Option Addr) (c : Nat) (w : World) (hr : Kd.C (Kd.int .i64) w A l.length l) (hn : l.length ≤ 2097152) :
    Calls Tryz.prog 51 #[.slice A l.length c, .int .i64 lo, .int .i64 hi] w fun e w' => e = .returned (.bool (allI l.length (fun i => inside (ri l i) lo hi))) ∧ w = w' := by
  go_enter Tryz.func51, Tryz.ntmps51
  go_wp2
  go_loop [11] (fun i => ∃ k : Nat, i = .int .i64 k ∧ k ≤ l.length ∧ Hid (∀ j : Nat, j < k → inside (ri l j) lo hi = true)) (fun i => l.length - (intOf i).toNat)
  case atStart => exact ⟨0, rfl, Nat.zero_le _, Lib.hid fun j h => absurd h (Nat.not_lt_zero _)⟩
  case round =>
    obtain ⟨k, rfl, hk, HA⟩ := hrel
    by_cases hlt : k < l.length
    · obtain ⟨b, off, rfl, hb, hx⟩ := rdI_at hr k hlt
      have hxk := hx k hlt
      clear hx
      cases h1 : inside (ri l k) lo hi
      · have H1 := Lib.hid h1
        go_wp2_with (go_at_call 52; refine (impl_inside _ _ _ _).mono ?_; rintro e w' ⟨rfl, rfl⟩)
        go_ret
        exact ⟨ret_bool (allI_false k hlt H1.out).symm, rfl⟩
      · have H1 := Lib.hid h1
        go_wp2_with (go_at_call 52; refine (impl_inside _ _ _ _).mono ?_; rintro e w' ⟨rfl, rfl⟩)
        go_round
        case rel => exact ⟨k + 1, by go_num, by omega, Lib.hid (upto HA.out H1.out)⟩
        case measure => simp [intOf]; omega
    · go_wp2
      go_ret
      exact ⟨ret_bool (allI_true (fun j hj => HA.out j (by omega))).symm, rfl⟩
theorem flitOk_1 {g : Grid} {f : Flit} (h : isNode g f.dst = false) : flitOk g f = false := by simp [flitOk, h]
theorem flitOk_2 {g : Grid} {f : Flit} (h : inside f.cls 0 1 = false) : flitOk g f = false := by simp [flitOk, h]
theorem flitOk_3 {g : Grid} {f : Flit} (h1 : isNode g f.dst = true) (h2 : inside f.cls 0 1 = true) : flitOk g f = true := by simp [flitOk, h1, h2]

set_option maxHeartbeats 1000000 in
theorem impl_areFlits (g : Grid) (l : List Flit) (A : Option Addr) (c : Nat) (w : World) (hr : kF.C w A l.length l) (hn : l.length ≤ 2097152) :
    Calls Tryz.prog 50 #[.agg #[.int .i64 g.w, .int .i64 g.h], .slice A l.length c] w fun e w' => e = .returned (.bool (areFl g l)) ∧ Below w.heap.size w w' := by
  go_enter Tryz.func50, Tryz.ntmps50
  go_wp2
  go_loopw [9] (fun i wr => ∃ k : Nat, i = .int .i64 k ∧ k ≤ l.length ∧ Hid (∀ j : Nat, j < k → flitOk g (rf l j) = true) ∧ Below (w.alloc (.cells #[.int .i64 g.w, .int .i64 g.h] 25)).heap.size (w.alloc (.cells #[.int .i64 g.w, .int .i64 g.h] 25)) wr) (fun i _ => l.length - (intOf i).toNat)
  case atStart => exact ⟨0, rfl, Nat.zero_le _, Lib.hid fun j h => absurd h (Nat.not_lt_zero _), bel⟩
  case round =>
    obtain ⟨k, rfl, hk, HA, HB⟩ := hrel
    obtain ⟨hc0, hf0, hz0⟩ := bcell HB
    simp only [szs] at hz0
    have yy1 := lts1 hz0
    by_cases hlt : k < l.length
    · obtain ⟨b, off, rfl, hb, p0, p1, p2, p3, p4⟩ := rdFl_at hr k hlt
      obtain ⟨z1, z2, z3, z4, z5, z6⟩ := more hb
      have i0 : (0 : Int) ≤ (k : Int) := by omega
      have i1 : (k : Int) < (l.length : Int) := by omega
      cases h1 : isNode g (rf l k).dst
      · have H1 := Lib.hid h1
        go_wp2_with (first | (go_at_call 81; refine (impl_isNode g _ _).mono ?_; rintro e w1 ⟨rfl, hb1⟩; obtain ⟨hc1, hf1, hz1⟩ := bcell hb1; (try simp only [szs] at hz1); have hb2 := far2; obtain ⟨hc2, hf2, hz2⟩ := bcell hb2; (try simp only [szs] at hz2); try (first | obtain ⟨hy1, hy2, hy3, hy4⟩ := lts4 hz2 | obtain ⟨hy1, hy2, hy3⟩ := lts3 hz2 | obtain ⟨hy1, hy2⟩ := lts2 hz2 | have hy1 := lts1 hz2); have hb9 := hb1) | (go_at_call 52; refine (impl_inside _ _ _ _).mono ?_; rintro e w' ⟨rfl, rfl⟩))
        go_ret
        exact ⟨ret_bool (areFl_no k hlt (flitOk_1 H1.out)).symm, bel⟩
      cases h2 : inside (rf l k).cls 0 1
      · have H1 := Lib.hid h1
        have H2 := Lib.hid h2
        go_wp2_with (first | (go_at_call 81; refine (impl_isNode g _ _).mono ?_; rintro e w1 ⟨rfl, hb1⟩; obtain ⟨hc1, hf1, hz1⟩ := bcell hb1; (try simp only [szs] at hz1); have hb2 := far2; obtain ⟨hc2, hf2, hz2⟩ := bcell hb2; (try simp only [szs] at hz2); try (first | obtain ⟨hy1, hy2, hy3, hy4⟩ := lts4 hz2 | obtain ⟨hy1, hy2, hy3⟩ := lts3 hz2 | obtain ⟨hy1, hy2⟩ := lts2 hz2 | have hy1 := lts1 hz2); have hb9 := hb1) | (go_at_call 52; refine (impl_inside _ _ _ _).mono ?_; rintro e w' ⟨rfl, rfl⟩))
        go_ret
        exact ⟨ret_bool (areFl_no k hlt (flitOk_2 H2.out)).symm, bel⟩
      · have H1 := Lib.hid h1
        have H2 := Lib.hid h2
        go_wp2_with (first | (go_at_call 81; refine (impl_isNode g _ _).mono ?_; rintro e w1 ⟨rfl, hb1⟩; obtain ⟨hc1, hf1, hz1⟩ := bcell hb1; (try simp only [szs] at hz1); have hb2 := far2; obtain ⟨hc2, hf2, hz2⟩ := bcell hb2; (try simp only [szs] at hz2); try (first | obtain ⟨hy1, hy2, hy3, hy4⟩ := lts4 hz2 | obtain ⟨hy1, hy2, hy3⟩ := lts3 hz2 | obtain ⟨hy1, hy2⟩ := lts2 hz2 | have hy1 := lts1 hz2); have hb9 := hb1) | (go_at_call 52; refine (impl_inside _ _ _ _).mono ?_; rintro e w' ⟨rfl, rfl⟩))
        go_roundw
        case rel => exact ⟨k + 1, by go_num, by omega, Lib.hid (upto HA.out (flitOk_3 H1.out H2.out)), bel⟩
        case measure => simp [intOf]; omega
    · go_wp2
      go_ret
      exact ⟨ret_bool (areFl_yes (fun j hj => HA.out j (by omega))).symm, bel⟩
section
variable {ops : Array Oper} {rest : List Oper} {o : Oper} {a : Act} {Q : Exit → Act → World → Prop}
theorem app_F {W0 W : World} (hgd : o.guard = none) (s x : Operand)
    (ho : o.op = .call { callee := .builtin .append, args := #[s, x], argTypes := #[43, 43] })
    (v : Value) (xs : List Flit) (q : Flit) (hs : a.eval s = v) (hx : a.eval x = .slice (some ⟨W.heap.size, 0, none⟩) 1 1)
    (HO : kF.R 80 W W0.heap.size (fun _ => True) v xs) (HB : Below W0.heap.size W0 W) (hl : xs.length ≤ 100000000)
    (h : ∀ v1 w1, kF.R 80 w1 W0.heap.size (fun _ => True) v1 (xs ++ [q]) → Below W0.heap.size W0 w1 → wpList Tryz.prog ops Q rest (a.put o.dst v1) w1) :
    wpList Tryz.prog ops Q (o :: rest) a (W.alloc (.cells #[.int .i64 q.pk, .int .i64 q.dst, .int .i64 q.cls, .bool q.head, .bool q.tail] 80)) :=
  app_own kF hgd s x 43 80 (.agg #[.int .i64 0, .int .i64 0, .int .i64 0, .bool false, .bool false]) 32 ho Tryz.underlying43 info_F rfl (by decide) (by omega) v xs q (fCells q) hs hx rfl HO HB (by omega) h
end
theorem clsOnly_take_len (l : List Flit) (c : Int) (k : Nat) : (clsOnly (l.take k) c).length ≤ k :=
  Nat.le_trans (List.length_filter_le _ _) (by rw [List.length_take]; omega)
theorem clsOnly_yes {l : List Flit} {c : Int} (k : Nat) (hk : k < l.length) (h : (rf l k).cls = c) : clsOnly (l.take (k + 1)) c = clsOnly (l.take k) c ++ [rf l k] := by
  rw [clsOnly_take k hk, if_pos (by simp [h])]
theorem clsOnly_no {l : List Flit} {c : Int} (k : Nat) (hk : k < l.length) (h : ¬ (rf l k).cls = c) : clsOnly (l.take (k + 1)) c = clsOnly (l.take k) c := by
  rw [clsOnly_take k hk, if_neg (by simp [h])]
set_option maxHeartbeats 1000000 in
theorem impl_ClassOnly (l : List Flit) (x : Int) (A : Option Addr) (c : Nat) (w : World) (hr : kF.C w A l.length l) (hn : l.length ≤ 2097152) :
    Calls Tryz.prog 24 #[.slice A l.length c, .int .i64 x] w fun e w' => GotF w w' (clsOnly l x) e ∧ Below w.heap.size w w' := by
  go_enter Tryz.func24, Tryz.ntmps24
  go_wp2
  go_loopw [5, 11] (fun v i wr => ∃ j : Nat, i = .int .i64 j ∧ j ≤ l.length ∧ kF.R 80 wr w.heap.size (fun _ => True) v (clsOnly (l.take j) x) ∧ Below w.heap.size w wr) (fun _ i _ => l.length - (intOf i).toNat)
  case atStart => exact ⟨0, rfl, Nat.zero_le _, R_empty (W0 := w) _ _ (bw_size bel), bel⟩
  case round =>
    obtain ⟨j, rfl, hj, HO, HB⟩ := hrel
    obtain ⟨Ao, co, rfl⟩ := Kd.R_slice HO
    have hlen := clsOnly_take_len l x j
    obtain ⟨hc0, hf0, hz0⟩ := bcell HB
    by_cases hlt : j < l.length
    · obtain ⟨b, off, rfl, hbl, p0, p1, p2, p3, p4⟩ := rdFl_at hr j hlt
      by_cases e1 : (rf l j).cls = x
      · have f1 : ((rf l j).cls == x) = true := beq_iff_eq.2 e1
        have HS := Lib.hid (clsOnly_yes j hlt e1)
        clear e1
        go_wp2_with (at_builtin; refine app_F (W0 := w) rfl (.tmp 19) (.tmp 21) rfl _ (clsOnly (l.take j) x) (rf l j) rfl (by first | rfl | exact congrArg (fun z => Value.slice (some ⟨z, 0, none⟩) 1 1) (World.size_alloc _ _).symm) (by exact Kd.R_below HO bel) bel (by omega) ?_; intro v1 w1 HO1 HB1; obtain ⟨hc1, hf1, hz1⟩ := bcell HB1; (try simp only [szs] at hz1); have hb2 := HB1; have hb9 := HB1)
        go_roundw
        case rel => exact ⟨j + 1, by go_num, by omega, by rw [HS.out]; exact (by exact Kd.R_below HO1 bel), bel⟩
        case measure => simp [intOf]; omega
      · have f1 : ((rf l j).cls == x) = false := beq_eq_false_iff_ne.2 e1
        have HS := Lib.hid (clsOnly_no j hlt e1)
        clear e1
        go_wp2
        go_roundw
        case rel => exact ⟨j + 1, by go_num, by omega, by rw [HS.out]; exact (by exact Kd.R_below HO bel), bel⟩
        case measure => simp [intOf]; omega
    · go_wp2
      go_ret
      have E : clsOnly (l.take j) x = clsOnly l x := by rw [List.take_of_length_le (by omega)]
      exact ⟨(by rw [← E]; exact ⟨_, rfl, (by exact Kd.R_below HO bel)⟩), bel⟩
theorem stp_refl (w : World) : Stp w w := ⟨Below.refl _ _⟩
theorem stp_drew {w W : World} (h : Stp w W) : Stp w W.drew := ⟨bw_drew h.h⟩
theorem stp_then {w W W' : World} (h : Stp w W) (k : Stp W W') : Stp w W' := ⟨bw_then h.h k.h⟩
theorem GotTab.at {w w' : World} {t : List Int} {e : Ending} (h : GotTab w w' t e) : ∃ A c, e = .returned (.agg #[.slice A t.length c]) ∧ Kd.R (Kd.int .i64) 3 w' w.heap.size (fun _ => True) (.slice A t.length c) t := by
  obtain ⟨v, rfl, hr⟩ := h
  obtain ⟨A, c, rfl⟩ := Kd.R_slice hr
  exact ⟨A, c, rfl, hr⟩
set_option maxHeartbeats 1000000 in
theorem impl_copyTable (t : List Int) (A : Option Addr) (c : Nat) (w : World) (hr : Kd.C (Kd.int .i64) w A t.length t) (hn : t.length ≤ 2097152) :
    Calls Tryz.prog 108 #[.agg #[.slice A t.length c]] w fun e w' => GotTab w w' t e ∧ Below w.heap.size w w' := by
  have R := Lib.hid hr
  clear hr
  go_enter Tryz.func108, Tryz.ntmps108
  go_wp2_with (at_builtin; (refine copy_int (B := ((w.alloc (.cells #[.slice A t.length c] 30)).alloc (.cells #[.slice none 0 0] 30)).heap.size) rfl (.tmp 3) (.tmp 5) rfl _ t A c rfl rfl (by with_reducible repeat (first | assumption | (refine lit_new ?_; first | done | rfl | (simp only [World.size_alloc, World.size_drew, World.size_setCell]; done)) | exact lit_new (by simp only [World.size_alloc, World.size_drew, World.size_setCell]) | refine lit_stp (by assumption) ?_ | refine lit_alloc _ ?_ | refine lit_drew ?_)) (by simp only [szs]; omega) (by exact Kd.C_below R.out bel) (by simp only [szs]; omega) (by omega) ?_; intro v1 w1 HO1 hb1 ht1; obtain ⟨A1, c1, rfl⟩ := Kd.R_slice HO1; obtain ⟨hc1, hf1, hz1⟩ := bcell hb1; (try simp only [szs] at hz1); have hb2 := far2; obtain ⟨hc2, hf2, hz2⟩ := bcell hb2; (try simp only [szs] at hz2); try (first | obtain ⟨hy1, hy2, hy3, hy4⟩ := lts4 hz2 | obtain ⟨hy1, hy2, hy3⟩ := lts3 hz2 | obtain ⟨hy1, hy2⟩ := lts2 hz2 | have hy1 := lts1 hz2); have hb9 := hb1))
  exact bodyPost_ret (v := .agg #[.slice A1 t.length c1]) (by simp [results, Tryz.results108, go_sem, *]) rfl ⟨⟨_, rfl, (by apply Kd.R_lower; (with_reducible repeat (first | exact HO1 | apply R_off | (apply R_belowC; assumption))); all_goals (first | omega | (simp only [szs]; omega)))⟩, bel⟩
set_option maxHeartbeats 1000000 in
theorem spec_l12Copy (t : List Int) (A : Option Addr) (c : Nat) (w : World) (hr : Kd.C (Kd.int .i64) w A t.length t) (hn : t.length ≤ 2097152) :
    Calls Tryz.prog 130 #[.agg #[.slice A t.length c]] w fun e w' => GotTab w w' t e ∧ Below w.heap.size w w' := by
  have R := Lib.hid hr
  clear hr
  go_enter Tryz.func130, Tryz.ntmps130
  go_wp2_with (at_builtin; (refine copy_int (B := ((w.alloc (.cells #[.slice A t.length c] 30)).alloc (.cells #[.slice none 0 0] 30)).heap.size) rfl (.tmp 3) (.tmp 5) rfl _ t A c rfl rfl (by with_reducible repeat (first | assumption | (refine lit_new ?_; first | done | rfl | (simp only [World.size_alloc, World.size_drew, World.size_setCell]; done)) | exact lit_new (by simp only [World.size_alloc, World.size_drew, World.size_setCell]) | refine lit_stp (by assumption) ?_ | refine lit_alloc _ ?_ | refine lit_drew ?_)) (by simp only [szs]; omega) (by exact Kd.C_below R.out bel) (by simp only [szs]; omega) (by omega) ?_; intro v1 w1 HO1 hb1 ht1; obtain ⟨A1, c1, rfl⟩ := Kd.R_slice HO1; obtain ⟨hc1, hf1, hz1⟩ := bcell hb1; (try simp only [szs] at hz1); have hb2 := far2; obtain ⟨hc2, hf2, hz2⟩ := bcell hb2; (try simp only [szs] at hz2); try (first | obtain ⟨hy1, hy2, hy3, hy4⟩ := lts4 hz2 | obtain ⟨hy1, hy2, hy3⟩ := lts3 hz2 | obtain ⟨hy1, hy2⟩ := lts2 hz2 | have hy1 := lts1 hz2); have hb9 := hb1))
  exact bodyPost_ret (v := .agg #[.slice A1 t.length c1]) (by simp [results, Tryz.results130, go_sem, *]) rfl ⟨⟨_, rfl, (by apply Kd.R_lower; (with_reducible repeat (first | exact HO1 | apply R_off | (apply R_belowC; assumption))); all_goals (first | omega | (simp only [szs]; omega)))⟩, bel⟩
set_option maxHeartbeats 2000000 in
theorem impl_copyMesh (m : Mesh) (A : Option Addr) (c : Nat) (w : World) (hr : Kd.C (Kd.int .i64) w A m.br.length m.br) (hn : m.br.length ≤ 2097152) :
    Calls Tryz.prog 70 #[.agg #[.int .i64 m.g.w, .int .i64 m.g.h, .slice A m.br.length c]] w fun e w' => GotMesh w w' m e ∧ Below w.heap.size w w' := by
  have R := Lib.hid hr
  clear hr
  have xx := (Box.new w w.heap.size #[.int .i64 m.g.w, .int .i64 m.g.h, .slice A m.br.length c] 28 rfl)
  have g0 : (w.alloc (.cells #[.int .i64 m.g.w, .int .i64 m.g.h, .slice A m.br.length c] 28)).cell? ⟨w.heap.size, 0, none⟩ = some (.int .i64 m.g.w) := xx.get 0
  have g1 : (w.alloc (.cells #[.int .i64 m.g.w, .int .i64 m.g.h, .slice A m.br.length c] 28)).cell? ⟨w.heap.size, 1, none⟩ = some (.int .i64 m.g.h) := xx.get 1
  have g2 : (w.alloc (.cells #[.int .i64 m.g.w, .int .i64 m.g.h, .slice A m.br.length c] 28)).cell? ⟨w.heap.size, 2, none⟩ = some (.slice A m.br.length c) := xx.get 2
  clear xx
  go_enter Tryz.func70, Tryz.ntmps70
  go_wp2_with fail
  go_region_held3 (fun w' => Below ((w.alloc (.cells #[.int .i64 m.g.w, .int .i64 m.g.h, .slice A m.br.length c] 28))).heap.size ((w.alloc (.cells #[.int .i64 m.g.w, .int .i64 m.g.h, .slice A m.br.length c] 28))) w' ∧ ∀ bq oq, bq < ((w.alloc (.cells #[.int .i64 m.g.w, .int .i64 m.g.h, .slice A m.br.length c] 28))).heap.size → w'.cell? ⟨bq, oq, none⟩ = ((w.alloc (.cells #[.int .i64 m.g.w, .int .i64 m.g.h, .slice A m.br.length c] 28))).cell? ⟨bq, oq, none⟩) (first | exact far_of bel) ( first | (refine copyS_int (B := ((w.alloc (.cells #[.int .i64 m.g.w, .int .i64 m.g.h, .slice A m.br.length c] 28)).alloc (.cells #[.int .i64 0, .int .i64 0, .slice none 0 0] 28)).heap.size) (by rfl) (.tmp 5) (.tmp 7) rfl _ m.br A c rfl rfl (by with_reducible repeat (first | assumption | (refine lit_new ?_; first | done | rfl | (simp only [World.size_alloc, World.size_drew, World.size_setCell]; done)) | exact lit_new (by simp only [World.size_alloc, World.size_drew, World.size_setCell]) | refine lit_stp (by assumption) ?_ | refine lit_alloc _ ?_ | refine lit_drew ?_)) (by simp only [szs]; omega) (by exact Kd.C_below R.out bel) (by simp only [szs]; omega) (by omega) ?_; intro v1 w1 HO1 hb1 ht1; obtain ⟨A1, c1, rfl⟩ := Kd.R_slice HO1; obtain ⟨hc1, hf1, hz1⟩ := bcell hb1; (try simp only [szs] at hz1); have hb2 := far2; obtain ⟨hc2, hf2, hz2⟩ := bcell hb2; (try simp only [szs] at hz2); try (first | obtain ⟨hy1, hy2, hy3, hy4⟩ := lts4 hz2 | obtain ⟨hy1, hy2, hy3⟩ := lts3 hz2 | obtain ⟨hy1, hy2⟩ := lts2 hz2 | have hy1 := lts1 hz2); have hb9 := hb1))
  all_goals go_wp2
  all_goals exact bodyPost_ret (v := .agg #[.int .i64 m.g.w, .int .i64 m.g.h, .slice A1 m.br.length c1]) (by simp [results, Tryz.results70, go_sem, *]) rfl ⟨⟨_, rfl, (by apply Kd.R_lower; (with_reducible repeat (first | exact HO1 | apply R_off | (apply R_belowC; assumption))); all_goals (first | omega | (simp only [szs]; omega)))⟩, bel⟩
set_option maxHeartbeats 2000000 in
theorem spec_l15Mesh (m : Mesh) (A : Option Addr) (c : Nat) (w : World) (hr : Kd.C (Kd.int .i64) w A m.br.length m.br) (hn : m.br.length ≤ 2097152) :
    Calls Tryz.prog 99 #[.agg #[.int .i64 m.g.w, .int .i64 m.g.h, .slice A m.br.length c]] w fun e w' => GotMesh w w' m e ∧ Below w.heap.size w w' := by
  have R := Lib.hid hr
  clear hr
  have xx := (Box.new w w.heap.size #[.int .i64 m.g.w, .int .i64 m.g.h, .slice A m.br.length c] 28 rfl)
  have g0 : (w.alloc (.cells #[.int .i64 m.g.w, .int .i64 m.g.h, .slice A m.br.length c] 28)).cell? ⟨w.heap.size, 0, none⟩ = some (.int .i64 m.g.w) := xx.get 0
  have g1 : (w.alloc (.cells #[.int .i64 m.g.w, .int .i64 m.g.h, .slice A m.br.length c] 28)).cell? ⟨w.heap.size, 1, none⟩ = some (.int .i64 m.g.h) := xx.get 1
  have g2 : (w.alloc (.cells #[.int .i64 m.g.w, .int .i64 m.g.h, .slice A m.br.length c] 28)).cell? ⟨w.heap.size, 2, none⟩ = some (.slice A m.br.length c) := xx.get 2
  clear xx
  go_enter Tryz.func99, Tryz.ntmps99
  go_wp2_with fail
  go_region_held3 (fun w' => Below ((w.alloc (.cells #[.int .i64 m.g.w, .int .i64 m.g.h, .slice A m.br.length c] 28))).heap.size ((w.alloc (.cells #[.int .i64 m.g.w, .int .i64 m.g.h, .slice A m.br.length c] 28))) w' ∧ ∀ bq oq, bq < ((w.alloc (.cells #[.int .i64 m.g.w, .int .i64 m.g.h, .slice A m.br.length c] 28))).heap.size → w'.cell? ⟨bq, oq, none⟩ = ((w.alloc (.cells #[.int .i64 m.g.w, .int .i64 m.g.h, .slice A m.br.length c] 28))).cell? ⟨bq, oq, none⟩) (first | exact far_of bel) ( first | (refine copyS_int (B := ((w.alloc (.cells #[.int .i64 m.g.w, .int .i64 m.g.h, .slice A m.br.length c] 28)).alloc (.cells #[.int .i64 0, .int .i64 0, .slice none 0 0] 28)).heap.size) (by rfl) (.tmp 5) (.tmp 7) rfl _ m.br A c rfl rfl (by with_reducible repeat (first | assumption | (refine lit_new ?_; first | done | rfl | (simp only [World.size_alloc, World.size_drew, World.size_setCell]; done)) | exact lit_new (by simp only [World.size_alloc, World.size_drew, World.size_setCell]) | refine lit_stp (by assumption) ?_ | refine lit_alloc _ ?_ | refine lit_drew ?_)) (by simp only [szs]; omega) (by exact Kd.C_below R.out bel) (by simp only [szs]; omega) (by omega) ?_; intro v1 w1 HO1 hb1 ht1; obtain ⟨A1, c1, rfl⟩ := Kd.R_slice HO1; obtain ⟨hc1, hf1, hz1⟩ := bcell hb1; (try simp only [szs] at hz1); have hb2 := far2; obtain ⟨hc2, hf2, hz2⟩ := bcell hb2; (try simp only [szs] at hz2); try (first | obtain ⟨hy1, hy2, hy3, hy4⟩ := lts4 hz2 | obtain ⟨hy1, hy2, hy3⟩ := lts3 hz2 | obtain ⟨hy1, hy2⟩ := lts2 hz2 | have hy1 := lts1 hz2); have hb9 := hb1))
  all_goals go_wp2
  all_goals exact bodyPost_ret (v := .agg #[.int .i64 m.g.w, .int .i64 m.g.h, .slice A1 m.br.length c1]) (by simp [results, Tryz.results99, go_sem, *]) rfl ⟨⟨_, rfl, (by apply Kd.R_lower; (with_reducible repeat (first | exact HO1 | apply R_off | (apply R_belowC; assumption))); all_goals (first | omega | (simp only [szs]; omega)))⟩, bel⟩
set_option maxHeartbeats 2000000 in
theorem impl_copyClasses (pa pb : List Int) (A B : Option Addr) (c d : Nat) (w : World) (hr : Kd.C (Kd.int .i64) w A pa.length pa) (hn : pa.length ≤ 2097152) (hs : Kd.C (Kd.int .i64) w B pb.length pb) (hm : pb.length ≤ 2097152) :
    Calls Tryz.prog 71 #[.agg #[.slice A pa.length c, .slice B pb.length d]] w fun e w' => GotCls w w' pa pb e ∧ Below w.heap.size w w' := by
  have R := Lib.hid hr
  have S := Lib.hid hs
  clear hr hs
  have xx := (Box.new w w.heap.size #[.slice A pa.length c, .slice B pb.length d] 32 rfl)
  have g0 : (w.alloc (.cells #[.slice A pa.length c, .slice B pb.length d] 32)).cell? ⟨w.heap.size, 0, none⟩ = some (.slice A pa.length c) := xx.get 0
  have g1 : (w.alloc (.cells #[.slice A pa.length c, .slice B pb.length d] 32)).cell? ⟨w.heap.size, 1, none⟩ = some (.slice B pb.length d) := xx.get 1
  clear xx
  go_enter Tryz.func71, Tryz.ntmps71
  go_wp2_with fail
  go_region_held3 (fun w' => Below ((w.alloc (.cells #[.slice A pa.length c, .slice B pb.length d] 32))).heap.size ((w.alloc (.cells #[.slice A pa.length c, .slice B pb.length d] 32))) w' ∧ ∀ bq oq, bq < ((w.alloc (.cells #[.slice A pa.length c, .slice B pb.length d] 32))).heap.size → w'.cell? ⟨bq, oq, none⟩ = ((w.alloc (.cells #[.slice A pa.length c, .slice B pb.length d] 32))).cell? ⟨bq, oq, none⟩) (first | exact far_of bel) ( first | (go_at_call_of 108 pa; refine (impl_copyTable pa A c _ (by exact Kd.C_below R.out bel) hn).mono ?_; rintro e wa ⟨hg1, hba⟩; obtain ⟨Aa, ca, rfl, HOA⟩ := hg1.at; have sa := bw_size hba; (try simp only [szs] at sa); have hb1 := hba; obtain ⟨hc1, hf1, hz1⟩ := bcell hb1; (try simp only [szs] at hz1); have hb2 := far2; obtain ⟨hc2, hf2, hz2⟩ := bcell hb2; (try simp only [szs] at hz2); try (first | obtain ⟨hy1, hy2, hy3, hy4⟩ := lts4 hz2 | obtain ⟨hy1, hy2, hy3⟩ := lts3 hz2 | obtain ⟨hy1, hy2⟩ := lts2 hz2 | have hy1 := lts1 hz2); have hb9 := hb1) | (go_at_call_of 108 pb; refine (impl_copyTable pb B d _ (by exact Kd.C_below S.out bel) hm).mono ?_; rintro e wb ⟨hg1, hbb⟩; obtain ⟨Ab, cb, rfl, HOB⟩ := hg1.at; have sb := bw_size hbb; (try simp only [szs] at sb); have hb1 := hbb; obtain ⟨hc1, hf1, hz1⟩ := bcell hb1; (try simp only [szs] at hz1); have hb2 := far2; obtain ⟨hc2, hf2, hz2⟩ := bcell hb2; (try simp only [szs] at hz2); try (first | obtain ⟨hy1, hy2, hy3, hy4⟩ := lts4 hz2 | obtain ⟨hy1, hy2, hy3⟩ := lts3 hz2 | obtain ⟨hy1, hy2⟩ := lts2 hz2 | have hy1 := lts1 hz2); have hb9 := hb1))
  all_goals go_wp2
  all_goals exact bodyPost_ret (v := .agg #[.slice Aa pa.length ca, .slice Ab pb.length cb]) (by simp [results, Tryz.results71, go_sem, *]) rfl ⟨⟨_, _, rfl, (by apply Kd.R_lower; (with_reducible repeat (first | exact HOA | apply R_off | (apply R_belowC; assumption))); all_goals (first | omega | (simp only [szs]; omega))), (by apply Kd.R_lower; (with_reducible repeat (first | exact HOB | apply R_off | (apply R_belowC; assumption))); all_goals (first | omega | (simp only [szs]; omega))), R_apart HOA HOB (by first | omega | (simp only [szs]; omega))⟩, bel⟩
set_option maxHeartbeats 2000000 in
theorem spec_l15Classes (pa pb : List Int) (A B : Option Addr) (c d : Nat) (w : World) (hr : Kd.C (Kd.int .i64) w A pa.length pa) (hn : pa.length ≤ 2097152) (hs : Kd.C (Kd.int .i64) w B pb.length pb) (hm : pb.length ≤ 2097152) :
    Calls Tryz.prog 100 #[.agg #[.slice A pa.length c, .slice B pb.length d]] w fun e w' => GotCls w w' pa pb e ∧ Below w.heap.size w w' := by
  have R := Lib.hid hr
  have S := Lib.hid hs
  clear hr hs
  have xx := (Box.new w w.heap.size #[.slice A pa.length c, .slice B pb.length d] 32 rfl)
  have g0 : (w.alloc (.cells #[.slice A pa.length c, .slice B pb.length d] 32)).cell? ⟨w.heap.size, 0, none⟩ = some (.slice A pa.length c) := xx.get 0
  have g1 : (w.alloc (.cells #[.slice A pa.length c, .slice B pb.length d] 32)).cell? ⟨w.heap.size, 1, none⟩ = some (.slice B pb.length d) := xx.get 1
  clear xx
  go_enter Tryz.func100, Tryz.ntmps100
  go_wp2_with fail
  go_region_held3 (fun w' => Below ((w.alloc (.cells #[.slice A pa.length c, .slice B pb.length d] 32))).heap.size ((w.alloc (.cells #[.slice A pa.length c, .slice B pb.length d] 32))) w' ∧ ∀ bq oq, bq < ((w.alloc (.cells #[.slice A pa.length c, .slice B pb.length d] 32))).heap.size → w'.cell? ⟨bq, oq, none⟩ = ((w.alloc (.cells #[.slice A pa.length c, .slice B pb.length d] 32))).cell? ⟨bq, oq, none⟩) (first | exact far_of bel) ( first | (go_at_call_of 130 pa; refine (spec_l12Copy pa A c _ (by exact Kd.C_below R.out bel) hn).mono ?_; rintro e wa ⟨hg1, hba⟩; obtain ⟨Aa, ca, rfl, HOA⟩ := hg1.at; have sa := bw_size hba; (try simp only [szs] at sa); have hb1 := hba; obtain ⟨hc1, hf1, hz1⟩ := bcell hb1; (try simp only [szs] at hz1); have hb2 := far2; obtain ⟨hc2, hf2, hz2⟩ := bcell hb2; (try simp only [szs] at hz2); try (first | obtain ⟨hy1, hy2, hy3, hy4⟩ := lts4 hz2 | obtain ⟨hy1, hy2, hy3⟩ := lts3 hz2 | obtain ⟨hy1, hy2⟩ := lts2 hz2 | have hy1 := lts1 hz2); have hb9 := hb1) | (go_at_call_of 130 pb; refine (spec_l12Copy pb B d _ (by exact Kd.C_below S.out bel) hm).mono ?_; rintro e wb ⟨hg1, hbb⟩; obtain ⟨Ab, cb, rfl, HOB⟩ := hg1.at; have sb := bw_size hbb; (try simp only [szs] at sb); have hb1 := hbb; obtain ⟨hc1, hf1, hz1⟩ := bcell hb1; (try simp only [szs] at hz1); have hb2 := far2; obtain ⟨hc2, hf2, hz2⟩ := bcell hb2; (try simp only [szs] at hz2); try (first | obtain ⟨hy1, hy2, hy3, hy4⟩ := lts4 hz2 | obtain ⟨hy1, hy2, hy3⟩ := lts3 hz2 | obtain ⟨hy1, hy2⟩ := lts2 hz2 | have hy1 := lts1 hz2); have hb9 := hb1))
  all_goals go_wp2
  all_goals exact bodyPost_ret (v := .agg #[.slice Aa pa.length ca, .slice Ab pb.length cb]) (by simp [results, Tryz.results100, go_sem, *]) rfl ⟨⟨_, _, rfl, (by apply Kd.R_lower; (with_reducible repeat (first | exact HOA | apply R_off | (apply R_belowC; assumption))); all_goals (first | omega | (simp only [szs]; omega))), (by apply Kd.R_lower; (with_reducible repeat (first | exact HOB | apply R_off | (apply R_belowC; assumption))); all_goals (first | omega | (simp only [szs]; omega))), R_apart HOA HOB (by first | omega | (simp only [szs]; omega))⟩, bel⟩
end Go.Proofs.YtaihmgbflhbebaaGreat
