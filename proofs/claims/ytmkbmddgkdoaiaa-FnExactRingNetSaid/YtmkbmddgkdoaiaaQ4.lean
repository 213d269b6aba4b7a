/- Lemmas for laws of this seat, for all inputs: WalkT TabOk Load FlOk. -/
import Derived.Test.YtmkbmddgkdoaiaaQ3
import Derived.Test.YtmkbmddgkdoaiaaQ2
set_option linter.unusedVariables false
set_option linter.unusedSimpArgs false
namespace Go.Proofs.Ytmkbmddgkdoaiaa
open Go.RowKit Go.Proofs.YtmkbmddgkdoaiaaW.PrintWords
open NoC
set_option maxHeartbeats 1000000 in
theorem impl_WalkTable (m : Mesh) (t : List Int) (a b : Int) (A B : Option Addr) (c d : Nat) (w : World) (hr : Kd.C (Kd.int .i64) w A m.br.length m.br) (hn : m.br.length ≤ 2097152) (ht : Kd.C (Kd.int .i64) w B t.length t) (hk : t.length ≤ 2097152) :
  Calls Try.prog 74 #[.agg #[.int .i64 m.g.w, .int .i64 m.g.h, .slice A m.br.length c], .agg #[.slice B t.length d], .int .i64 a, .int .i64 b] w fun e w' => GotI w w' (wt m t a b) e ∧ Below w.heap.size w w' := by
 obtain ⟨n0, n1⟩ := count_le m.g
 go_enter Try.func74, Try.ntmps74
 by_cases hab : a = b
 ·have e1 : (a == b) = true := beq_iff_eq.2 hab
  have HAB := Lib.hid hab
  clear hab
  go_wp2
  go_ret
  exact ⟨by rw [show wt m t a b = [] by simp [wt, HAB.out]]; exact GotI.nil _ _, bel⟩
 have e1 : (a == b) = false := beq_eq_false_iff_ne.2 hab
 have HAB := Lib.hid hab
 clear hab
 cases hm : meshOk m
 ·go_wp2_with (go_at_call 71; refine (impl_MeshOk m _ _ _ (by exact Kd.C_below hr bel) hn).mono ?_; rintro e w1 ⟨rfl, hb1⟩; obtain ⟨hc1, hf1, hz1⟩ := bcell hb1; (try simp only [szs] at hz1); have hb2 := far2; obtain ⟨hc2, hf2, hz2⟩ := bcell hb2; (try simp only [szs] at hz2); try (first | obtain ⟨hy1, hy2, hy3, hy4⟩ := lts4 hz2 | obtain ⟨hy1, hy2, hy3⟩ := lts3 hz2 | obtain ⟨hy1, hy2⟩ := lts2 hz2 | have hy1 := lts1 hz2); have hb9 := hb1)
  go_ret
  exact ⟨by rw [show wt m t a b = [] by simp [wt, sized, hm]]; exact GotI.nil _ _, bel⟩
 cases ha : isNode m.g a
 ·go_wp2_with (first | (go_at_call 71; refine (impl_MeshOk m _ _ _ (by exact Kd.C_below hr bel) hn).mono ?_; rintro e w1 ⟨rfl, hb1⟩; obtain ⟨hc1, hf1, hz1⟩ := bcell hb1; (try simp only [szs] at hz1); have hb2 := far2; obtain ⟨hc2, hf2, hz2⟩ := bcell hb2; (try simp only [szs] at hz2); try (first | obtain ⟨hy1, hy2, hy3, hy4⟩ := lts4 hz2 | obtain ⟨hy1, hy2, hy3⟩ := lts3 hz2 | obtain ⟨hy1, hy2⟩ := lts2 hz2 | have hy1 := lts1 hz2); have hb9 := hb1) | (go_at_call 75; refine (impl_isNode m.g _ _).mono ?_; rintro e w1 ⟨rfl, hb1⟩; obtain ⟨hc1, hf1, hz1⟩ := bcell hb1; (try simp only [szs] at hz1); have hb2 := far2; obtain ⟨hc2, hf2, hz2⟩ := bcell hb2; (try simp only [szs] at hz2); try (first | obtain ⟨hy1, hy2, hy3, hy4⟩ := lts4 hz2 | obtain ⟨hy1, hy2, hy3⟩ := lts3 hz2 | obtain ⟨hy1, hy2⟩ := lts2 hz2 | have hy1 := lts1 hz2); have hb9 := hb1))
  go_ret
  exact ⟨by rw [show wt m t a b = [] by simp [wt, ha]]; exact GotI.nil _ _, bel⟩
 cases hb : isNode m.g b
 ·go_wp2_with (first | (go_at_call 71; refine (impl_MeshOk m _ _ _ (by exact Kd.C_below hr bel) hn).mono ?_; rintro e w1 ⟨rfl, hb1⟩; obtain ⟨hc1, hf1, hz1⟩ := bcell hb1; (try simp only [szs] at hz1); have hb2 := far2; obtain ⟨hc2, hf2, hz2⟩ := bcell hb2; (try simp only [szs] at hz2); try (first | obtain ⟨hy1, hy2, hy3, hy4⟩ := lts4 hz2 | obtain ⟨hy1, hy2, hy3⟩ := lts3 hz2 | obtain ⟨hy1, hy2⟩ := lts2 hz2 | have hy1 := lts1 hz2); have hb9 := hb1) | (go_at_call 75; refine (impl_isNode m.g _ _).mono ?_; rintro e w1 ⟨rfl, hb1⟩; obtain ⟨hc1, hf1, hz1⟩ := bcell hb1; (try simp only [szs] at hz1); have hb2 := far2; obtain ⟨hc2, hf2, hz2⟩ := bcell hb2; (try simp only [szs] at hz2); try (first | obtain ⟨hy1, hy2, hy3, hy4⟩ := lts4 hz2 | obtain ⟨hy1, hy2, hy3⟩ := lts3 hz2 | obtain ⟨hy1, hy2⟩ := lts2 hz2 | have hy1 := lts1 hz2); have hb9 := hb1))
  go_ret
  exact ⟨by rw [show wt m t a b = [] by simp [wt, hb]]; exact GotI.nil _ _, bel⟩
 go_wp2_with (first | (go_at_call 71; refine (impl_MeshOk m _ _ _ (by exact Kd.C_below hr bel) hn).mono ?_; rintro e w1 ⟨rfl, hb1⟩; obtain ⟨hc1, hf1, hz1⟩ := bcell hb1; (try simp only [szs] at hz1); have hb2 := far2; obtain ⟨hc2, hf2, hz2⟩ := bcell hb2; (try simp only [szs] at hz2); try (first | obtain ⟨hy1, hy2, hy3, hy4⟩ := lts4 hz2 | obtain ⟨hy1, hy2, hy3⟩ := lts3 hz2 | obtain ⟨hy1, hy2⟩ := lts2 hz2 | have hy1 := lts1 hz2); have hb9 := hb1) | (go_at_call 75; refine (impl_isNode m.g _ _).mono ?_; rintro e w1 ⟨rfl, hb1⟩; obtain ⟨hc1, hf1, hz1⟩ := bcell hb1; (try simp only [szs] at hz1); have hb2 := far2; obtain ⟨hc2, hf2, hz2⟩ := bcell hb2; (try simp only [szs] at hz2); try (first | obtain ⟨hy1, hy2, hy3, hy4⟩ := lts4 hz2 | obtain ⟨hy1, hy2, hy3⟩ := lts3 hz2 | obtain ⟨hy1, hy2⟩ := lts2 hz2 | have hy1 := lts1 hz2); have hb9 := hb1))
 go_loopg [9, 10] ((nodeCount m.g).toNat + 1) (fun k v x wr => ∃ (out : List Int) (n : Int), x = .int .i64 n ∧ Hid (isNode m.g n = true) ∧ (k + out.length = (nodeCount m.g).toNat + 1 ∧ out.length ≤ (nodeCount m.g).toNat) ∧ Hid (wt m t a b = walkFrom m t b n out) ∧ Kd.R (Kd.int .i64) 3 wr ((w.alloc (.cells #[.int .i64 m.g.w, .int .i64 m.g.h, .slice A m.br.length c] 26)).alloc (.cells #[.slice B t.length d] 28)).heap.size (fun _ => True) v out ∧ Below ((w.alloc (.cells #[.int .i64 m.g.w, .int .i64 m.g.h, .slice A m.br.length c] 26)).alloc (.cells #[.slice B t.length d] 28)).heap.size ((w.alloc (.cells #[.int .i64 m.g.w, .int .i64 m.g.h, .slice A m.br.length c] 26)).alloc (.cells #[.slice B t.length d] 28)) wr)
 case atStart => exact ⟨[], a, rfl, Lib.hid ha, by simp, Lib.hid (wt_start HAB.out ha hb), R_empty (W0 := (w.alloc (.cells #[.int .i64 m.g.w, .int .i64 m.g.h, .slice A m.br.length c] 26)).alloc (.cells #[.slice B t.length d] 28)) _ _ (bw_size bel), bel⟩
 case round =>
  obtain ⟨out, n, rfl, HN, ⟨hlen, hlo⟩, HW, HO, HB⟩ := hrel
  have hlen' := Lib.hid hlen
  clear hlen
  obtain ⟨Ao, co, rfl⟩ := Kd.R_slice HO
  obtain ⟨hc0, hf0, hz0⟩ := bcell HB
  simp only [szs] at hz0
  obtain ⟨p, hp⟩ : ∃ p, portAt m t n b = p := ⟨_, rfl⟩
  have hpr := portAt_range m t n b
  rw [hp] at hpr
  obtain ⟨hp1, hp2⟩ := hpr
  have HP := Lib.hid hp
  clear hp
  obtain ⟨q1, q2, q3, q4⟩ := node_bounds HN.out
  clear q1 q3
  by_cases c1 : p < 0
  ·go_wp2_with (first | (go_at_call 81; refine (impl_PortAt m t n b A B c d _ (by exact Kd.C_below hr bel) hn (by exact Kd.C_below ht bel) hk).mono ?_; rintro e w1 ⟨he, hb1⟩; rw [HP.out] at he; subst he; obtain ⟨hc1, hf1, hz1⟩ := bcell hb1; (try simp only [szs] at hz1); have hb2 := far2; obtain ⟨hc2, hf2, hz2⟩ := bcell hb2; (try simp only [szs] at hz2); try (first | obtain ⟨hy1, hy2, hy3, hy4⟩ := lts4 hz2 | obtain ⟨hy1, hy2, hy3⟩ := lts3 hz2 | obtain ⟨hy1, hy2⟩ := lts2 hz2 | have hy1 := lts1 hz2); have hb9 := hb1))
   go_ret
   exact ⟨by rw [HW.out, walk_bad HN.out hb hlo (by rw [HP.out]; exact c1)]; exact GotI.nil _ _, bel⟩
  by_cases c2 : p = 4
  ·subst c2
   by_cases c3 : n = b
   ·have e3 : (n != b) = false := bne_eq_false_iff_eq.2 c3
    have C3 := Lib.hid c3
    clear c3
    go_wp2_with (first | (go_at_call 81; refine (impl_PortAt m t n b A B c d _ (by exact Kd.C_below hr bel) hn (by exact Kd.C_below ht bel) hk).mono ?_; rintro e w1 ⟨he, hb1⟩; rw [HP.out] at he; subst he; obtain ⟨hc1, hf1, hz1⟩ := bcell hb1; (try simp only [szs] at hz1); have hb2 := far2; obtain ⟨hc2, hf2, hz2⟩ := bcell hb2; (try simp only [szs] at hz2); try (first | obtain ⟨hy1, hy2, hy3, hy4⟩ := lts4 hz2 | obtain ⟨hy1, hy2, hy3⟩ := lts3 hz2 | obtain ⟨hy1, hy2⟩ := lts2 hz2 | have hy1 := lts1 hz2); have hb9 := hb1))
    go_ret
    exact ⟨by rw [HW.out, walk_here HN.out hb hlo HP.out, if_pos C3.out]; exact GotI.mk (W0 := (w.alloc (.cells #[.int .i64 m.g.w, .int .i64 m.g.h, .slice A m.br.length c] 26)).alloc (.cells #[.slice B t.length d] 28)) (by exact Kd.R_below HO bel) (by simp only [szs]; omega), bel⟩
   ·have e3 : (n != b) = true := bne_iff_ne.2 c3
    have C3 := Lib.hid c3
    clear c3
    go_wp2_with (first | (go_at_call 81; refine (impl_PortAt m t n b A B c d _ (by exact Kd.C_below hr bel) hn (by exact Kd.C_below ht bel) hk).mono ?_; rintro e w1 ⟨he, hb1⟩; rw [HP.out] at he; subst he; obtain ⟨hc1, hf1, hz1⟩ := bcell hb1; (try simp only [szs] at hz1); have hb2 := far2; obtain ⟨hc2, hf2, hz2⟩ := bcell hb2; (try simp only [szs] at hz2); try (first | obtain ⟨hy1, hy2, hy3, hy4⟩ := lts4 hz2 | obtain ⟨hy1, hy2, hy3⟩ := lts3 hz2 | obtain ⟨hy1, hy2⟩ := lts2 hz2 | have hy1 := lts1 hz2); have hb9 := hb1))
    go_ret
    exact ⟨by rw [HW.out, walk_here HN.out hb hlo HP.out, if_neg C3.out]; exact GotI.nil _ _, bel⟩
  have e2 : (p == 4) = false := beq_eq_false_iff_ne.2 c2
  have C2 := Lib.hid c2
  clear c2
  have p0 : 0 ≤ p := by omega
  have p3 : p ≤ 3 := by have := C2.out; omega
  have hch : hasChannel m (4 * n + p) = hasChannel m (4 * n + portAt m t n b) := by rw [HP.out]
  have HCH := Lib.hid hch
  clear hch
  cases hc : hasChannel m (4 * n + p)
  ·go_wp2_with (first | (go_at_call 81; refine (impl_PortAt m t n b A B c d _ (by exact Kd.C_below hr bel) hn (by exact Kd.C_below ht bel) hk).mono ?_; rintro e w1 ⟨he, hb1⟩; rw [HP.out] at he; subst he; obtain ⟨hc1, hf1, hz1⟩ := bcell hb1; (try simp only [szs] at hz1); have hb2 := far2; obtain ⟨hc2, hf2, hz2⟩ := bcell hb2; (try simp only [szs] at hz2); try (first | obtain ⟨hy1, hy2, hy3, hy4⟩ := lts4 hz2 | obtain ⟨hy1, hy2, hy3⟩ := lts3 hz2 | obtain ⟨hy1, hy2⟩ := lts2 hz2 | have hy1 := lts1 hz2); have hb9 := hb1) | (go_at_call 82; refine (impl_HasChannel m _ A c _ (by exact Kd.C_below hr bel) hn).mono ?_; rintro e w1 ⟨rfl, hb1⟩; obtain ⟨hc1, hf1, hz1⟩ := bcell hb1; (try simp only [szs] at hz1); have hb2 := far2; obtain ⟨hc2, hf2, hz2⟩ := bcell hb2; (try simp only [szs] at hz2); try (first | obtain ⟨hy1, hy2, hy3, hy4⟩ := lts4 hz2 | obtain ⟨hy1, hy2, hy3⟩ := lts3 hz2 | obtain ⟨hy1, hy2⟩ := lts2 hz2 | have hy1 := lts1 hz2); have hb9 := hb1))
   go_ret
   exact ⟨by rw [HW.out, walk_stop HN.out hb hlo (by rw [HP.out]; exact p0) (by rw [HP.out]; exact C2.out) (by rw [← HCH.out]; exact hc)]; exact GotI.nil _ _, bel⟩
  by_cases c4 : (out.length : Int) = nodeCount m.g
  ·have e4 : ((out.length : Int) == nodeCount m.g) = true := beq_iff_eq.2 c4
   have C4 := Lib.hid c4
   clear c4
   go_wp2_with (first | (go_at_call 81; refine (impl_PortAt m t n b A B c d _ (by exact Kd.C_below hr bel) hn (by exact Kd.C_below ht bel) hk).mono ?_; rintro e w1 ⟨he, hb1⟩; rw [HP.out] at he; subst he; obtain ⟨hc1, hf1, hz1⟩ := bcell hb1; (try simp only [szs] at hz1); have hb2 := far2; obtain ⟨hc2, hf2, hz2⟩ := bcell hb2; (try simp only [szs] at hz2); try (first | obtain ⟨hy1, hy2, hy3, hy4⟩ := lts4 hz2 | obtain ⟨hy1, hy2, hy3⟩ := lts3 hz2 | obtain ⟨hy1, hy2⟩ := lts2 hz2 | have hy1 := lts1 hz2); have hb9 := hb1) | (go_at_call 82; refine (impl_HasChannel m _ A c _ (by exact Kd.C_below hr bel) hn).mono ?_; rintro e w1 ⟨rfl, hb1⟩; obtain ⟨hc1, hf1, hz1⟩ := bcell hb1; (try simp only [szs] at hz1); have hb2 := far2; obtain ⟨hc2, hf2, hz2⟩ := bcell hb2; (try simp only [szs] at hz2); try (first | obtain ⟨hy1, hy2, hy3, hy4⟩ := lts4 hz2 | obtain ⟨hy1, hy2, hy3⟩ := lts3 hz2 | obtain ⟨hy1, hy2⟩ := lts2 hz2 | have hy1 := lts1 hz2); have hb9 := hb1) | (go_at_call 36; refine (impl_NodeCount m.g _).mono ?_; rintro e w1 ⟨rfl, hb1⟩; obtain ⟨hc1, hf1, hz1⟩ := bcell hb1; (try simp only [szs] at hz1); have hb2 := far2; obtain ⟨hc2, hf2, hz2⟩ := bcell hb2; (try simp only [szs] at hz2); try (first | obtain ⟨hy1, hy2, hy3, hy4⟩ := lts4 hz2 | obtain ⟨hy1, hy2, hy3⟩ := lts3 hz2 | obtain ⟨hy1, hy2⟩ := lts2 hz2 | have hy1 := lts1 hz2); have hb9 := hb1))
   go_ret
   exact ⟨by rw [HW.out, walk_full HN.out hb C4.out (by rw [HP.out]; exact p0) (by rw [HP.out]; exact C2.out)]; exact GotI.nil _ _, bel⟩
  have e4 : ((out.length : Int) == nodeCount m.g) = false := beq_eq_false_iff_ne.2 c4
  have hlt : out.length < (nodeCount m.g).toNat := by omega
  clear c4
  have hnn := next_node p0 p3 hc
  have HNN := Lib.hid hnn
  clear hnn
  have HC := Lib.hid hc
  go_wp2_with (first | (go_at_call 81; refine (impl_PortAt m t n b A B c d _ (by exact Kd.C_below hr bel) hn (by exact Kd.C_below ht bel) hk).mono ?_; rintro e w1 ⟨he, hb1⟩; rw [HP.out] at he; subst he; obtain ⟨hc1, hf1, hz1⟩ := bcell hb1; (try simp only [szs] at hz1); have hb2 := far2; obtain ⟨hc2, hf2, hz2⟩ := bcell hb2; (try simp only [szs] at hz2); try (first | obtain ⟨hy1, hy2, hy3, hy4⟩ := lts4 hz2 | obtain ⟨hy1, hy2, hy3⟩ := lts3 hz2 | obtain ⟨hy1, hy2⟩ := lts2 hz2 | have hy1 := lts1 hz2); have hb9 := hb1) | (go_at_call 82; refine (impl_HasChannel m _ A c _ (by exact Kd.C_below hr bel) hn).mono ?_; rintro e w1 ⟨rfl, hb1⟩; obtain ⟨hc1, hf1, hz1⟩ := bcell hb1; (try simp only [szs] at hz1); have hb2 := far2; obtain ⟨hc2, hf2, hz2⟩ := bcell hb2; (try simp only [szs] at hz2); try (first | obtain ⟨hy1, hy2, hy3, hy4⟩ := lts4 hz2 | obtain ⟨hy1, hy2, hy3⟩ := lts3 hz2 | obtain ⟨hy1, hy2⟩ := lts2 hz2 | have hy1 := lts1 hz2); have hb9 := hb1) | (go_at_call 36; refine (impl_NodeCount m.g _).mono ?_; rintro e w1 ⟨rfl, hb1⟩; obtain ⟨hc1, hf1, hz1⟩ := bcell hb1; (try simp only [szs] at hz1); have hb2 := far2; obtain ⟨hc2, hf2, hz2⟩ := bcell hb2; (try simp only [szs] at hz2); try (first | obtain ⟨hy1, hy2, hy3, hy4⟩ := lts4 hz2 | obtain ⟨hy1, hy2, hy3⟩ := lts3 hz2 | obtain ⟨hy1, hy2⟩ := lts2 hz2 | have hy1 := lts1 hz2); have hb9 := hb1) | (at_builtin; refine app_int (W0 := (w.alloc (.cells #[.int .i64 m.g.w, .int .i64 m.g.h, .slice A m.br.length c] 26)).alloc (.cells #[.slice B t.length d] 28)) rfl (.tmp 67) (.tmp 72) 24 3 rfl Try.underlying24 info_int _ out _ rfl rfl (by exact Kd.R_below HO bel) bel (by omega) ?_; intro v1 w1 HO1 HB1; obtain ⟨hc1, hf1, hz1⟩ := bcell HB1; (try simp only [szs] at hz1); have hb2 := HB1; have hb9 := HB1) | (go_at_call 83; refine (impl_endOf m n p A c _ HN.out p0 p3).mono ?_; rintro e w1 ⟨rfl, hb1⟩; obtain ⟨hc1, hf1, hz1⟩ := bcell hb1; (try simp only [szs] at hz1); have hb2 := far2; obtain ⟨hc2, hf2, hz2⟩ := bcell hb2; (try simp only [szs] at hz2); try (first | obtain ⟨hy1, hy2, hy3, hy4⟩ := lts4 hz2 | obtain ⟨hy1, hy2, hy3⟩ := lts3 hz2 | obtain ⟨hy1, hy2⟩ := lts2 hz2 | have hy1 := lts1 hz2); have hb9 := hb1))
  have key : wt m t a b = walkFrom m t b (nextNode m.g n p) (out ++ [4 * n + p]) := by
   rw [HW.out, walk_on HN.out hb (by omega) (by rw [HP.out]; exact p0) (by rw [HP.out]; exact C2.out) (by rw [HP.out]; exact HC.out), HP.out]
  go_roundg ((nodeCount m.g).toNat - out.length)
  case measure => have := hlen'.out; omega
  case rel => exact ⟨out ++ [4 * n + p], _, rfl, HNN, ⟨by simp; omega, by simp; omega⟩, Lib.hid key, (by exact Kd.R_below HO1 bel), bel⟩

set_option maxHeartbeats 1000000 in
theorem spec_l04Walk (m : Mesh) (t : List Int) (a b : Int) (A B : Option Addr) (c d : Nat) (w : World) (hr : Kd.C (Kd.int .i64) w A m.br.length m.br) (hn : m.br.length ≤ 2097152) (ht : Kd.C (Kd.int .i64) w B t.length t) (hs : sized m t = true) (ha : isNode m.g a = true) (hb : isNode m.g b = true) :
  Calls Try.prog 68 #[.agg #[.int .i64 m.g.w, .int .i64 m.g.h, .slice A m.br.length c], .agg #[.slice B t.length d], .int .i64 a, .int .i64 b] w fun e w' => GotI w w' (walkFrom m t b a []) e ∧ Below w.heap.size w w' := by
 obtain ⟨n0, n1⟩ := count_le m.g
 obtain ⟨hm, hsz⟩ := sized_iff.1 hs
 have HSZ := Lib.hid hsz
 clear hsz
 go_enter Try.func68, Try.ntmps68
 go_wp2_with (go_at_call 28; refine (spec_NodeCount m.g _).mono ?_; rintro e w1 ⟨rfl, hb1⟩; obtain ⟨hc1, hf1, hz1⟩ := bcell hb1; (try simp only [szs] at hz1); have hb2 := far2; obtain ⟨hc2, hf2, hz2⟩ := bcell hb2; (try simp only [szs] at hz2); try (first | obtain ⟨hy1, hy2, hy3, hy4⟩ := lts4 hz2 | obtain ⟨hy1, hy2, hy3⟩ := lts3 hz2 | obtain ⟨hy1, hy2⟩ := lts2 hz2 | have hy1 := lts1 hz2); have hb9 := hb1)
 go_loopg [9, 11] ((nodeCount m.g).toNat + 1) (fun k v x wr => ∃ (out : List Int) (n : Int), x = .int .i64 n ∧ Hid (isNode m.g n = true) ∧ Hid (k + out.length = (nodeCount m.g).toNat + 1) ∧ Hid (walkFrom m t b a [] = walkFrom m t b n out) ∧ Kd.R (Kd.int .i64) 3 wr ((w.alloc (.cells #[.int .i64 m.g.w, .int .i64 m.g.h, .slice A m.br.length c] 26)).alloc (.cells #[.slice B t.length d] 28)).heap.size (fun _ => True) v out ∧ Below ((w.alloc (.cells #[.int .i64 m.g.w, .int .i64 m.g.h, .slice A m.br.length c] 26)).alloc (.cells #[.slice B t.length d] 28)).heap.size ((w.alloc (.cells #[.int .i64 m.g.w, .int .i64 m.g.h, .slice A m.br.length c] 26)).alloc (.cells #[.slice B t.length d] 28)) wr)
 case atStart => exact ⟨[], a, rfl, Lib.hid ha, Lib.hid (by simp), Lib.hid rfl, (by exact Kd.R_below (R_empty' (W0 := (w.alloc (.cells #[.int .i64 m.g.w, .int .i64 m.g.h, .slice A m.br.length c] 26)).alloc (.cells #[.slice B t.length d] 28)) (W := (w.alloc (.cells #[.int .i64 m.g.w, .int .i64 m.g.h, .slice A m.br.length c] 26)).alloc (.cells #[.slice B t.length d] 28)) _ _ (Nat.le_refl _) _ (by simp)) bel), bel⟩
 case round =>
  obtain ⟨out, n, rfl, HN, hlen, HW, HO, HB⟩ := hrel
  obtain ⟨Ao, co, rfl⟩ := Kd.R_slice HO
  obtain ⟨hc0, hf0, hz0⟩ := bcell HB
  simp only [szs] at hz0
  by_cases hlo : out.length ≤ (nodeCount m.g).toNat
  ·obtain ⟨q1, q2, q3, q4⟩ := node_bounds HN.out
   clear q1 q3
   obtain ⟨p1, p2, p3, p4⟩ := entry_place (g := m.g) (a := n) (b := b) HN.out hb
   have q5 : n * nodeCount m.g + b < (t.length : Int) := by rw [HSZ.out]; exact p4
   have hbb := node_bounds hb
   have hb0 : 0 ≤ b := hbb.2.1
   have hb1 : b ≤ 15 := hbb.2.2.2
   clear hbb p4
   obtain ⟨bb, off, rfl, hbl, hx⟩ := rdI_at ht (n * nodeCount m.g + b).toNat (by omega)
   have hxe := hx (n * nodeCount m.g + b).toNat (by omega)
   rw [Int.toNat_of_nonneg p3] at hxe
   obtain ⟨z1, z2, z3, z4, z5, z6⟩ := more hbl
   clear hx
   obtain ⟨p, hp⟩ : ∃ p, ri t (n * nodeCount m.g + b) = p := ⟨_, rfl⟩
   rw [hp] at hxe
   have hpe : entry m t n b = p := hp
   have HP := Lib.hid hpe
   clear hp hpe
   have hw := walkE (b := b) (at_ := n) hs hlo
   rw [HP.out] at hw
   have HE := Lib.hid hw
   clear hw
   by_cases c2 : p = 4
   ·subst c2
    by_cases c3 : n = b
    ·have e3 : (n != b) = false := bne_eq_false_iff_eq.2 c3
     have C3 := Lib.hid c3
     clear c3
     go_wp2
     go_ret
     exact ⟨by rw [HW.out, HE.out, if_pos trivial, if_pos C3.out]; exact GotI.mk (W0 := (w.alloc (.cells #[.int .i64 m.g.w, .int .i64 m.g.h, .slice A m.br.length c] 26)).alloc (.cells #[.slice (some ⟨bb, off, none⟩) t.length d] 28)) (by exact Kd.R_below HO bel) (by simp only [szs]; omega), bel⟩
    ·have e3 : (n != b) = true := bne_iff_ne.2 c3
     have C3 := Lib.hid c3
     clear c3
     go_wp2
     go_ret
     exact ⟨by rw [HW.out, HE.out, if_pos trivial, if_neg C3.out]; exact GotI.mk (W0 := (w.alloc (.cells #[.int .i64 m.g.w, .int .i64 m.g.h, .slice A m.br.length c] 26)).alloc (.cells #[.slice (some ⟨bb, off, none⟩) t.length d] 28)) (R_empty _ _ (bw_size bel)) (by simp only [szs]; omega), bel⟩
   have e2 : (p == 4) = false := beq_eq_false_iff_ne.2 c2
   have C2 := Lib.hid c2
   clear c2
   cases hi : inside p 0 3
   ·go_wp2_with (go_at_call 53; refine (spec_l01In _ _ _ _).mono ?_; rintro e w' ⟨rfl, rfl⟩)
    go_ret
    exact ⟨by rw [HW.out, HE.out, if_neg C2.out, hi]; exact GotI.mk (W0 := (w.alloc (.cells #[.int .i64 m.g.w, .int .i64 m.g.h, .slice A m.br.length c] 26)).alloc (.cells #[.slice (some ⟨bb, off, none⟩) t.length d] 28)) (R_empty _ _ (bw_size bel)) (by simp only [szs]; omega), bel⟩
   obtain ⟨p0, p7⟩ := inside_iff.1 hi
   cases hc : live m (4 * n + p)
   ·go_wp2_with (first | (go_at_call 53; refine (spec_l01In _ _ _ _).mono ?_; rintro e w' ⟨rfl, rfl⟩) | (go_at_call 78; refine (spec_l03Has m _ A c _ (by exact Kd.C_below hr bel) hn).mono ?_; rintro e w1 ⟨rfl, hb1⟩; obtain ⟨hc1, hf1, hz1⟩ := bcell hb1; (try simp only [szs] at hz1); have hb2 := far2; obtain ⟨hc2, hf2, hz2⟩ := bcell hb2; (try simp only [szs] at hz2); try (first | obtain ⟨hy1, hy2, hy3, hy4⟩ := lts4 hz2 | obtain ⟨hy1, hy2, hy3⟩ := lts3 hz2 | obtain ⟨hy1, hy2⟩ := lts2 hz2 | have hy1 := lts1 hz2); have hb9 := hb1))
    go_ret
    exact ⟨by rw [HW.out, HE.out, if_neg C2.out, hc, Bool.and_false]; exact GotI.mk (W0 := (w.alloc (.cells #[.int .i64 m.g.w, .int .i64 m.g.h, .slice A m.br.length c] 26)).alloc (.cells #[.slice (some ⟨bb, off, none⟩) t.length d] 28)) (R_empty _ _ (bw_size bel)) (by simp only [szs]; omega), bel⟩
   have HC := Lib.hid hc
   go_wp2_with (first | (go_at_call 53; refine (spec_l01In _ _ _ _).mono ?_; rintro e w' ⟨rfl, rfl⟩) | (go_at_call 78; refine (spec_l03Has m _ A c _ (by exact Kd.C_below hr bel) hn).mono ?_; rintro e w1 ⟨rfl, hb1⟩; obtain ⟨hc1, hf1, hz1⟩ := bcell hb1; (try simp only [szs] at hz1); have hb2 := far2; obtain ⟨hc2, hf2, hz2⟩ := bcell hb2; (try simp only [szs] at hz2); try (first | obtain ⟨hy1, hy2, hy3, hy4⟩ := lts4 hz2 | obtain ⟨hy1, hy2, hy3⟩ := lts3 hz2 | obtain ⟨hy1, hy2⟩ := lts2 hz2 | have hy1 := lts1 hz2); have hb9 := hb1) | (at_builtin; refine app_int (W0 := (w.alloc (.cells #[.int .i64 m.g.w, .int .i64 m.g.h, .slice A m.br.length c] 26)).alloc (.cells #[.slice (some ⟨bb, off, none⟩) t.length d] 28)) rfl (.tmp 51) (.tmp 56) 24 3 rfl Try.underlying24 info_int _ out _ rfl rfl (by exact Kd.R_below HO bel) bel (by omega) ?_; intro v1 w1 HO1 HB1; obtain ⟨hc1, hf1, hz1⟩ := bcell HB1; (try simp only [szs] at hz1); have hb2 := HB1; have hb9 := HB1) | (go_at_call 79; refine (spec_NextNode m.g _ _ _).mono ?_; rintro e w1 ⟨rfl, hb1⟩; obtain ⟨hc1, hf1, hz1⟩ := bcell hb1; (try simp only [szs] at hz1); have hb2 := far2; obtain ⟨hc2, hf2, hz2⟩ := bcell hb2; (try simp only [szs] at hz2); try (first | obtain ⟨hy1, hy2, hy3, hy4⟩ := lts4 hz2 | obtain ⟨hy1, hy2, hy3⟩ := lts3 hz2 | obtain ⟨hy1, hy2⟩ := lts2 hz2 | have hy1 := lts1 hz2); have hb9 := hb1))
   have key : walkFrom m t b a [] = walkFrom m t b (nextNode m.g n p) (out ++ [4 * n + p]) := by
    rw [HW.out, HE.out, if_neg C2.out, hi, HC.out]; rfl
   go_roundg ((nodeCount m.g).toNat - out.length)
   case measure => have := hlen.out; omega
   case rel => exact ⟨out ++ [4 * n + p], _, rfl, Lib.hid (next_live p0 p7 hm HC.out), Lib.hid (by simp; omega), Lib.hid key, (by exact Kd.R_below HO1 bel), bel⟩
  ·go_wp2
   go_ret
   exact ⟨by rw [HW.out, walk_over (by omega)]; exact GotI.mk (W0 := (w.alloc (.cells #[.int .i64 m.g.w, .int .i64 m.g.h, .slice A m.br.length c] 26)).alloc (.cells #[.slice B t.length d] 28)) (R_empty _ _ (bw_size bel)) (by simp only [szs]; omega), bel⟩
theorem spec_l04Sized (m : Mesh) (t : List Int) (A B : Option Addr) (c d : Nat) (w : World) (hr : Kd.C (Kd.int .i64) w A m.br.length m.br) (hn : m.br.length ≤ 2097152) (hk : t.length ≤ 2097152) :
    Calls Try.prog 67 #[.agg #[.int .i64 m.g.w, .int .i64 m.g.h, .slice A m.br.length c], .agg #[.slice B t.length d]] w fun e w' => e = .returned (.bool (sized m t)) ∧ Below w.heap.size w w' := by
  obtain ⟨n0, n1⟩ := count_le m.g
  have p5 : 0 ≤ nodeCount m.g * nodeCount m.g := Int.mul_nonneg n0 n0
  have p6 : nodeCount m.g * nodeCount m.g ≤ 256 := Int.mul_le_mul n1 n1 n0 (by omega)
  go_enter Try.func67, Try.ntmps67
  cases hm : meshOk m
  · go_wp2_with (first | (go_at_call 28; refine (spec_NodeCount m.g _).mono ?_; rintro e w1 ⟨rfl, hb1⟩; obtain ⟨hc1, hf1, hz1⟩ := bcell hb1; (try simp only [szs] at hz1); have hb2 := far2; obtain ⟨hc2, hf2, hz2⟩ := bcell hb2; (try simp only [szs] at hz2); try (first | obtain ⟨hy1, hy2, hy3, hy4⟩ := lts4 hz2 | obtain ⟨hy1, hy2, hy3⟩ := lts3 hz2 | obtain ⟨hy1, hy2⟩ := lts2 hz2 | have hy1 := lts1 hz2); have hb9 := hb1) | (go_at_call 77; refine (spec_MeshOk m _ _ _ (by exact Kd.C_below hr bel) hn).mono ?_; rintro e w1 ⟨rfl, hb1⟩; obtain ⟨hc1, hf1, hz1⟩ := bcell hb1; (try simp only [szs] at hz1); have hb2 := far2; obtain ⟨hc2, hf2, hz2⟩ := bcell hb2; (try simp only [szs] at hz2); try (first | obtain ⟨hy1, hy2, hy3, hy4⟩ := lts4 hz2 | obtain ⟨hy1, hy2, hy3⟩ := lts3 hz2 | obtain ⟨hy1, hy2⟩ := lts2 hz2 | have hy1 := lts1 hz2); have hb9 := hb1))
    go_ret
    exact ⟨ret_bool (by simp [sized, hm]), bel⟩
  · go_wp2_with (first | (go_at_call 28; refine (spec_NodeCount m.g _).mono ?_; rintro e w1 ⟨rfl, hb1⟩; obtain ⟨hc1, hf1, hz1⟩ := bcell hb1; (try simp only [szs] at hz1); have hb2 := far2; obtain ⟨hc2, hf2, hz2⟩ := bcell hb2; (try simp only [szs] at hz2); try (first | obtain ⟨hy1, hy2, hy3, hy4⟩ := lts4 hz2 | obtain ⟨hy1, hy2, hy3⟩ := lts3 hz2 | obtain ⟨hy1, hy2⟩ := lts2 hz2 | have hy1 := lts1 hz2); have hb9 := hb1) | (go_at_call 77; refine (spec_MeshOk m _ _ _ (by exact Kd.C_below hr bel) hn).mono ?_; rintro e w1 ⟨rfl, hb1⟩; obtain ⟨hc1, hf1, hz1⟩ := bcell hb1; (try simp only [szs] at hz1); have hb2 := far2; obtain ⟨hc2, hf2, hz2⟩ := bcell hb2; (try simp only [szs] at hz2); try (first | obtain ⟨hy1, hy2, hy3, hy4⟩ := lts4 hz2 | obtain ⟨hy1, hy2, hy3⟩ := lts3 hz2 | obtain ⟨hy1, hy2⟩ := lts2 hz2 | have hy1 := lts1 hz2); have hb9 := hb1))
    go_ret
    exact ⟨ret_bool (by simp [sized, hm]; first | done | rfl | (rw [Bool.eq_iff_iff]; simp)), bel⟩

theorem impl_TableOk_1 (m : Mesh) (t : List Int) (a b : Int) (A B : Option Addr) (c d gm gt : Nat) (w : World) (hr : Kd.C (Kd.int .i64) w A m.br.length m.br) (hn : m.br.length ≤ 2097152) (ht : Kd.C (Kd.int .i64) w B t.length t) (hk : t.length ≤ 2097152)
    (h0 : w.cell? ⟨gm, 0, none⟩ = some (.int .i64 m.g.w)) (h1 : w.cell? ⟨gm, 1, none⟩ = some (.int .i64 m.g.h)) (h2 : w.cell? ⟨gm, 2, none⟩ = some (.slice A m.br.length c)) (h3 : w.cell? ⟨gt, 0, none⟩ = some (.slice B t.length d)) :
    Calls Try.prog 73 #[.int .i64 a, .int .i64 b, .pointer (some ⟨gm, 0, none⟩), .pointer (some ⟨gt, 0, none⟩)] w fun e w' => e = .returned (.bool (decide (0 < (wt m t a b).length))) ∧ Below w.heap.size w w' := by
  go_enter Try.func73, Try.ntmps73
  go_wp2_with (go_at_call 74; refine (impl_WalkTable m t a b A B c d _ (by exact Kd.C_below hr bel) hn (by exact Kd.C_below ht bel) hk).mono ?_; rintro e w1 ⟨hg1, hb1⟩; obtain ⟨A1, c1, rfl, hk1, hr1⟩ := hg1.read; obtain ⟨hc1, hf1, hz1⟩ := bcell hb1; (try simp only [szs] at hz1); have hb2 := far2; obtain ⟨hc2, hf2, hz2⟩ := bcell hb2; (try simp only [szs] at hz2); try (first | obtain ⟨hy1, hy2, hy3, hy4⟩ := lts4 hz2 | obtain ⟨hy1, hy2, hy3⟩ := lts3 hz2 | obtain ⟨hy1, hy2⟩ := lts2 hz2 | have hy1 := lts1 hz2); have hb9 := hb1)
  go_ret
  exact ⟨ret_bool (by first | rfl | simp), bel⟩

set_option maxHeartbeats 1000000 in
theorem impl_pairs_TableOk (m : Mesh) (t : List Int) (A B : Option Addr) (c d gm gt : Nat) (w : World) (hr : Kd.C (Kd.int .i64) w A m.br.length m.br) (hn : m.br.length ≤ 2097152) (ht : Kd.C (Kd.int .i64) w B t.length t) (hk : t.length ≤ 2097152)
  (h0 : w.cell? ⟨gm, 0, none⟩ = some (.int .i64 m.g.w)) (h1 : w.cell? ⟨gm, 1, none⟩ = some (.int .i64 m.g.h)) (h2 : w.cell? ⟨gm, 2, none⟩ = some (.slice A m.br.length c)) (h3 : w.cell? ⟨gt, 0, none⟩ = some (.slice B t.length d)) :
  Calls Try.prog 72 #[.agg #[.int .i64 m.g.w, .int .i64 m.g.h], .func (.func 73) #[] #[.pointer (some ⟨gm, 0, none⟩), .pointer (some ⟨gt, 0, none⟩)]] w fun e w' => e = .returned (.bool (pairsOk m t)) ∧ Below w.heap.size w w' := by
 obtain ⟨n0, n1⟩ := count_le m.g
 obtain ⟨n, hnn⟩ : ∃ n : Nat, nodeCount m.g = (n : Int) := ⟨(nodeCount m.g).toNat, by omega⟩
 have hn16 : n ≤ 16 := by omega
 have hN : nN m.g = n := by unfold nN; omega
 have HN := Lib.hid hN
 have HC := Lib.hid hnn
 clear hN n0 n1 hnn
 have g0 := World.block_lt_of_cell? w _ h0
 have g1 := World.block_lt_of_cell? w _ h3
 have hcall : ∀ (a b : Int) (w' : World), Below w.heap.size w w' → Calls Try.prog 73 #[.int .i64 a, .int .i64 b, .pointer (some ⟨gm, 0, none⟩), .pointer (some ⟨gt, 0, none⟩)] w' fun e w'' => e = .returned (.bool (decide (0 < (wt m t a b).length))) ∧ Below w'.heap.size w' w'' := by
  intro a b w' hb
  obtain ⟨hc, _, _⟩ := bcell hb
  exact impl_TableOk_1 m t a b A B c d gm gt w' (Kd.C_below hr hb) hn (Kd.C_below ht hb) hk ((hc _ _ g0).trans h0) ((hc _ _ g0).trans h1) ((hc _ _ g0).trans h2) ((hc _ _ g1).trans h3)
 have HCALL := Lib.hid hcall
 clear hcall h0 h1 h2 h3 g0 g1
 go_enter Try.func72, Try.ntmps72
 go_wp2_with (go_at_call 36; refine (impl_NodeCount m.g _).mono ?_; rintro e w1 ⟨he, hb1⟩; rw [HC.out] at he; subst he; obtain ⟨hc1, hf1, hz1⟩ := bcell hb1; (try simp only [szs] at hz1); have hb2 := far2; obtain ⟨hc2, hf2, hz2⟩ := bcell hb2; (try simp only [szs] at hz2); try (first | obtain ⟨hy1, hy2, hy3, hy4⟩ := lts4 hz2 | obtain ⟨hy1, hy2, hy3⟩ := lts3 hz2 | obtain ⟨hy1, hy2⟩ := lts2 hz2 | have hy1 := lts1 hz2); have hb9 := hb1)
 go_loopw [11] (fun i wr => ∃ a : Nat, a ≤ n ∧ i = .int .i64 a ∧ Hid (∀ x, x < a → allI (nN m.g) (pairOk m t x) = true) ∧ Below w.heap.size w wr) (fun i _ => n - (intOf i).toNat)
 case atStart => exact ⟨0, Nat.zero_le _, rfl, Lib.hid fun x h => absurd h (Nat.not_lt_zero _), bel⟩
 case round =>
  obtain ⟨a, ha, rfl, HA, HB⟩ := hrel
  by_cases hlt : a < n
  ·obtain ⟨wo, rfl⟩ : ∃ wo : World, wo = wr := ⟨_, rfl⟩
   go_wp2
   go_loopw [15] (fun i wr => ∃ b : Nat, b ≤ n ∧ i = .int .i64 b ∧ Hid (∀ x, x < b → pairOk m t a x = true) ∧ Below w.heap.size w wr) (fun i _ => n - (intOf i).toNat)
   case atStart => exact ⟨0, Nat.zero_le _, rfl, Lib.hid fun x h => absurd h (Nat.not_lt_zero _), HB⟩
   case round =>
    obtain ⟨b, hb, rfl, HA2, HB2⟩ := hrel
    by_cases hlt2 : b < n
    ·by_cases e : a = b
     ·have e1 : ((a : Int) != (b : Int)) = false := by simp [e]
      have E := Lib.hid e
      clear e
      go_wp2
      go_roundw
      case rel => exact ⟨b + 1, by omega, by go_num, Lib.hid (upto HA2.out (by simp [pairOk, E.out])), bel⟩
      case measure => simp [intOf]; omega
     ·have e1 : ((a : Int) != (b : Int)) = true := bne_iff_ne.2 (by omega)
      have E := Lib.hid e
      clear e
      cases hp : decide (0 < (wt m t (a : Int) (b : Int)).length)
      ·have HP := Lib.hid hp
       clear hp
       go_wp2_with (go_at_call 73; refine (HCALL.out _ _ _ (by exact bel)).mono ?_; rintro e w1 ⟨he, hb1⟩; rw [HP.out] at he; subst he; obtain ⟨hc1, hf1, hz1⟩ := bcell hb1; (try simp only [szs] at hz1); have hb2 := far2; obtain ⟨hc2, hf2, hz2⟩ := bcell hb2; (try simp only [szs] at hz2); try (first | obtain ⟨hy1, hy2, hy3, hy4⟩ := lts4 hz2 | obtain ⟨hy1, hy2, hy3⟩ := lts3 hz2 | obtain ⟨hy1, hy2⟩ := lts2 hz2 | have hy1 := lts1 hz2); have hb9 := hb1)
       go_ret
       exact ⟨ret_bool (allI_false a (by rw [HN.out]; exact hlt) (allI_false b (by rw [HN.out]; exact hlt2) (by simp [pairOk, E.out, HP.out]))).symm, bel⟩
      ·have HP := Lib.hid hp
       clear hp
       go_wp2_with (go_at_call 73; refine (HCALL.out _ _ _ (by exact bel)).mono ?_; rintro e w1 ⟨he, hb1⟩; rw [HP.out] at he; subst he; obtain ⟨hc1, hf1, hz1⟩ := bcell hb1; (try simp only [szs] at hz1); have hb2 := far2; obtain ⟨hc2, hf2, hz2⟩ := bcell hb2; (try simp only [szs] at hz2); try (first | obtain ⟨hy1, hy2, hy3, hy4⟩ := lts4 hz2 | obtain ⟨hy1, hy2, hy3⟩ := lts3 hz2 | obtain ⟨hy1, hy2⟩ := lts2 hz2 | have hy1 := lts1 hz2); have hb9 := hb1)
       go_roundw
       case rel => exact ⟨b + 1, by omega, by go_num, Lib.hid (upto HA2.out (by simp [pairOk, E.out, HP.out])), bel⟩
       case measure => simp [intOf]; omega
    ·go_wp2
     go_roundw
     case rel => exact ⟨a + 1, by omega, by go_num, Lib.hid (upto HA.out (allI_true (fun x hx => HA2.out x (by rw [HN.out] at hx; omega)))), bel⟩
     case measure => simp [intOf]; omega
  ·go_wp2
   go_ret
   exact ⟨ret_bool (allI_true (fun x hx => HA.out x (by rw [HN.out] at hx; omega))).symm, bel⟩

set_option maxHeartbeats 1000000 in
theorem impl_TableOk (m : Mesh) (t : List Int) (A B : Option Addr) (c d : Nat) (w : World) (hr : Kd.C (Kd.int .i64) w A m.br.length m.br) (hn : m.br.length ≤ 2097152) (ht : Kd.C (Kd.int .i64) w B t.length t) (hk : t.length ≤ 2097152) :
  Calls Try.prog 57 #[.agg #[.int .i64 m.g.w, .int .i64 m.g.h, .slice A m.br.length c], .agg #[.slice B t.length d]] w fun e w' => e = .returned (.bool (tableOk m t)) ∧ Below w.heap.size w w' := by
 have htk := tableOk_parts m t
 have HTK := Lib.hid htk
 obtain ⟨n0, n1⟩ := count_le m.g
 obtain ⟨n, hnn⟩ : ∃ n : Nat, nodeCount m.g = (n : Int) := ⟨(nodeCount m.g).toNat, by omega⟩
 have hn16 : n ≤ 16 := by omega
 have hN : nN m.g = n := by unfold nN; omega
 have HN := Lib.hid hN
 have HC := Lib.hid hnn
 clear hN n0 n1 hnn htk
 have p5 : 0 ≤ (n : Int) * (n : Int) := Int.mul_nonneg (by omega) (by omega)
 have p6 : (n : Int) * (n : Int) ≤ 256 := by
  have := Int.mul_le_mul (show (n : Int) ≤ 16 by omega) (show (n : Int) ≤ 16 by omega) (show 0 ≤ (n : Int) by omega) (by omega)
  omega
 go_enter Try.func57, Try.ntmps57
 cases hm : meshOk m
 ·go_wp2_with (first | (go_at_call 36; refine (impl_NodeCount m.g _).mono ?_; rintro e w1 ⟨he, hb1⟩; rw [HC.out] at he; subst he; obtain ⟨hc1, hf1, hz1⟩ := bcell hb1; (try simp only [szs] at hz1); have hb2 := far2; obtain ⟨hc2, hf2, hz2⟩ := bcell hb2; (try simp only [szs] at hz2); try (first | obtain ⟨hy1, hy2, hy3, hy4⟩ := lts4 hz2 | obtain ⟨hy1, hy2, hy3⟩ := lts3 hz2 | obtain ⟨hy1, hy2⟩ := lts2 hz2 | have hy1 := lts1 hz2); have hb9 := hb1) | (go_at_call 71; refine (impl_MeshOk m _ _ _ (by exact Kd.C_below hr bel) hn).mono ?_; rintro e w1 ⟨rfl, hb1⟩; obtain ⟨hc1, hf1, hz1⟩ := bcell hb1; (try simp only [szs] at hz1); have hb2 := far2; obtain ⟨hc2, hf2, hz2⟩ := bcell hb2; (try simp only [szs] at hz2); try (first | obtain ⟨hy1, hy2, hy3, hy4⟩ := lts4 hz2 | obtain ⟨hy1, hy2, hy3⟩ := lts3 hz2 | obtain ⟨hy1, hy2⟩ := lts2 hz2 | have hy1 := lts1 hz2); have hb9 := hb1))
  go_ret
  exact ⟨ret_bool (by rw [HTK.out]; simp [sized, hm]), bel⟩
 by_cases hs : (t.length : Int) = (n : Int) * (n : Int)
 ·have e1 : ((t.length : Int) != (n : Int) * (n : Int)) = false := bne_eq_false_iff_eq.2 hs
  have hsz : sized m t = true := sized_iff.2 ⟨hm, by rw [HC.out]; exact hs⟩
  have HSZ := Lib.hid hsz
  have HS := Lib.hid hs
  clear hs hsz
  go_wp2_with (first | (go_at_call 36; refine (impl_NodeCount m.g _).mono ?_; rintro e w1 ⟨he, hb1⟩; rw [HC.out] at he; subst he; obtain ⟨hc1, hf1, hz1⟩ := bcell hb1; (try simp only [szs] at hz1); have hb2 := far2; obtain ⟨hc2, hf2, hz2⟩ := bcell hb2; (try simp only [szs] at hz2); try (first | obtain ⟨hy1, hy2, hy3, hy4⟩ := lts4 hz2 | obtain ⟨hy1, hy2, hy3⟩ := lts3 hz2 | obtain ⟨hy1, hy2⟩ := lts2 hz2 | have hy1 := lts1 hz2); have hb9 := hb1) | (go_at_call 71; refine (impl_MeshOk m _ _ _ (by exact Kd.C_below hr bel) hn).mono ?_; rintro e w1 ⟨rfl, hb1⟩; obtain ⟨hc1, hf1, hz1⟩ := bcell hb1; (try simp only [szs] at hz1); have hb2 := far2; obtain ⟨hc2, hf2, hz2⟩ := bcell hb2; (try simp only [szs] at hz2); try (first | obtain ⟨hy1, hy2, hy3, hy4⟩ := lts4 hz2 | obtain ⟨hy1, hy2, hy3⟩ := lts3 hz2 | obtain ⟨hy1, hy2⟩ := lts2 hz2 | have hy1 := lts1 hz2); have hb9 := hb1))
  go_loopw [23] (fun i wr => ∃ a : Nat, a ≤ n ∧ i = .int .i64 a ∧ Hid (∀ x : Nat, x < a → (entry m t x x == 4) = true) ∧ Below ((w.alloc (.cells #[.int .i64 m.g.w, .int .i64 m.g.h, .slice A m.br.length c] 26)).alloc (.cells #[.slice B t.length d] 28)).heap.size ((w.alloc (.cells #[.int .i64 m.g.w, .int .i64 m.g.h, .slice A m.br.length c] 26)).alloc (.cells #[.slice B t.length d] 28)) wr) (fun i _ => n - (intOf i).toNat)
  case atStart => exact ⟨0, Nat.zero_le _, rfl, Lib.hid fun x h => absurd h (Nat.not_lt_zero _), bel⟩
  case round =>
   obtain ⟨a, ha, rfl, HA, HB⟩ := hrel
   obtain ⟨hc0, hf0, hz0⟩ := bcell HB
   simp only [szs] at hz0
   by_cases hlt : a < n
   ·have hpl := entry_place (g := m.g) (a := (a : Int)) (b := (a : Int)) (isNode_nat (by rw [HN.out]; exact hlt)) (isNode_nat (by rw [HN.out]; exact hlt))
    rw [HC.out] at hpl
    obtain ⟨q1, q2, q3, q4⟩ := hpl
    have q5 : (a : Int) * (n : Int) + (a : Int) < (t.length : Int) := by rw [HS.out]; exact q4
    clear q4
    obtain ⟨bb, off, rfl, hbl, hx⟩ := rdI_at ht ((a : Int) * (n : Int) + (a : Int)).toNat (by omega)
    have hxe := hx ((a : Int) * (n : Int) + (a : Int)).toNat (by omega)
    rw [Int.toNat_of_nonneg q3] at hxe
    obtain ⟨z1, z2, z3, z4, z5, z6⟩ := more hbl
    clear hx
    obtain ⟨p, hp⟩ : ∃ p, ri t ((a : Int) * (n : Int) + (a : Int)) = p := ⟨_, rfl⟩
    rw [hp] at hxe
    have hpe : entry m t a a = p := by unfold entry; rw [HC.out]; exact hp
    have HP := Lib.hid hpe
    clear hp hpe
    have htn : ((a : Int) * (n : Int) + (a : Int)).toNat = a * n + a := by omega
    rw [htn] at hxe
    have q6 : a * n + a < t.length := by omega
    clear htn
    by_cases c : p = 4
    ·subst c
     go_wp2
     go_roundw
     case rel => exact ⟨a + 1, by omega, by go_num, Lib.hid (upto HA.out (by rw [HP.out]; rfl)), bel⟩
     case measure => simp [intOf]; omega
    ·have e2 : (p != 4) = true := bne_iff_ne.2 c
     have C := Lib.hid c
     clear c
     go_wp2
     go_ret
     exact ⟨ret_bool (by rw [HTK.out, show diagOk m t = false from allI_false a (by rw [HN.out]; exact hlt) (by rw [HP.out]; simpa using C.out)]; simp), bel⟩
   ·have hbd : diagOk m t = true := allI_true (fun x hx => HA.out x (by rw [HN.out] at hx; omega))
    have HBD := Lib.hid hbd
    clear hbd
    go_wp2_with (go_at_call 72; refine (impl_pairs_TableOk m t A B c d _ _ _ (by exact Kd.C_below hr bel) hn (by exact Kd.C_below ht bel) hk ?_ ?_ ?_ ?_).mono ?_; go_simp; go_simp; go_simp; go_simp; rintro e w1 ⟨rfl, hb1⟩; obtain ⟨hc1, hf1, hz1⟩ := bcell hb1; (try simp only [szs] at hz1); have hb2 := far2; obtain ⟨hc2, hf2, hz2⟩ := bcell hb2; (try simp only [szs] at hz2); try (first | obtain ⟨hy1, hy2, hy3, hy4⟩ := lts4 hz2 | obtain ⟨hy1, hy2, hy3⟩ := lts3 hz2 | obtain ⟨hy1, hy2⟩ := lts2 hz2 | have hy1 := lts1 hz2); have hb9 := hb1)
    go_ret
    exact ⟨ret_bool (by rw [HTK.out, HSZ.out, HBD.out]; simp), bel⟩
 ·have e1 : ((t.length : Int) != (n : Int) * (n : Int)) = true := bne_iff_ne.2 hs
  have HS := Lib.hid hs
  clear hs
  go_wp2_with (first | (go_at_call 36; refine (impl_NodeCount m.g _).mono ?_; rintro e w1 ⟨he, hb1⟩; rw [HC.out] at he; subst he; obtain ⟨hc1, hf1, hz1⟩ := bcell hb1; (try simp only [szs] at hz1); have hb2 := far2; obtain ⟨hc2, hf2, hz2⟩ := bcell hb2; (try simp only [szs] at hz2); try (first | obtain ⟨hy1, hy2, hy3, hy4⟩ := lts4 hz2 | obtain ⟨hy1, hy2, hy3⟩ := lts3 hz2 | obtain ⟨hy1, hy2⟩ := lts2 hz2 | have hy1 := lts1 hz2); have hb9 := hb1) | (go_at_call 71; refine (impl_MeshOk m _ _ _ (by exact Kd.C_below hr bel) hn).mono ?_; rintro e w1 ⟨rfl, hb1⟩; obtain ⟨hc1, hf1, hz1⟩ := bcell hb1; (try simp only [szs] at hz1); have hb2 := far2; obtain ⟨hc2, hf2, hz2⟩ := bcell hb2; (try simp only [szs] at hz2); try (first | obtain ⟨hy1, hy2, hy3, hy4⟩ := lts4 hz2 | obtain ⟨hy1, hy2, hy3⟩ := lts3 hz2 | obtain ⟨hy1, hy2⟩ := lts2 hz2 | have hy1 := lts1 hz2); have hb9 := hb1))
  go_ret
  exact ⟨ret_bool (by rw [HTK.out]; simp [sized, HC.out, HS.out]), bel⟩

set_option maxHeartbeats 1000000 in
theorem spec_TableOk (m : Mesh) (t : List Int) (A B : Option Addr) (c d : Nat) (w : World) (hr : Kd.C (Kd.int .i64) w A m.br.length m.br) (hn : m.br.length ≤ 2097152) (ht : Kd.C (Kd.int .i64) w B t.length t) (hk : t.length ≤ 2097152) :
  Calls Try.prog 49 #[.agg #[.int .i64 m.g.w, .int .i64 m.g.h, .slice A m.br.length c], .agg #[.slice B t.length d]] w fun e w' => e = .returned (.bool (tableOk m t)) ∧ Below w.heap.size w w' := by
 have htk := tableOk_cells m t
 have HTK := Lib.hid htk
 obtain ⟨n0, n1⟩ := count_le m.g
 obtain ⟨n, hnn⟩ : ∃ n : Nat, nodeCount m.g = (n : Int) := ⟨(nodeCount m.g).toNat, by omega⟩
 have hn16 : n ≤ 16 := by omega
 have hN : nN m.g = n := by unfold nN; omega
 have HN := Lib.hid hN
 have HC := Lib.hid hnn
 clear hN n0 n1 hnn htk
 go_enter Try.func49, Try.ntmps49
 cases hsz : sized m t
 ·go_wp2_with (go_at_call 67; refine (spec_l04Sized m t A B _ _ _ (by exact Kd.C_below hr bel) hn hk).mono ?_; rintro e w1 ⟨rfl, hb1⟩; obtain ⟨hc1, hf1, hz1⟩ := bcell hb1; (try simp only [szs] at hz1); have hb2 := far2; obtain ⟨hc2, hf2, hz2⟩ := bcell hb2; (try simp only [szs] at hz2); try (first | obtain ⟨hy1, hy2, hy3, hy4⟩ := lts4 hz2 | obtain ⟨hy1, hy2, hy3⟩ := lts3 hz2 | obtain ⟨hy1, hy2⟩ := lts2 hz2 | have hy1 := lts1 hz2); have hb9 := hb1)
  go_ret
  exact ⟨ret_bool (by rw [HTK.out, hsz]; rfl), bel⟩
 have hs := (sized_iff.1 hsz).2
 rw [HC.out] at hs
 have HS := Lib.hid hs
 clear hs
 go_wp2_with (first | (go_at_call 67; refine (spec_l04Sized m t A B _ _ _ (by exact Kd.C_below hr bel) hn hk).mono ?_; rintro e w1 ⟨rfl, hb1⟩; obtain ⟨hc1, hf1, hz1⟩ := bcell hb1; (try simp only [szs] at hz1); have hb2 := far2; obtain ⟨hc2, hf2, hz2⟩ := bcell hb2; (try simp only [szs] at hz2); try (first | obtain ⟨hy1, hy2, hy3, hy4⟩ := lts4 hz2 | obtain ⟨hy1, hy2, hy3⟩ := lts3 hz2 | obtain ⟨hy1, hy2⟩ := lts2 hz2 | have hy1 := lts1 hz2); have hb9 := hb1) | (go_at_call 28; refine (spec_NodeCount m.g _).mono ?_; rintro e w1 ⟨he, hb1⟩; rw [HC.out] at he; subst he; obtain ⟨hc1, hf1, hz1⟩ := bcell hb1; (try simp only [szs] at hz1); have hb2 := far2; obtain ⟨hc2, hf2, hz2⟩ := bcell hb2; (try simp only [szs] at hz2); try (first | obtain ⟨hy1, hy2, hy3, hy4⟩ := lts4 hz2 | obtain ⟨hy1, hy2, hy3⟩ := lts3 hz2 | obtain ⟨hy1, hy2⟩ := lts2 hz2 | have hy1 := lts1 hz2); have hb9 := hb1))
 go_loopw [6] (fun i wr => ∃ a : Nat, a ≤ n ∧ i = .int .i64 a ∧ Hid (∀ x : Nat, x < a → allI (nN m.g) (cellOk m t x) = true) ∧ Below ((w.alloc (.cells #[.int .i64 m.g.w, .int .i64 m.g.h, .slice A m.br.length c] 26)).alloc (.cells #[.slice B t.length d] 28)).heap.size ((w.alloc (.cells #[.int .i64 m.g.w, .int .i64 m.g.h, .slice A m.br.length c] 26)).alloc (.cells #[.slice B t.length d] 28)) wr) (fun i _ => n - (intOf i).toNat)
 case atStart => exact ⟨0, Nat.zero_le _, rfl, Lib.hid fun x h => absurd h (Nat.not_lt_zero _), bel⟩
 case round =>
  obtain ⟨a, ha, rfl, HA, HB⟩ := hrel
  by_cases hlt : a < n
  ·obtain ⟨wo, rfl⟩ : ∃ wo : World, wo = wr := ⟨_, rfl⟩
   go_wp2
   go_loopw [7] (fun i wr => ∃ b : Nat, b ≤ n ∧ i = .int .i64 b ∧ Hid (∀ x, x < b → cellOk m t a x = true) ∧ Below ((w.alloc (.cells #[.int .i64 m.g.w, .int .i64 m.g.h, .slice A m.br.length c] 26)).alloc (.cells #[.slice B t.length d] 28)).heap.size ((w.alloc (.cells #[.int .i64 m.g.w, .int .i64 m.g.h, .slice A m.br.length c] 26)).alloc (.cells #[.slice B t.length d] 28)) wr) (fun i _ => n - (intOf i).toNat)
   case atStart => exact ⟨0, Nat.zero_le _, rfl, Lib.hid fun x h => absurd h (Nat.not_lt_zero _), HB⟩
   case round =>
    have HBo := Lib.hid HB
    clear HB
    obtain ⟨b, hb, rfl, HA2, HB⟩ := hrel
    obtain ⟨hc0, hf0, hz0⟩ := bcell HB
    simp only [szs] at hz0
    by_cases hlt2 : b < n
    ·have hna := isNode_nat (g := m.g) (a := a) (by rw [HN.out]; exact hlt)
     have hnb := isNode_nat (g := m.g) (a := b) (by rw [HN.out]; exact hlt2)
     have HNA := Lib.hid hna
     have HNB := Lib.hid hnb
     clear hna hnb
     by_cases e : a = b
     ·subst e
      have hpl := entry_place HNA.out HNA.out
      rw [HC.out] at hpl
      obtain ⟨q1, q2, q3, q4⟩ := hpl
      have q5 : (a : Int) * (n : Int) + (a : Int) < (t.length : Int) := by rw [HS.out]; exact q4
      clear q4
      obtain ⟨bb, off, rfl, hbl, hx⟩ := rdI_at ht ((a : Int) * (n : Int) + (a : Int)).toNat (by omega)
      have hxe := hx ((a : Int) * (n : Int) + (a : Int)).toNat (by omega)
      rw [Int.toNat_of_nonneg q3] at hxe
      obtain ⟨z1, z2, z3, z4, z5, z6⟩ := more hbl
      clear hx
      obtain ⟨p, hp⟩ : ∃ p, ri t ((a : Int) * (n : Int) + (a : Int)) = p := ⟨_, rfl⟩
      rw [hp] at hxe
      have hpe : entry m t a a = p := by unfold entry; rw [HC.out]; exact hp
      have HP := Lib.hid hpe
      clear hp hpe
      have htn : ((a : Int) * (n : Int) + (a : Int)).toNat = a * n + a := by omega
      rw [htn] at hxe
      have q6 : a * n + a < t.length := by omega
      clear htn
      have e1 : ((a : Int) == (a : Int)) = true := beq_self_eq_true _
      have e2 : ((a : Int) != (a : Int)) = false := by simp
      by_cases c : p = 4
      ·subst c
       go_wp2
       go_roundw
       case rel => exact ⟨a + 1, by omega, by go_num, Lib.hid (upto HA2.out (by simp [cellOk, HP.out])), bel⟩
       case measure => simp [intOf]; omega
      ·have e3 : (p != 4) = true := bne_iff_ne.2 c
       have C := Lib.hid c
       clear c
       go_wp2
       go_ret
       exact ⟨ret_bool (by rw [HTK.out, allI_false a (by rw [HN.out]; exact hlt) (allI_false a (by rw [HN.out]; exact hlt) (by simp [cellOk, HP.out, C.out])), Bool.and_false]), bel⟩
     ·have e1 : ((a : Int) == (b : Int)) = false := beq_eq_false_iff_ne.2 (by omega)
      have e2 : ((a : Int) != (b : Int)) = true := bne_iff_ne.2 (by omega)
      have E := Lib.hid e
      clear e
      have SZ2 := Lib.hid hsz
      by_cases c : (walkFrom m t b a []).length = 0
      ·have e3 : (((walkFrom m t b a []).length : Int) == 0) = true := by simp [c]
       have C := Lib.hid c
       clear c
       go_wp2_with (go_at_call 68; refine (spec_l04Walk m t a b A B _ _ _ (by exact Kd.C_below hr bel) hn (by exact Kd.C_below ht bel) SZ2.out HNA.out HNB.out).mono ?_; rintro e w1 ⟨hg1, hb1⟩; obtain ⟨A1, c1, rfl, hk1, hr1⟩ := hg1.read; obtain ⟨hc1, hf1, hz1⟩ := bcell hb1; (try simp only [szs] at hz1); have hb2 := far2; obtain ⟨hc2, hf2, hz2⟩ := bcell hb2; (try simp only [szs] at hz2); try (first | obtain ⟨hy1, hy2, hy3, hy4⟩ := lts4 hz2 | obtain ⟨hy1, hy2, hy3⟩ := lts3 hz2 | obtain ⟨hy1, hy2⟩ := lts2 hz2 | have hy1 := lts1 hz2); have hb9 := hb1)
       go_ret
       exact ⟨ret_bool (by rw [HTK.out, allI_false a (by rw [HN.out]; exact hlt) (allI_false b (by rw [HN.out]; exact hlt2) (by simp only [cellOk, if_neg E.out, C.out]; rfl)), Bool.and_false]), bel⟩
      ·have e3 : (((walkFrom m t b a []).length : Int) == 0) = false := beq_eq_false_iff_ne.2 (by omega)
       have C := Lib.hid c
       clear c
       go_wp2_with (go_at_call 68; refine (spec_l04Walk m t a b A B _ _ _ (by exact Kd.C_below hr bel) hn (by exact Kd.C_below ht bel) SZ2.out HNA.out HNB.out).mono ?_; rintro e w1 ⟨hg1, hb1⟩; obtain ⟨A1, c1, rfl, hk1, hr1⟩ := hg1.read; obtain ⟨hc1, hf1, hz1⟩ := bcell hb1; (try simp only [szs] at hz1); have hb2 := far2; obtain ⟨hc2, hf2, hz2⟩ := bcell hb2; (try simp only [szs] at hz2); try (first | obtain ⟨hy1, hy2, hy3, hy4⟩ := lts4 hz2 | obtain ⟨hy1, hy2, hy3⟩ := lts3 hz2 | obtain ⟨hy1, hy2⟩ := lts2 hz2 | have hy1 := lts1 hz2); have hb9 := hb1)
       go_roundw
       case rel => exact ⟨b + 1, by omega, by go_num, Lib.hid (upto HA2.out (by have := C.out; simp only [cellOk, if_neg E.out]; exact decide_eq_true (by omega))), bel⟩
       case measure => simp [intOf]; omega
    ·go_wp2
     go_roundw
     case rel => exact ⟨a + 1, by omega, by go_num, Lib.hid (upto HA.out (allI_true (fun x hx => HA2.out x (by rw [HN.out] at hx; omega)))), bel⟩
     case measure => simp [intOf]; omega
  ·go_wp2
   go_ret
   exact ⟨ret_bool (by rw [HTK.out, hsz, allI_true (fun x hx => HA.out x (by rw [HN.out] at hx; omega))]; rfl), bel⟩
theorem impl_PacketOk (g : Grid) (p : Packet) (w : World) : Calls Try.prog 76 #[.agg #[.int .i64 g.w, .int .i64 g.h], .agg #[.int .i64 p.id, .int .i64 p.src, .int .i64 p.dst, .int .i64 p.cls, .int .i64 p.len]] w fun e w' => e = .returned (.bool (packetOk g p)) ∧ Below w.heap.size w w' := by
  go_enter Try.func76, Try.ntmps76
  cases h1 : inside p.id 1 9999
  · go_wp2_with (first | (go_at_call 64; refine (impl_inside _ _ _ _).mono ?_; rintro e w' ⟨rfl, rfl⟩) | (go_at_call 75; refine (impl_isNode g _ _).mono ?_; rintro e w1 ⟨rfl, hb1⟩; obtain ⟨hc1, hf1, hz1⟩ := bcell hb1; (try simp only [szs] at hz1); have hb2 := far2; obtain ⟨hc2, hf2, hz2⟩ := bcell hb2; (try simp only [szs] at hz2); try (first | obtain ⟨hy1, hy2, hy3, hy4⟩ := lts4 hz2 | obtain ⟨hy1, hy2, hy3⟩ := lts3 hz2 | obtain ⟨hy1, hy2⟩ := lts2 hz2 | have hy1 := lts1 hz2); have hb9 := hb1))
    go_ret
    exact ⟨ret_bool (by simp [packetOk, h1]), bel⟩
  cases h2 : isNode g p.src
  · go_wp2_with (first | (go_at_call 64; refine (impl_inside _ _ _ _).mono ?_; rintro e w' ⟨rfl, rfl⟩) | (go_at_call 75; refine (impl_isNode g _ _).mono ?_; rintro e w1 ⟨rfl, hb1⟩; obtain ⟨hc1, hf1, hz1⟩ := bcell hb1; (try simp only [szs] at hz1); have hb2 := far2; obtain ⟨hc2, hf2, hz2⟩ := bcell hb2; (try simp only [szs] at hz2); try (first | obtain ⟨hy1, hy2, hy3, hy4⟩ := lts4 hz2 | obtain ⟨hy1, hy2, hy3⟩ := lts3 hz2 | obtain ⟨hy1, hy2⟩ := lts2 hz2 | have hy1 := lts1 hz2); have hb9 := hb1))
    go_ret
    exact ⟨ret_bool (by simp [packetOk, h2]), bel⟩
  cases h3 : isNode g p.dst
  · go_wp2_with (first | (go_at_call 64; refine (impl_inside _ _ _ _).mono ?_; rintro e w' ⟨rfl, rfl⟩) | (go_at_call 75; refine (impl_isNode g _ _).mono ?_; rintro e w1 ⟨rfl, hb1⟩; obtain ⟨hc1, hf1, hz1⟩ := bcell hb1; (try simp only [szs] at hz1); have hb2 := far2; obtain ⟨hc2, hf2, hz2⟩ := bcell hb2; (try simp only [szs] at hz2); try (first | obtain ⟨hy1, hy2, hy3, hy4⟩ := lts4 hz2 | obtain ⟨hy1, hy2, hy3⟩ := lts3 hz2 | obtain ⟨hy1, hy2⟩ := lts2 hz2 | have hy1 := lts1 hz2); have hb9 := hb1))
    go_ret
    exact ⟨ret_bool (by simp [packetOk, h3]), bel⟩
  by_cases h4 : p.src = p.dst
  · have e4 : (p.src != p.dst) = false := bne_eq_false_iff_eq.2 h4
    have H4 := Lib.hid h4
    clear h4
    go_wp2_with (first | (go_at_call 64; refine (impl_inside _ _ _ _).mono ?_; rintro e w' ⟨rfl, rfl⟩) | (go_at_call 75; refine (impl_isNode g _ _).mono ?_; rintro e w1 ⟨rfl, hb1⟩; obtain ⟨hc1, hf1, hz1⟩ := bcell hb1; (try simp only [szs] at hz1); have hb2 := far2; obtain ⟨hc2, hf2, hz2⟩ := bcell hb2; (try simp only [szs] at hz2); try (first | obtain ⟨hy1, hy2, hy3, hy4⟩ := lts4 hz2 | obtain ⟨hy1, hy2, hy3⟩ := lts3 hz2 | obtain ⟨hy1, hy2⟩ := lts2 hz2 | have hy1 := lts1 hz2); have hb9 := hb1))
    go_ret
    exact ⟨ret_bool (by simp [packetOk, H4.out]), bel⟩
  have e4 : (p.src != p.dst) = true := bne_iff_ne.2 h4
  have H4 := Lib.hid h4
  clear h4
  cases h5 : inside p.cls 0 1
  · go_wp2_with (first | (go_at_call 64; refine (impl_inside _ _ _ _).mono ?_; rintro e w' ⟨rfl, rfl⟩) | (go_at_call 75; refine (impl_isNode g _ _).mono ?_; rintro e w1 ⟨rfl, hb1⟩; obtain ⟨hc1, hf1, hz1⟩ := bcell hb1; (try simp only [szs] at hz1); have hb2 := far2; obtain ⟨hc2, hf2, hz2⟩ := bcell hb2; (try simp only [szs] at hz2); try (first | obtain ⟨hy1, hy2, hy3, hy4⟩ := lts4 hz2 | obtain ⟨hy1, hy2, hy3⟩ := lts3 hz2 | obtain ⟨hy1, hy2⟩ := lts2 hz2 | have hy1 := lts1 hz2); have hb9 := hb1))
    go_ret
    exact ⟨ret_bool (by simp [packetOk, h5]), bel⟩
  · go_wp2_with (first | (go_at_call 64; refine (impl_inside _ _ _ _).mono ?_; rintro e w' ⟨rfl, rfl⟩) | (go_at_call 75; refine (impl_isNode g _ _).mono ?_; rintro e w1 ⟨rfl, hb1⟩; obtain ⟨hc1, hf1, hz1⟩ := bcell hb1; (try simp only [szs] at hz1); have hb2 := far2; obtain ⟨hc2, hf2, hz2⟩ := bcell hb2; (try simp only [szs] at hz2); try (first | obtain ⟨hy1, hy2, hy3, hy4⟩ := lts4 hz2 | obtain ⟨hy1, hy2, hy3⟩ := lts3 hz2 | obtain ⟨hy1, hy2⟩ := lts2 hz2 | have hy1 := lts1 hz2); have hb9 := hb1))
    go_ret
    exact ⟨ret_bool (by simp [packetOk, h1, h2, h3, H4.out, h5]), bel⟩

theorem spec_PacketOk (g : Grid) (p : Packet) (w : World) : Calls Try.prog 55 #[.agg #[.int .i64 g.w, .int .i64 g.h], .agg #[.int .i64 p.id, .int .i64 p.src, .int .i64 p.dst, .int .i64 p.cls, .int .i64 p.len]] w fun e w' => e = .returned (.bool (packetOk g p)) ∧ Below w.heap.size w w' := by
  go_enter Try.func55, Try.ntmps55
  cases h1 : inside p.id 1 9999
  · go_wp2_with (first | (go_at_call 53; refine (spec_l01In _ _ _ _).mono ?_; rintro e w' ⟨rfl, rfl⟩) | (go_at_call 69; refine (spec_l02Has g _ _).mono ?_; rintro e w1 ⟨rfl, hb1⟩; obtain ⟨hc1, hf1, hz1⟩ := bcell hb1; (try simp only [szs] at hz1); have hb2 := far2; obtain ⟨hc2, hf2, hz2⟩ := bcell hb2; (try simp only [szs] at hz2); try (first | obtain ⟨hy1, hy2, hy3, hy4⟩ := lts4 hz2 | obtain ⟨hy1, hy2, hy3⟩ := lts3 hz2 | obtain ⟨hy1, hy2⟩ := lts2 hz2 | have hy1 := lts1 hz2); have hb9 := hb1))
    go_ret
    exact ⟨ret_bool (by simp [packetOk, h1]), bel⟩
  cases h2 : isNode g p.src
  · go_wp2_with (first | (go_at_call 53; refine (spec_l01In _ _ _ _).mono ?_; rintro e w' ⟨rfl, rfl⟩) | (go_at_call 69; refine (spec_l02Has g _ _).mono ?_; rintro e w1 ⟨rfl, hb1⟩; obtain ⟨hc1, hf1, hz1⟩ := bcell hb1; (try simp only [szs] at hz1); have hb2 := far2; obtain ⟨hc2, hf2, hz2⟩ := bcell hb2; (try simp only [szs] at hz2); try (first | obtain ⟨hy1, hy2, hy3, hy4⟩ := lts4 hz2 | obtain ⟨hy1, hy2, hy3⟩ := lts3 hz2 | obtain ⟨hy1, hy2⟩ := lts2 hz2 | have hy1 := lts1 hz2); have hb9 := hb1))
    go_ret
    exact ⟨ret_bool (by simp [packetOk, h2]), bel⟩
  cases h3 : isNode g p.dst
  · go_wp2_with (first | (go_at_call 53; refine (spec_l01In _ _ _ _).mono ?_; rintro e w' ⟨rfl, rfl⟩) | (go_at_call 69; refine (spec_l02Has g _ _).mono ?_; rintro e w1 ⟨rfl, hb1⟩; obtain ⟨hc1, hf1, hz1⟩ := bcell hb1; (try simp only [szs] at hz1); have hb2 := far2; obtain ⟨hc2, hf2, hz2⟩ := bcell hb2; (try simp only [szs] at hz2); try (first | obtain ⟨hy1, hy2, hy3, hy4⟩ := lts4 hz2 | obtain ⟨hy1, hy2, hy3⟩ := lts3 hz2 | obtain ⟨hy1, hy2⟩ := lts2 hz2 | have hy1 := lts1 hz2); have hb9 := hb1))
    go_ret
    exact ⟨ret_bool (by simp [packetOk, h3]), bel⟩
  by_cases h4 : p.src = p.dst
  · have e4 : (p.src != p.dst) = false := bne_eq_false_iff_eq.2 h4
    have H4 := Lib.hid h4
    clear h4
    go_wp2_with (first | (go_at_call 53; refine (spec_l01In _ _ _ _).mono ?_; rintro e w' ⟨rfl, rfl⟩) | (go_at_call 69; refine (spec_l02Has g _ _).mono ?_; rintro e w1 ⟨rfl, hb1⟩; obtain ⟨hc1, hf1, hz1⟩ := bcell hb1; (try simp only [szs] at hz1); have hb2 := far2; obtain ⟨hc2, hf2, hz2⟩ := bcell hb2; (try simp only [szs] at hz2); try (first | obtain ⟨hy1, hy2, hy3, hy4⟩ := lts4 hz2 | obtain ⟨hy1, hy2, hy3⟩ := lts3 hz2 | obtain ⟨hy1, hy2⟩ := lts2 hz2 | have hy1 := lts1 hz2); have hb9 := hb1))
    go_ret
    exact ⟨ret_bool (by simp [packetOk, H4.out]), bel⟩
  have e4 : (p.src != p.dst) = true := bne_iff_ne.2 h4
  have H4 := Lib.hid h4
  clear h4
  cases h5 : inside p.cls 0 1
  · go_wp2_with (first | (go_at_call 53; refine (spec_l01In _ _ _ _).mono ?_; rintro e w' ⟨rfl, rfl⟩) | (go_at_call 69; refine (spec_l02Has g _ _).mono ?_; rintro e w1 ⟨rfl, hb1⟩; obtain ⟨hc1, hf1, hz1⟩ := bcell hb1; (try simp only [szs] at hz1); have hb2 := far2; obtain ⟨hc2, hf2, hz2⟩ := bcell hb2; (try simp only [szs] at hz2); try (first | obtain ⟨hy1, hy2, hy3, hy4⟩ := lts4 hz2 | obtain ⟨hy1, hy2, hy3⟩ := lts3 hz2 | obtain ⟨hy1, hy2⟩ := lts2 hz2 | have hy1 := lts1 hz2); have hb9 := hb1))
    go_ret
    exact ⟨ret_bool (by simp [packetOk, h5]), bel⟩
  · go_wp2_with (first | (go_at_call 53; refine (spec_l01In _ _ _ _).mono ?_; rintro e w' ⟨rfl, rfl⟩) | (go_at_call 69; refine (spec_l02Has g _ _).mono ?_; rintro e w1 ⟨rfl, hb1⟩; obtain ⟨hc1, hf1, hz1⟩ := bcell hb1; (try simp only [szs] at hz1); have hb2 := far2; obtain ⟨hc2, hf2, hz2⟩ := bcell hb2; (try simp only [szs] at hz2); try (first | obtain ⟨hy1, hy2, hy3, hy4⟩ := lts4 hz2 | obtain ⟨hy1, hy2, hy3⟩ := lts3 hz2 | obtain ⟨hy1, hy2⟩ := lts2 hz2 | have hy1 := lts1 hz2); have hb9 := hb1))
    go_ret
    exact ⟨ret_bool (by simp [packetOk, h1, h2, h3, H4.out, h5]), bel⟩

theorem impl_ClassesOk (m : Mesh) (pa pb : List Int) (A B C : Option Addr) (c d k : Nat) (w : World) (hr : Kd.C (Kd.int .i64) w A m.br.length m.br) (hn : m.br.length ≤ 2097152) (ha : Kd.C (Kd.int .i64) w B pa.length pa) (hka : pa.length ≤ 2097152) (hb : Kd.C (Kd.int .i64) w C pb.length pb) (hkb : pb.length ≤ 2097152) :
    Calls Try.prog 35 #[.agg #[.int .i64 m.g.w, .int .i64 m.g.h, .slice A m.br.length c], .agg #[.slice B pa.length d, .slice C pb.length k]] w fun e w' => e = .returned (.bool (classesOk m pa pb)) ∧ Below w.heap.size w w' := by
  go_enter Try.func35, Try.ntmps35
  cases h1 : tableOk m pa
  · go_wp2_with (first | (go_at_call 57; refine (impl_TableOk m pa A B _ _ _ (by exact Kd.C_below hr bel) hn (by exact Kd.C_below ha bel) hka).mono ?_; rintro e w1 ⟨rfl, hb1⟩; obtain ⟨hc1, hf1, hz1⟩ := bcell hb1; (try simp only [szs] at hz1); have hb2 := far2; obtain ⟨hc2, hf2, hz2⟩ := bcell hb2; (try simp only [szs] at hz2); try (first | obtain ⟨hy1, hy2, hy3, hy4⟩ := lts4 hz2 | obtain ⟨hy1, hy2, hy3⟩ := lts3 hz2 | obtain ⟨hy1, hy2⟩ := lts2 hz2 | have hy1 := lts1 hz2); have hb9 := hb1))
    go_ret
    exact ⟨ret_bool (by simp [classesOk, h1]), bel⟩
  · go_wp2_with (first | (go_at_call_of 57 pa; refine (impl_TableOk m pa A B _ _ _ (by exact Kd.C_below hr bel) hn (by exact Kd.C_below ha bel) hka).mono ?_; rintro e w1 ⟨rfl, hb1⟩; obtain ⟨hc1, hf1, hz1⟩ := bcell hb1; (try simp only [szs] at hz1); have hb2 := far2; obtain ⟨hc2, hf2, hz2⟩ := bcell hb2; (try simp only [szs] at hz2); try (first | obtain ⟨hy1, hy2, hy3, hy4⟩ := lts4 hz2 | obtain ⟨hy1, hy2, hy3⟩ := lts3 hz2 | obtain ⟨hy1, hy2⟩ := lts2 hz2 | have hy1 := lts1 hz2); have hb9 := hb1) | (go_at_call_of 57 pb; refine (impl_TableOk m pb A C _ _ _ (by exact Kd.C_below hr bel) hn (by exact Kd.C_below hb bel) hkb).mono ?_; rintro e w1 ⟨rfl, hb1⟩; obtain ⟨hc1, hf1, hz1⟩ := bcell hb1; (try simp only [szs] at hz1); have hb2 := far2; obtain ⟨hc2, hf2, hz2⟩ := bcell hb2; (try simp only [szs] at hz2); try (first | obtain ⟨hy1, hy2, hy3, hy4⟩ := lts4 hz2 | obtain ⟨hy1, hy2, hy3⟩ := lts3 hz2 | obtain ⟨hy1, hy2⟩ := lts2 hz2 | have hy1 := lts1 hz2); have hb9 := hb1))
    go_ret
    exact ⟨ret_bool (by simp [classesOk, h1]), bel⟩
theorem spec_ClassesOk (m : Mesh) (pa pb : List Int) (A B C : Option Addr) (c d k : Nat) (w : World) (hr : Kd.C (Kd.int .i64) w A m.br.length m.br) (hn : m.br.length ≤ 2097152) (ha : Kd.C (Kd.int .i64) w B pa.length pa) (hka : pa.length ≤ 2097152) (hb : Kd.C (Kd.int .i64) w C pb.length pb) (hkb : pb.length ≤ 2097152) :
    Calls Try.prog 27 #[.agg #[.int .i64 m.g.w, .int .i64 m.g.h, .slice A m.br.length c], .agg #[.slice B pa.length d, .slice C pb.length k]] w fun e w' => e = .returned (.bool (classesOk m pa pb)) ∧ Below w.heap.size w w' := by
  go_enter Try.func27, Try.ntmps27
  cases h1 : tableOk m pa
  · go_wp2_with (first | (go_at_call 49; refine (spec_TableOk m pa A B _ _ _ (by exact Kd.C_below hr bel) hn (by exact Kd.C_below ha bel) hka).mono ?_; rintro e w1 ⟨rfl, hb1⟩; obtain ⟨hc1, hf1, hz1⟩ := bcell hb1; (try simp only [szs] at hz1); have hb2 := far2; obtain ⟨hc2, hf2, hz2⟩ := bcell hb2; (try simp only [szs] at hz2); try (first | obtain ⟨hy1, hy2, hy3, hy4⟩ := lts4 hz2 | obtain ⟨hy1, hy2, hy3⟩ := lts3 hz2 | obtain ⟨hy1, hy2⟩ := lts2 hz2 | have hy1 := lts1 hz2); have hb9 := hb1))
    go_ret
    exact ⟨ret_bool (by simp [classesOk, h1]), bel⟩
  · go_wp2_with (first | (go_at_call_of 49 pa; refine (spec_TableOk m pa A B _ _ _ (by exact Kd.C_below hr bel) hn (by exact Kd.C_below ha bel) hka).mono ?_; rintro e w1 ⟨rfl, hb1⟩; obtain ⟨hc1, hf1, hz1⟩ := bcell hb1; (try simp only [szs] at hz1); have hb2 := far2; obtain ⟨hc2, hf2, hz2⟩ := bcell hb2; (try simp only [szs] at hz2); try (first | obtain ⟨hy1, hy2, hy3, hy4⟩ := lts4 hz2 | obtain ⟨hy1, hy2, hy3⟩ := lts3 hz2 | obtain ⟨hy1, hy2⟩ := lts2 hz2 | have hy1 := lts1 hz2); have hb9 := hb1) | (go_at_call_of 49 pb; refine (spec_TableOk m pb A C _ _ _ (by exact Kd.C_below hr bel) hn (by exact Kd.C_below hb bel) hkb).mono ?_; rintro e w1 ⟨rfl, hb1⟩; obtain ⟨hc1, hf1, hz1⟩ := bcell hb1; (try simp only [szs] at hz1); have hb2 := far2; obtain ⟨hc2, hf2, hz2⟩ := bcell hb2; (try simp only [szs] at hz2); try (first | obtain ⟨hy1, hy2, hy3, hy4⟩ := lts4 hz2 | obtain ⟨hy1, hy2, hy3⟩ := lts3 hz2 | obtain ⟨hy1, hy2⟩ := lts2 hz2 | have hy1 := lts1 hz2); have hb9 := hb1))
    go_ret
    exact ⟨ret_bool (by simp [classesOk, h1]), bel⟩

theorem impl_areInside (l : List Int) (lo hi : Int) (A : Option Addr) (c : Nat) (w : World) (hr : Kd.C (Kd.int .i64) w A l.length l) (hn : l.length ≤ 2097152) :
    Calls Try.prog 63 #[.slice A l.length c, .int .i64 lo, .int .i64 hi] w fun e w' => e = .returned (.bool (allI l.length (fun i => inside (ri l i) lo hi))) ∧ w = w' := by
  go_enter Try.func63, Try.ntmps63
  go_wp2
  go_loop [11] (fun i => ∃ k : Nat, i = .int .i64 k ∧ k ≤ l.length ∧ Hid (∀ j : Nat, j < k → inside (ri l j) lo hi = true)) (fun i => l.length - (intOf i).toNat)
  case atStart => exact ⟨0, rfl, Nat.zero_le _, Lib.hid fun j h => absurd h (Nat.not_lt_zero _)⟩
  case round =>
    obtain ⟨k, rfl, hk, HA⟩ := hrel
    by_cases hlt : k < l.length
    · obtain ⟨b, off, rfl, hb, hx⟩ := rdI_at hr k hlt
      have hxk := hx k hlt
      clear hx
      cases h1 : inside (ri l k) lo hi
      · have H1 := Lib.hid h1
        go_wp2_with (go_at_call 64; refine (impl_inside _ _ _ _).mono ?_; rintro e w' ⟨rfl, rfl⟩)
        go_ret
        exact ⟨ret_bool (allI_false k hlt H1.out).symm, rfl⟩
      · have H1 := Lib.hid h1
        go_wp2_with (go_at_call 64; refine (impl_inside _ _ _ _).mono ?_; rintro e w' ⟨rfl, rfl⟩)
        go_round
        case rel => exact ⟨k + 1, by go_num, by omega, Lib.hid (upto HA.out H1.out)⟩
        case measure => simp [intOf]; omega
    · go_wp2
      go_ret
      exact ⟨ret_bool (allI_true (fun j hj => HA.out j (by omega))).symm, rfl⟩
theorem flitOk_1 {g : Grid} {f : Flit} (h : isNode g f.dst = false) : flitOk g f = false := by simp [flitOk, h]
theorem flitOk_2 {g : Grid} {f : Flit} (h : inside f.cls 0 1 = false) : flitOk g f = false := by simp [flitOk, h]
theorem flitOk_3 {g : Grid} {f : Flit} (h1 : isNode g f.dst = true) (h2 : inside f.cls 0 1 = true) : flitOk g f = true := by simp [flitOk, h1, h2]

set_option maxHeartbeats 1000000 in
theorem impl_areFlits (g : Grid) (l : List Flit) (A : Option Addr) (c : Nat) (w : World) (hr : kF.C w A l.length l) (hn : l.length ≤ 2097152) :
    Calls Try.prog 62 #[.agg #[.int .i64 g.w, .int .i64 g.h], .slice A l.length c] w fun e w' => e = .returned (.bool (areFl g l)) ∧ Below w.heap.size w w' := by
  go_enter Try.func62, Try.ntmps62
  go_wp2
  go_loopw [9] (fun i wr => ∃ k : Nat, i = .int .i64 k ∧ k ≤ l.length ∧ Hid (∀ j : Nat, j < k → flitOk g (rf l j) = true) ∧ Below (w.alloc (.cells #[.int .i64 g.w, .int .i64 g.h] 23)).heap.size (w.alloc (.cells #[.int .i64 g.w, .int .i64 g.h] 23)) wr) (fun i _ => l.length - (intOf i).toNat)
  case atStart => exact ⟨0, rfl, Nat.zero_le _, Lib.hid fun j h => absurd h (Nat.not_lt_zero _), bel⟩
  case round =>
    obtain ⟨k, rfl, hk, HA, HB⟩ := hrel
    obtain ⟨hc0, hf0, hz0⟩ := bcell HB
    simp only [szs] at hz0
    have yy1 := lts1 hz0
    by_cases hlt : k < l.length
    · obtain ⟨b, off, rfl, hb, p0, p1, p2, p3, p4⟩ := rdFl_at hr k hlt
      obtain ⟨z1, z2, z3, z4, z5, z6⟩ := more hb
      have i0 : (0 : Int) ≤ (k : Int) := by omega
      have i1 : (k : Int) < (l.length : Int) := by omega
      cases h1 : isNode g (rf l k).dst
      · have H1 := Lib.hid h1
        go_wp2_with (first | (go_at_call 75; refine (impl_isNode g _ _).mono ?_; rintro e w1 ⟨rfl, hb1⟩; obtain ⟨hc1, hf1, hz1⟩ := bcell hb1; (try simp only [szs] at hz1); have hb2 := far2; obtain ⟨hc2, hf2, hz2⟩ := bcell hb2; (try simp only [szs] at hz2); try (first | obtain ⟨hy1, hy2, hy3, hy4⟩ := lts4 hz2 | obtain ⟨hy1, hy2, hy3⟩ := lts3 hz2 | obtain ⟨hy1, hy2⟩ := lts2 hz2 | have hy1 := lts1 hz2); have hb9 := hb1) | (go_at_call 64; refine (impl_inside _ _ _ _).mono ?_; rintro e w' ⟨rfl, rfl⟩))
        go_ret
        exact ⟨ret_bool (areFl_no k hlt (flitOk_1 H1.out)).symm, bel⟩
      cases h2 : inside (rf l k).cls 0 1
      · have H1 := Lib.hid h1
        have H2 := Lib.hid h2
        go_wp2_with (first | (go_at_call 75; refine (impl_isNode g _ _).mono ?_; rintro e w1 ⟨rfl, hb1⟩; obtain ⟨hc1, hf1, hz1⟩ := bcell hb1; (try simp only [szs] at hz1); have hb2 := far2; obtain ⟨hc2, hf2, hz2⟩ := bcell hb2; (try simp only [szs] at hz2); try (first | obtain ⟨hy1, hy2, hy3, hy4⟩ := lts4 hz2 | obtain ⟨hy1, hy2, hy3⟩ := lts3 hz2 | obtain ⟨hy1, hy2⟩ := lts2 hz2 | have hy1 := lts1 hz2); have hb9 := hb1) | (go_at_call 64; refine (impl_inside _ _ _ _).mono ?_; rintro e w' ⟨rfl, rfl⟩))
        go_ret
        exact ⟨ret_bool (areFl_no k hlt (flitOk_2 H2.out)).symm, bel⟩
      · have H1 := Lib.hid h1
        have H2 := Lib.hid h2
        go_wp2_with (first | (go_at_call 75; refine (impl_isNode g _ _).mono ?_; rintro e w1 ⟨rfl, hb1⟩; obtain ⟨hc1, hf1, hz1⟩ := bcell hb1; (try simp only [szs] at hz1); have hb2 := far2; obtain ⟨hc2, hf2, hz2⟩ := bcell hb2; (try simp only [szs] at hz2); try (first | obtain ⟨hy1, hy2, hy3, hy4⟩ := lts4 hz2 | obtain ⟨hy1, hy2, hy3⟩ := lts3 hz2 | obtain ⟨hy1, hy2⟩ := lts2 hz2 | have hy1 := lts1 hz2); have hb9 := hb1) | (go_at_call 64; refine (impl_inside _ _ _ _).mono ?_; rintro e w' ⟨rfl, rfl⟩))
        go_roundw
        case rel => exact ⟨k + 1, by go_num, by omega, Lib.hid (upto HA.out (flitOk_3 H1.out H2.out)), bel⟩
        case measure => simp [intOf]; omega
    · go_wp2
      go_ret
      exact ⟨ret_bool (areFl_yes (fun j hj => HA.out j (by omega))).symm, bel⟩
set_option maxHeartbeats 1000000 in
theorem spec_l15Flits (g : Grid) (l : List Flit) (A : Option Addr) (c : Nat) (w : World) (hr : kF.C w A l.length l) (hn : l.length ≤ 2097152) :
  Calls Try.prog 54 #[.agg #[.int .i64 g.w, .int .i64 g.h], .slice A l.length c] w fun e w' => e = .returned (.bool (areFl g l)) ∧ Below w.heap.size w w' := by
 go_enter Try.func54, Try.ntmps54
 go_wp2
 go_loopw [5] (fun i wr => ∃ k : Nat, i = .int .i64 k ∧ k ≤ l.length ∧ Hid (∀ j : Nat, j < k → flitOk g (rf l j) = true) ∧ Below (w.alloc (.cells #[.int .i64 g.w, .int .i64 g.h] 23)).heap.size (w.alloc (.cells #[.int .i64 g.w, .int .i64 g.h] 23)) wr) (fun i _ => l.length - (intOf i).toNat)
 case atStart => exact ⟨0, rfl, Nat.zero_le _, Lib.hid fun j h => absurd h (Nat.not_lt_zero _), bel⟩
 case round =>
  obtain ⟨k, rfl, hk, HA, HB⟩ := hrel
  obtain ⟨hc0, hf0, hz0⟩ := bcell HB
  simp only [szs] at hz0
  have yy1 := lts1 hz0
  by_cases hlt : k < l.length
  ·obtain ⟨b, off, rfl, hb, p0, p1, p2, p3, p4⟩ := rdFl_at hr k hlt
   obtain ⟨z1, z2, z3, z4, z5, z6⟩ := more hb
   have i0 : (0 : Int) ≤ (k : Int) := by omega
   have i1 : (k : Int) < (l.length : Int) := by omega
   cases h1 : isNode g (rf l k).dst
   ·have H1 := Lib.hid h1
    go_wp2_with fail
    refine wp_region_far ((w.alloc (.cells #[.int .i64 g.w, .int .i64 g.h] 23))) (by kernel_rfl) (by kernel_rfl) bel ?_
    have hqc := far_cell ((w.alloc (.cells #[.int .i64 g.w, .int .i64 g.h] 23)))
    have hqf := far_frozen ((w.alloc (.cells #[.int .i64 g.w, .int .i64 g.h] 23)))
    repeat (first | go_big_quiet_step (first | (go_at_call 69; exact far_call (Calls.says (spec_l02Has g (rf l k).dst _) (congrArg Value.bool H1.out)))) | quiet_step (first | (go_at_call 69; exact far_call (Calls.says (spec_l02Has g (rf l k).dst _) (congrArg Value.bool H1.out)))))
    refine wpQuiet_nil ?_
    intro wq hbq
    clear hqc hqf
    obtain ⟨hcq, hfq, hzq⟩ := bcell hbq
    try simp only [szs] at hzq
    go_wp2
    go_ret
    exact ⟨ret_bool (areFl_no k hlt (flitOk_1 H1.out)).symm, bel⟩
   cases h2 : inside (rf l k).cls 0 1
   ·have H1 := Lib.hid h1
    have H2 := Lib.hid h2
    go_wp2_with fail
    refine wp_region_far ((w.alloc (.cells #[.int .i64 g.w, .int .i64 g.h] 23))) (by kernel_rfl) (by kernel_rfl) bel ?_
    have hqc := far_cell ((w.alloc (.cells #[.int .i64 g.w, .int .i64 g.h] 23)))
    have hqf := far_frozen ((w.alloc (.cells #[.int .i64 g.w, .int .i64 g.h] 23)))
    repeat (first | go_big_quiet_step (first | (go_at_call 69; exact far_call (Calls.says (spec_l02Has g (rf l k).dst _) (congrArg Value.bool H1.out))) | (go_at_call 53; exact far_same (Calls.says (spec_l01In (rf l k).cls 0 1 _) (congrArg Value.bool H2.out)))) | quiet_step (first | (go_at_call 69; exact far_call (Calls.says (spec_l02Has g (rf l k).dst _) (congrArg Value.bool H1.out))) | (go_at_call 53; exact far_same (Calls.says (spec_l01In (rf l k).cls 0 1 _) (congrArg Value.bool H2.out)))))
    refine wpQuiet_nil ?_
    intro wq hbq
    clear hqc hqf
    obtain ⟨hcq, hfq, hzq⟩ := bcell hbq
    try simp only [szs] at hzq
    go_wp2
    go_ret
    exact ⟨ret_bool (areFl_no k hlt (flitOk_2 H2.out)).symm, bel⟩
   ·have H1 := Lib.hid h1
    have H2 := Lib.hid h2
    go_wp2_with fail
    refine wp_region_far ((w.alloc (.cells #[.int .i64 g.w, .int .i64 g.h] 23))) (by kernel_rfl) (by kernel_rfl) bel ?_
    have hqc := far_cell ((w.alloc (.cells #[.int .i64 g.w, .int .i64 g.h] 23)))
    have hqf := far_frozen ((w.alloc (.cells #[.int .i64 g.w, .int .i64 g.h] 23)))
    repeat (first | go_big_quiet_step (first | (go_at_call 69; exact far_call (Calls.says (spec_l02Has g (rf l k).dst _) (congrArg Value.bool H1.out))) | (go_at_call 53; exact far_same (Calls.says (spec_l01In (rf l k).cls 0 1 _) (congrArg Value.bool H2.out)))) | quiet_step (first | (go_at_call 69; exact far_call (Calls.says (spec_l02Has g (rf l k).dst _) (congrArg Value.bool H1.out))) | (go_at_call 53; exact far_same (Calls.says (spec_l01In (rf l k).cls 0 1 _) (congrArg Value.bool H2.out)))))
    refine wpQuiet_nil ?_
    intro wq hbq
    clear hqc hqf
    obtain ⟨hcq, hfq, hzq⟩ := bcell hbq
    try simp only [szs] at hzq
    go_wp2
    go_roundw
    case rel => exact ⟨k + 1, by go_num, by omega, Lib.hid (upto HA.out (flitOk_3 H1.out H2.out)), bel⟩
    case measure => simp [intOf]; omega
  ·go_wp2
   go_ret
   exact ⟨ret_bool (areFl_yes (fun j hj => HA.out j (by omega))).symm, bel⟩
section
variable {ops : Array Oper} {rest : List Oper} {o : Oper} {a : Act} {Q : Exit → Act → World → Prop}
theorem app_F {W0 W : World} (hgd : o.guard = none) (s x : Operand)
    (ho : o.op = .call { callee := .builtin .append, args := #[s, x], argTypes := #[67, 67] })
    (v : Value) (xs : List Flit) (q : Flit) (hs : a.eval s = v) (hx : a.eval x = .slice (some ⟨W.heap.size, 0, none⟩) 1 1)
    (HO : kF.R 77 W W0.heap.size (fun _ => True) v xs) (HB : Below W0.heap.size W0 W) (hl : xs.length ≤ 100000000)
    (h : ∀ v1 w1, kF.R 77 w1 W0.heap.size (fun _ => True) v1 (xs ++ [q]) → Below W0.heap.size W0 w1 → wpList Try.prog ops Q rest (a.put o.dst v1) w1) :
    wpList Try.prog ops Q (o :: rest) a (W.alloc (.cells #[.int .i64 q.pk, .int .i64 q.dst, .int .i64 q.cls, .bool q.head, .bool q.tail] 77)) :=
  app_own kF hgd s x 67 77 (.agg #[.int .i64 0, .int .i64 0, .int .i64 0, .bool false, .bool false]) 32 ho Try.underlying67 info_F rfl (by decide) (by omega) v xs q (fCells q) hs hx rfl HO HB (by omega) h
end
theorem clsOnly_take_len (l : List Flit) (c : Int) (k : Nat) : (clsOnly (l.take k) c).length ≤ k :=
  Nat.le_trans (List.length_filter_le _ _) (by rw [List.length_take]; omega)
theorem clsOnly_yes {l : List Flit} {c : Int} (k : Nat) (hk : k < l.length) (h : (rf l k).cls = c) : clsOnly (l.take (k + 1)) c = clsOnly (l.take k) c ++ [rf l k] := by
  rw [clsOnly_take k hk, if_pos (by simp [h])]
theorem clsOnly_no {l : List Flit} {c : Int} (k : Nat) (hk : k < l.length) (h : ¬ (rf l k).cls = c) : clsOnly (l.take (k + 1)) c = clsOnly (l.take k) c := by
  rw [clsOnly_take k hk, if_neg (by simp [h])]
set_option maxHeartbeats 1000000 in
theorem impl_ClassOnly (l : List Flit) (x : Int) (A : Option Addr) (c : Nat) (w : World) (hr : kF.C w A l.length l) (hn : l.length ≤ 2097152) :
    Calls Try.prog 61 #[.slice A l.length c, .int .i64 x] w fun e w' => GotF w w' (clsOnly l x) e ∧ Below w.heap.size w w' := by
  go_enter Try.func61, Try.ntmps61
  go_wp2
  go_loopw [5, 11] (fun v i wr => ∃ j : Nat, i = .int .i64 j ∧ j ≤ l.length ∧ kF.R 77 wr w.heap.size (fun _ => True) v (clsOnly (l.take j) x) ∧ Below w.heap.size w wr) (fun _ i _ => l.length - (intOf i).toNat)
  case atStart => exact ⟨0, rfl, Nat.zero_le _, R_empty (W0 := w) _ _ (bw_size bel), bel⟩
  case round =>
    obtain ⟨j, rfl, hj, HO, HB⟩ := hrel
    obtain ⟨Ao, co, rfl⟩ := Kd.R_slice HO
    have hlen := clsOnly_take_len l x j
    obtain ⟨hc0, hf0, hz0⟩ := bcell HB
    by_cases hlt : j < l.length
    · obtain ⟨b, off, rfl, hbl, p0, p1, p2, p3, p4⟩ := rdFl_at hr j hlt
      by_cases e1 : (rf l j).cls = x
      · have f1 : ((rf l j).cls == x) = true := beq_iff_eq.2 e1
        have HS := Lib.hid (clsOnly_yes j hlt e1)
        clear e1
        go_wp2_with (at_builtin; refine app_F (W0 := w) rfl (.tmp 19) (.tmp 21) rfl _ (clsOnly (l.take j) x) (rf l j) rfl (by first | rfl | exact congrArg (fun z => Value.slice (some ⟨z, 0, none⟩) 1 1) (World.size_alloc _ _).symm) (by exact Kd.R_below HO bel) bel (by omega) ?_; intro v1 w1 HO1 HB1; obtain ⟨hc1, hf1, hz1⟩ := bcell HB1; (try simp only [szs] at hz1); have hb2 := HB1; have hb9 := HB1)
        go_roundw
        case rel => exact ⟨j + 1, by go_num, by omega, by rw [HS.out]; exact (by exact Kd.R_below HO1 bel), bel⟩
        case measure => simp [intOf]; omega
      · have f1 : ((rf l j).cls == x) = false := beq_eq_false_iff_ne.2 e1
        have HS := Lib.hid (clsOnly_no j hlt e1)
        clear e1
        go_wp2
        go_roundw
        case rel => exact ⟨j + 1, by go_num, by omega, by rw [HS.out]; exact (by exact Kd.R_below HO bel), bel⟩
        case measure => simp [intOf]; omega
    · go_wp2
      go_ret
      have E : clsOnly (l.take j) x = clsOnly l x := by rw [List.take_of_length_le (by omega)]
      exact ⟨(by rw [← E]; exact ⟨_, rfl, (by exact Kd.R_below HO bel)⟩), bel⟩
end Go.Proofs.Ytmkbmddgkdoaiaa
