/- Lemmas for laws of this seat, for all inputs: TabOk Src M5 Draw Draw2 DrT DrU DrV. -/
import Derived.Test.YtodbglncccgdbaaQ5
import Derived.Test.YtodbglncccgdbaaQ3
import Derived.Test.YtodbglncccgdbaaQ1
import Derived.Laws.Closers25b
import Derived.RangeFuncBox
import Derived.IntWalk
import Derived.RegionTactic
import Derived.BigRegion
import Derived.Laws.BitsAllLaws
set_option linter.unusedVariables false
set_option linter.unusedSimpArgs false
namespace Go.Proofs.Ytodbglncccgdbaa
open Go.RowKit Go.Proofs.YtodbglncccgdbaaW.PrintWords
open NoC
theorem impl_TableOk_1 (m : Mesh) (t : List Int) (a b : Int) (A B : Option Addr) (c d gm gt : Nat) (w : World) (hr : Kd.C (Kd.int .i64) w A m.br.length m.br) (hn : m.br.length ≤ 2097152) (ht : Kd.C (Kd.int .i64) w B t.length t) (hk : t.length ≤ 2097152)
    (h0 : w.cell? ⟨gm, 0, none⟩ = some (.int .i64 m.g.w)) (h1 : w.cell? ⟨gm, 1, none⟩ = some (.int .i64 m.g.h)) (h2 : w.cell? ⟨gm, 2, none⟩ = some (.slice A m.br.length c)) (h3 : w.cell? ⟨gt, 0, none⟩ = some (.slice B t.length d)) :
    Calls Try.prog 96 #[.int .i64 a, .int .i64 b, .pointer (some ⟨gm, 0, none⟩), .pointer (some ⟨gt, 0, none⟩)] w fun e w' => e = .returned (.bool (decide (0 < (wt m t a b).length))) ∧ Below w.heap.size w w' := by
  go_enter Try.func96, Try.ntmps96
  go_wp2_with (go_at_call 42; refine (impl_WalkTable m t a b A B c d _ (by exact Kd.C_below hr bel) hn (by exact Kd.C_below ht bel) hk).mono ?_; rintro e w1 ⟨hg1, hb1⟩; obtain ⟨A1, c1, rfl, hk1, hr1⟩ := hg1.read; obtain ⟨hc1, hf1, hz1⟩ := bcell hb1; (try simp only [szs] at hz1); have hb2 := far2; obtain ⟨hc2, hf2, hz2⟩ := bcell hb2; (try simp only [szs] at hz2); try (first | obtain ⟨hy1, hy2, hy3, hy4⟩ := lts4 hz2 | obtain ⟨hy1, hy2, hy3⟩ := lts3 hz2 | obtain ⟨hy1, hy2⟩ := lts2 hz2 | have hy1 := lts1 hz2); have hb9 := hb1)
  go_ret
  exact ⟨ret_bool (by first | rfl | simp), bel⟩

set_option maxHeartbeats 1000000 in
theorem impl_pairs_TableOk (m : Mesh) (t : List Int) (A B : Option Addr) (c d gm gt : Nat) (w : World) (hr : Kd.C (Kd.int .i64) w A m.br.length m.br) (hn : m.br.length ≤ 2097152) (ht : Kd.C (Kd.int .i64) w B t.length t) (hk : t.length ≤ 2097152)
  (h0 : w.cell? ⟨gm, 0, none⟩ = some (.int .i64 m.g.w)) (h1 : w.cell? ⟨gm, 1, none⟩ = some (.int .i64 m.g.h)) (h2 : w.cell? ⟨gm, 2, none⟩ = some (.slice A m.br.length c)) (h3 : w.cell? ⟨gt, 0, none⟩ = some (.slice B t.length d)) :
  Calls Try.prog 95 #[.agg #[.int .i64 m.g.w, .int .i64 m.g.h], .func (.func 96) #[] #[.pointer (some ⟨gm, 0, none⟩), .pointer (some ⟨gt, 0, none⟩)]] w fun e w' => e = .returned (.bool (pairsOk m t)) ∧ Below w.heap.size w w' := by
 obtain ⟨n0, n1⟩ := count_le m.g
 obtain ⟨n, hnn⟩ : ∃ n : Nat, nodeCount m.g = (n : Int) := ⟨(nodeCount m.g).toNat, by omega⟩
 have hn16 : n ≤ 16 := by omega
 have hN : nN m.g = n := by unfold nN; omega
 have HN := Lib.hid hN
 have HC := Lib.hid hnn
 clear hN n0 n1 hnn
 have g0 := World.block_lt_of_cell? w _ h0
 have g1 := World.block_lt_of_cell? w _ h3
 have hcall : ∀ (a b : Int) (w' : World), Below w.heap.size w w' → Calls Try.prog 96 #[.int .i64 a, .int .i64 b, .pointer (some ⟨gm, 0, none⟩), .pointer (some ⟨gt, 0, none⟩)] w' fun e w'' => e = .returned (.bool (decide (0 < (wt m t a b).length))) ∧ Below w'.heap.size w' w'' := by
  intro a b w' hb
  obtain ⟨hc, _, _⟩ := bcell hb
  exact impl_TableOk_1 m t a b A B c d gm gt w' (Kd.C_below hr hb) hn (Kd.C_below ht hb) hk ((hc _ _ g0).trans h0) ((hc _ _ g0).trans h1) ((hc _ _ g0).trans h2) ((hc _ _ g1).trans h3)
 have HCALL := Lib.hid hcall
 clear hcall h0 h1 h2 h3 g0 g1
 go_enter Try.func95, Try.ntmps95
 go_wp2_with (go_at_call 29; refine (impl_NodeCount m.g _).mono ?_; rintro e w1 ⟨he, hb1⟩; rw [HC.out] at he; subst he; obtain ⟨hc1, hf1, hz1⟩ := bcell hb1; (try simp only [szs] at hz1); have hb2 := far2; obtain ⟨hc2, hf2, hz2⟩ := bcell hb2; (try simp only [szs] at hz2); try (first | obtain ⟨hy1, hy2, hy3, hy4⟩ := lts4 hz2 | obtain ⟨hy1, hy2, hy3⟩ := lts3 hz2 | obtain ⟨hy1, hy2⟩ := lts2 hz2 | have hy1 := lts1 hz2); have hb9 := hb1)
 go_loopw [11] (fun i wr => ∃ a : Nat, a ≤ n ∧ i = .int .i64 a ∧ Hid (∀ x, x < a → allI (nN m.g) (pairOk m t x) = true) ∧ Below w.heap.size w wr) (fun i _ => n - (intOf i).toNat)
 case atStart => exact ⟨0, Nat.zero_le _, rfl, Lib.hid fun x h => absurd h (Nat.not_lt_zero _), bel⟩
 case round =>
  obtain ⟨a, ha, rfl, HA, HB⟩ := hrel
  by_cases hlt : a < n
  ·obtain ⟨wo, rfl⟩ : ∃ wo : World, wo = wr := ⟨_, rfl⟩
   go_wp2
   go_loopw [15] (fun i wr => ∃ b : Nat, b ≤ n ∧ i = .int .i64 b ∧ Hid (∀ x, x < b → pairOk m t a x = true) ∧ Below w.heap.size w wr) (fun i _ => n - (intOf i).toNat)
   case atStart => exact ⟨0, Nat.zero_le _, rfl, Lib.hid fun x h => absurd h (Nat.not_lt_zero _), HB⟩
   case round =>
    obtain ⟨b, hb, rfl, HA2, HB2⟩ := hrel
    by_cases hlt2 : b < n
    ·by_cases e : a = b
     ·have e1 : ((a : Int) != (b : Int)) = false := by simp [e]
      have E := Lib.hid e
      clear e
      go_wp2
      go_roundw
      case rel => exact ⟨b + 1, by omega, by go_num, Lib.hid (upto HA2.out (by simp [pairOk, E.out])), bel⟩
      case measure => simp [intOf]; omega
     ·have e1 : ((a : Int) != (b : Int)) = true := bne_iff_ne.2 (by omega)
      have E := Lib.hid e
      clear e
      cases hp : decide (0 < (wt m t (a : Int) (b : Int)).length)
      ·have HP := Lib.hid hp
       clear hp
       go_wp2_with (go_at_call 96; refine (HCALL.out _ _ _ (by exact bel)).mono ?_; rintro e w1 ⟨he, hb1⟩; rw [HP.out] at he; subst he; obtain ⟨hc1, hf1, hz1⟩ := bcell hb1; (try simp only [szs] at hz1); have hb2 := far2; obtain ⟨hc2, hf2, hz2⟩ := bcell hb2; (try simp only [szs] at hz2); try (first | obtain ⟨hy1, hy2, hy3, hy4⟩ := lts4 hz2 | obtain ⟨hy1, hy2, hy3⟩ := lts3 hz2 | obtain ⟨hy1, hy2⟩ := lts2 hz2 | have hy1 := lts1 hz2); have hb9 := hb1)
       go_ret
       exact ⟨ret_bool (allI_false a (by rw [HN.out]; exact hlt) (allI_false b (by rw [HN.out]; exact hlt2) (by simp [pairOk, E.out, HP.out]))).symm, bel⟩
      ·have HP := Lib.hid hp
       clear hp
       go_wp2_with (go_at_call 96; refine (HCALL.out _ _ _ (by exact bel)).mono ?_; rintro e w1 ⟨he, hb1⟩; rw [HP.out] at he; subst he; obtain ⟨hc1, hf1, hz1⟩ := bcell hb1; (try simp only [szs] at hz1); have hb2 := far2; obtain ⟨hc2, hf2, hz2⟩ := bcell hb2; (try simp only [szs] at hz2); try (first | obtain ⟨hy1, hy2, hy3, hy4⟩ := lts4 hz2 | obtain ⟨hy1, hy2, hy3⟩ := lts3 hz2 | obtain ⟨hy1, hy2⟩ := lts2 hz2 | have hy1 := lts1 hz2); have hb9 := hb1)
       go_roundw
       case rel => exact ⟨b + 1, by omega, by go_num, Lib.hid (upto HA2.out (by simp [pairOk, E.out, HP.out])), bel⟩
       case measure => simp [intOf]; omega
    ·go_wp2
     go_roundw
     case rel => exact ⟨a + 1, by omega, by go_num, Lib.hid (upto HA.out (allI_true (fun x hx => HA2.out x (by rw [HN.out] at hx; omega)))), bel⟩
     case measure => simp [intOf]; omega
  ·go_wp2
   go_ret
   exact ⟨ret_bool (allI_true (fun x hx => HA.out x (by rw [HN.out] at hx; omega))).symm, bel⟩

set_option maxHeartbeats 1000000 in
theorem impl_TableOk (m : Mesh) (t : List Int) (A B : Option Addr) (c d : Nat) (w : World) (hr : Kd.C (Kd.int .i64) w A m.br.length m.br) (hn : m.br.length ≤ 2097152) (ht : Kd.C (Kd.int .i64) w B t.length t) (hk : t.length ≤ 2097152) :
  Calls Try.prog 56 #[.agg #[.int .i64 m.g.w, .int .i64 m.g.h, .slice A m.br.length c], .agg #[.slice B t.length d]] w fun e w' => e = .returned (.bool (tableOk m t)) ∧ Below w.heap.size w w' := by
 have htk := tableOk_parts m t
 have HTK := Lib.hid htk
 obtain ⟨n0, n1⟩ := count_le m.g
 obtain ⟨n, hnn⟩ : ∃ n : Nat, nodeCount m.g = (n : Int) := ⟨(nodeCount m.g).toNat, by omega⟩
 have hn16 : n ≤ 16 := by omega
 have hN : nN m.g = n := by unfold nN; omega
 have HN := Lib.hid hN
 have HC := Lib.hid hnn
 clear hN n0 n1 hnn htk
 have p5 : 0 ≤ (n : Int) * (n : Int) := Int.mul_nonneg (by omega) (by omega)
 have p6 : (n : Int) * (n : Int) ≤ 256 := by
  have := Int.mul_le_mul (show (n : Int) ≤ 16 by omega) (show (n : Int) ≤ 16 by omega) (show 0 ≤ (n : Int) by omega) (by omega)
  omega
 go_enter Try.func56, Try.ntmps56
 cases hm : meshOk m
 ·go_wp2_with (first | (go_at_call 29; refine (impl_NodeCount m.g _).mono ?_; rintro e w1 ⟨he, hb1⟩; rw [HC.out] at he; subst he; obtain ⟨hc1, hf1, hz1⟩ := bcell hb1; (try simp only [szs] at hz1); have hb2 := far2; obtain ⟨hc2, hf2, hz2⟩ := bcell hb2; (try simp only [szs] at hz2); try (first | obtain ⟨hy1, hy2, hy3, hy4⟩ := lts4 hz2 | obtain ⟨hy1, hy2, hy3⟩ := lts3 hz2 | obtain ⟨hy1, hy2⟩ := lts2 hz2 | have hy1 := lts1 hz2); have hb9 := hb1) | (go_at_call 73; refine (impl_MeshOk m _ _ _ (by exact Kd.C_below hr bel) hn).mono ?_; rintro e w1 ⟨rfl, hb1⟩; obtain ⟨hc1, hf1, hz1⟩ := bcell hb1; (try simp only [szs] at hz1); have hb2 := far2; obtain ⟨hc2, hf2, hz2⟩ := bcell hb2; (try simp only [szs] at hz2); try (first | obtain ⟨hy1, hy2, hy3, hy4⟩ := lts4 hz2 | obtain ⟨hy1, hy2, hy3⟩ := lts3 hz2 | obtain ⟨hy1, hy2⟩ := lts2 hz2 | have hy1 := lts1 hz2); have hb9 := hb1))
  go_ret
  exact ⟨ret_bool (by rw [HTK.out]; simp [sized, hm]), bel⟩
 by_cases hs : (t.length : Int) = (n : Int) * (n : Int)
 ·have e1 : ((t.length : Int) != (n : Int) * (n : Int)) = false := bne_eq_false_iff_eq.2 hs
  have hsz : sized m t = true := sized_iff.2 ⟨hm, by rw [HC.out]; exact hs⟩
  have HSZ := Lib.hid hsz
  have HS := Lib.hid hs
  clear hs hsz
  go_wp2_with (first | (go_at_call 29; refine (impl_NodeCount m.g _).mono ?_; rintro e w1 ⟨he, hb1⟩; rw [HC.out] at he; subst he; obtain ⟨hc1, hf1, hz1⟩ := bcell hb1; (try simp only [szs] at hz1); have hb2 := far2; obtain ⟨hc2, hf2, hz2⟩ := bcell hb2; (try simp only [szs] at hz2); try (first | obtain ⟨hy1, hy2, hy3, hy4⟩ := lts4 hz2 | obtain ⟨hy1, hy2, hy3⟩ := lts3 hz2 | obtain ⟨hy1, hy2⟩ := lts2 hz2 | have hy1 := lts1 hz2); have hb9 := hb1) | (go_at_call 73; refine (impl_MeshOk m _ _ _ (by exact Kd.C_below hr bel) hn).mono ?_; rintro e w1 ⟨rfl, hb1⟩; obtain ⟨hc1, hf1, hz1⟩ := bcell hb1; (try simp only [szs] at hz1); have hb2 := far2; obtain ⟨hc2, hf2, hz2⟩ := bcell hb2; (try simp only [szs] at hz2); try (first | obtain ⟨hy1, hy2, hy3, hy4⟩ := lts4 hz2 | obtain ⟨hy1, hy2, hy3⟩ := lts3 hz2 | obtain ⟨hy1, hy2⟩ := lts2 hz2 | have hy1 := lts1 hz2); have hb9 := hb1))
  go_loopw [23] (fun i wr => ∃ a : Nat, a ≤ n ∧ i = .int .i64 a ∧ Hid (∀ x : Nat, x < a → (entry m t x x == 4) = true) ∧ Below ((w.alloc (.cells #[.int .i64 m.g.w, .int .i64 m.g.h, .slice A m.br.length c] 28)).alloc (.cells #[.slice B t.length d] 30)).heap.size ((w.alloc (.cells #[.int .i64 m.g.w, .int .i64 m.g.h, .slice A m.br.length c] 28)).alloc (.cells #[.slice B t.length d] 30)) wr) (fun i _ => n - (intOf i).toNat)
  case atStart => exact ⟨0, Nat.zero_le _, rfl, Lib.hid fun x h => absurd h (Nat.not_lt_zero _), bel⟩
  case round =>
   obtain ⟨a, ha, rfl, HA, HB⟩ := hrel
   obtain ⟨hc0, hf0, hz0⟩ := bcell HB
   simp only [szs] at hz0
   by_cases hlt : a < n
   ·have hpl := entry_place (g := m.g) (a := (a : Int)) (b := (a : Int)) (isNode_nat (by rw [HN.out]; exact hlt)) (isNode_nat (by rw [HN.out]; exact hlt))
    rw [HC.out] at hpl
    obtain ⟨q1, q2, q3, q4⟩ := hpl
    have q5 : (a : Int) * (n : Int) + (a : Int) < (t.length : Int) := by rw [HS.out]; exact q4
    clear q4
    obtain ⟨bb, off, rfl, hbl, hx⟩ := rdI_at ht ((a : Int) * (n : Int) + (a : Int)).toNat (by omega)
    have hxe := hx ((a : Int) * (n : Int) + (a : Int)).toNat (by omega)
    rw [Int.toNat_of_nonneg q3] at hxe
    obtain ⟨z1, z2, z3, z4, z5, z6⟩ := more hbl
    clear hx
    obtain ⟨p, hp⟩ : ∃ p, ri t ((a : Int) * (n : Int) + (a : Int)) = p := ⟨_, rfl⟩
    rw [hp] at hxe
    have hpe : entry m t a a = p := by unfold entry; rw [HC.out]; exact hp
    have HP := Lib.hid hpe
    clear hp hpe
    have htn : ((a : Int) * (n : Int) + (a : Int)).toNat = a * n + a := by omega
    rw [htn] at hxe
    have q6 : a * n + a < t.length := by omega
    clear htn
    by_cases c : p = 4
    ·subst c
     go_wp2
     go_roundw
     case rel => exact ⟨a + 1, by omega, by go_num, Lib.hid (upto HA.out (by rw [HP.out]; rfl)), bel⟩
     case measure => simp [intOf]; omega
    ·have e2 : (p != 4) = true := bne_iff_ne.2 c
     have C := Lib.hid c
     clear c
     go_wp2
     go_ret
     exact ⟨ret_bool (by rw [HTK.out, show diagOk m t = false from allI_false a (by rw [HN.out]; exact hlt) (by rw [HP.out]; simpa using C.out)]; simp), bel⟩
   ·have hbd : diagOk m t = true := allI_true (fun x hx => HA.out x (by rw [HN.out] at hx; omega))
    have HBD := Lib.hid hbd
    clear hbd
    go_wp2_with (go_at_call 95; refine (impl_pairs_TableOk m t A B c d _ _ _ (by exact Kd.C_below hr bel) hn (by exact Kd.C_below ht bel) hk ?_ ?_ ?_ ?_).mono ?_; go_simp; go_simp; go_simp; go_simp; rintro e w1 ⟨rfl, hb1⟩; obtain ⟨hc1, hf1, hz1⟩ := bcell hb1; (try simp only [szs] at hz1); have hb2 := far2; obtain ⟨hc2, hf2, hz2⟩ := bcell hb2; (try simp only [szs] at hz2); try (first | obtain ⟨hy1, hy2, hy3, hy4⟩ := lts4 hz2 | obtain ⟨hy1, hy2, hy3⟩ := lts3 hz2 | obtain ⟨hy1, hy2⟩ := lts2 hz2 | have hy1 := lts1 hz2); have hb9 := hb1)
    go_ret
    exact ⟨ret_bool (by rw [HTK.out, HSZ.out, HBD.out]; simp), bel⟩
 ·have e1 : ((t.length : Int) != (n : Int) * (n : Int)) = true := bne_iff_ne.2 hs
  have HS := Lib.hid hs
  clear hs
  go_wp2_with (first | (go_at_call 29; refine (impl_NodeCount m.g _).mono ?_; rintro e w1 ⟨he, hb1⟩; rw [HC.out] at he; subst he; obtain ⟨hc1, hf1, hz1⟩ := bcell hb1; (try simp only [szs] at hz1); have hb2 := far2; obtain ⟨hc2, hf2, hz2⟩ := bcell hb2; (try simp only [szs] at hz2); try (first | obtain ⟨hy1, hy2, hy3, hy4⟩ := lts4 hz2 | obtain ⟨hy1, hy2, hy3⟩ := lts3 hz2 | obtain ⟨hy1, hy2⟩ := lts2 hz2 | have hy1 := lts1 hz2); have hb9 := hb1) | (go_at_call 73; refine (impl_MeshOk m _ _ _ (by exact Kd.C_below hr bel) hn).mono ?_; rintro e w1 ⟨rfl, hb1⟩; obtain ⟨hc1, hf1, hz1⟩ := bcell hb1; (try simp only [szs] at hz1); have hb2 := far2; obtain ⟨hc2, hf2, hz2⟩ := bcell hb2; (try simp only [szs] at hz2); try (first | obtain ⟨hy1, hy2, hy3, hy4⟩ := lts4 hz2 | obtain ⟨hy1, hy2, hy3⟩ := lts3 hz2 | obtain ⟨hy1, hy2⟩ := lts2 hz2 | have hy1 := lts1 hz2); have hb9 := hb1))
  go_ret
  exact ⟨ret_bool (by rw [HTK.out]; simp [sized, HC.out, HS.out]), bel⟩

def srcTo (l : List Packet) (a : Int) (k : Nat) : Int := (l.take k).foldl (fun s p => if p.src = a then wrap64 (s + p.len) else s) 0
def dstTo (l : List Packet) (a : Int) (k : Nat) : Int := (l.take k).foldl (fun s p => if p.dst = a then wrap64 (s + p.len) else s) 0
def atL (b x : Int) : Int := if 0 < x then max b (x + 2) else b
def bl (xs : List Int) (k : Nat) : Int := (xs.take k).foldl atL 0
def bs (l : List Packet) : Nat → Int
  | 0 => 0
  | k + 1 => atL (bs l k) (srcTo l k l.length)
def bd (l : List Packet) : Nat → Int
  | 0 => 0
  | k + 1 => atL (bd l k) (dstTo l k l.length)
def Arr (W : World) (b : Nat) (t : TypeId) (cs : Array Value) : Prop := W.heap[b]? = some (.cells cs t (0, 0))
theorem Arr.lt {W : World} {b : Nat} {t : TypeId} {cs : Array Value} (h : Arr W b t cs) : b < W.heap.size := (Array.getElem?_eq_some_iff.1 h).1
theorem Arr.cell {W : World} {b : Nat} {t : TypeId} {cs : Array Value} (h : Arr W b t cs) (o : Nat) : W.cell? ⟨b, o, none⟩ = cs[o]? := by
  unfold World.cell?
  rw [show W.heap[b]? = _ from h]
  rfl
theorem Arr.frozen {W : World} {b : Nat} {t : TypeId} {cs : Array Value} (h : Arr W b t cs) (o : Nat) : W.frozen? ⟨b, o, none⟩ = false := by
  unfold World.frozen?
  rw [show W.heap[b]? = _ from h]
  simp
theorem Arr.new (W : World) (b : Nat) (t : TypeId) (cs : Array Value) (hb : b = W.heap.size) : Arr (W.alloc (.cells cs t)) b t cs := by
  subst hb
  exact (show (W.heap.push _)[W.heap.size]? = _ from Array.getElem?_push_size)
theorem Arr.below {W W1 : World} {b : Nat} {t : TypeId} {cs : Array Value} (h : Arr W b t cs) (hb : Below W.heap.size W W1) : Arr W1 b t cs := (hb.block b h.lt).trans h
theorem Arr.set {W : World} {b : Nat} {t : TypeId} {cs : Array Value} (h : Arr W b t cs) (i : Nat) (v : Value) : Arr (W.setCell ⟨b, i, none⟩ v) b t (cs.setIfInBounds i v) := by
  show (W.heap.modify b _)[b]? = _
  have hlt := h.lt
  have h2 : W.heap[b]? = some (.cells cs t (0, 0)) := h
  rw [Array.getElem?_eq_getElem hlt] at h2
  injection h2 with h2
  rw [Array.getElem?_eq_getElem (by rw [Array.size_modify]; exact hlt), Array.getElem_modify_self, h2]
  rfl
theorem Arr.other {W : World} {b : Nat} {t : TypeId} {cs : Array Value} (h : Arr W b t cs) (g i : Nat) (v : Value) (hne : b ≠ g) : Arr (W.setCell ⟨g, i, none⟩ v) b t cs :=
  (Below.heap_setCell W ⟨g, i, none⟩ v b hne).trans h
theorem and255 (x : Int) : 0 ≤ bits .and .i64 x 255 ∧ bits .and .i64 x 255 ≤ 255 := by
  have h255 : (BitVec.ofInt 64 255).toNat = 2 ^ 8 - 1 := by decide
  have key : (BitVec.ofInt 64 x &&& BitVec.ofInt 64 255).toNat = (x % ((2 ^ 64 : Nat) : Int)).toNat % 2 ^ 8 := by
    rw [BitVec.toNat_and, BitVec.toNat_ofInt, h255, Nat.and_two_pow_sub_one_eq_mod]
  show 0 ≤ IntKind.i64.wrap ((BitVec.ofInt 64 x &&& BitVec.ofInt 64 255).toNat : Nat) ∧ IntKind.i64.wrap ((BitVec.ofInt 64 x &&& BitVec.ofInt 64 255).toNat : Nat) ≤ 255
  rw [key, IntKind.wrap_i64]
  omega
theorem grown_cell (W : World) (b k : Nat) (v : Value) : W.grownBy (W.setCell ⟨b, k, none⟩ v) (some b) :=
  ⟨rfl, rfl, rfl, (KeepsWalks.setCell W _ v).size, fun j _ hj => Below.heap_setCell _ _ _ j (fun e => hj (by rw [e]))⟩
theorem grown_drew (W : World) (r : Option Nat) : W.grownBy W.drew r := ⟨rfl, rfl, rfl, Nat.le_refl _, fun _ _ _ => rfl⟩
theorem rdU_at {w : World} {A : Option Addr} {l : List Int} (h : Kd.C (Kd.int .u8) w A l.length l) (k : Nat) (hk : k < l.length) :
    ∃ b off, A = some ⟨b, off, none⟩ ∧ b < w.heap.size ∧ ∀ j, j < l.length → w.cell? ⟨b, off + j, none⟩ = some (.int .u8 (NoC.ri l j)) := by
  have key : ∀ j, j < l.length → ∃ ad, A = some ad ∧ w.cell? (ad.add j) = some (.int .u8 (NoC.ri l j)) := by
    intro j hj
    obtain ⟨ad, cs, e, _, hK, hc⟩ := Kd.C_get h 0 (j : Int) (by omega) (by omega)
    have hK' : cs = [.int .u8 (l.getD (j : Int).toNat 0)] := hK
    subst hK'
    have := hc 0 _ rfl
    refine ⟨ad, e, ?_⟩
    have e2 : (j : Int).toNat * (Kd.int .u8).sz + 0 = j := by show (j : Int).toNat * 1 + 0 = j; omega
    rw [e2] at this
    exact this
  obtain ⟨ad, rfl, h0⟩ := key 0 (by omega)
  have hs : ad.spot = none := by
    cases hsp : ad.spot with
    | none => rfl
    | some s =>
      have : ad.add 0 = ad := by simp [Addr.add]
      rw [this] at h0
      unfold World.cell? at h0
      split at h0
      · simp [hsp] at h0
      · simp at h0
  obtain ⟨b, off, sp⟩ := ad
  simp only at hs
  subst hs
  refine ⟨b, off, rfl, World.block_lt_of_cell? w _ h0, fun j hj => ?_⟩
  obtain ⟨ad, e, h1⟩ := key j hj
  obtain rfl := Option.some.inj e
  rwa [show (⟨b, off, none⟩ : Addr).add j = ⟨b, off + j, none⟩ by unfold Addr.add; split <;> simp_all] at h1
def Cur (w : World) (b B0 : Nat) : Prop := B0 ≤ b ∧ ∃ A N c i h, Arr w b 79 #[.slice A N c, .int .i64 i, .int .i64 h] ∧ 0 ≤ i ∧ N ≤ 140737488355328 ∧ ∀ n : Nat, n < N → ∃ B off u, A = some ⟨B, off, none⟩ ∧ B < B0 ∧ w.cell? ⟨B, off + n, none⟩ = some (.int .u8 u)
theorem Cur.lt {w : World} {b B0 : Nat} (h : Cur w b B0) : b < w.heap.size := by
  obtain ⟨_, A, N, c, i, x, ha, _⟩ := h
  exact ha.lt
theorem Cur.grown {w w1 : World} {b B0 : Nat} {row : Option Nat} (h : Cur w b B0) (hg : w.grownBy w1 row) (hr : ∀ k, row = some k → B0 ≤ k ∧ k ≠ b) : Cur w1 b B0 := by
  have hlt := h.lt
  obtain ⟨h0, A, N, c, i, x, ha, hi, hN, hk⟩ := h
  refine ⟨h0, A, N, c, i, x, (hg.block b hlt (fun e => (hr b e.symm).2 rfl)).trans ha, hi, hN, fun n hn => ?_⟩
  obtain ⟨B, off, u, e, hB, hc⟩ := hk n hn
  refine ⟨B, off, u, e, hB, ?_⟩
  rw [← hc]
  have := hg.block B (by omega) (fun e => by have := (hr B e.symm).1; omega)
  unfold World.cell?
  rw [this]
theorem Cur.below {w w1 : World} {b B0 : Nat} (h : Cur w b B0) (hg : Below w.heap.size w w1) : Cur w1 b B0 := h.grown (grown_below none hg) (fun k e => by cases e)
theorem Cur.set {w : World} {b B0 : Nat} {A : Option Addr} {N c : Nat} {i h : Int} (h0 : B0 ≤ b) (ha : Arr w b 79 #[.slice A N c, .int .i64 i, .int .i64 h]) (hN : N ≤ 140737488355328)
    (hk : ∀ n : Nat, n < N → ∃ B off u, A = some ⟨B, off, none⟩ ∧ B < B0 ∧ w.cell? ⟨B, off + n, none⟩ = some (.int .u8 u)) {w1 : World} (hg : w.grownBy w1 (some b)) {i1 h1 : Int} (hi : 0 ≤ i1) (h1a : Arr w1 b 79 #[.slice A N c, .int .i64 i1, .int .i64 h1]) : Cur w1 b B0 := by
  have hlt := ha.lt
  refine ⟨h0, A, N, c, i1, h1, h1a, hi, hN, fun n hn => ?_⟩
  obtain ⟨B, off, u, e, hB, hc⟩ := hk n hn
  refine ⟨B, off, u, e, hB, ?_⟩
  rw [← hc]
  have := hg.block B (by omega) (fun e => by injection e with e; omega)
  unfold World.cell?
  rw [this]
theorem gt_drew {w W : World} {r : Option Nat} (h : w.grownBy W r) : w.grownBy W.drew r := grown_trans h (grown_drew W r)
theorem gt_cell {w W : World} {b : Nat} (k : Nat) (v : Value) (h : w.grownBy W (some b)) : w.grownBy (W.setCell ⟨b, k, none⟩ v) (some b) := grown_trans h (grown_cell W b k v)
set_option maxHeartbeats 1000000 in
theorem spec_l01Byte (b B0 : Nat) (w : World) (HC : Cur w b B0) : Calls Try.prog 54 #[.pointer (some ⟨b, 0, none⟩)] w fun e w' => ∃ x : Int, e = .returned (.int .i64 x) ∧ 0 ≤ x ∧ x ≤ 255 ∧ Cur w' b B0 ∧ w.grownBy w' (some b) := by
  obtain ⟨h0, A, N, c, i, h, ha, hi, hN, hk⟩ := HC
  have hlt := ha.lt
  have c0 : w.cell? ⟨b, 0, none⟩ = some (.slice A N c) := ha.cell 0
  have c1 : w.cell? ⟨b, 1, none⟩ = some (.int .i64 i) := ha.cell 1
  have c2 : w.cell? ⟨b, 2, none⟩ = some (.int .i64 h) := ha.cell 2
  have f1 := ha.frozen 1
  have f2 := ha.frozen 2
  have HK := Lib.hid hk
  have HA := Lib.hid ha
  clear hk ha
  by_cases hl : i < N
  · obtain ⟨n, rfl⟩ : ∃ n : Nat, i = n := ⟨i.toNat, by omega⟩
    obtain ⟨B, off, u, rfl, hB, hx⟩ := HK.out n (by omega)
    have hne : B ≠ b := by omega
    go_enter Try.func54, Try.ntmps54
    go_wp2
    go_region
    go_wp2
    go_region
    go_wp2
    go_region
    go_wp2
    go_ret
    refine ⟨_, rfl, (and255 _).1, (and255 _).2, Cur.set h0 HA.out hN HK.out (i1 := (n : Int) + 1) ?_ (by omega) (by exact ((HA.out).set 2 _).set 1 _), ?_⟩
    all_goals (with_reducible repeat (first | exact World.grownBy.refl _ _ | apply gt_cell | apply gt_drew))
  · go_enter Try.func54, Try.ntmps54
    go_wp2
    go_region
    go_wp2
    go_region
    go_wp2
    go_ret
    refine ⟨_, rfl, (and255 _).1, (and255 _).2, Cur.set h0 HA.out hN HK.out (i1 := i) ?_ (by omega) (by exact (HA.out).set 2 _), ?_⟩
    all_goals (with_reducible repeat (first | exact World.grownBy.refl _ _ | apply gt_cell | apply gt_drew))
set_option maxHeartbeats 1000000 in
theorem spec_l01Below (b B0 : Nat) (n : Int) (w : World) (HC : Cur w b B0) (n0 : 0 < n) (n1 : n ≤ 1000000000) : Calls Try.prog 26 #[.pointer (some ⟨b, 0, none⟩), .int .i64 n] w fun e w' => ∃ x : Int, e = .returned (.int .i64 x) ∧ 0 ≤ x ∧ x < n ∧ Cur w' b B0 ∧ w.grownBy w' (some b) := by
  have HG : w.grownBy w (some b) := World.grownBy.refl _ _
  by_cases hl : n ≤ 256
  · go_enter Try.func26, Try.ntmps26
    go_wp2_with (go_at_call 54; refine (spec_l01Byte b B0 _ HC).mono ?_; rintro e w1 ⟨x, rfl, x0, x1, HC1, hg1⟩)
    go_ret
    exact ⟨_, rfl, Int.emod_nonneg _ (by omega), Int.emod_lt_of_pos _ n0, HC1, hg1⟩
  · go_enter Try.func26, Try.ntmps26
    go_wp2_with (go_at_call 54; refine (spec_l01Byte b B0 _ HC).mono ?_; rintro e w1 ⟨x, rfl, x0, x1, HC1, hg1⟩; replace HG := grown_trans HG hg1; replace HC := HC1)
    go_ret
    exact ⟨_, rfl, Int.emod_nonneg _ (by omega), Int.emod_lt_of_pos _ n0, HC, HG⟩
set_option maxHeartbeats 1000000 in
theorem spec_l01PickInt (b B0 g cap : Nat) (xs : List Int) (w : World) (HC : Cur w b B0) (hg : g ≠ b) (hlt : g < w.heap.size) (hx : ∀ k : Nat, k < xs.length → w.cell? ⟨g, k, none⟩ = some (.int .i64 (ri xs k))) (h0 : 0 < xs.length) (h1 : xs.length ≤ 1000) (hcap : xs.length ≤ cap) :
    Calls Try.prog 91 #[.pointer (some ⟨b, 0, none⟩), .slice (some ⟨g, 0, none⟩) xs.length cap] w fun e w' => ∃ j : Nat, j < xs.length ∧ e = .returned (.int .i64 (ri xs j)) ∧ Cur w' b B0 ∧ w.grownBy w' (some b) := by
  go_enter Try.func91, Try.ntmps91
  go_wp2_with (go_at_call 26; refine (spec_l01Below b B0 _ _ HC (by omega) (by omega)).mono ?_; rintro e w1 ⟨x, rfl, x0, x1, HC1, hg1⟩; obtain ⟨j, rfl⟩ : ∃ j : Nat, x = j := ⟨x.toNat, by omega⟩; have hxj := hg1.cell (hx j (by omega)) (by intro e; injection e with e; exact hg e))
  go_ret
  exact ⟨j, by omega, rfl, HC1, hg1⟩
theorem gt_alloc {w W : World} {r : Option Nat} (o : Obj) (h : w.grownBy W r) : w.grownBy (W.alloc o) r := grown_trans h (World.grownBy_alloc W o r)
theorem gt_own {w W : World} {r : Option Nat} {g : Nat} (k : Nat) (v : Value) (h : w.grownBy W r) (hg : w.heap.size ≤ g) : w.grownBy (W.setCell ⟨g, k, none⟩ v) r :=
  ⟨h.os, h.tape, h.output, Nat.le_trans h.size (KeepsWalks.setCell W _ v).size, fun j hj hne => (Below.heap_setCell W ⟨g, k, none⟩ v j (by show j ≠ g; omega)).trans (h.block j hj hne)⟩
theorem Cur.far {w : World} {b B0 g : Nat} (k : Nat) (v : Value) (h : Cur w b B0) (hg : b < g) : Cur (w.setCell ⟨g, k, none⟩ v) b B0 :=
  h.grown (grown_cell w g k v) (fun j e => by injection e with e; have := h.1; omega)
theorem ri_pick (j : Nat) (h : j < 6) : 1 ≤ ri [1, 2, 2, 3, 3, 4] j ∧ ri [1, 2, 2, 3, 3, 4] j ≤ 4 := by
  rcases (by omega : j = 0 ∨ j = 1 ∨ j = 2 ∨ j = 3 ∨ j = 4 ∨ j = 5) with rfl | rfl | rfl | rfl | rfl | rfl <;> decide
theorem cells_pick (W : World) (g : Nat) (hg : g = W.heap.size) (k : Nat) (h : k < 6) : (W.alloc (.cells #[.int .i64 1, .int .i64 2, .int .i64 2, .int .i64 3, .int .i64 3, .int .i64 4] 3)).cell? ⟨g, k, none⟩ = some (.int .i64 (ri [1, 2, 2, 3, 3, 4] k)) := by
  rw [(Box.new W g _ 3 hg).get k]
  rcases (by omega : k = 0 ∨ k = 1 ∨ k = 2 ∨ k = 3 ∨ k = 4 ∨ k = 5) with rfl | rfl | rfl | rfl | rfl | rfl <;> rfl
set_option maxHeartbeats 1000000 in
theorem spec_l02Grid (b B0 : Nat) (w : World) (HC : Cur w b B0) : Calls Try.prog 51 #[.pointer (some ⟨b, 0, none⟩)] w fun e w' => ∃ g : Grid, e = .returned (.agg #[.int .i64 g.w, .int .i64 g.h]) ∧ 1 ≤ g.w ∧ g.w ≤ 4 ∧ 1 ≤ g.h ∧ g.h ≤ 4 ∧ Cur w' b B0 ∧ w.grownBy w' (some b) := by
  have hb := HC.lt
  go_enter Try.func51, Try.ntmps51
  go_wp2_with (first
    | (go_at_call 91; have HR2 := HR1; refine (spec_l01PickInt b B0 _ 6 [1, 2, 2, 3, 3, 4] _ (HC.below bel) (by omega) (by simp only [szs]; omega) (fun k h => cells_pick _ _ (by simp only [szs]) k h) (by decide) (by decide) (by decide)).mono ?_; rintro e w2 ⟨j2, hj2, rfl, HC2, hg2⟩; obtain ⟨p3, p4⟩ := ri_pick j2 hj2; have hz2 := hg2.size; simp only [szs] at hz2; have HR3 : Arr w2 w.heap.size 25 #[.int .i64 0, .int .i64 0] := (hg2.block _ (by simp only [szs]; omega) (by intro e; injection e with e; omega)).trans (HR2.below (bw_alloc _ (bw_refl _))); have x0 : w2.cell? ⟨w.heap.size, 0, none⟩ = some (.int .i64 0) := HR3.cell 0; have x1 : w2.cell? ⟨w.heap.size, 1, none⟩ = some (.int .i64 0) := HR3.cell 1; have x2 := HR3.frozen 0; have x3 := HR3.frozen 1)
    | (go_at_call 91; refine (spec_l01PickInt b B0 _ 6 [1, 2, 2, 3, 3, 4] _ (HC.below bel) (by omega) (by simp only [szs]; omega) (fun k h => cells_pick _ _ (by simp only [szs]) k h) (by decide) (by decide) (by decide)).mono ?_; rintro e w1 ⟨j1, hj1, rfl, HC1, hg1⟩; obtain ⟨p1, p2⟩ := ri_pick j1 hj1; have hz1 := hg1.size; simp only [szs] at hz1; have HR1 : Arr w1 w.heap.size 25 #[.int .i64 0, .int .i64 0] := (hg1.block _ (by simp only [szs]; omega) (by intro e; injection e with e; omega)).trans ((Arr.new w w.heap.size 25 #[.int .i64 0, .int .i64 0] rfl).below (bw_alloc _ (bw_refl _))); replace HC := HC1))
  have e1 : w.grownBy w2 (some b) := grown_trans (grown_trans (gt_alloc _ (gt_alloc _ (World.grownBy.refl _ _))) hg1) (grown_trans (gt_alloc _ (World.grownBy.refl _ _)) hg2)
  refine bodyPost_ret (v := .agg #[.int .i64 (ri [1, 2, 2, 3, 3, 4] j1), .int .i64 (ri [1, 2, 2, 3, 3, 4] j2)]) (by simp [results, Try.results51, go_sem, *]) rfl ?_
  refine ⟨⟨_, _⟩, rfl, p1, p2, p3, p4, Cur.far _ _ (Cur.far _ _ HC2 hb) hb, gt_own _ _ (gt_own _ _ e1 (Nat.le_refl _)) (Nat.le_refl _)⟩
def Byt (w : World) (A : Option Addr) (N : Nat) : Prop := N ≤ 140737488355328 ∧ ∀ n : Nat, n < N → ∃ B off u, A = some ⟨B, off, none⟩ ∧ B < w.heap.size ∧ w.cell? ⟨B, off + n, none⟩ = some (.int .u8 u)
theorem Byt.below {w w1 : World} {A : Option Addr} {N : Nat} (h : Byt w A N) (hb : Below w.heap.size w w1) : Byt w1 A N :=
  ⟨h.1, fun n hn => by
    obtain ⟨B, off, u, e, hB, hc⟩ := h.2 n hn
    exact ⟨B, off, u, e, Nat.lt_of_lt_of_le hB hb.size, ((bcell hb).1 B _ hB).trans hc⟩⟩
theorem cur_new {w : World} {A : Option Addr} {N : Nat} (c : Nat) (x : Int) (h : Byt w A N) : Cur (w.alloc (.cells #[.slice A N c, .int .i64 0, .int .i64 x] 79)) w.heap.size w.heap.size :=
  ⟨Nat.le_refl _, A, N, c, 0, x, Arr.new w _ _ _ rfl, by omega, h.1, fun n hn => by
    obtain ⟨B, off, u, e, hB, hc⟩ := h.2 n hn
    exact ⟨B, off, u, e, hB, ((bcell (bw_alloc _ (bw_refl w))).1 B _ hB).trans hc⟩⟩
set_option maxHeartbeats 1000000 in
theorem spec_l01New (A : Option Addr) (N c : Nat) (w : World) (HX : Byt w A N) : Calls Try.prog 23 #[.slice A N c] w fun e w' => ∃ b, e = .returned (.pointer (some ⟨b, 0, none⟩)) ∧ w.heap.size ≤ b ∧ Cur w' b w.heap.size ∧ Below w.heap.size w w' := by
  have hN := HX.1
  go_enter Try.func23, Try.ntmps23
  go_wp2
  go_loop [3, 4] (fun h i => ∃ (k : Nat) (x : Int), i = .int .i64 k ∧ h = .int .i64 x ∧ k ≤ N) (fun _ i => N - (intOf i).toNat)
  case atStart => exact ⟨0, _, rfl, rfl, Nat.zero_le _⟩
  case round =>
    obtain ⟨k, x, rfl, rfl, hk⟩ := hrel
    by_cases hlt : k < N
    · obtain ⟨B, off, u, rfl, hB, hc⟩ := HX.2 k hlt
      have i0 : (k : Int) < (N : Int) := by omega
      by_cases h4 : (k : Int) < 4000
      · go_wp2
        go_round
        case rel => exact ⟨k + 1, _, by go_num, rfl, by omega⟩
        case measure => simp [intOf]; omega
      · go_wp2
        go_ret
        exact ⟨_, rfl, Nat.le_refl _, cur_new _ _ HX, bel⟩
    · go_wp2
      go_ret
      exact ⟨_, rfl, Nat.le_refl _, cur_new _ _ HX, bel⟩
theorem bw_cur {w W W1 : World} {b : Nat} (h : Below w.heap.size w W) (hg : W.grownBy W1 (some b)) (hb : w.heap.size ≤ b) : Below w.heap.size w W1 :=
  h.grown hg h.size (fun k hk => by injection hk with hk; omega)
section
variable {P : Program} {ops : Array Oper} {rest : List Oper} {o : Oper} {a : Act} {Q : Exit → Act → World → Prop}
end
theorem spec_l05Column (x t : Int) (w : World) : Calls Try.prog 93 #[.int .i64 x, .int .i64 t] w fun e w' => e = .returned (.int .i64 (stdCol x t)) ∧ w' = w := by
  by_cases h : t < x
  · go_enter Try.func93, Try.ntmps93
    go_wp2
    go_ret
    exact ⟨ret_int (by unfold stdCol; rw [if_pos h]), rfl⟩
  · go_enter Try.func93, Try.ntmps93
    go_wp2
    go_ret
    exact ⟨ret_int (by unfold stdCol; rw [if_neg (by omega)]), rfl⟩
theorem spec_l05Row (x t : Int) (w : World) : Calls Try.prog 94 #[.int .i64 x, .int .i64 t] w fun e w' => e = .returned (.int .i64 (stdRow x t)) ∧ w' = w := by
  by_cases h : t < x
  · go_enter Try.func94, Try.ntmps94
    go_wp2
    go_ret
    exact ⟨ret_int (by unfold stdRow; rw [if_pos h]), rfl⟩
  · go_enter Try.func94, Try.ntmps94
    go_wp2
    go_ret
    exact ⟨ret_int (by unfold stdRow; rw [if_neg (by omega)]), rfl⟩
theorem std_yes {g : Grid} {r a b : Int} (h : ¬ a = b) (hf : stdFirst g (stdRule r b) a b = true) : stdPort g r a b = stdCol (a % g.w) (b % g.w) := by unfold stdPort; rw [if_neg h, if_pos hf]
theorem std_no {g : Grid} {r a b : Int} (h : ¬ a = b) (hf : stdFirst g (stdRule r b) a b = false) : stdPort g r a b = stdRow (a / g.w) (b / g.w) := by unfold stdPort; rw [if_neg h, if_neg (by simp [hf])]
set_option maxHeartbeats 4000000 in
theorem spec_l05Port (g : Grid) (r a b : Int) (w : World) (g1 : 1 ≤ g.w) (g4 : g.w ≤ 4) (a0 : 0 ≤ a) (a1 : a ≤ 15) (b0 : 0 ≤ b) (b1 : b ≤ 15) (r1 : 1 ≤ r) (r4 : r ≤ 4) :
  Calls Try.prog 53 #[.agg #[.int .i64 g.w, .int .i64 g.h], .int .i64 r, .int .i64 a, .int .i64 b] w fun e w' => e = .returned (.int .i64 (stdPort g r a b)) ∧ Below w.heap.size w w' := by
 have hx : a.tmod g.w = a % g.w := Int.tmod_eq_emod_of_nonneg a0
 have hu : b.tmod g.w = b % g.w := Int.tmod_eq_emod_of_nonneg b0
 have hy : a.tdiv g.w = a / g.w := Int.tdiv_eq_ediv_of_nonneg a0
 have hv : b.tdiv g.w = b / g.w := Int.tdiv_eq_ediv_of_nonneg b0
 have HQ : Hid (∀ x : Int, 0 ≤ x → x ≤ 15 → 0 ≤ x % g.w ∧ x % g.w ≤ 15 ∧ 0 ≤ x / g.w ∧ x / g.w ≤ 15) := Lib.hid (fun x h0 h1 => by
  have e1 := Int.emod_nonneg x (show g.w ≠ 0 by omega)
  have e2 := Int.emod_lt_of_pos x (show 0 < g.w by omega)
  have e3 := Int.ediv_nonneg h0 (show 0 ≤ g.w by omega)
  have e4 := Int.ediv_le_self g.w h0
  omega)
 obtain ⟨q1, q2, q3, q4⟩ := HQ.out a a0 a1
 obtain ⟨s1, s2, s3, s4⟩ := HQ.out b b0 b1
 have gne : ¬ g.w = 0 := by omega
 obtain ⟨x, ex⟩ : ∃ x, a % g.w = x := ⟨_, rfl⟩
 obtain ⟨y, ey⟩ : ∃ x, a / g.w = x := ⟨_, rfl⟩
 obtain ⟨u, eu⟩ : ∃ x, b % g.w = x := ⟨_, rfl⟩
 obtain ⟨v, ev⟩ : ∃ x, b / g.w = x := ⟨_, rfl⟩
 have EX := Lib.hid ex; have EY := Lib.hid ey; have EU := Lib.hid eu; have EV := Lib.hid ev
 by_cases hab : a = b
 ·have HE : Hid (stdPort g r a b = 4) := Lib.hid (by unfold stdPort; rw [if_pos hab])
  subst hab
  go_enter Try.func53, Try.ntmps53
  go_wp2
  go_ret
  exact ⟨ret_int HE.out.symm, bel⟩
 have HAB := Lib.hid hab
 have fab : (a == b) = false := beq_eq_false_iff_ne.2 hab
 have HY : Hid (stdFirst g (stdRule r b) a b = true → stdPort g r a b = stdCol x u) := Lib.hid (fun h => by rw [std_yes hab h, ex, eu])
 have HN : Hid (stdFirst g (stdRule r b) a b = false → stdPort g r a b = stdRow y v) := Lib.hid (fun h => by rw [std_no hab h, ey, ev])
 have HF : Hid (∀ k, stdRule r b = k → stdFirst g (stdRule r b) a b = if k = 2 then decide (y = v) else if k = 3 then decide (u < x) || decide (y = v) else !decide (x = u)) := Lib.hid (fun k hk => by
  rw [hk]
  unfold stdFirst
  rw [ex, ey, eu, ev])
 rw [ex] at hx
 rw [eu] at hu
 rw [ey] at hy
 rw [ev] at hv
 clear hab
 rcases (by omega : r = 1 ∨ r = 2 ∨ r = 3 ∨ r = 4) with rfl | rfl | rfl | rfl
 ·by_cases hxu : x = u
  ·have fxu : (x != u) = false := by simp [hxu]
   have HH := Lib.hid hxu
   clear hxu
   have HE : Hid (stdPort g 1 a b = stdRow y v) := Lib.hid (HN.out (by rw [HF.out 1 (by rfl)]; simp [HH.out]))
   go_enter Try.func53, Try.ntmps53
   go_wp2_with (go_at_call 94; refine (spec_l05Row _ _ _).mono ?_; rintro e w' ⟨rfl, rfl⟩)
   go_ret
   exact ⟨ret_int HE.out.symm, bel⟩
  ·have fxu : (x != u) = true := by simp [hxu]
   have HH := Lib.hid hxu
   clear hxu
   have HE : Hid (stdPort g 1 a b = stdCol x u) := Lib.hid (HY.out (by rw [HF.out 1 (by rfl)]; simp [HH.out]))
   go_enter Try.func53, Try.ntmps53
   go_wp2_with (go_at_call 93; refine (spec_l05Column _ _ _).mono ?_; rintro e w' ⟨rfl, rfl⟩)
   go_ret
   exact ⟨ret_int HE.out.symm, bel⟩
 ·obtain ⟨fx, hfx⟩ : ∃ z, (x != u) = z := ⟨_, rfl⟩
  by_cases hyv : y = v
  ·have fyv : (y == v) = true := by simp [hyv]
   have HH := Lib.hid hyv
   clear hyv
   have HE : Hid (stdPort g 2 a b = stdCol x u) := Lib.hid (HY.out (by rw [HF.out 2 (by rfl)]; simp [HH.out]))
   go_enter Try.func53, Try.ntmps53
   go_wp2_with (go_at_call 93; refine (spec_l05Column _ _ _).mono ?_; rintro e w' ⟨rfl, rfl⟩)
   go_ret
   exact ⟨ret_int HE.out.symm, bel⟩
  ·have fyv : (y == v) = false := by simp [hyv]
   have HH := Lib.hid hyv
   clear hyv
   have HE : Hid (stdPort g 2 a b = stdRow y v) := Lib.hid (HN.out (by rw [HF.out 2 (by rfl)]; simp [HH.out]))
   go_enter Try.func53, Try.ntmps53
   go_wp2_with (go_at_call 94; refine (spec_l05Row _ _ _).mono ?_; rintro e w' ⟨rfl, rfl⟩)
   go_ret
   exact ⟨ret_int HE.out.symm, bel⟩
 ·obtain ⟨fx, hfx⟩ : ∃ z, (x != u) = z := ⟨_, rfl⟩
  by_cases hlt : u < x
  ·have HH := Lib.hid hlt
   have HE : Hid (stdPort g 3 a b = stdCol x u) := Lib.hid (HY.out (by rw [HF.out 3 (by rfl)]; simp [HH.out]))
   go_enter Try.func53, Try.ntmps53
   go_wp2_with (go_at_call 93; refine (spec_l05Column _ _ _).mono ?_; rintro e w' ⟨rfl, rfl⟩)
   go_ret
   exact ⟨ret_int HE.out.symm, bel⟩
  ·have HL := Lib.hid hlt
   by_cases hyv : y = v
   ·have fyv : (y == v) = true := by simp [hyv]
    have HH := Lib.hid hyv
    clear hyv
    have HE : Hid (stdPort g 3 a b = stdCol x u) := Lib.hid (HY.out (by rw [HF.out 3 (by rfl)]; simp [HH.out]))
    go_enter Try.func53, Try.ntmps53
    go_wp2_with (go_at_call 93; refine (spec_l05Column _ _ _).mono ?_; rintro e w' ⟨rfl, rfl⟩)
    go_ret
    exact ⟨ret_int HE.out.symm, bel⟩
   ·have fyv : (y == v) = false := by simp [hyv]
    have HH := Lib.hid hyv
    clear hyv
    have HE : Hid (stdPort g 3 a b = stdRow y v) := Lib.hid (HN.out (by rw [HF.out 3 (by rfl)]; simp [HH.out]; exact Int.not_lt.1 HL.out))
    go_enter Try.func53, Try.ntmps53
    go_wp2_with (go_at_call 94; refine (spec_l05Row _ _ _).mono ?_; rintro e w' ⟨rfl, rfl⟩)
    go_ret
    exact ⟨ret_int HE.out.symm, bel⟩
 ·rcases (by omega : b % 2 = 0 ∨ b % 2 = 1) with hb2 | hb2
  ·have HP := Lib.hid hb2
   by_cases hxu : x = u
   ·have fxu : (x != u) = false := by simp [hxu]
    have HH := Lib.hid hxu
    clear hxu
    have HE : Hid (stdPort g 4 a b = stdRow y v) := Lib.hid (HN.out (by rw [HF.out 1 (by unfold stdRule; rw [if_pos rfl, HP.out]; rfl)]; simp [HH.out]))
    go_enter Try.func53, Try.ntmps53
    go_wp2_with (go_at_call 94; refine (spec_l05Row _ _ _).mono ?_; rintro e w' ⟨rfl, rfl⟩)
    go_ret
    exact ⟨ret_int HE.out.symm, bel⟩
   ·have fxu : (x != u) = true := by simp [hxu]
    have HH := Lib.hid hxu
    clear hxu
    have HE : Hid (stdPort g 4 a b = stdCol x u) := Lib.hid (HY.out (by rw [HF.out 1 (by unfold stdRule; rw [if_pos rfl, HP.out]; rfl)]; simp [HH.out]))
    go_enter Try.func53, Try.ntmps53
    go_wp2_with (go_at_call 93; refine (spec_l05Column _ _ _).mono ?_; rintro e w' ⟨rfl, rfl⟩)
    go_ret
    exact ⟨ret_int HE.out.symm, bel⟩
  ·have HP := Lib.hid hb2
   obtain ⟨fx, hfx⟩ : ∃ z, (x != u) = z := ⟨_, rfl⟩
   by_cases hyv : y = v
   ·have fyv : (y == v) = true := by simp [hyv]
    have HH := Lib.hid hyv
    clear hyv
    have HE : Hid (stdPort g 4 a b = stdCol x u) := Lib.hid (HY.out (by rw [HF.out 2 (by unfold stdRule; rw [if_pos rfl, HP.out]; rfl)]; simp [HH.out]))
    go_enter Try.func53, Try.ntmps53
    go_wp2_with (go_at_call 93; refine (spec_l05Column _ _ _).mono ?_; rintro e w' ⟨rfl, rfl⟩)
    go_ret
    exact ⟨ret_int HE.out.symm, bel⟩
   ·have fyv : (y == v) = false := by simp [hyv]
    have HH := Lib.hid hyv
    clear hyv
    have HE : Hid (stdPort g 4 a b = stdRow y v) := Lib.hid (HN.out (by rw [HF.out 2 (by unfold stdRule; rw [if_pos rfl, HP.out]; rfl)]; simp [HH.out]))
    go_enter Try.func53, Try.ntmps53
    go_wp2_with (go_at_call 94; refine (spec_l05Row _ _ _).mono ?_; rintro e w' ⟨rfl, rfl⟩)
    go_ret
    exact ⟨ret_int HE.out.symm, bel⟩
section
variable {ops : Array Oper} {o : Oper} {a : Act} {Kc : Act → World → Prop} {Q' : Exit → Act → World → Prop}
theorem app_intS {B : Nat} {W : World} (hw : Region.wanted o (yielded ops a.tmps) = true) (s x : Operand)
    (ho : o.op = .call { callee := .builtin .append, args := #[s, x], argTypes := #[26, 26] })
    (v : Value) (xs : List Int) (y : Int) (hs : a.eval s = v) (hx : a.eval x = .slice (some ⟨W.heap.size, 0, none⟩) 1 1)
    (HO : Kd.R (Kd.int .i64) 3 W B (fun _ => True) v xs) (hB : B ≤ W.heap.size) (hl : xs.length ≤ 100000000)
    (h : ∀ v1 w1, Kd.R (Kd.int .i64) 3 w1 B (fun _ => True) v1 (xs ++ [y]) → W.grownBy w1 v.ownBlock → Kc (a.put o.dst v1) w1) :
    if Region.wanted o (yielded ops a.tmps) = true then Oper.wp Try.prog o a (W.alloc (.cells #[.int .i64 y] 3)) Kc Q' else Kc (a.put o.dst undef) (W.alloc (.cells #[.int .i64 y] 3)) :=
  Kd.R_append_step (P := Try.prog) (Kd.int .i64) (w0 := W) B hw s x 26 3 (.int .i64 0) 8 ho Try.underlying26 info_int rfl (by decide) (by omega) v xs y [.int .i64 y] (fun _ => True) (fun _ => False) hs hx rfl (fun _ h => h.elim) (fun _ _ => trivial) HO (Below.refl _ _) hB (by omega) (fun v1 w1 h1 _ h3 _ => h v1 w1 h1 h3)
end
theorem makeTo_len (g : Grid) (r : Int) (k : Nat) : (makeTo g r k).length = k := by simp [makeTo]
theorem makeTo_succ (g : Grid) (r : Int) (k : Nat) : makeTo g r (k + 1) = makeTo g r k ++ [stdPort g r ((k / (nodeCount g).toNat : Nat) : Int) ((k % (nodeCount g).toNat : Nat) : Int)] := by simp [makeTo, List.range_succ]
theorem low_set {B b : Nat} {w0 W : World} (h : Below B w0 W) (hb : B ≤ b) (j : Nat) (u : Value) : Below B w0 (W.setCell ⟨b, j, none⟩ u) :=
  ⟨h.os, h.tape, h.output, by have := h.size; simp only [World.size_setCell]; exact this, fun i hi => (Below.heap_setCell W ⟨b, j, none⟩ u i (fun e => by
    have e2 : i = b := e
    omega)).trans (h.block i hi)⟩
theorem low_then' {B C : Nat} {w0 w1 W : World} (h : Below B w0 w1) (k : Below C w1 W) (hc : B ≤ C) : Below B w0 W := ⟨k.os.trans h.os, k.tape.trans h.tape, k.output.trans h.output, Nat.le_trans h.size k.size, fun i hi => (k.block i (by omega)).trans (h.block i hi)⟩
theorem box_low' {B : Nat} {w w1 : World} {b : Nat} {cs : Array Value} (h : Box w b cs) (hb : Below B w w1) (hB : b < B) : Box w1 b cs := ⟨Nat.lt_of_lt_of_le h.lt hb.size, fun o => by
  rw [← h.get o]
  unfold World.cell?
  rw [hb.block b hB]⟩
theorem low_then {B : Nat} {w0 W W1 : World} (h : Below B w0 W) (k : Below W.heap.size W W1) (hB : B ≤ w0.heap.size) : Below B w0 W1 := ⟨k.os.trans h.os, k.tape.trans h.tape, k.output.trans h.output, Nat.le_trans h.size k.size, fun i hi => (k.block i (Nat.lt_of_lt_of_le hi (Nat.le_trans hB h.size))).trans (h.block i hi)⟩
set_option maxHeartbeats 8000000 in
set_option maxRecDepth 100000 in
theorem spec_l05Make (g : Grid) (r : Int) (w : World) (g1 : 1 ≤ g.w) (g2 : g.w ≤ 4) (g3 : 1 ≤ g.h) (g4 : g.h ≤ 4) (r1 : 1 ≤ r) (r4 : r ≤ 4) :
    Calls Try.prog 25 #[.agg #[.int .i64 g.w, .int .i64 g.h], .int .i64 r] w fun e w' => GotTab w w' (makeT g r) e ∧ Below w.heap.size w w' := by
  have hc16 := count_le g
  obtain ⟨K, hK⟩ : ∃ K : Nat, nodeCount g = (K : Int) := ⟨(nodeCount g).toNat, by omega⟩
  have K16 : K ≤ 16 := by omega
  have K1 : 1 ≤ K := by
    have : nodeCount g = g.w * g.h := by unfold nodeCount gridOk inside; simp [g1, g2, g3, g4]
    have := Int.mul_le_mul g1 g3 (by omega) (by omega)
    omega
  have HK := Lib.hid hK
  have HKN : Hid ((nodeCount g).toNat = K) := Lib.hid (by omega)
  have HKK : Hid (K * K ≤ 256) := Lib.hid (Nat.mul_le_mul K16 K16)
  obtain ⟨KK, hKK⟩ : ∃ z, z = K * K := ⟨_, rfl⟩
  have HKE := Lib.hid hKK
  have hKK2 : KK ≤ 256 := by rw [hKK]; exact HKK.out
  have hwK : IntKind.i64.wrap ((K : Int) * (K : Int)) = (KK : Int) := by
    rw [IntWalk.i64_in _ (by have : ((K : Int) * (K : Int)) = ((K * K : Nat) : Int) := by push_cast; rfl
                             omega), hKK]
    push_cast
    rfl
  have hwK2 : (K : Int) * (K : Int) = (KK : Int) := by rw [hKK]; push_cast; rfl
  have HE : Hid (makeT g r = makeTo g r KK) := Lib.hid (by unfold makeT; rw [HKN.out, hKK])
  clear hc16 hK hKK
  rw [HE.out]
  obtain ⟨wa, ewa⟩ : ∃ z, z = ((w.alloc (.cells #[.int .i64 g.w, .int .i64 g.h] 25)).alloc (.cells #[.slice none 0 0] 30)).alloc (.cells #[.slice none 0 0] 30) := ⟨_, rfl⟩
  have hwa : Below w.heap.size w wa := by rw [ewa]; exact bw_alloc _ (bw_alloc _ (bw_alloc _ (bw_refl w)))
  have zwa : wa.heap.size = w.heap.size + 3 := by rw [ewa]; simp only [szs]
  have HG : Hid (Box wa w.heap.size #[.int .i64 g.w, .int .i64 g.h]) := Lib.hid (by rw [ewa]; exact ((Box.new w w.heap.size _ 25 rfl).alloc _).alloc _)
  have HR1 : Hid (wa.heap[w.heap.size + 1]? = some (.cells #[.slice none 0 0] 30 (0, 0))) := Lib.hid (by
    rw [ewa]
    have h := blk_alloc (blk_new (w.alloc (.cells #[.int .i64 g.w, .int .i64 g.h] 25)) (.cells #[.slice none 0 0] 30)) (.cells #[.slice none 0 0] 30)
    simp only [szs] at h
    exact h)
  have HT1 : Hid (wa.heap[w.heap.size + 2]? = some (.cells #[.slice none 0 0] 30 (0, 0))) := Lib.hid (by
    rw [ewa]
    have h := blk_new ((w.alloc (.cells #[.int .i64 g.w, .int .i64 g.h] 25)).alloc (.cells #[.slice none 0 0] 30)) (.cells #[.slice none 0 0] 30)
    simp only [szs] at h
    exact h)
  have x0 : (((w.alloc (.cells #[.int .i64 g.w, .int .i64 g.h] 25)).alloc (.cells #[.slice none 0 0] 30)).alloc (.cells #[.slice none 0 0] 30)).cell? ⟨w.heap.size, 0, none⟩ = some (.int .i64 g.w) := by rw [← ewa]; exact HG.out.get 0
  have x1 : (((w.alloc (.cells #[.int .i64 g.w, .int .i64 g.h] 25)).alloc (.cells #[.slice none 0 0] 30)).alloc (.cells #[.slice none 0 0] 30)).cell? ⟨w.heap.size, 1, none⟩ = some (.int .i64 g.h) := by rw [← ewa]; exact HG.out.get 1
  go_enter Try.func25, Try.ntmps25
  go_wp2_with fail
  rw [← ewa]
  clear x0 x1 ewa
  refine (spec_NodeCount g _).mono ?_
  rintro e w2 ⟨rfl, hb2⟩
  rw [HK.out]
  have HB2 := Lib.hid (bw_then hwa hb2)
  have HG2 := Lib.hid (HG.out.below hb2)
  have HR2 := Lib.hid (blk_below HR1.out hb2)
  have HT2 := Lib.hid (blk_below HT1.out hb2)
  have z2 := bw_size hb2
  clear hb2 hwa HG HR1 HT1
  go_wp2
  go_loopw [7] (fun i wr => ∃ (k : Nat) (A : Option Addr) (c : Nat), i = .int .i64 k ∧ k ≤ KK ∧ Hid (Kd.R (Kd.int .i64) 3 wr (w.heap.size + 3) (fun _ => True) (.slice A k c) (makeTo g r k)) ∧ Hid (wr.heap[w.heap.size + 2]? = some (.cells #[.slice A k c] 30 (0, 0))) ∧ Hid (wr.heap[w.heap.size + 1]? = some (.cells #[.slice none 0 0] 30 (0, 0))) ∧ Hid (Box wr w.heap.size #[.int .i64 g.w, .int .i64 g.h]) ∧ Hid (Below w.heap.size w wr) ∧ w.heap.size + 3 ≤ wr.heap.size) (fun i _ => KK - (intOf i).toNat)
  case atStart => exact ⟨0, none, 0, rfl, Nat.zero_le _, Lib.hid (Kd.R_nil _ _ _ _ _), HT2, HR2, HG2, HB2, by omega⟩
  case round =>
    obtain ⟨k, A, c, rfl, hk, HO, HT, HR, HG, HB, zr⟩ := hrel
    have hlen := makeTo_len g r k
    by_cases hlt : k < KK
    · have i0 : (k : Int) < (KK : Int) := by omega
      have k0 : (0 : Int) ≤ (k : Int) := by omega
      have kne : ¬ (K : Int) = 0 := by omega
      have hq : (k : Int).tdiv (K : Int) = ((k / K : Nat) : Int) := by rw [Int.tdiv_eq_ediv_of_nonneg k0]; rfl
      have hm : (k : Int).tmod (K : Int) = ((k % K : Nat) : Int) := by rw [Int.tmod_eq_emod_of_nonneg k0]; rfl
      have hq2 : (k : Int) / (K : Int) = ((k / K : Nat) : Int) := rfl
      have hm2 : (k : Int) % (K : Int) = ((k % K : Nat) : Int) := rfl
      have dk : k / K ≤ 15 := by
        have : k / K < K := (Nat.div_lt_iff_lt_mul (by omega)).2 (by rw [← HKE.out]; exact hlt)
        omega
      have mk : k % K ≤ 15 := by have := Nat.mod_lt k (show 0 < K by omega); omega
      obtain ⟨qd, hqd⟩ : ∃ z, k / K = z := ⟨_, rfl⟩
      obtain ⟨md, hmd⟩ : ∃ z, k % K = z := ⟨_, rfl⟩
      rw [hqd] at hq hq2 dk
      rw [hmd] at hm hm2 mk
      obtain ⟨p, hp⟩ : ∃ p, stdPort g r (qd : Int) (md : Int) = p := ⟨_, rfl⟩
      have HS : Hid (makeTo g r (k + 1) = makeTo g r k ++ [p]) := Lib.hid (by rw [makeTo_succ, HKN.out, hqd, hmd, hp])
      have HCALL : Hid (∀ W, Calls Try.prog 53 #[.agg #[.int .i64 g.w, .int .i64 g.h], .int .i64 r, .int .i64 (qd : Int), .int .i64 (md : Int)] W fun e w' => e = .returned (.int .i64 p) ∧ Below W.heap.size W w') := Lib.hid (fun W => by
        have h := spec_l05Port g r (qd : Int) (md : Int) W g1 g2 (by omega) (by omega) (by omega) (by omega) r1 r4
        rw [hp] at h
        exact h)
      have HQ := Lib.hid hq; have HM := Lib.hid hm; have HQ2 := Lib.hid hq2; have HM2 := Lib.hid hm2
      clear hqd hmd hp hq hm hq2 hm2
      go_wp2_with fail
      refine wp_region_tz 0 (fun _ => .cells #[] 0) (fun _ _ => undef) (fun W => Below (w.heap.size + 3) wr W) 14 [(0, .quiet), (1, .quiet), (2, .quiet), (3, .quiet), (4, .quiet), (5, .quiet), (6, .quiet), (7, .quiet), (8, .quiet), (9, .quiet), (10, .chain), (11, .chain), (12, .chain), (13, .quiet)] (by kernel_rfl) (by kernel_rfl) (by kernel_rfl) (by kernel_rfl) (by kernel_rfl) (by kernel_rfl) (by kernel_rfl) (by kernel_rfl) ((bw_drew (bw_refl _)).mono zr) ⟨fun W o h => low_then h (bw_alloc _ (bw_refl _)) zr, fun W h => Nat.zero_le _⟩ (fun W => W = wr.drew) (rfl) (fun e => by cases e) ?_
      refine wpTz_v (some 18) (.pointer (some ⟨w.heap.size + 2, 0, none⟩)) rfl rfl (by rfl) (fun W hC => ?_) ?_
      · clear hC
        go_simp
        try rfl
      try simp only [Act.put, nms]
      refine wpTz_v (some 19) (.slice A k c) rfl rfl (by rfl) (fun W hC => ?_) ?_
      · have ht : W.heap[w.heap.size + 2]? = some (.cells #[.slice A k c] 30 (0, 0)) := (hC.block _ (by omega)).trans HT.out
        have h0 : W.cell? ⟨w.heap.size + 2, 0, none⟩ = some (.slice A k c) := (blk_cell ht 0).trans rfl
        clear ht
        clear hC
        go_simp
        try rfl
      try simp only [Act.put, nms]
      refine wpTz_v (some 20) (.agg #[.int .i64 g.w, .int .i64 g.h]) rfl rfl (by rfl) (fun W hC => ?_) ?_
      · have h0 : W.cell? ⟨w.heap.size, 0, none⟩ = some (.int .i64 g.w) := (box_low' HG.out hC (by omega)).get 0
        have h1 : W.cell? ⟨w.heap.size, 1, none⟩ = some (.int .i64 g.h) := (box_low' HG.out hC (by omega)).get 1
        clear hC
        go_simp
        try rfl
      try simp only [Act.put, nms]
      refine wpTz_v (some 21) (.int .i64 r) rfl rfl (by rfl) (fun W hC => ?_) ?_
      · clear hC
        go_simp
        try rfl
      try simp only [Act.put, nms]
      refine wpTz_v (some 22) (.int .i64 (k : Int)) rfl rfl (by rfl) (fun W hC => ?_) ?_
      · clear hC
        go_simp
        try rfl
      try simp only [Act.put, nms]
      refine wpTz_v (some 23) (.int .i64 (K : Int)) rfl rfl (by rfl) (fun W hC => ?_) ?_
      · clear hC
        go_simp
        try rfl
      try simp only [Act.put, nms]
      refine wpTz_v (some 24) (.int .i64 (qd : Int)) rfl rfl (by rfl) (fun W hC => ?_) ?_
      · have kz : ¬ K = 0 := by omega
        have hwq : IntKind.i64.wrap (qd : Int) = (qd : Int) := IntWalk.i64_in _ (by omega)
        have e1 := HQ.out
        have e2 := HQ2.out
        have e3 := HM.out
        have e4 := HM2.out
        clear hC
        go_simp
        try rfl
      try simp only [Act.put, nms]
      refine wpTz_v (some 25) (.int .i64 (k : Int)) rfl rfl (by rfl) (fun W hC => ?_) ?_
      · clear hC
        go_simp
        try rfl
      try simp only [Act.put, nms]
      refine wpTz_v (some 26) (.int .i64 (K : Int)) rfl rfl (by rfl) (fun W hC => ?_) ?_
      · clear hC
        go_simp
        try rfl
      try simp only [Act.put, nms]
      refine wpTz_v (some 27) (.int .i64 (md : Int)) rfl rfl (by rfl) (fun W hC => ?_) ?_
      · have kz : ¬ K = 0 := by omega
        have hwq : IntKind.i64.wrap (qd : Int) = (qd : Int) := IntWalk.i64_in _ (by omega)
        have e1 := HQ.out
        have e2 := HQ2.out
        have e3 := HM.out
        have e4 := HM2.out
        clear hC
        go_simp
        try rfl
      try simp only [Act.put, nms]
      refine wpTz_c (some 28) rfl rfl (by rfl) wr (fun _ => .int .i64 p) (fun y W => W = y ∧ Below wr.heap.size wr y) (fun W hF hC => ?_) (fun yw => ?_)
      · subst hF
        refine LoOp.enter (by go_simp; first | done | exact ⟨rfl, rfl⟩ | rfl) ?_
        refine (HCALL.out _).mono ?_
        rintro e W1 ⟨rfl, hb1⟩
        exact ⟨_, rfl, W1, rfl, low_then hC hb1 zr, rfl, bw_then (bw_drew (bw_refl wr)) hb1⟩
      try simp only [Act.put, nms]
      refine wpTz_c (some 29) rfl rfl (by rfl) () (fun _ => .slice (some ⟨yw.heap.size, 0, none⟩) 1 1) (fun _ W => W = yw.alloc (.cells #[.int .i64 p] 3) ∧ Below wr.heap.size wr yw) (fun W hF hC => ?_) (fun _ => ?_)
      · obtain ⟨rfl, hby⟩ := hF
        refine LoOp.val (v := .slice (some ⟨W.heap.size, 0, none⟩) 1 1) (w1 := W.alloc (.cells #[.int .i64 p] 3)) ?_ ⟨(), rfl, low_then hC (bw_alloc _ (bw_refl _)) zr, rfl, hby⟩
        clear hC hby
        go_simp
        try rfl
      try simp only [Act.put, nms]
      refine wpTz_c (some 30) rfl rfl (by rfl) ((none, 0) : Option Addr × Nat) (fun y => .slice y.1 (k + 1) y.2) (fun y W9 => Kd.R (Kd.int .i64) 3 W9 (w.heap.size + 3) (fun _ => True) (.slice y.1 (k + 1) y.2) (makeTo g r k ++ [p]) ∧ True) (fun W hF hC => ?_) (fun yv => ?_)
      · obtain ⟨rfl, hby⟩ := hF
        have HOy := Kd.R_below HO.out hby
        have hCy : Below (w.heap.size + 3) wr yw := hby.mono zr
        refine LoOp.of_if (ops := #[]) rfl rfl (by simp) (by rfl) (app_intS (ops := #[]) (W := yw) (B := w.heap.size + 3) (by rfl) (.tmp 19) (.tmp 29) rfl (.slice A k c) (makeTo g r k) p rfl rfl HOy (by have := hby.size; omega) (by rw [makeTo_len]; omega) ?_)
        intro v9 w9 H9 hg9
        obtain ⟨A9, d9, rfl⟩ := Kd.R_slice H9
        have el : (makeTo g r k ++ [p]).length = k + 1 := by rw [List.length_append, makeTo_len]; rfl
        rw [el] at H9
        exact ⟨(A9, d9), by show Value.slice A9 (makeTo g r k ++ [p]).length d9 = _; rw [el], hCy.grown hg9 (by have := hby.size; omega) (fun j hj => Kd.R_base HOy j hj), H9, trivial⟩
      try simp only [Act.put, nms]
      refine wpTz_v (some 31) (.pointer (some ⟨w.heap.size + 2, 0, none⟩)) rfl rfl (by rfl) (fun W hC => ?_) ?_
      · clear hC
        go_simp
        try rfl
      try simp only [Act.put, nms]
      refine wpTz_z (fun w8 hF hC => ?_)
      obtain ⟨A9, c9⟩ := yv
      obtain ⟨H9, hB9⟩ := hF
      dsimp only at H9
      have HG9 := Lib.hid (box_low' HG.out hC (by omega))
      have HR9 : Hid (w8.heap[w.heap.size + 1]? = some (.cells #[.slice none 0 0] 30 (0, 0))) := Lib.hid ((hC.block _ (by omega)).trans HR.out)
      have hT9 : w8.heap[w.heap.size + 2]? = some (.cells #[.slice A k c] 30 (0, 0)) := (hC.block _ (by omega)).trans HT.out
      have y0 : w8.cell? ⟨w.heap.size + 2, 0, none⟩ = some (.slice A k c) := (blk_cell hT9 0).trans rfl
      have yf : w8.frozen? ⟨w.heap.size + 2, 0, none⟩ = false := blk_frozen hT9 0
      have yl : w.heap.size + 2 < w8.heap.size := blk_lt hT9
      have hTz : (w8.setCell ⟨w.heap.size + 2, 0, none⟩ (.slice A9 (k + 1) c9)).heap[w.heap.size + 2]? = some (.cells #[.slice A9 (k + 1) c9] 30 (0, 0)) := (blk_set hT9 0 _).trans rfl
      have HTz := Lib.hid hTz
      have HRz : Hid ((w8.setCell ⟨w.heap.size + 2, 0, none⟩ (.slice A9 (k + 1) c9)).heap[w.heap.size + 1]? = some (.cells #[.slice none 0 0] 30 (0, 0))) := Lib.hid (blk_far (p := ⟨w.heap.size + 2, 0, none⟩) HR9.out (by show w.heap.size + 1 ≠ w.heap.size + 2; omega) _)
      have HGz : Hid (Box (w8.setCell ⟨w.heap.size + 2, 0, none⟩ (.slice A9 (k + 1) c9)) w.heap.size #[.int .i64 g.w, .int .i64 g.h]) := Lib.hid (HG9.out.grown (grown_cell w8 (w.heap.size + 2) 0 _) (by intro e; injection e with e; omega))
      have HOz : Hid (Kd.R (Kd.int .i64) 3 (w8.setCell ⟨w.heap.size + 2, 0, none⟩ (.slice A9 (k + 1) c9)) (w.heap.size + 3) (fun _ => True) (.slice A9 (k + 1) c9) (makeTo g r (k + 1))) := Lib.hid (by rw [HS.out]; exact R_off H9 (by omega) 0 _)
      have HBz : Hid (Below w.heap.size w (w8.setCell ⟨w.heap.size + 2, 0, none⟩ (.slice A9 (k + 1) c9))) := Lib.hid (low_set (low_then' HB.out hC (by omega)) (by omega) 0 _)
      have zz : w.heap.size + 3 ≤ (w8.setCell ⟨w.heap.size + 2, 0, none⟩ (.slice A9 (k + 1) c9)).heap.size := by simp only [szs]; have := hC.size; omega
      clear hTz hT9 hC H9 hB9
      refine ⟨_, rfl, by rfl, ?_⟩
      go_simp
      go_wp2
      go_roundw
      case rel => exact ⟨k + 1, A9, c9, by go_num, by omega, HOz, HTz, HRz, HGz, HBz, zz⟩
      case measure => simp [intOf]; omega
    · obtain rfl : k = KK := by omega
      have i0 : ¬ (k : Int) < (k : Int) := by omega
      have y0 : wr.cell? ⟨w.heap.size + 2, 0, none⟩ = some (.slice A k c) := (blk_cell HT.out 0).trans rfl
      have yl : w.heap.size + 2 < wr.heap.size := blk_lt HT.out
      have v0 : wr.cell? ⟨w.heap.size + 1, 0, none⟩ = some (.slice none 0 0) := (blk_cell HR.out 0).trans rfl
      have vf : wr.frozen? ⟨w.heap.size + 1, 0, none⟩ = false := blk_frozen HR.out 0
      have vl : w.heap.size + 1 < wr.heap.size := blk_lt HR.out
      have HRz : Hid ((wr.setCell ⟨w.heap.size + 1, 0, none⟩ (.slice A k c)).heap[w.heap.size + 1]? = some (.cells #[.slice A k c] 30 (0, 0))) := Lib.hid ((blk_set HR.out 0 _).trans rfl)
      have HOz := Lib.hid (R_off HO.out (show w.heap.size + 1 < w.heap.size + 3 by omega) 0 (.slice A k c))
      have HBz : Hid (Below w.heap.size w (wr.setCell ⟨w.heap.size + 1, 0, none⟩ (.slice A k c))) := Lib.hid (low_set HB.out (by omega) 0 _)
      have HLK := Lib.hid hlen
      clear hlen
      go_wp2
      exact bodyPost_ret (results_cell_row Try.results25 _ _ (w.heap.size + 1) 30 _ (0, 0) _ rfl HRz.out Try.underlying30 rfl (by kernel_rfl)) rfl ⟨⟨_, rfl, Kd.R_lower HOz.out (by omega)⟩, HBz.out⟩
theorem count_in {g : Grid} (g1 : 1 ≤ g.w) (g2 : g.w ≤ 4) (g3 : 1 ≤ g.h) (g4 : g.h ≤ 4) : nodeCount g = g.w * g.h := by unfold nodeCount gridOk inside; simp [g1, g2, g3, g4]
theorem arr_gt {w w1 : World} {g t b : Nat} {cs : Array Value} (h : Arr w g t cs) (hg : w.grownBy w1 (some b)) (hne : g ≠ b) : Arr w1 g t cs := (hg.block g h.lt (by intro e; injection e with e; exact hne e)).trans h
set_option maxHeartbeats 4000000 in
theorem spec_l14Grid (b B0 : Nat) (w : World) (HC : Cur w b B0) : Calls Try.prog 24 #[.pointer (some ⟨b, 0, none⟩)] w fun e w' => ∃ g : Grid, e = .returned (.agg #[.int .i64 g.w, .int .i64 g.h]) ∧ 1 ≤ g.w ∧ g.w ≤ 4 ∧ 1 ≤ g.h ∧ g.h ≤ 4 ∧ 2 ≤ nodeCount g ∧ Cur w' b B0 ∧ w.grownBy w' (some b) := by
  have hb := HC.lt
  have HR1 : Arr (w.alloc (.cells #[.int .i64 0, .int .i64 0] 25)) w.heap.size 25 #[.int .i64 0, .int .i64 0] := Arr.new w _ _ _ rfl
  go_enter Try.func24, Try.ntmps24
  go_wp2_with fail
  refine (spec_l02Grid b B0 _ (HC.below (bw_alloc _ (bw_refl _)))).mono ?_
  rintro e w2 ⟨g, rfl, p1, p2, p3, p4, HC2, hg2⟩
  have z2 := hg2.size
  simp only [szs] at z2
  have HR2 : Arr w2 w.heap.size 25 #[.int .i64 0, .int .i64 0] := arr_gt HR1 hg2 (by omega)
  have HG2 : w.grownBy w2 (some b) := grown_trans (gt_alloc _ (World.grownBy.refl _ _)) hg2
  have HT3 : Arr (w2.alloc (.cells #[.int .i64 g.w, .int .i64 g.h] 25)) w2.heap.size 25 #[.int .i64 g.w, .int .i64 g.h] := Arr.new w2 _ _ _ rfl
  have HR3 := HR2.below (bw_alloc (.cells #[.int .i64 g.w, .int .i64 g.h] 25) (bw_refl w2))
  have HC3 := HC2.below (bw_alloc (.cells #[.int .i64 g.w, .int .i64 g.h] 25) (bw_refl w2))
  have HG3 : w.grownBy (w2.alloc (.cells #[.int .i64 g.w, .int .i64 g.h] 25)) (some b) := gt_alloc _ HG2
  go_wp2_with fail
  refine (spec_NodeCount g _).mono ?_
  rintro e w4 ⟨rfl, hb4⟩
  have HT4 := HT3.below hb4
  have HR4 := HR3.below hb4
  have HC4 := HC3.below hb4
  have HG4 : w.grownBy w4 (some b) := grown_trans HG3 (grown_below _ hb4)
  have z4 := bw_size hb4
  simp only [szs] at z4
  clear hb4 HG3 HC3 HR3 HT3 HG2 HR2 HR1 HC2 hg2
  have hcn := count_in p1 p2 p3 p4
  obtain ⟨c, hc⟩ : ∃ c, nodeCount g = c := ⟨_, rfl⟩
  rw [hc]
  have t0 : w4.cell? ⟨w2.heap.size, 0, none⟩ = some (.int .i64 g.w) := HT4.cell 0
  have t1 : w4.cell? ⟨w2.heap.size, 1, none⟩ = some (.int .i64 g.h) := HT4.cell 1
  have f0 := HT4.frozen 0
  have tl := HT4.lt
  have r0 : w4.cell? ⟨w.heap.size, 0, none⟩ = some (.int .i64 0) := HR4.cell 0
  have r1 : w4.cell? ⟨w.heap.size, 1, none⟩ = some (.int .i64 0) := HR4.cell 1
  have e0 := HR4.frozen 0
  have e1 := HR4.frozen 1
  have rl := HR4.lt
  by_cases h2 : c < 2
  · have hw : g.w = 1 ∧ g.h = 1 := by
      have h1 : g.w * g.h < 2 := by omega
      have a := Int.mul_le_mul_of_nonneg_left p3 (show 0 ≤ g.w by omega)
      have b := Int.mul_le_mul_of_nonneg_right p1 (show 0 ≤ g.h by omega)
      omega
    have HN : Hid (2 ≤ nodeCount ⟨2, g.h⟩) := Lib.hid (by rw [count_in (g := ⟨2, g.h⟩) (by simp) (by simp) p3 p4]; simp only; omega)
    have HH := Lib.hid hw
    have HRz : Arr (((w4.setCell ⟨w2.heap.size, 0, none⟩ (.int .i64 2)).setCell ⟨w.heap.size, 0, none⟩ (.int .i64 2)).setCell ⟨w.heap.size, 1, none⟩ (.int .i64 g.h)) w.heap.size 25 #[.int .i64 2, .int .i64 g.h] := ((HR4.other w2.heap.size 0 _ (by omega)).set 0 _).set 1 _
    have HGz : w.grownBy (((w4.setCell ⟨w2.heap.size, 0, none⟩ (.int .i64 2)).setCell ⟨w.heap.size, 0, none⟩ (.int .i64 2)).setCell ⟨w.heap.size, 1, none⟩ (.int .i64 g.h)) (some b) := gt_own _ _ (gt_own _ _ (gt_own _ _ HG4 (by omega)) (Nat.le_refl _)) (Nat.le_refl _)
    have HCz : Cur (((w4.setCell ⟨w2.heap.size, 0, none⟩ (.int .i64 2)).setCell ⟨w.heap.size, 0, none⟩ (.int .i64 2)).setCell ⟨w.heap.size, 1, none⟩ (.int .i64 g.h)) b B0 := Cur.far _ _ (Cur.far _ _ (Cur.far _ _ HC4 (by omega)) hb) hb
    have HRz := Lib.hid HRz; have HGz := Lib.hid HGz; have HCz := Lib.hid HCz
    clear hw hcn
    go_wp2
    exact bodyPost_ret (results_cell_row Try.results24 _ _ w.heap.size 25 _ (0, 0) _ rfl HRz.out Try.underlying25 rfl (by kernel_rfl)) rfl ⟨⟨2, g.h⟩, rfl, by simp, by simp, p3, p4, HN.out, HCz.out, HGz.out⟩
  · have HN : Hid (2 ≤ nodeCount g) := Lib.hid (by omega)
    have HRz : Arr ((w4.setCell ⟨w.heap.size, 0, none⟩ (.int .i64 g.w)).setCell ⟨w.heap.size, 1, none⟩ (.int .i64 g.h)) w.heap.size 25 #[.int .i64 g.w, .int .i64 g.h] := (HR4.set 0 _).set 1 _
    have HGz : w.grownBy ((w4.setCell ⟨w.heap.size, 0, none⟩ (.int .i64 g.w)).setCell ⟨w.heap.size, 1, none⟩ (.int .i64 g.h)) (some b) := gt_own _ _ (gt_own _ _ HG4 (Nat.le_refl _)) (Nat.le_refl _)
    have HCz : Cur ((w4.setCell ⟨w.heap.size, 0, none⟩ (.int .i64 g.w)).setCell ⟨w.heap.size, 1, none⟩ (.int .i64 g.h)) b B0 := Cur.far _ _ (Cur.far _ _ HC4 hb) hb
    have HRz := Lib.hid HRz; have HGz := Lib.hid HGz; have HCz := Lib.hid HCz
    clear hcn
    go_wp2
    exact bodyPost_ret (results_cell_row Try.results24 _ _ w.heap.size 25 _ (0, 0) _ rfl HRz.out Try.underlying25 rfl (by kernel_rfl)) rfl ⟨g, rfl, p1, p2, p3, p4, HN.out, HCz.out, HGz.out⟩
theorem wrap_mod {n z : Int} (n1 : 0 < n) (z0 : 0 ≤ z) (z1 : z < 2 * n) : z % n = if z < n then z else z - n := by
  by_cases h : z < n
  · rw [if_pos h]; exact Int.emod_eq_of_lt z0 h
  · rw [if_neg h]
    have e : z = (z - n) + n := by omega
    rw [e, Int.add_emod_right, Int.emod_eq_of_lt (by omega) (by omega)]
    omega
set_option maxHeartbeats 4000000 in
theorem spec_l14Packet (b B0 : Nat) (g : Grid) (id : Int) (w : World) (HC : Cur w b B0) (g1 : 1 ≤ g.w) (g2 : g.w ≤ 4) (g3 : 1 ≤ g.h) (g4 : g.h ≤ 4) (gn : 2 ≤ nodeCount g) (i1 : 1 ≤ id) (i9 : id ≤ 9999) :
    Calls Try.prog 55 #[.pointer (some ⟨b, 0, none⟩), .agg #[.int .i64 g.w, .int .i64 g.h], .int .i64 id] w fun e w' => ∃ p : Packet, e = .returned (.agg #[.int .i64 p.id, .int .i64 p.src, .int .i64 p.dst, .int .i64 p.cls, .int .i64 p.len]) ∧ packetOk g p = true ∧ p.id = id ∧ Cur w' b B0 ∧ w.grownBy w' (some b) := by
  have hb := HC.lt
  have hc16 := count_le g
  obtain ⟨n, hn⟩ : ∃ n, nodeCount g = n := ⟨_, rfl⟩
  have HN := Lib.hid hn
  rw [hn] at gn hc16
  clear hn
  obtain ⟨wa, ewa⟩ : ∃ z, z = (w.alloc (.cells #[.int .i64 g.w, .int .i64 g.h] 25)).alloc (.cells #[.int .i64 0, .int .i64 0, .int .i64 0, .int .i64 0, .int .i64 0] 48) := ⟨_, rfl⟩
  have hwa : Below w.heap.size w wa := by rw [ewa]; exact bw_alloc _ (bw_alloc _ (bw_refl w))
  have HR1 : Arr wa (w.heap.size + 1) 48 #[.int .i64 0, .int .i64 0, .int .i64 0, .int .i64 0, .int .i64 0] := by rw [ewa]; exact Arr.new _ _ _ _ (by simp only [szs])
  have zwa : wa.heap.size = w.heap.size + 2 := by rw [ewa]; simp only [szs]
  go_enter Try.func55, Try.ntmps55
  go_wp2_with fail
  rw [← ewa]
  clear ewa
  refine (spec_NodeCount g _).mono ?_
  rintro e w2 ⟨rfl, hb2⟩
  rw [HN.out]
  have HC2 := (HC.below hwa).below hb2
  have HR2 := HR1.below hb2
  have HG2 : w.grownBy w2 (some b) := grown_below _ (bw_then hwa hb2)
  clear hb2 hwa HR1 HC
  go_wp2_with fail
  refine (spec_l01Below b B0 n _ HC2 (by omega) (by omega)).mono ?_
  rintro e w3 ⟨x, rfl, x0, x1, HC3, hg3⟩
  have HR3 := arr_gt HR2 hg3 (by omega)
  have HG3 := grown_trans HG2 hg3
  clear hg3 HR2 HG2 HC2
  go_wp2_with fail
  refine (spec_l01Below b B0 (n - 1) _ HC3 (by omega) (by omega)).mono ?_
  rintro e w4 ⟨y, rfl, y0, y1, HC4, hg4⟩
  have HR4 := arr_gt HR3 hg4 (by omega)
  have HG4 := grown_trans HG3 hg4
  clear hg4 HR3 HG3 HC3
  have hm := wrap_mod (n := n) (z := x + 1 + y) (by omega) (by omega) (by omega)
  obtain ⟨t, ht⟩ : ∃ t, (x + 1 + y) % n = t := ⟨_, rfl⟩
  have htm : (x + 1 + y).tmod n = t := by rw [Int.tmod_eq_emod_of_nonneg (by omega), ht]
  have ht2 : 0 ≤ t ∧ t < n ∧ t ≠ x := by
    rw [← ht, hm]
    split <;> omega
  have nne : ¬ n = 0 := by omega
  clear hm
  go_wp2_with fail
  refine (spec_l01Below b B0 2 _ HC4 (by omega) (by omega)).mono ?_
  rintro e w5 ⟨cl, rfl, c0, c1, HC5, hg5⟩
  have HR5 := arr_gt HR4 hg5 (by omega)
  have HG5 := grown_trans HG4 hg5
  clear hg5 HR4 HG4 HC4
  go_wp2_with fail
  refine (spec_l01Below b B0 5 _ HC5 (by omega) (by omega)).mono ?_
  rintro e w6 ⟨ln, rfl, l0, l1, HC6, hg6⟩
  have HR6 := arr_gt HR5 hg6 (by omega)
  have HG6 := grown_trans HG5 hg6
  clear hg6 HR5 HG5 HC5
  have HP : Hid (packetOk g ⟨id, x, t, cl, 1 + ln⟩ = true) := Lib.hid (by
    simp only [packetOk, isNode, inside, HN.out, Bool.and_eq_true, decide_eq_true_eq]
    omega)
  have r0 : w6.cell? ⟨w.heap.size + 1, 0, none⟩ = some (.int .i64 0) := HR6.cell 0
  have r1 : w6.cell? ⟨w.heap.size + 1, 1, none⟩ = some (.int .i64 0) := HR6.cell 1
  have r2 : w6.cell? ⟨w.heap.size + 1, 2, none⟩ = some (.int .i64 0) := HR6.cell 2
  have r3 : w6.cell? ⟨w.heap.size + 1, 3, none⟩ = some (.int .i64 0) := HR6.cell 3
  have r4 : w6.cell? ⟨w.heap.size + 1, 4, none⟩ = some (.int .i64 0) := HR6.cell 4
  have e0 := HR6.frozen 0
  have e1 := HR6.frozen 1
  have e2 := HR6.frozen 2
  have e3 := HR6.frozen 3
  have e4 := HR6.frozen 4
  have rl := HR6.lt
  have HR6 := Lib.hid HR6; have HG6 := Lib.hid HG6; have HC6 := Lib.hid HC6
  go_wp2
  refine bodyPost_ret (results_cell_row Try.results55 _ _ (w.heap.size + 1) 48 _ (0, 0) _ rfl (((((HR6.out.set 0 _).set 1 _).set 2 _).set 3 _).set 4 _) Try.underlying48 rfl (by kernel_rfl)) rfl ⟨⟨id, x, t, cl, 1 + ln⟩, rfl, HP.out, rfl, ?_, ?_⟩
  · exact Cur.far _ _ (Cur.far _ _ (Cur.far _ _ (Cur.far _ _ (Cur.far _ _ HC6.out (by omega)) (by omega)) (by omega)) (by omega)) (by omega)
  · exact gt_own _ _ (gt_own _ _ (gt_own _ _ (gt_own _ _ (gt_own _ _ HG6.out (by omega)) (by omega)) (by omega)) (by omega)) (by omega)
def Drawn (g : Grid) (l : List Packet) : Prop := l.length ≤ 6 ∧ ∀ j : Nat, j < l.length → packetOk g (rp l j) = true ∧ (rp l j).id = (j : Int) + 1
theorem rp_snoc_lt (xs : List Packet) (x : Packet) (j : Nat) (h : j < xs.length) : rp (xs ++ [x]) (j : Int) = rp xs (j : Int) := by
  simp [rp, List.getD_eq_getElem?_getD, List.getElem?_append, h]
theorem rp_snoc_at (xs : List Packet) (x : Packet) : rp (xs ++ [x]) (xs.length : Int) = x := by
  simp [rp, List.getD_eq_getElem?_getD]
section
variable {ops : Array Oper} {rest : List Oper} {o : Oper} {a : Act} {Q : Exit → Act → World → Prop}
theorem app_PN {B : Nat} {W : World} (hgd : o.guard = none) (s x : Operand)
    (ho : o.op = .call { callee := .builtin .append, args := #[s, x], argTypes := #[33, 33] })
    (v : Value) (xs : List Packet) (p : Packet) (hs : a.eval s = v) (hx : a.eval x = .slice (some ⟨W.heap.size, 0, none⟩) 1 1)
    (HO : kP.R 48 W B (fun _ => True) v xs) (hB : B ≤ W.heap.size) (hl : xs.length ≤ 1000000)
    (h : ∀ v1 w1, kP.R 48 w1 B (fun _ => True) v1 (xs ++ [p]) → W.grownBy w1 v.ownBlock → (v1.ownBlock = v.ownBlock ∨ ∃ b, v1.ownBlock = some b ∧ W.heap.size ≤ b) → wpList Try.prog ops Q rest (a.put o.dst v1) w1) :
    wpList Try.prog ops Q (o :: rest) a (W.alloc (.cells #[.int .i64 p.id, .int .i64 p.src, .int .i64 p.dst, .int .i64 p.cls, .int .i64 p.len] 48)) :=
  Kd.R_append (P := Try.prog) kP (w0 := W) B hgd s x 33 48 (.agg #[.int .i64 0, .int .i64 0, .int .i64 0, .int .i64 0, .int .i64 0]) 40 ho Try.underlying33 info_P rfl (by decide) (by omega) v xs p (pkCells p) (fun _ => True) (fun _ => False) hs hx rfl (fun _ h => h.elim) (fun _ _ => trivial) HO (Below.refl _ _) hB (by omega) (fun v1 w1 h1 _ h3 h4 => h v1 w1 h1 h3 h4)
end
set_option maxHeartbeats 4000000 in
theorem spec_l16Packets (b B0 : Nat) (g : Grid) (w : World) (HC : Cur w b B0) (g1 : 1 ≤ g.w) (g2 : g.w ≤ 4) (g3 : 1 ≤ g.h) (g4 : g.h ≤ 4) (gn : 2 ≤ nodeCount g) :
    Calls Try.prog 27 #[.pointer (some ⟨b, 0, none⟩), .agg #[.int .i64 g.w, .int .i64 g.h]] w fun e w' => ∃ (l : List Packet) (v : Value), e = .returned v ∧ Drawn g l ∧ kP.R 48 w' w.heap.size (fun _ => True) v l ∧ Cur w' b B0 ∧ w.grownBy w' (some b) := by
  have hb := HC.lt
  have HG0 := Arr.new w w.heap.size 25 #[.int .i64 g.w, .int .i64 g.h] rfl
  obtain ⟨wa, ewa⟩ : ∃ z, z = (w.alloc (.cells #[.int .i64 g.w, .int .i64 g.h] 25)).alloc (.cells #[] 48) := ⟨_, rfl⟩
  have hwa : Below w.heap.size w wa := by rw [ewa]; exact bw_alloc _ (bw_alloc _ (bw_refl w))
  have HGa : Arr wa w.heap.size 25 #[.int .i64 g.w, .int .i64 g.h] := by rw [ewa]; exact HG0.below (bw_alloc _ (bw_refl _))
  have HOa : kP.R 48 wa (w.heap.size + 1) (fun _ => True) (.slice (some ⟨w.heap.size + 1, 0, none⟩) 0 0) [] := by
    have h := R_empty' (W0 := w.alloc (.cells #[.int .i64 g.w, .int .i64 g.h] 25)) (W := w.alloc (.cells #[.int .i64 g.w, .int .i64 g.h] 25)) kP 48 (Nat.le_refl _) (w.heap.size + 1) (by simp only [szs])
    simp only [szs] at h
    rw [ewa]
    exact h
  have zwa : wa.heap.size = w.heap.size + 2 := by rw [ewa]; simp only [szs]
  go_enter Try.func27, Try.ntmps27
  go_wp2
  rw [← ewa]
  clear ewa HG0
  go_loopw [5, 6] (fun v i wr => ∃ (k : Nat) (l : List Packet), i = .int .i64 k ∧ Hid (l.length = k) ∧ k ≤ 6 ∧ Hid (∀ j : Nat, j < l.length → packetOk g (rp l j) = true ∧ (rp l j).id = (j : Int) + 1) ∧ Hid (kP.R 48 wr (w.heap.size + 1) (fun _ => True) v l) ∧ Hid (Cur wr b B0) ∧ Hid (w.grownBy wr (some b)) ∧ Hid (Arr wr w.heap.size 25 #[.int .i64 g.w, .int .i64 g.h]) ∧ w.heap.size + 1 ≤ wr.heap.size) (fun _ i _ => 6 - (intOf i).toNat)
  case atStart => exact ⟨0, [], rfl, Lib.hid rfl, Nat.zero_le _, Lib.hid (fun j h => absurd h (Nat.not_lt_zero _)), Lib.hid HOa, Lib.hid (HC.below hwa), Lib.hid (grown_below _ hwa), Lib.hid HGa, by omega⟩
  case round =>
    clear HOa HGa hwa HC
    obtain ⟨k, l, rfl, HL, hk, HP, HO, HC, HG, HB, zr⟩ := hrel
    obtain ⟨A, c, rfl⟩ := Kd.R_slice HO.out
    go_wp2_with fail
    refine (spec_l01Below b B0 7 _ HC.out (by omega) (by omega)).mono ?_
    rintro e w2 ⟨x, rfl, x0, x1, HC2, hg2⟩
    have HAP : (Value.slice A l.length c).ownBlock = none ∨ (Value.slice A l.length c).ownBlock ≠ some b := .inr (fun e => by have := Kd.R_base HO.out b e; omega)
    have HO2 := Lib.hid (R_grownF HO.out hg2 HAP)
    have HB2 := Lib.hid (arr_gt HB.out hg2 (by omega))
    have HG2 := Lib.hid (grown_trans HG.out hg2)
    have z2 := hg2.size
    have HC2 := Lib.hid HC2
    clear hg2
    by_cases hlt : (k : Int) < x
    · have t0 : w2.cell? ⟨w.heap.size, 0, none⟩ = some (.int .i64 g.w) := HB2.out.cell 0
      have t1 : w2.cell? ⟨w.heap.size, 1, none⟩ = some (.int .i64 g.h) := HB2.out.cell 1
      have tl := HB2.out.lt
      go_wp2_with fail
      refine (spec_l14Packet b B0 g ((k : Int) + 1) _ HC2.out g1 g2 g3 g4 gn (by omega) (by omega)).mono ?_
      rintro e w3 ⟨p, rfl, hp, hid, HC3, hg3⟩
      have HAP2 : (Value.slice A l.length c).ownBlock = none ∨ (Value.slice A l.length c).ownBlock ≠ some b := .inr (fun e => by have := Kd.R_base HO2.out b e; omega)
      have HO3 := R_grownF HO2.out hg3 HAP2
      have HB3 := arr_gt HB2.out hg3 (by omega)
      have HG3 := grown_trans HG2.out hg3
      have z3 := hg3.size
      have HPP := Lib.hid hp; have HPI := Lib.hid hid
      clear hg3 hp hid t0 t1 tl
      have hl6 : l.length ≤ 1000000 := by have := HL.out; omega
      go_wp2_with (at_builtin; refine app_PN (B := w.heap.size + 1) rfl (.tmp 14) (.tmp 20) rfl _ l p rfl rfl HO3 (by omega) hl6 ?_; intro v4 w4 HO4 hg4 hat4)
      have hk2 : k + 1 ≤ 6 := by omega
      have zz : w3.heap.size ≤ w4.heap.size := hg4.size
      have ha : ∀ q, (Value.slice A l.length c).ownBlock = some q → w.heap.size + 1 ≤ q := fun q hq => Kd.R_base HO3 q hq
      have HC4 : Cur w4 b B0 := HC3.grown hg4 (fun q hq => ⟨by have := ha q hq; have := HC3.1; omega, by have := ha q hq; omega⟩)
      have HG4 : w.grownBy w4 (some b) := ⟨hg4.os.trans HG3.os, hg4.tape.trans HG3.tape, hg4.output.trans HG3.output, Nat.le_trans HG3.size hg4.size, fun i hi hne => (hg4.block i (Nat.lt_of_lt_of_le hi HG3.size) (fun e => by have := ha i e.symm; omega)).trans (HG3.block i hi hne)⟩
      have HB4 : Arr w4 w.heap.size 25 #[.int .i64 g.w, .int .i64 g.h] := (hg4.block _ HB3.lt (fun e => by have := ha _ e.symm; omega)).trans HB3
      have HL4 : Hid ((l ++ [p]).length = k + 1) := Lib.hid (by rw [List.length_append, HL.out]; rfl)
      have HP4 : Hid (∀ j : Nat, j < (l ++ [p]).length → packetOk g (rp (l ++ [p]) j) = true ∧ (rp (l ++ [p]) j).id = (j : Int) + 1) := Lib.hid (fun j hj => by
        by_cases e : j < l.length
        · rw [rp_snoc_lt _ _ _ e]; exact HP.out j e
        · have e2 : j = l.length := by rw [List.length_append] at hj; simp at hj; omega
          subst e2
          rw [rp_snoc_at]
          exact ⟨HPP.out, by rw [HPI.out, HL.out]⟩)
      have HO4 := Lib.hid HO4; have HC4 := Lib.hid HC4; have HG4 := Lib.hid HG4; have HB4 := Lib.hid HB4
      go_roundw
      case rel => exact ⟨k + 1, l ++ [p], by go_num, HL4, hk2, HP4, HO4, HC4, HG4, HB4, by omega⟩
      case measure => simp [intOf]; omega
    · go_wp2
      go_ret
      exact ⟨l, _, rfl, ⟨by rw [HL.out]; exact hk, HP.out⟩, Kd.R_lower HO2.out (by omega), HC2.out, HG2.out⟩
structure TX where
  A : Option Addr
  c : Nat
  lo : Nat
  hi : Nat
def gT (B : Nat) (y : TX) (xs : List Int) (W : World) : Prop := B ≤ y.lo ∧ y.lo ≤ y.hi ∧ y.hi ≤ W.heap.size ∧ RU (Kd.int .i64) 3 W y.lo y.hi (.slice y.A xs.length y.c) xs
theorem gT.below {B : Nat} {y : TX} {xs : List Int} {W W1 : World} (h : gT B y xs W) (hb : Below W.heap.size W W1) : gT B y xs W1 := ⟨h.1, h.2.1, Nat.le_trans h.2.2.1 hb.size, h.2.2.2.below hb⟩
theorem gT.grown {B b : Nat} {y : TX} {xs : List Int} {W W1 : World} (h : gT B y xs W) (hg : W.grownBy W1 (some b)) (hb : b < B) : gT B y xs W1 :=
  ⟨h.1, h.2.1, Nat.le_trans h.2.2.1 hg.size, h.2.2.2.step (fun k h1 _ h3 => hg.block k h3 (fun e => by
    have := h.1
    have := Option.some.inj e
    omega))⟩
theorem gT.of {B : Nat} {xs : List Int} {W W1 : World} {e : Ending} (h : GotTab W W1 xs e) (hb : Below W.heap.size W W1) (hB : B ≤ W.heap.size) : ∃ y : TX, e = .returned (.agg #[.slice y.A xs.length y.c]) ∧ gT B y xs W1 ∧ W.heap.size ≤ y.lo ∧ y.hi ≤ W1.heap.size := by
  obtain ⟨v, rfl, hr⟩ := h
  obtain ⟨A, c, rfl⟩ := Kd.R_slice hr
  exact ⟨⟨A, c, W.heap.size, W1.heap.size⟩, rfl, ⟨hB, hb.size, Nat.le_refl _, RU.of hr (Nat.le_refl _) (Nat.le_refl _)⟩, Nat.le_refl _, Nat.le_refl _⟩
theorem results_cells2 {P : Program} {fn : Func} {p p2 u : Tmp} {ty ty2 : TypeId} (h : fn.results = #[.cell p ty, .cell p2 ty2, .tmp u]) (tmps : Array Value) (w : World) (g g2 : Nat) (t t2 : TypeId) (cs cs2 : Array Value) (fr fr2 : Nat × Nat) (d d2 : TypeDesc)
    (hp : tmps.getD p undef = .pointer (some ⟨g, 0, none⟩)) (hp2 : tmps.getD p2 undef = .pointer (some ⟨g2, 0, none⟩)) (hg : w.heap[g]? = some (.cells cs t fr)) (hg2 : w.heap[g2]? = some (.cells cs2 t2 fr2))
    (hu : P.underlying ty = some d) (hu2 : P.underlying ty2 = some d2) (hd : (match d with | .struct _ | .array _ _ => true | _ => false) = true) (hd2 : (match d2 with | .struct _ | .array _ _ => true | _ => false) = true) (hi : (P.info? ty).map (·.size) = some cs.size) (hi2 : (P.info? ty2).map (·.size) = some cs2.size) :
    (results fn tmps).run P w = .ok (.tuple #[.agg cs, .agg cs2, tmps.getD u undef]) w := by
  have hp' : tmps[p]?.getD undef = .pointer (some ⟨g, 0, none⟩) := by simpa using hp
  have hp2' : tmps[p2]?.getD undef = .pointer (some ⟨g2, 0, none⟩) := by simpa using hp2
  unfold results
  rw [h]
  simp [hp', hp2', asAddr, Result.andThen, run_loadVar_row w g t ty cs fr d hg hu hd hi, run_loadVar_row w g2 t2 ty2 cs2 fr2 d2 hg2 hu2 hd2 hi2]
end Go.Proofs.Ytodbglncccgdbaa
