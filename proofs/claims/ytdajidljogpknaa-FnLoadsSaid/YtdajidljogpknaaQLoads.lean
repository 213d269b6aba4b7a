/- The law FnExactLoads answers true for all arguments, and leaves each as it was. No conditions. -/
import Derived.Test.YtdajidljogpknaaQ6
import Derived.Test.YtdajidljogpknaaQ7
import Derived.Test.YtdajidljogpknaaRows
import Derived.WalkKit
import Derived.ProofKit
import Derived.OpenShut
import Derived.ShutString
import Derived.ChangeOld
import Derived.Below
import Derived.SizedLaws
set_option linter.unusedVariables false
set_option linter.unusedSimpArgs false
namespace Go.Proofs.Ytdajidljogpknaa
open Go.RowKit Go.Proofs.YtdajidljogpknaaW.PrintWords
open NoC
theorem laws_big (A : Option Addr) (N c : Nat) (w : World) : Calls Try.prog 5 #[.slice A N c] w fun e w' => e = .returned (.bool (decide ((1048576 : Int) < (N : Int)))) ∧ w = w' := by
  go_enter Try.func5, Try.ntmps5
  go_wp2
  go_ret
  exact ⟨rfl, rfl⟩
def hasTo (xs : List Int) (x : Int) (k : Nat) : Bool := has (xs.take k) x
theorem has_step {xs : List Int} {x : Int} {k : Nat} (hk : k < xs.length) : hasTo xs x (k + 1) = (hasTo xs x k || ri xs k == x) := by
  unfold hasTo has
  rw [List.take_succ_eq_append_getElem hk, ri_get _ k hk]
  apply Bool.eq_iff_iff.2
  rw [Bool.or_eq_true, List.contains_iff_mem, List.contains_iff_mem, beq_iff_eq, List.mem_append, List.mem_singleton]
  constructor
  · rintro (h | h)
    · exact .inl h
    · exact .inr h.symm
  · rintro (h | h)
    · exact .inl h
    · exact .inr h.symm
set_option maxHeartbeats 2000000 in
theorem laws_has (xs : List Int) (x : Int) (A : Option Addr) (c : Nat) (w : World) (hr : Kd.C (Kd.int .i64) w A xs.length xs) (hl : xs.length ≤ 1000000) :
    Calls Try.prog 10 #[.slice A xs.length c, .int .i64 x] w fun e w' => e = .returned (.bool (has xs x)) ∧ Below w.heap.size w w' := by
  have HE : Hid (has xs x = hasTo xs x xs.length) := Lib.hid (by unfold hasTo; rw [List.take_length])
  go_enter Try.func10, Try.ntmps10
  go_wp2
  go_loop [5] (fun i => ∃ k : Nat, i = .int .i64 k ∧ k ≤ xs.length ∧ Hid (hasTo xs x k = false)) (fun i => xs.length - (intOf i).toNat)
  case atStart => exact ⟨0, rfl, Nat.zero_le _, Lib.hid rfl⟩
  case round =>
    obtain ⟨k, rfl, hk, HF⟩ := hrel
    by_cases hlt : k < xs.length
    · obtain ⟨b, off, rfl, hb, hx⟩ := rdI_at hr k hlt
      have hx0 := hx k hlt
      have i0 : (k : Int) < (xs.length : Int) := by omega
      have k0 : (0 : Int) ≤ (k : Int) := by omega
      have HS := Lib.hid (has_step (x := x) hlt)
      obtain ⟨y, hy⟩ : ∃ y, ri xs (k : Int) = y := ⟨_, rfl⟩
      rw [hy] at hx0 HS
      clear hx hy
      by_cases he : y = x
      · have HY : Hid (has xs x = true) := Lib.hid (by
          have h1 : hasTo xs x (k + 1) = true := by rw [HS.out, he]; simp
          unfold hasTo has at h1
          unfold has
          rw [List.contains_iff_mem] at h1 ⊢
          exact List.mem_of_mem_take h1)
        subst he
        go_wp2
        go_ret
        exact ⟨ret_bool HY.out.symm, bel⟩
      · have HN : Hid (hasTo xs x (k + 1) = false) := Lib.hid (by rw [HS.out, HF.out]; simp [he])
        go_wp2
        go_round
        case rel => exact ⟨k + 1, by go_num, by omega, HN⟩
        case measure => simp [intOf]; omega
    · obtain rfl : k = xs.length := by omega
      go_wp2
      go_ret
      exact ⟨ret_bool (by rw [HE.out, HF.out]), bel⟩
theorem has_hotTo {l : List Int} {most : Int} {n k : Nat} (hk : k < n) : has (hotTo l most n) (k : Int) = (ri l k == most) := by
  unfold has hotTo
  by_cases h : ri l (k : Int) = most
  · have h1 : (ri l (k : Int) == most) = true := beq_iff_eq.2 h
    rw [h1, List.contains_iff_mem]
    simp only [List.mem_map, List.mem_filter, List.mem_range]
    exact ⟨k, ⟨hk, h1⟩, rfl⟩
  · have h1 : (ri l (k : Int) == most) = false := beq_eq_false_iff_ne.2 h
    rw [h1]
    apply Bool.eq_false_iff.2
    intro hc
    rw [List.contains_iff_mem] at hc
    simp only [List.mem_map, List.mem_filter, List.mem_range] at hc
    obtain ⟨j, ⟨_, h2⟩, h3⟩ := hc
    have : j = k := by omega
    subst this
    rw [h1] at h2
    cases h2
theorem le_foldl_max (xs : List Int) : ∀ (a : Int), a ≤ xs.foldl max a ∧ ∀ x ∈ xs, x ≤ xs.foldl max a := by
  induction xs with
  | nil => intro a; exact ⟨Int.le_refl _, fun x h => by cases h⟩
  | cons y xs ih =>
    intro a
    obtain ⟨h1, h2⟩ := ih (max a y)
    simp only [List.foldl_cons]
    refine ⟨by omega, fun x hx => ?_⟩
    rcases List.mem_cons.1 hx with rfl | hx
    · omega
    · exact h2 x hx
theorem loads_law {m : Mesh} {pa pb : List Int} {l : List Packet} (h : arePk m pa pb l = true) {k : Nat} (hk : k < (loadsOf m pa pb l).length) : ri (loadsOf m pa pb l) (k : Int) ≤ maxLoadL m pa pb l ∧ has (hottest m pa pb l) (k : Int) = (ri (loadsOf m pa pb l) (k : Int) == maxLoadL m pa pb l && decide (0 < maxLoadL m pa pb l)) := by
  constructor
  · rw [← maxL_loadsOf]
    unfold maxL
    rw [ri_get _ k hk]
    exact (le_foldl_max (loadsOf m pa pb l) (-1)).2 _ (List.getElem_mem hk)
  · by_cases hm : 0 < maxLoadL m pa pb l
    · rw [(hottest_yes hm).2, has_hotTo hk]
      simp [hm]
    · rw [hottest_no (by omega)]
      simp [hm, has]
theorem traffic_ok {g : Grid} {r s : Int} {l : List Packet} (g1 : 1 ≤ g.w ∧ g.w ≤ 4 ∧ 1 ≤ g.h ∧ g.h ≤ 4 ∧ 2 ≤ nodeCount g) (r1 : 1 ≤ r ∧ r ≤ 4 ∧ 1 ≤ s ∧ s ≤ 4) (hd : Drawn g l) : arePk ⟨g, []⟩ (makeT g r) (makeT g s) l = true := by
  have h1 := make_ok g1.1 g1.2.1 g1.2.2.1 g1.2.2.2.1 r1.1 r1.2.1
  have h2 := make_ok g1.1 g1.2.1 g1.2.2.1 g1.2.2.2.1 r1.2.2.1 r1.2.2.2
  unfold arePk classesOk
  simp only [Bool.and_eq_true, List.all_eq_true]
  refine ⟨⟨h1, h2⟩, fun p hp => ?_⟩
  obtain ⟨i, hi, rfl⟩ := List.mem_iff_getElem.1 hp
  have h3 := (hd.2 i hi).1
  have e : rp l (i : Int) = l[i] := by simp [rp, List.getD_eq_getElem?_getD, hi]
  rw [e] at h3
  exact h3
theorem makeT_len {g : Grid} {r : Int} : (makeT g r).length ≤ 256 := by
  have := count_le g
  unfold makeT
  rw [makeTo_len]
  have h : (nodeCount g).toNat ≤ 16 := by omega
  exact Nat.mul_le_mul h h
set_option maxRecDepth 100000 in
set_option maxHeartbeats 8000000 in
theorem law_Loads (A : Option Addr) (N c : Nat) (w : World) (HX : Byt w A N) : Calls Try.prog 3 #[.slice A N c] w fun e w' => e = .returned (.bool true) ∧ Below w.heap.size w w' := by
 go_enter Try.func3, Try.ntmps3
 by_cases hbig : (1048576 : Int) < (N : Int)
 ·go_wp2_with (go_at_call 5; refine (laws_big _ _ _ _).mono ?_; rintro e w' ⟨rfl, rfl⟩)
  go_ret
  exact ⟨rfl, bel⟩
 ·go_wp2_with (go_at_call 5; refine (laws_big _ _ _ _).mono ?_; rintro e w' ⟨rfl, rfl⟩)
  refine (spec_DrawTraffic A N c _ HX).mono ?_
  rintro e w1 ⟨⟨g, r, s, l, A2, A3, D, c2, c3, d, rfl, hg, hrs, hd, hC2, hC3, hCD⟩, hb1⟩
  have HOK := Lib.hid (traffic_ok hg hrs hd)
  have hpl := makeT_len (g := g) (r := r)
  have hql := makeT_len (g := g) (r := s)
  have hl6 := hd.1
  have hcn := count_in hg.1 hg.2.1 hg.2.2.1 hg.2.2.2.1
  obtain ⟨g1, g2, g3, g4, _⟩ := hg
  obtain ⟨pa, hpa⟩ : ∃ z, makeT g r = z := ⟨_, rfl⟩
  obtain ⟨pb, hpb⟩ : ∃ z, makeT g s = z := ⟨_, rfl⟩
  rw [hpa] at hpl hC2 HOK ⊢
  rw [hpb] at hql hC3 HOK ⊢
  clear hpa hpb hrs hd
  have HCB : Hid (Kd.C (Kd.int .i64) w1 none (⟨g, []⟩ : Mesh).br.length (⟨g, []⟩ : Mesh).br) := Lib.hid (Kd.R_rowX (Kd.R_nil (Kd.int .i64) 3 w1 0 (fun _ => True))).2.2
  have HC2 := Lib.hid hC2; have HC3 := Lib.hid hC3; have HCD := Lib.hid hCD
  clear hC2 hC3 hCD
  obtain ⟨w2, e2⟩ : ∃ z, z = (w1.alloc (.cells #[.int .i64 g.w, .int .i64 g.h, .slice none 0 0] 28)).alloc (.cells #[.slice A2 pa.length c2, .slice A3 pb.length c3] 32) := ⟨_, rfl⟩
  have hb2 : Below w1.heap.size w1 w2 := by rw [e2]; exact bw_alloc _ (bw_alloc _ (bw_refl w1))
  have HM2 := Lib.hid (show Arr w2 w1.heap.size 28 #[.int .i64 g.w, .int .i64 g.h, .slice none 0 0] from by rw [e2]; exact (Arr.new w1 _ _ _ rfl).below (bw_alloc _ (bw_refl _)))
  have HK2 := Lib.hid (show Arr w2 (w1.heap.size + 1) 32 #[.slice A2 pa.length c2, .slice A3 pb.length c3] from by rw [e2]; exact Arr.new _ _ _ _ (by simp only [szs]))
  have HB2 := Lib.hid (bw_then hb1 hb2)
  have z2 : w2.heap.size = w1.heap.size + 2 := by rw [e2]; simp only [szs]
  have HW : Hid (∀ W, Below w2.heap.size w2 W → Below w1.heap.size w1 W) := Lib.hid (fun W h => bw_then hb2 h)
  have HL : Hid (∀ W, Below w2.heap.size w2 W → Calls Try.prog 7 #[.agg #[.int .i64 g.w, .int .i64 g.h, .slice none 0 0], .agg #[.slice A2 pa.length c2, .slice A3 pb.length c3], .slice D l.length d] W fun e w' => GotI W w' (loadsOf ⟨g, []⟩ pa pb l) e ∧ Below W.heap.size W w') := Lib.hid (fun W h => impl_LoadsOf ⟨g, []⟩ pa pb l none A2 A3 D 0 c2 c3 d W (Kd.C_below HCB.out (HW.out W h)) (by simp) (Kd.C_below HC2.out (HW.out W h)) (by omega) (Kd.C_below HC3.out (HW.out W h)) (by omega) (Kd.C_below HCD.out (HW.out W h)) (by omega))
  have HX' : Hid (∀ W, Below w2.heap.size w2 W → Calls Try.prog 8 #[.agg #[.int .i64 g.w, .int .i64 g.h, .slice none 0 0], .agg #[.slice A2 pa.length c2, .slice A3 pb.length c3], .slice D l.length d] W fun e w' => e = .returned (.int .i64 (maxLoadL ⟨g, []⟩ pa pb l)) ∧ Below W.heap.size W w') := Lib.hid (fun W h => impl_MaxLoad ⟨g, []⟩ pa pb l none A2 A3 D 0 c2 c3 d W (Kd.C_below HCB.out (HW.out W h)) (by simp) (Kd.C_below HC2.out (HW.out W h)) (by omega) (Kd.C_below HC3.out (HW.out W h)) (by omega) (Kd.C_below HCD.out (HW.out W h)) (by omega))
  have HH : Hid (∀ W, Below w2.heap.size w2 W → Calls Try.prog 9 #[.agg #[.int .i64 g.w, .int .i64 g.h, .slice none 0 0], .agg #[.slice A2 pa.length c2, .slice A3 pb.length c3], .slice D l.length d] W fun e w' => GotI W w' (hottest ⟨g, []⟩ pa pb l) e ∧ Below W.heap.size W w') := Lib.hid (fun W h => impl_HottestChannels ⟨g, []⟩ pa pb l none A2 A3 D 0 c2 c3 d W (Kd.C_below HCB.out (HW.out W h)) (by simp) (Kd.C_below HC2.out (HW.out W h)) (by omega) (Kd.C_below HC3.out (HW.out W h)) (by omega) (Kd.C_below HCD.out (HW.out W h)) (by omega))
  have HT : Hid (∀ W, Below w2.heap.size w2 W → Calls Try.prog 11 #[.agg #[.int .i64 g.w, .int .i64 g.h, .slice none 0 0], .agg #[.slice A2 pa.length c2, .slice A3 pb.length c3], .slice D l.length d] W fun e w' => e = .returned (.int .i64 (totalHops ⟨g, []⟩ pa pb l)) ∧ Below W.heap.size W w') := Lib.hid (fun W h => impl_TotalHops ⟨g, []⟩ pa pb l none A2 A3 D 0 c2 c3 d W (Kd.C_below HCB.out (HW.out W h)) (by simp) (Kd.C_below HC2.out (HW.out W h)) (by omega) (Kd.C_below HC3.out (HW.out W h)) (by omega) (Kd.C_below HCD.out (HW.out W h)) (by omega))
  have HLL : Hid (∀ k : Nat, k < (loadsOf ⟨g, []⟩ pa pb l).length → ri (loadsOf ⟨g, []⟩ pa pb l) (k : Int) ≤ maxLoadL ⟨g, []⟩ pa pb l ∧ has (hottest ⟨g, []⟩ pa pb l) (k : Int) = (ri (loadsOf ⟨g, []⟩ pa pb l) (k : Int) == maxLoadL ⟨g, []⟩ pa pb l && decide (0 < maxLoadL ⟨g, []⟩ pa pb l))) := Lib.hid (fun k hk => loads_law HOK.out hk)
  have HTH := Lib.hid (totalHops_yes HOK.out)
  have hr1 := loadsOf_range ⟨g, []⟩ pa pb l (by omega)
  have hr2 := maxLoadL_range ⟨g, []⟩ pa pb l (by omega)
  have HSM : Hid (∀ k : Nat, k ≤ (loadsOf ⟨g, []⟩ pa pb l).length → 0 ≤ sumTo (loadsOf ⟨g, []⟩ pa pb l) k ∧ sumTo (loadsOf ⟨g, []⟩ pa pb l) k ≤ 10485760 * k) := Lib.hid (fun k hk => sum_loads (by omega) k hk)
  have h64 := loadsOf_len ⟨g, []⟩ pa pb l
  have HLEN : Hid (((loadsOf ⟨g, []⟩ pa pb l).length : Int) = 4 * g.w * g.h) := Lib.hid (by
   rw [loadsOf_yes HOK.out, loadsL_len]
   unfold chans
   have e : nodeCount (⟨g, []⟩ : Mesh).g = g.w * g.h := hcn
   rw [e, Int.mul_assoc]
   have : 0 ≤ g.w * g.h := Int.mul_nonneg (by omega) (by omega)
   omega)
  have HHL : Hid ((hottest ⟨g, []⟩ pa pb l).length ≤ 1000) := Lib.hid (by
   by_cases hm : 0 < maxLoadL ⟨g, []⟩ pa pb l
   ·rw [(hottest_yes hm).2]
    exact Nat.le_trans (hotTo_len _ _ _) (by omega)
   ·rw [hottest_no (by omega)]; simp)
  obtain ⟨LD, hLD⟩ : ∃ z, loadsOf ⟨g, []⟩ pa pb l = z := ⟨_, rfl⟩
  obtain ⟨HT', hHT⟩ : ∃ z, hottest ⟨g, []⟩ pa pb l = z := ⟨_, rfl⟩
  obtain ⟨mx, hmx⟩ : ∃ z, maxLoadL ⟨g, []⟩ pa pb l = z := ⟨_, rfl⟩
  obtain ⟨th, hth⟩ : ∃ z, totalHops ⟨g, []⟩ pa pb l = z := ⟨_, rfl⟩
  rw [hLD] at HL HLL HTH hr1 HSM h64 HLEN
  rw [hHT] at HH HLL HHL
  rw [hmx] at HX' HLL hr2
  rw [hth] at HT HTH
  have HR1 := Lib.hid hr1
  clear hLD hHT hmx hth hr1 hcn hb1 hb2 HOK HCB HC2 HC3 HCD HW
  go_wp2_with fail
  rw [← e2]
  clear e2
  refine (HL.out _ (bw_refl w2)).mono ?_
  rintro e w3 ⟨hg3, hb3⟩
  obtain ⟨Al, cl, rfl, _, hCl⟩ := hg3.read
  have HB3 := Lib.hid hb3
  have HCl := Lib.hid hCl
  clear hb3 hCl hg3
  have x0 : w3.cell? ⟨w1.heap.size, 0, none⟩ = some (.int .i64 g.w) := (HM2.out.below HB3.out).cell 0
  have x1 : w3.cell? ⟨w1.heap.size, 1, none⟩ = some (.int .i64 g.h) := (HM2.out.below HB3.out).cell 1
  have x2 : w3.cell? ⟨w1.heap.size, 2, none⟩ = some (.slice none 0 0) := (HM2.out.below HB3.out).cell 2
  have x3 : w3.cell? ⟨w1.heap.size + 1, 0, none⟩ = some (.slice A2 pa.length c2) := (HK2.out.below HB3.out).cell 0
  have x4 : w3.cell? ⟨w1.heap.size + 1, 1, none⟩ = some (.slice A3 pb.length c3) := (HK2.out.below HB3.out).cell 1
  have xl := (HM2.out.below HB3.out).lt
  have xk := (HK2.out.below HB3.out).lt
  go_wp2_with fail
  refine (HX'.out _ HB3.out).mono ?_
  rintro e w4 ⟨rfl, hb4⟩
  have HB4 := Lib.hid (bw_then HB3.out hb4)
  have HCl4 := Lib.hid (Kd.C_below HCl.out hb4)
  clear hb4 x0 x1 x2 x3 x4 xl xk
  have x0 : w4.cell? ⟨w1.heap.size, 0, none⟩ = some (.int .i64 g.w) := (HM2.out.below HB4.out).cell 0
  have x1 : w4.cell? ⟨w1.heap.size, 1, none⟩ = some (.int .i64 g.h) := (HM2.out.below HB4.out).cell 1
  have x2 : w4.cell? ⟨w1.heap.size, 2, none⟩ = some (.slice none 0 0) := (HM2.out.below HB4.out).cell 2
  have x3 : w4.cell? ⟨w1.heap.size + 1, 0, none⟩ = some (.slice A2 pa.length c2) := (HK2.out.below HB4.out).cell 0
  have x4 : w4.cell? ⟨w1.heap.size + 1, 1, none⟩ = some (.slice A3 pb.length c3) := (HK2.out.below HB4.out).cell 1
  have xl := (HM2.out.below HB4.out).lt
  have xk := (HK2.out.below HB4.out).lt
  go_wp2_with fail
  refine (HH.out _ HB4.out).mono ?_
  rintro e w5 ⟨hg5, hb5⟩
  obtain ⟨Ah, ch, rfl, _, hCh⟩ := hg5.read
  have HB5 := Lib.hid (bw_then HB4.out hb5)
  have HCl5 := Lib.hid (Kd.C_below HCl4.out hb5)
  have HCh := Lib.hid hCh
  have z5 := bw_size hb5
  clear hb5 hg5 hCh x0 x1 x2 x3 x4 xl xk
  go_wp2_with fail
  go_loopw [9, 10] (fun v i wr => ∃ k : Nat, i = .int .i64 k ∧ v = .int .i64 (sumTo LD k) ∧ k ≤ LD.length ∧ Hid (Below w5.heap.size w5 wr)) (fun _ i _ => LD.length - (intOf i).toNat)
  case atStart => exact ⟨0, rfl, rfl, Nat.zero_le _, Lib.hid (bw_refl w5)⟩
  case round =>
   obtain ⟨k, rfl, rfl, hk, HBr⟩ := hrel
   have HBr2 := Lib.hid (bw_then HB5.out HBr.out)
   have hsm := HSM.out k hk
   by_cases hlt : k < LD.length
   ·have i0 : (k : Int) < (LD.length : Int) := by omega
    have k0 : (0 : Int) ≤ (k : Int) := by omega
    have hCr := Kd.C_below HCl5.out HBr.out
    have HHr := Lib.hid (Kd.C_below HCh.out HBr.out)
    obtain ⟨b, off, rfl, hb, hx⟩ := rdI_at hCr k hlt
    have hx0 := hx k hlt
    have hrx := HR1.out k hlt
    obtain ⟨hle, hhas⟩ := HLL.out k hlt
    have HSS : Hid (sumTo LD (k + 1) = sumTo LD k + ri LD (k : Int)) := Lib.hid (sumTo_succ LD k hlt)
    obtain ⟨x, hxx⟩ : ∃ x, ri LD (k : Int) = x := ⟨_, rfl⟩
    rw [hxx] at hx0 hrx hle hhas HSS
    obtain ⟨sm, hsmm⟩ : ∃ z, sumTo LD k = z := ⟨_, rfl⟩
    rw [hsmm] at hsm HSS
    rw [hsmm]
    have hgt : decide (mx < x) = false := decide_eq_false (by omega)
    clear hx hxx hsmm hCr
    by_cases h1 : x = mx
    ·have e1 : (x == mx) = true := beq_iff_eq.2 h1
     by_cases h2 : 0 < mx
     ·have e2 : decide (0 < mx) = true := decide_eq_true h2
      have HHS : Hid (has HT' (k : Int) = true) := Lib.hid (by rw [hhas, e1, e2]; rfl)
      clear hhas
      go_wp2
      refine wp_region_far (wr) (by kernel_rfl) (by kernel_rfl) bel ?_
      have hqc := far_cell (wr)
      have hqf := far_frozen (wr)
      repeat (first | go_big_quiet_step ((go_at_call 10; exact far_call (Calls.says (laws_has HT' (k : Int) _ _ _ (by exact Kd.C_below (by exact Kd.C_below HHr.out bel) (Far.h _)) (by have := HHL.out; omega)) (congrArg Value.bool HHS.out)))) | quiet_step ((go_at_call 10; exact far_call (Calls.says (laws_has HT' (k : Int) _ _ _ (by exact Kd.C_below (by exact Kd.C_below HHr.out bel) (Far.h _)) (by have := HHL.out; omega)) (congrArg Value.bool HHS.out)))))
      refine wpQuiet_nil ?_
      intro wq hbq
      clear hqc hqf
      obtain ⟨hcq, hfq, hzq⟩ := bcell hbq
      try simp only [szs] at hzq
      go_wp2
      go_roundw
      case rel => exact ⟨k + 1, by go_num, congrArg (Value.int .i64) (by have := HSS.out; omega), by omega, Lib.hid (bw_then HBr.out hbq)⟩
      case measure => simp [intOf]; omega
     ·have e2 : decide (0 < mx) = false := decide_eq_false h2
      have HHS : Hid (has HT' (k : Int) = false) := Lib.hid (by rw [hhas, e1, e2]; rfl)
      clear hhas
      go_wp2
      refine wp_region_far (wr) (by kernel_rfl) (by kernel_rfl) bel ?_
      have hqc := far_cell (wr)
      have hqf := far_frozen (wr)
      repeat (first | go_big_quiet_step ((go_at_call 10; exact far_call (Calls.says (laws_has HT' (k : Int) _ _ _ (by exact Kd.C_below (by exact Kd.C_below HHr.out bel) (Far.h _)) (by have := HHL.out; omega)) (congrArg Value.bool HHS.out)))) | quiet_step ((go_at_call 10; exact far_call (Calls.says (laws_has HT' (k : Int) _ _ _ (by exact Kd.C_below (by exact Kd.C_below HHr.out bel) (Far.h _)) (by have := HHL.out; omega)) (congrArg Value.bool HHS.out)))))
      refine wpQuiet_nil ?_
      intro wq hbq
      clear hqc hqf
      obtain ⟨hcq, hfq, hzq⟩ := bcell hbq
      try simp only [szs] at hzq
      go_wp2
      go_roundw
      case rel => exact ⟨k + 1, by go_num, congrArg (Value.int .i64) (by have := HSS.out; omega), by omega, Lib.hid (bw_then HBr.out hbq)⟩
      case measure => simp [intOf]; omega
    ·have e1 : (x == mx) = false := beq_eq_false_iff_ne.2 h1
     have HHS : Hid (has HT' (k : Int) = false) := Lib.hid (by rw [hhas, e1]; rfl)
     clear hhas
     go_wp2
     refine wp_region_far (wr) (by kernel_rfl) (by kernel_rfl) bel ?_
     have hqc := far_cell (wr)
     have hqf := far_frozen (wr)
     repeat (first | go_big_quiet_step ((go_at_call 10; exact far_call (Calls.says (laws_has HT' (k : Int) _ _ _ (by exact Kd.C_below (by exact Kd.C_below HHr.out bel) (Far.h _)) (by have := HHL.out; omega)) (congrArg Value.bool HHS.out)))) | quiet_step ((go_at_call 10; exact far_call (Calls.says (laws_has HT' (k : Int) _ _ _ (by exact Kd.C_below (by exact Kd.C_below HHr.out bel) (Far.h _)) (by have := HHL.out; omega)) (congrArg Value.bool HHS.out)))))
     refine wpQuiet_nil ?_
     intro wq hbq
     clear hqc hqf
     obtain ⟨hcq, hfq, hzq⟩ := bcell hbq
     try simp only [szs] at hzq
     go_wp2
     go_roundw
     case rel => exact ⟨k + 1, by go_num, congrArg (Value.int .i64) (by have := HSS.out; omega), by omega, Lib.hid (bw_then HBr.out hbq)⟩
     case measure => simp [intOf]; omega
   ·obtain rfl : k = LD.length := by omega
    have i0 : ¬ (LD.length : Int) < (LD.length : Int) := by omega
    have hw2 : IntKind.i64.wrap (4 * g.w * g.h) = (LD.length : Int) := by rw [← HLEN.out]; first | done | exact IntWalk.i64_in _ (by omega)
    have hw3 : 4 * g.w * g.h = (LD.length : Int) := HLEN.out.symm
    have x0 : wr.cell? ⟨w1.heap.size, 0, none⟩ = some (.int .i64 g.w) := (HM2.out.below HBr2.out).cell 0
    have x1 : wr.cell? ⟨w1.heap.size, 1, none⟩ = some (.int .i64 g.h) := (HM2.out.below HBr2.out).cell 1
    have x2 : wr.cell? ⟨w1.heap.size, 2, none⟩ = some (.slice none 0 0) := (HM2.out.below HBr2.out).cell 2
    have x3 : wr.cell? ⟨w1.heap.size + 1, 0, none⟩ = some (.slice A2 pa.length c2) := (HK2.out.below HBr2.out).cell 0
    have x4 : wr.cell? ⟨w1.heap.size + 1, 1, none⟩ = some (.slice A3 pb.length c3) := (HK2.out.below HBr2.out).cell 1
    have xl := (HM2.out.below HBr2.out).lt
    have xk := (HK2.out.below HBr2.out).lt
    go_wp2_with (go_at_call 11; refine (HT.out _ HBr2.out).mono ?_; rintro e w6 ⟨rfl, hb6⟩)
    go_ret
    have hz : (sumTo LD LD.length == th) = true := beq_iff_eq.2 HTH.out.symm
    exact ⟨ret_bool hz, bw_then (bw_then HB2.out HBr2.out) hb6⟩
end Go.Proofs.Ytdajidljogpknaa
namespace Go.Proofs.Ytdajidljogpknaa
open Go.ChangeShapes Go.WideShapes Go.ChangeAt Go.RowKit Go.Proofs.YtdajidljogpknaaW.PrintWords
open NoC
set_option linter.unusedVariables false
theorem own : ownKnob Try.prog.godebug = none := by kernel_rfl
theorem laidOut : laidOutB Try.prog = true := by kernel_rfl
theorem arr_of {cs : Array Value} {l : List Value} (h : cs.toList = l) : cs = l.toArray := by rw [← h]
set_option maxHeartbeats 1000000 in
set_option maxRecDepth 100000 in
theorem lifted_Loads (os : Os) (started : os.Started) (H : Type) (enc : TypeId × Value → H) :
    ReturnsInHanded {} Try.checked os 3 .any (Rows.fnLoadsSpec.pre6 enc Try.prog Try.f3 Rows.fnLoadsRow.domain false) (Rows.fnLoadsSpec.post enc Try.prog Try.f3 false true false false) := by
  refine returnsInHanded_of_change_sized (C := Try.checked) own started (by kernel_rfl) Try.func3
    (ChangeSpec.witness6 (enc := enc) (C := Try.checked) false ⟨#[], #[.slice none 0 0], []⟩ 8 (by kernel_rfl) (by kernel_rfl) (by kernel_rfl) (by kernel_rfl)) ?_
  intro W base args ds gs before hval0 hW hcnd hsz0 _
  have hsz : (DataW.weightsEach Try.prog (Try.f3.params.toList ++ Rows.fnLoadsSpec.plain.varTypes Try.prog) (ds ++ gs)).all (· ≤ reachBytes) = true := hsz0
  have hval : ∀ (j : Nat) t v, Try.f3.params[j]? = some t → args[j]? = some v → Value.okWide Try.prog W .any base t v := hval0
  have hW' := hW
  obtain ⟨p, q, hA0, hV, rfl, hfz, hnd⟩ := hW
  have hA : DataW.TrodAll enc Try.prog W 0 (fun _ => true) true Try.f3.params.toList args.toList ds p := hA0
  rw [Try.params3] at hA hval hsz
  obtain ⟨v0, vs0, d0, ds0, p0, q0, hargs, rfl, rfl, h0, r0⟩ := trodAll_cons hA
  obtain ⟨rfl, rfl, rfl⟩ := trodAll_nil r0
  obtain rfl : args = #[v0] := by cases args; simp_all
  obtain ⟨rfl, rfl⟩ := trodVars_none hV
  obtain ⟨c0, n0, o0, rfl⟩ := okWide_slice Try.underlying22 (hval 0 _ v0 rfl rfl)
  have k0 := h0
  have lt0 : ∀ x ∈ p0, x.block < W.heap.size := by obtain ⟨m, hm⟩ := k0; exact DataW.trod_lt m _ _ _ hm
  obtain ⟨f0, g0⟩ := h0
  obtain ⟨A0, a0, N0, e0, hl0⟩ := op_bytes g0 (light_arg hsz (j := 0) rfl rfl)
  simp [Value.cells] at e0
  obtain ⟨rfl, rfl, rfl⟩ := e0
  clear hA0 hval0 hsz0 hsz
  refine (law_Loads c0 n0 o0 W hl0).mono fun e W' ⟨he, bel⟩ => ?_
  subst he
  exact ⟨_, rfl, _, _, _, [], _, [], hW', trodAll_mk1 (shut_bool Try.underlying4 _), (trodAll_cons_mk (Below.trod laidOut (by kernel_rfl) (of_decide_eq_true (by kernel_rfl)) k0 bel lt0) trodAll_mk0), rfl, bel.frame _, fun h => by cases h⟩
theorem over_Loads : Rows.fnLoadsRow.holds Try.pinned (OpenSpec.ofChange Rows.fnLoadsSpec) :=
  OpenClaim.holds_of_wide 3 Try.f3 rfl rfl rfl rfl rfl rfl rfl ⟨rfl, rfl, rfl, rfl, rfl⟩ rfl rfl rfl rfl rfl (by kernel_rfl) Try.func3 (by kernel_rfl)
    (of_decide_eq_true (by kernel_rfl)) (by unfold Func.isWrapper; first | (rw [if_pos (by decide +kernel)]; kernel_rfl) | (rw [if_neg (by decide +kernel)]; exact ⟨rfl, rfl⟩))
    (fun os started H enc _ => lifted_Loads os started H enc)
theorem fnLoads_holds : Rows.FnLoadsSaid := over_Loads
#print axioms fnLoads_holds
end Go.Proofs.Ytdajidljogpknaa
