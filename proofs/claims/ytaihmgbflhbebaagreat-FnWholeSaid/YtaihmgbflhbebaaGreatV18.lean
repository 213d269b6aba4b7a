/- Lemmas for laws of this seat, for all inputs: MA WEqStruct WhI WhS WhP Arr Among ArF Wh4 Open OpenP OpenY. -/
import Derived.Test.YtaihmgbflhbebaaGreatV1
import Derived.Test.YtaihmgbflhbebaaGreatV2
import Derived.Laws.StructEq
import Derived.Test.YtaihmgbflhbebaaGreatV7
import Derived.Test.YtaihmgbflhbebaaGreatV9
import Derived.Test.YtaihmgbflhbebaaGreatV10
import Derived.Test.YtaihmgbflhbebaaGreatV3
import Derived.Test.YtaihmgbflhbebaaGreatV17
import Derived.ProofKit
import Derived.OpenShut
import Derived.SizedLaws
import Derived.WideShapes
import Derived.ChangeSame
import Derived.Test.YtaihmgbflhbebaaGreatV6
set_option linter.unusedVariables false
set_option linter.unusedSimpArgs false
namespace NoC
def isW (l : List Flit) (i : Nat) : Bool :=
  decide ((rf l i).pk = (rf l 0).pk) && decide ((rf l i).dst = (rf l 0).dst) && decide ((rf l i).cls = (rf l 0).cls) && ((rf l i).head == decide (i = 0)) && ((rf l i).tail == decide (i + 1 = l.length))
def wholeTo (l : List Flit) : Nat → Bool
  | 0 => true
  | k + 1 => wholeTo l k && isW l k
def wholeF (l : List Flit) : Bool := decide (0 < l.length) && wholeTo l l.length
theorem wholeTo_miss {l : List Flit} {k : Nat} (h : isW l k = false) : ∀ j : Nat, k < j → wholeTo l j = false := by
  intro j
  induction j with
  | zero => intro h; omega
  | succ j ih =>
    intro h1
    by_cases e : k = j
    · subst e; simp [wholeTo, h]
    · simp [wholeTo, ih (by omega)]
theorem wholeF_miss {l : List Flit} {k : Nat} (hk : k < l.length) (h : isW l k = false) : wholeF l = false := by simp [wholeF, wholeTo_miss h l.length hk]
theorem wholeF_0 {l : List Flit} (h : l.length = 0) : wholeF l = false := by simp [wholeF, h]
theorem wholeF_all {l : List Flit} (h0 : 0 < l.length) (h : wholeTo l l.length = true) : wholeF l = true := by simp [wholeF, h, h0]
def wpAt (l : List Flit) : Nat → List Int × Nat
  | 0 => ([], 0)
  | k + 1 => if wholeF ((l.take (k + 1)).drop (wpAt l k).2) = true then ((wpAt l k).1 ++ [(rf l ((wpAt l k).2 : Nat)).pk], k + 1) else wpAt l k
theorem wpAt_yes {l : List Flit} {k f : Nat} {ids : List Int} (e : wpAt l k = (ids, f)) (h : wholeF ((l.take (k + 1)).drop f) = true) : wpAt l (k + 1) = (ids ++ [(rf l f).pk], k + 1) := by
  rw [wpAt, e, if_pos h]
theorem wpAt_no {l : List Flit} {k f : Nat} {ids : List Int} (e : wpAt l k = (ids, f)) (h : wholeF ((l.take (k + 1)).drop f) = false) : wpAt l (k + 1) = (ids, f) := by
  rw [wpAt, e, if_neg (by simp [h])]
theorem rf_mid {l : List Flit} {f k : Nat} {j : Nat} (hk : k ≤ l.length) (hj : f + j < k) : rf ((l.take k).drop f) (j : Int) = rf l ((f + j : Nat) : Int) := by
  unfold rf
  simp only [Int.toNat_natCast, List.getD_eq_getElem?_getD, List.getElem?_drop, List.getElem?_take]
  rw [if_pos hj]
def wholeB (l : List Flit) : Bool := !decide ((wpAt l l.length).2 < l.length)
def wholeP (l : List Flit) : List Int := if (wpAt l l.length).2 < l.length then [] else (wpAt l l.length).1
theorem wholeP_no {l : List Flit} {ids : List Int} {f : Nat} (e : wpAt l l.length = (ids, f)) (h : f < l.length) : wholeP l = [] ∧ wholeB l = false := by simp [wholeP, wholeB, e, h]
theorem wholeP_yes {l : List Flit} {ids : List Int} {f : Nat} (e : wpAt l l.length = (ids, f)) (h : ¬ f < l.length) : wholeP l = ids ∧ wholeB l = true := by simp [wholeP, wholeB, e, h]
def trimTo (l : List Flit) : Nat → Nat
  | 0 => 0
  | k + 1 => if (rf l k).tail = true then k + 1 else trimTo l k
theorem trimTo_le (l : List Flit) (k : Nat) : trimTo l k ≤ k := by
  induction k with
  | zero => simp [trimTo]
  | succ k ih => unfold trimTo; split <;> omega
def trimF (l : List Flit) : List Flit := l.take (trimTo l l.length)
end NoC
namespace Go.Proofs.YtaihmgbflhbebaaGreatW.PrintWords
open Go.RowKit
section
variable {P : Program} {d : Nat} {xs ys : Array Value} {f : Field} {fs : List Field} {a b : Value} {r s : Bool} {w : World}
end
end Go.Proofs.YtaihmgbflhbebaaGreatW.PrintWords
namespace Go.Proofs.YtaihmgbflhbebaaGreat
open Go.RowKit Go.Proofs.YtaihmgbflhbebaaGreatW.PrintWords
open NoC
theorem isW_of {l : List Flit} {i : Nat} {b0 b1 h t : Bool} (e0 : (rf l i).pk = (rf l 0).pk) (e1 : (rf l i).dst = (rf l 0).dst) (e2 : (rf l i).cls = (rf l 0).cls) (d0 : decide (i = 0) = b0) (d1 : decide (i + 1 = l.length) = b1) (hh : (rf l i).head = h) (ht : (rf l i).tail = t) : isW l i = ((h == b0) && (t == b1)) := by
  simp [isW, e0, e1, e2, d0, d1, hh, ht]
theorem isW_0 {l : List Flit} {i : Nat} (h : ¬ (rf l i).pk = (rf l 0).pk) : isW l i = false := by simp [isW, h]
theorem isW_1 {l : List Flit} {i : Nat} (h : ¬ (rf l i).dst = (rf l 0).dst) : isW l i = false := by simp [isW, h]
theorem isW_2 {l : List Flit} {i : Nat} (h : ¬ (rf l i).cls = (rf l 0).cls) : isW l i = false := by simp [isW, h]

set_option maxHeartbeats 8000000 in
set_option maxRecDepth 100000 in
theorem impl_IsWhole (l : List Flit) (A : Option Addr) (c : Nat) (w : World) (hr : kF.C w A l.length l) (hn : l.length ≤ 2097152) :
  Calls Tryz.prog 119 #[.slice A l.length c] w fun e w' => e = .returned (.bool (wholeF l)) ∧ Below w.heap.size w w' := by
 have R := Lib.hid hr
 clear hr
 by_cases hz : l.length = 0
 ·have HE := Lib.hid (wholeF_0 hz)
  have f0 : ¬ (0 : Int) < (l.length : Int) := by omega
  clear hz
  go_enter Tryz.func119, Tryz.ntmps119
  go_wp2
  go_loopw [7] (fun i wr => i = .int .i64 0 ∧ Below w.heap.size w wr) (fun _ _ => 0)
  case atStart => exact ⟨rfl, bel⟩
  case round =>
   obtain ⟨rfl, HB⟩ := hrel
   go_wp2
   go_ret
   exact ⟨ret_bool HE.out.symm, bel⟩
 have f9 : (0 : Int) < (l.length : Int) := by omega
 go_enter Tryz.func119, Tryz.ntmps119
 go_wp2
 go_loopw [7] (fun i wr => ∃ k : Nat, i = .int .i64 k ∧ k ≤ l.length ∧ Hid (wholeTo l k = true) ∧ Below w.heap.size w wr) (fun i _ => l.length - (intOf i).toNat)
 case atStart => exact ⟨0, rfl, Nat.zero_le _, Lib.hid rfl, bel⟩
 case round =>
  obtain ⟨k, rfl, hk, HT, HB⟩ := hrel
  have HC := Lib.hid (Kd.C_below R.out HB)
  by_cases hlt : k < l.length
  ·obtain ⟨b, off, rfl, hb, p0, p1, p2, p3, p4⟩ := rdFl_at HC.out k hlt
   obtain ⟨b', off', hA, _, q0, q1, q2, _, _⟩ := rdFl_at HC.out 0 (by omega)
   injection hA with hA
   injection hA with hA1 hA2
   subst hA1 hA2
   clear HC
   simp only [Nat.zero_mul, Nat.add_zero, Int.natCast_zero, Int.ofNat_zero] at q0 q1 q2
   obtain ⟨x0, h0⟩ : ∃ x, (rf l (k : Int)).pk = x := ⟨_, rfl⟩
   obtain ⟨x1, h1⟩ : ∃ x, (rf l (k : Int)).dst = x := ⟨_, rfl⟩
   obtain ⟨x2, h2⟩ : ∃ x, (rf l (k : Int)).cls = x := ⟨_, rfl⟩
   obtain ⟨x3, h3⟩ : ∃ x, (rf l (k : Int)).head = x := ⟨_, rfl⟩
   obtain ⟨x4, h4⟩ : ∃ x, (rf l (k : Int)).tail = x := ⟨_, rfl⟩
   obtain ⟨y0, g0⟩ : ∃ x, (rf l 0).pk = x := ⟨_, rfl⟩
   obtain ⟨y1, g1⟩ : ∃ x, (rf l 0).dst = x := ⟨_, rfl⟩
   obtain ⟨y2, g2⟩ : ∃ x, (rf l 0).cls = x := ⟨_, rfl⟩
   rw [h0] at p0
   rw [h1] at p1
   rw [h2] at p2
   rw [h3] at p3
   rw [h4] at p4
   rw [g0] at q0
   rw [g1] at q1
   rw [g2] at q2
   have b1 : b < wr.heap.size := by have := bw_size HB; omega
   have bne : b ≠ wr.heap.size := by omega
   by_cases e0 : x0 = y0
   ·by_cases e1 : x1 = y1
    ·by_cases e2 : x2 = y2
     ·obtain ⟨d0, hd0⟩ : ∃ d, decide (k = 0) = d := ⟨_, rfl⟩
      obtain ⟨d1, hd1⟩ : ∃ d, decide (k + 1 = l.length) = d := ⟨_, rfl⟩
      have HI := Lib.hid (isW_of (h0.trans (e0.trans g0.symm)) (h1.trans (e1.trans g1.symm)) (h2.trans (e2.trans g2.symm)) hd0 hd1 h3 h4)
      have f0 : ((k : Int) == 0) = d0 := by rw [← hd0]; by_cases h : k = 0 <;> simp [h]
      have f1 : ((k : Int) == (l.length : Int) - 1) = d1 := by
       rw [← hd1]
       by_cases h : k + 1 = l.length
       ·have h' : (k : Int) = (l.length : Int) - 1 := by omega
        simp [h, h']
       ·have h' : ¬ (k : Int) = (l.length : Int) - 1 := by omega
        simp [h, h']
      subst e0 e1 e2
      clear h0 h1 h2 h3 h4 g0 g1 g2 hd0 hd1
      cases hg : ((x3 == d0) && (x4 == d1))
      ·have HM := Lib.hid (wholeF_miss hlt (HI.out.trans hg))
       clear HT HI
       cases x3 <;> cases d0 <;> cases x4 <;> cases d1 <;> first | (exact absurd hg (by decide)) | (clear hg; go_wp2; go_quiet (fail); go_wp2; go_ret; exact ⟨ret_bool HM.out.symm, bel⟩)
      ·have HM : Hid (wholeTo l (k + 1) = true) := Lib.hid (by rw [wholeTo, HT.out, HI.out, hg]; rfl)
       clear HT HI
       cases x3 <;> cases d0 <;> cases x4 <;> cases d1 <;> first | (exact absurd hg (by decide)) | (clear hg; go_wp2; go_quiet (fail); go_wp2; go_roundw; (case rel => exact ⟨k + 1, by go_num, by omega, HM, bel⟩); (case measure => simp [intOf]; omega))
     ·have HI := isW_2 (l := l) (i := k) (by rw [h2, g2]; exact e2)
      clear h0 h1 h2 h3 h4 g0 g1 g2
      have f5 : (x2 != y2) = true := bne_iff_ne.2 e2
      have HM := Lib.hid (wholeF_miss hlt (HI))
      clear HI
      clear HT
      go_wp2
      go_quiet (fail)
      go_wp2
      go_ret
      exact ⟨ret_bool HM.out.symm, bel⟩
    ·have HI := isW_1 (l := l) (i := k) (by rw [h1, g1]; exact e1)
     clear h0 h1 h2 h3 h4 g0 g1 g2
     have f5 : (x1 != y1) = true := bne_iff_ne.2 e1
     have HM := Lib.hid (wholeF_miss hlt (HI))
     clear HI
     clear HT
     go_wp2
     go_quiet (fail)
     go_wp2
     go_ret
     exact ⟨ret_bool HM.out.symm, bel⟩
   ·have HI := isW_0 (l := l) (i := k) (by rw [h0, g0]; exact e0)
    clear h0 h1 h2 h3 h4 g0 g1 g2
    have f5 : (x0 != y0) = true := bne_iff_ne.2 e0
    have HM := Lib.hid (wholeF_miss hlt (HI))
    clear HI
    clear HT
    go_wp2
    go_quiet (fail)
    go_wp2
    go_ret
    exact ⟨ret_bool HM.out.symm, bel⟩
  ·obtain rfl : k = l.length := by omega
   have HM := Lib.hid (wholeF_all (by omega) HT.out)
   go_wp2
   go_ret
   exact ⟨ret_bool ((decide_eq_true (by omega)).trans HM.out.symm), bel⟩
theorem cut_F (A : Option Addr) (n c : Nat) (lo hi : Int) (h0 : 0 ≤ lo) (h1 : lo ≤ hi) (h2 : hi ≤ n) (hc : n ≤ c) (W : World) :
    (Instr.slice 43 (.slice A n c) (some (.int .i64 lo)) (some (.int .i64 hi)) none).run Tryz.prog W = .ok (.slice (if c = lo.toNat then A else A.map (·.add (lo.toNat * 5))) (hi.toNat - lo.toNat) (c - lo.toNat)) W := by
  obtain ⟨i, hi', hs⟩ := Option.map_eq_some_iff.1 info_F
  exact cut_mid (P := Tryz.prog) 43 80 .i64 .i64 Tryz.underlying43 hi' 5 (congrArg (fun z => z.2.1) hs) A n c lo hi h0 h1 h2 hc W
def GotWP (w w' : World) (l : List Flit) (e : Ending) : Prop := ∃ v, e = .returned (.tuple #[v, .bool (wholeB l)]) ∧ Kd.R (Kd.int .i64) 3 w' w.heap.size (fun _ => True) v (wholeP l)
set_option maxHeartbeats 8000000 in
set_option maxRecDepth 100000 in
theorem impl_WholePackets (l : List Flit) (A : Option Addr) (c : Nat) (w : World) (hr : kF.C w A l.length l) (hn : l.length ≤ 2097152) (hc : l.length ≤ c) :
  Calls Tryz.prog 82 #[.slice A l.length c] w fun e w' => GotWP w w' l e ∧ Below w.heap.size w w' := by
 have R := Lib.hid hr
 clear hr
 go_enter Tryz.func82, Tryz.ntmps82
 go_wp2
 go_loopw [4, 5, 6] (fun v f t wr => ∃ (k fr : Nat) (ids : List Int), t = .int .i64 ((k : Int) + 1) ∧ f = .int .i64 fr ∧ k ≤ l.length ∧ fr ≤ k ∧ Hid (wpAt l k = (ids, fr)) ∧ ids.length ≤ k ∧ Kd.R (Kd.int .i64) 3 wr w.heap.size (fun _ => True) v ids ∧ Below w.heap.size w wr) (fun _ _ t _ => l.length + 1 - (intOf t).toNat)
 case atStart => exact ⟨0, 0, [], rfl, rfl, Nat.zero_le _, Nat.zero_le _, Lib.hid rfl, Nat.zero_le _, R_empty (W0 := w) _ _ (bw_size bel), bel⟩
 case round =>
  obtain ⟨k, fr, ids, rfl, rfl, hk, hfr, HW, hid, HO, HB⟩ := hrel
  obtain ⟨Ao, co, rfl⟩ := Kd.R_slice HO
  obtain ⟨hcr, hfz, hzr⟩ := bcell HB
  by_cases hlt : k < l.length
  ·have i0 : (k : Int) + 1 ≤ (l.length : Int) := by omega
   have C1 := Lib.hid (Kd.C_mid (c := c) (lo := fr) (hi := k + 1) R.out (by omega) (by omega) hc)
   have hl : ((l.take (k + 1)).drop fr).length = k + 1 - fr := by rw [List.length_drop, List.length_take]; omega
   obtain ⟨m, hm⟩ : ∃ m, (l.take (k + 1)).drop fr = m := ⟨_, rfl⟩
   rw [hm] at C1 hl
   have HM := Lib.hid hm
   have HL := Lib.hid hl
   have hcut : ∀ W : World, (Instr.slice 43 (.slice A l.length c) (some (.int .i64 (fr : Int))) (some (.int .i64 ((k : Int) + 1))) none).run Tryz.prog W = .ok (.slice (if c = fr then A else A.map (·.add (fr * 5))) m.length (c - fr)) W := by
    intro W
    have := cut_F A l.length c fr ((k : Int) + 1) (by omega) (by omega) (by omega) hc W
    rw [this, hl]
    congr 2
   have hmn : m.length ≤ 2097152 := by omega
   clear hl hm
   obtain ⟨A2, hA2⟩ : ∃ A2, (if c = fr then A else A.map (·.add (fr * 5))) = A2 := ⟨_, rfl⟩
   rw [hA2] at hcut
   rw [show kF.sz = 5 from rfl, hA2] at C1
   clear hA2
   cases hw : wholeF m
   ·have HV := Lib.hid (wpAt_no HW.out (by rw [HM.out]; exact hw))
    have H2 := Lib.hid hw
    clear hw
    go_wp2_with (go_at_call 119; refine (impl_IsWhole m A2 _ _ (by exact Kd.C_below C1.out bel) hmn).mono ?_; rintro e w1 ⟨he, hb1⟩; rw [H2.out] at he; subst he; obtain ⟨hc1, hf1, hz1⟩ := bcell hb1; (try simp only [szs] at hz1); have hb2 := far2; obtain ⟨hc2, hf2, hz2⟩ := bcell hb2; (try simp only [szs] at hz2); try (first | obtain ⟨hy1, hy2, hy3, hy4⟩ := lts4 hz2 | obtain ⟨hy1, hy2, hy3⟩ := lts3 hz2 | obtain ⟨hy1, hy2⟩ := lts2 hz2 | have hy1 := lts1 hz2); have hb9 := hb1)
    go_roundw
    case rel => exact ⟨k + 1, fr, ids, by go_num, rfl, by omega, by omega, HV, by omega, (by exact Kd.R_below HO bel), bel⟩
    case measure => simp [intOf]; omega
   ·have HV := Lib.hid (wpAt_yes HW.out (by rw [HM.out]; exact hw))
    have H2 := Lib.hid hw
    clear hw
    obtain ⟨b, off, hA, hb, RF⟩ : ∃ b off, A = some ⟨b, off, none⟩ ∧ b < w.heap.size ∧ w.cell? ⟨b, off + fr * 5, none⟩ = some (.int .i64 (rf l fr).pk) := by
     obtain ⟨b, off, h1, h2, h3, _⟩ := rdFl_at R.out fr (by omega)
     exact ⟨b, off, h1, h2, h3⟩
    subst hA
    have i1 : (fr : Int) < (l.length : Int) := by omega
    obtain ⟨x, hx⟩ : ∃ x, (rf l (fr : Int)).pk = x := ⟨_, rfl⟩
    rw [hx] at RF HV
    clear hx
    go_wp2_with (first | (go_at_call 119; refine (impl_IsWhole m A2 _ _ (by exact Kd.C_below C1.out bel) hmn).mono ?_; rintro e w1 ⟨he, hb1⟩; rw [H2.out] at he; subst he; obtain ⟨hc1, hf1, hz1⟩ := bcell hb1; (try simp only [szs] at hz1); have hb2 := far2; obtain ⟨hc2, hf2, hz2⟩ := bcell hb2; (try simp only [szs] at hz2); try (first | obtain ⟨hy1, hy2, hy3, hy4⟩ := lts4 hz2 | obtain ⟨hy1, hy2, hy3⟩ := lts3 hz2 | obtain ⟨hy1, hy2⟩ := lts2 hz2 | have hy1 := lts1 hz2); have hb9 := hb1) | (at_builtin; refine app_int (W0 := w) rfl (.tmp 19) (.tmp 25) 26 3 rfl Tryz.underlying26 info_int _ ids x rfl (by first | rfl | exact congrArg (fun z => Value.slice (some ⟨z, 0, none⟩) 1 1) (World.size_alloc _ _).symm) (by exact Kd.R_below HO bel) bel (by omega) ?_; intro v1 w1 HO1 HB1; obtain ⟨hc1, hf1, hz1⟩ := bcell HB1; (try simp only [szs] at hz1); have hb2 := HB1; have hb9 := HB1))
    go_roundw
    case rel => exact ⟨k + 1, k + 1, ids ++ [x], by go_num, by go_num, by omega, by omega, HV, by simp; omega, (by exact Kd.R_below HO1 bel), bel⟩
    case measure => simp [intOf]; omega
  ·obtain rfl : k = l.length := by omega
   have i0 : ¬ (l.length : Int) + 1 ≤ (l.length : Int) := by omega
   by_cases h : fr < l.length
   ·have i1 : (fr : Int) < (l.length : Int) := by omega
    have HE := Lib.hid (wholeP_no HW.out h)
    clear h
    go_wp2
    exact bodyPost_ret (v := .tuple #[.slice none 0 0, .bool false]) (by simp [results, Tryz.results82, go_sem]) rfl ⟨⟨_, by rw [HE.out.2], by rw [HE.out.1]; exact R_nil' _ _ w _⟩, bel⟩
   ·have i1 : ¬ (fr : Int) < (l.length : Int) := by omega
    have HE := Lib.hid (wholeP_yes HW.out h)
    clear h
    go_wp2
    exact bodyPost_ret (v := .tuple #[.slice Ao ids.length co, .bool true]) (by simp [results, Tryz.results82, go_sem]) rfl ⟨⟨_, by rw [HE.out.2], by rw [HE.out.1]; exact (by exact Kd.R_below HO bel)⟩, bel⟩
def arrF (n : Net) (a c : Int) : List Flit := trimF (clsOnly (rl n.arrs a) c)
def lenOf : Value → Nat
  | .slice _ m _ => m
  | _ => 0
theorem cut_toF (A : Option Addr) (n c : Nat) (hi : Int) (h0 : 0 ≤ hi) (h2 : hi ≤ n) (hc : n ≤ c) (W : World) :
    (Instr.slice 43 (.slice A n c) none (some (.int .i64 hi)) none).run Tryz.prog W = .ok (.slice A hi.toNat c) W := by
  obtain ⟨i, hi', hs⟩ := Option.map_eq_some_iff.1 info_F
  exact cut_to (P := Tryz.prog) 43 80 .i64 Tryz.underlying43 hi' A n c hi h0 h2 hc W
theorem trimTo_tail {l : List Flit} {k : Nat} (h : (rf l k).tail = true) : trimTo l (k + 1) = k + 1 := by rw [trimTo, if_pos h]
theorem trimTo_on {l : List Flit} {k : Nat} (h : (rf l k).tail = false) : trimTo l (k + 1) = trimTo l k := by rw [trimTo, if_neg (by simp [h])]
theorem trimF_at {l : List Flit} {m : Nat} (h : trimTo l m = trimTo l l.length) (h2 : trimTo l m = m) : l.take m = trimF l := by rw [trimF, ← h, h2]
theorem node_arrs {n : Net} {a : Int} (ok : netOk n = true) (nd : isNode n.mesh.g a = true) : 0 ≤ a ∧ a < (n.arrs.length : Int) := by
  obtain ⟨_, _, _, _, _, h6, _⟩ := netOk_parts ok
  have := isNode_iff.1 nd
  omega
theorem rl_memI {l : List (List Flit)} {a : Int} (h0 : 0 ≤ a) (h1 : a < (l.length : Int)) : rl l a ∈ l := by
  have := rl_mem (l := l) (k := a.toNat) (by omega)
  rwa [Int.toNat_of_nonneg h0] at this
theorem clsOnly_len (l : List Flit) (c : Int) : (clsOnly l c).length ≤ l.length := List.length_filter_le _ _
set_option maxHeartbeats 4000000 in
set_option maxRecDepth 100000 in
theorem impl_arrived (n : Net) (q : NA) (bx : Nat) (a c : Int) (w : World) (hr : NetR 80 w n q) (hx : Box w bx (netCells n q)) (ok : netOk n = true) (nd : isNode n.mesh.g a = true) :
    Calls Tryz.prog 55 #[.pointer (some ⟨bx, 0, none⟩), .int .i64 a, .int .i64 c] w fun e w' => GotWP w w' (arrF n a c) e ∧ Below w.heap.size w w' := by
  obtain ⟨i0, i1⟩ := node_arrs ok nd
  clear ok nd
  obtain ⟨a1, a2, a3, a4, a5, a6, a7, a8, c1, c2, c3, c4, c5, c6, c7, c8⟩ := q; obtain ⟨Rbr, Rpa, Rpb, Rbu, Row, Rtu, Rso, Rar, L1, L2, L3, L4, L5, L6, L7, L8, L9, L10, L11⟩ := hr; have M9 := Lib.hid L9; have M10 := Lib.hid L10; have M11 := Lib.hid L11; clear L9 L10 L11; dsimp only [netCells] at *
  have xl := hx.lt; have x0 : w.cell? ⟨bx, 0, none⟩ = some (.int .i64 n.mesh.g.w) := hx.get 0; have x1 : w.cell? ⟨bx, 1, none⟩ = some (.int .i64 n.mesh.g.h) := hx.get 1; have x2 : w.cell? ⟨bx, 2, none⟩ = some (.slice a1 n.mesh.br.length c1) := hx.get 2; have x3 : w.cell? ⟨bx, 3, none⟩ = some (.slice a2 n.pa.length c2) := hx.get 3; have x4 : w.cell? ⟨bx, 4, none⟩ = some (.slice a3 n.pb.length c3) := hx.get 4; have x5 : w.cell? ⟨bx, 5, none⟩ = some (.slice a4 n.bufs.length c4) := hx.get 5; have x6 : w.cell? ⟨bx, 6, none⟩ = some (.slice a5 n.owners.length c5) := hx.get 6; have x7 : w.cell? ⟨bx, 7, none⟩ = some (.slice a6 n.turns.length c6) := hx.get 7; have x8 : w.cell? ⟨bx, 8, none⟩ = some (.slice a7 n.srcs.length c7) := hx.get 8; have x9 : w.cell? ⟨bx, 9, none⟩ = some (.slice a8 n.arrs.length c8) := hx.get 9; have x10 : w.cell? ⟨bx, 10, none⟩ = some (.int .i64 n.time) := hx.get 10; clear hx
  have hki := M11.out _ (rl_memI i0 i1)
  obtain ⟨b8, o8, rfl, hb8, Ai, ci, p0, hle, hCi⟩ := rdB_int Rar a i0 i1
  obtain ⟨z1, z2, z3, z4, z5, z6⟩ := more hb8
  obtain ⟨L, hL⟩ : ∃ L, clsOnly (rl n.arrs a) c = L := ⟨_, rfl⟩
  have hLn : L.length ≤ 2097152 := by rw [← hL]; exact Nat.le_trans (clsOnly_len _ _) hki
  have HE : Hid (arrF n a c = trimF L) := Lib.hid (by rw [arrF, hL])
  have HL := Lib.hid hL
  clear hL
  go_enter Tryz.func55, Tryz.ntmps55
  go_wp2_with (go_at_call 24; refine (impl_ClassOnly (rl n.arrs a) c Ai ci _ (by exact Kd.C_below hCi bel) hki).mono ?_; rintro e w1 ⟨hg1, hb1⟩; rw [HL.out] at hg1; obtain ⟨v1, rfl, HO1⟩ := hg1; obtain ⟨A1, d1, rfl, hk1, hC1⟩ := Kd.R_reads HO1; obtain ⟨hc1, hf1, hz1⟩ := bcell hb1; (try simp only [szs] at hz1); have hb2 := far2; obtain ⟨hc2, hf2, hz2⟩ := bcell hb2; (try simp only [szs] at hz2); try (first | obtain ⟨hy1, hy2, hy3, hy4⟩ := lts4 hz2 | obtain ⟨hy1, hy2, hy3⟩ := lts3 hz2 | obtain ⟨hy1, hy2⟩ := lts2 hz2 | have hy1 := lts1 hz2); have hb9 := hb1)
  go_loopw [8] (fun s wr => ∃ m : Nat, s = .slice A1 m d1 ∧ m ≤ L.length ∧ Hid (trimTo L m = trimTo L L.length) ∧ Hid (kF.C wr A1 L.length L) ∧ Below w.heap.size w wr) (fun s _ => lenOf s)
  case atStart => exact ⟨L.length, rfl, Nat.le_refl _, Lib.hid rfl, Lib.hid hC1, bel⟩
  case round =>
    repeat (first | clear hC1 | clear hc1 | clear hf1 | clear hz1 | clear hb1 | clear hb9 | clear hc2 | clear hf2 | clear hz2 | clear hb2 | clear hy1 | clear hy2 | clear hy3 | clear hy4)
    obtain ⟨m, rfl, hm, HT, HC, HB⟩ := hrel
    have hzr := bw_size HB
    rcases m with _ | k
    · have HX := Lib.hid (trimF_at HT.out rfl)
      have HW := Lib.hid (fun (W : World) (h : kF.C W A1 L.length L) => impl_WholePackets (L.take 0) A1 d1 W (Kd.C_take h hm) (by simp) (by simp))
      clear HT
      go_wp2_with (go_at_call 82; refine (HW.out _ (by exact Kd.C_below HC.out bel)).mono ?_; rintro e w1 ⟨hg1, hb1⟩; rw [HX.out] at hg1; obtain ⟨v1, rfl, HO1⟩ := hg1; obtain ⟨hc1, hf1, hz1⟩ := bcell hb1; (try simp only [szs] at hz1); have hb2 := far2; obtain ⟨hc2, hf2, hz2⟩ := bcell hb2; (try simp only [szs] at hz2); try (first | obtain ⟨hy1, hy2, hy3, hy4⟩ := lts4 hz2 | obtain ⟨hy1, hy2, hy3⟩ := lts3 hz2 | obtain ⟨hy1, hy2⟩ := lts2 hz2 | have hy1 := lts1 hz2); have hb9 := hb1)
      exact bodyPost_ret (v := .tuple #[v1, .bool (wholeB (trimF L))]) (by simp [results, Tryz.results55, go_sem]) rfl ⟨⟨v1, by rw [HE.out], by rw [HE.out]; exact Kd.R_lower (by exact Kd.R_below HO1 bel) (by first | omega | (simp only [szs]; omega))⟩, bel⟩
    · obtain ⟨b, off, rfl, hb, _, _, _, _, p4⟩ := rdFl_at HC.out k (by omega)
      have i2 : (0 : Int) < (k : Int) + 1 := by omega
      cases ht : (rf L k).tail
      · rw [ht] at p4
        have HV : Hid (trimTo L k = trimTo L L.length) := Lib.hid ((trimTo_on ht).symm.trans HT.out)
        clear ht HT
        have hcut : ∀ W : World, (Instr.slice 43 (.slice (some ⟨b, off, none⟩) (k + 1) d1) none (some (.int .i64 (k : Int))) none).run Tryz.prog W = .ok (.slice (some ⟨b, off, none⟩) k d1) W := fun W => cut_toF _ _ _ (k : Int) (by omega) (by omega) (by omega) W
        go_wp2
        go_roundw
        case rel => exact ⟨k, rfl, by omega, HV, Lib.hid (by exact Kd.C_below HC.out bel), bel⟩
        case measure => simp [lenOf]
      · rw [ht] at p4
        have HX := Lib.hid (trimF_at HT.out (trimTo_tail ht))
        have hlm : (L.take (k + 1)).length = k + 1 := by rw [List.length_take]; omega
        have HW : Hid (∀ W : World, kF.C W (some ⟨b, off, none⟩) L.length L → Calls Tryz.prog 82 #[.slice (some ⟨b, off, none⟩) (k + 1) d1] W fun e w' => GotWP W w' (L.take (k + 1)) e ∧ Below W.heap.size W w') := Lib.hid (fun W h => by
          have h2 := impl_WholePackets (L.take (k + 1)) (some ⟨b, off, none⟩) d1 W (Kd.C_take h hm) (by omega) (by omega)
          rw [hlm] at h2
          exact h2)
        clear HT ht hlm
        go_wp2_with (go_at_call 82; refine (HW.out _ (by exact Kd.C_below HC.out bel)).mono ?_; rintro e w1 ⟨hg1, hb1⟩; rw [HX.out] at hg1; obtain ⟨v1, rfl, HO1⟩ := hg1; obtain ⟨hc1, hf1, hz1⟩ := bcell hb1; (try simp only [szs] at hz1); have hb2 := far2; obtain ⟨hc2, hf2, hz2⟩ := bcell hb2; (try simp only [szs] at hz2); try (first | obtain ⟨hy1, hy2, hy3, hy4⟩ := lts4 hz2 | obtain ⟨hy1, hy2, hy3⟩ := lts3 hz2 | obtain ⟨hy1, hy2⟩ := lts2 hz2 | have hy1 := lts1 hz2); have hb9 := hb1)
        exact bodyPost_ret (v := .tuple #[v1, .bool (wholeB (trimF L))]) (by simp [results, Tryz.results55, go_sem]) rfl ⟨⟨v1, by rw [HE.out], by rw [HE.out]; exact Kd.R_lower (by exact Kd.R_below HO1 bel) (by first | omega | (simp only [szs]; omega))⟩, bel⟩
def arrIds (n : Net) (a c : Int) : List Int := if (netOk n && isNode n.mesh.g a && inside c 0 1) = true then wholeP (arrF n a c) else []
def arrB (n : Net) (a c : Int) : Bool := (netOk n && isNode n.mesh.g a && inside c 0 1) && wholeB (arrF n a c)
def GotArr (w w' : World) (n : Net) (a c : Int) (e : Ending) : Prop := ∃ v, e = .returned (.tuple #[v, .bool (arrB n a c)]) ∧ Kd.R (Kd.int .i64) 3 w' w.heap.size (fun _ => True) v (arrIds n a c)
theorem arr_no {n : Net} {a c : Int} (h : (netOk n && isNode n.mesh.g a && inside c 0 1) = false) : arrIds n a c = [] ∧ arrB n a c = false := by simp only [arrIds, arrB, h]; exact ⟨if_neg (by decide), rfl⟩
theorem arr_yes {n : Net} {a c : Int} (h : (netOk n && isNode n.mesh.g a && inside c 0 1) = true) : arrIds n a c = wholeP (arrF n a c) ∧ arrB n a c = wholeB (arrF n a c) := ⟨by rw [arrIds, if_pos h], by rw [arrB, h, Bool.true_and]⟩
set_option maxHeartbeats 4000000 in
set_option maxRecDepth 100000 in
theorem impl_ArrivedAt (n : Net) (q : NA) (a c : Int) (w : World) (hr : NetR 80 w n q) :
    Calls Tryz.prog 23 #[.agg (netCells n q), .int .i64 a, .int .i64 c] w fun e w' => GotArr w w' n a c e ∧ Below w.heap.size w w' := by
  have R := Lib.hid hr
  obtain ⟨a1, a2, a3, a4, a5, a6, a7, a8, c1, c2, c3, c4, c5, c6, c7, c8⟩ := q
  clear hr
  dsimp only [netCells]
  have X := fun (W : World) hb => Box.below (w1 := W) (Box.new w _ #[.int .i64 n.mesh.g.w, .int .i64 n.mesh.g.h, .slice a1 n.mesh.br.length c1, .slice a2 n.pa.length c2, .slice a3 n.pb.length c3, .slice a4 n.bufs.length c4, .slice a5 n.owners.length c5, .slice a6 n.turns.length c6, .slice a7 n.srcs.length c7, .slice a8 n.arrs.length c8, .int .i64 n.time] 35 rfl) hb
  have hin : inside (0 : Int) 0 4 = true := rfl
  cases hk : (netOk n && isNode n.mesh.g a)
  · have HE := Lib.hid (arr_no (n := n) (a := a) (c := c) (by rw [hk]; rfl))
    have HK : Hid ((netOk n && isNode n.mesh.g a) = false) := Lib.hid (by rw [hk]; try rfl)
    clear hk X
    go_enter Tryz.func23, Tryz.ntmps23
    go_wp2_with (first | (go_at_call 54; refine (impl_isPlace n _ a _ (R.out.below bel)).mono ?_; rintro e w1 ⟨he, hb1⟩; rw [HK.out] at he; subst he; obtain ⟨hc1, hf1, hz1⟩ := bcell hb1; (try simp only [szs] at hz1); have hb2 := far2; obtain ⟨hc2, hf2, hz2⟩ := bcell hb2; (try simp only [szs] at hz2); try (first | obtain ⟨hy1, hy2, hy3, hy4⟩ := lts4 hz2 | obtain ⟨hy1, hy2, hy3⟩ := lts3 hz2 | obtain ⟨hy1, hy2⟩ := lts2 hz2 | have hy1 := lts1 hz2); have hb9 := hb1))
    exact bodyPost_ret (v := .tuple #[.slice none 0 0, .bool false]) (by simp [results, Tryz.results23, go_sem]) rfl ⟨⟨_, by rw [HE.out.2], by rw [HE.out.1]; exact R_nil' _ _ w _⟩, bel⟩
  have HK : Hid ((netOk n && isNode n.mesh.g a) = true) := Lib.hid (by rw [hk]; try rfl)
  cases hi : inside c 0 1
  · have HE := Lib.hid (arr_no (n := n) (a := a) (c := c) (by rw [hi, Bool.and_false]))
    have HI := Lib.hid hi
    clear hk hi X
    go_enter Tryz.func23, Tryz.ntmps23
    go_wp2_with (first | (go_at_call 54; refine (impl_isPlace n _ a _ (R.out.below bel)).mono ?_; rintro e w1 ⟨he, hb1⟩; rw [HK.out] at he; subst he; obtain ⟨hc1, hf1, hz1⟩ := bcell hb1; (try simp only [szs] at hz1); have hb2 := far2; obtain ⟨hc2, hf2, hz2⟩ := bcell hb2; (try simp only [szs] at hz2); try (first | obtain ⟨hy1, hy2, hy3, hy4⟩ := lts4 hz2 | obtain ⟨hy1, hy2, hy3⟩ := lts3 hz2 | obtain ⟨hy1, hy2⟩ := lts2 hz2 | have hy1 := lts1 hz2); have hb9 := hb1) | (go_at_call 52; refine (impl_inside c 0 1 _).mono ?_; rintro e w' ⟨he, rfl⟩; rw [HI.out] at he; subst he))
    exact bodyPost_ret (v := .tuple #[.slice none 0 0, .bool false]) (by simp [results, Tryz.results23, go_sem]) rfl ⟨⟨_, by rw [HE.out.2], by rw [HE.out.1]; exact R_nil' _ _ w _⟩, bel⟩
  · have HE := Lib.hid (arr_yes (n := n) (a := a) (c := c) (by rw [hk, hi]; rfl))
    have HI := Lib.hid hi
    rw [Bool.and_eq_true] at hk
    have HK2 := Lib.hid hk
    clear hk hi
    go_enter Tryz.func23, Tryz.ntmps23
    go_wp2_with (first | (go_at_call 54; refine (impl_isPlace n _ a _ (R.out.below bel)).mono ?_; rintro e w1 ⟨he, hb1⟩; rw [HK.out] at he; subst he; obtain ⟨hc1, hf1, hz1⟩ := bcell hb1; (try simp only [szs] at hz1); have hb2 := far2; obtain ⟨hc2, hf2, hz2⟩ := bcell hb2; (try simp only [szs] at hz2); try (first | obtain ⟨hy1, hy2, hy3, hy4⟩ := lts4 hz2 | obtain ⟨hy1, hy2, hy3⟩ := lts3 hz2 | obtain ⟨hy1, hy2⟩ := lts2 hz2 | have hy1 := lts1 hz2); have hb9 := hb1) | (go_at_call 52; refine (impl_inside c 0 1 _).mono ?_; rintro e w' ⟨he, rfl⟩; rw [HI.out] at he; subst he) | (go_at_call 55; refine (impl_arrived n _ _ a c _ (R.out.below bel) (X _ bel) HK2.out.1 HK2.out.2).mono ?_; rintro e w1 ⟨hg1, hb1⟩; obtain ⟨v1, rfl, HO1⟩ := hg1; obtain ⟨hc1, hf1, hz1⟩ := bcell hb1; (try simp only [szs] at hz1); have hb2 := far2; obtain ⟨hc2, hf2, hz2⟩ := bcell hb2; (try simp only [szs] at hz2); try (first | obtain ⟨hy1, hy2, hy3, hy4⟩ := lts4 hz2 | obtain ⟨hy1, hy2, hy3⟩ := lts3 hz2 | obtain ⟨hy1, hy2⟩ := lts2 hz2 | have hy1 := lts1 hz2); have hb9 := hb1))
    exact bodyPost_ret (v := .tuple #[v1, .bool (wholeB (arrF n a c))]) (by simp [results, Tryz.results23, go_sem]) rfl ⟨⟨v1, by rw [HE.out.2], by rw [HE.out.1]; exact Kd.R_lower (by exact Kd.R_below HO1 bel) (by first | omega | (simp only [szs]; omega))⟩, bel⟩
end Go.Proofs.YtaihmgbflhbebaaGreat
namespace NoC
theorem run_prefix : ∀ (l r : List Flit) (s t : FS), runF s (l ++ r) = some t → ∃ s', runF s l = some s' := by
  intro l
  induction l with
  | nil => intro r s t _; exact ⟨s, rfl⟩
  | cons f l ih =>
    intro r s t h
    rw [List.cons_append] at h
    obtain ⟨h1, h2⟩ := run_cons h
    obtain ⟨s', h3⟩ := ih r _ _ h2
    exact ⟨s', by simp only [runF, h1]; exact h3⟩
def stA (l : List Flit) (k : Nat) : FS := if trimTo l k = k then none else some (fid (rf l (trimTo l k : Nat)))
theorem takeF_next (l : List Flit) {k : Nat} (h : k < l.length) : l.take (k + 1) = l.take k ++ [rf l k] := by
  rw [List.take_succ_eq_append_getElem h, rf_get l k h]
theorem stream_at {l : List Flit} {s0 : FS} (h : runF none l = some s0) : ∀ k : Nat, k ≤ l.length → runF none (l.take k) = some (stA l k) ∧ ∀ j : Nat, j < k → (rf l j).head = decide (trimTo l j = j) ∧ fid (rf l j) = fid (rf l (trimTo l j : Nat)) := by
  intro k
  induction k with
  | zero => intro _; exact ⟨by simp [stA, trimTo, runF], fun j hj => by omega⟩
  | succ k ih =>
    intro hk
    obtain ⟨h1, h2⟩ := ih (by omega)
    have hpre : ∃ s', runF none (l.take (k + 1)) = some s' := by
      rw [← List.take_append_drop (k + 1) l] at h
      exact run_prefix _ _ _ _ h
    obtain ⟨s', h3⟩ := hpre
    have h4 := h3
    rw [takeF_next l (by omega), run_snoc _ _ _ _ h1] at h4
    have e := nx_aft h4
    subst e
    have hle := trimTo_le l k
    have hf : (rf l k).head = decide (trimTo l k = k) ∧ fid (rf l k) = fid (rf l (trimTo l k : Nat)) := by
      unfold stA at h4
      by_cases et : trimTo l k = k
      · rw [if_pos et] at h4
        refine ⟨?_, by rw [et]⟩
        cases hh : (rf l k).head
        · have := nx_body h4 hh
          cases this
        · simp [et]
      · rw [if_neg et] at h4
        cases hh : (rf l k).head
        · have := nx_body h4 hh
          exact ⟨by simp [et], (Option.some.inj this).symm⟩
        · have := nx_head h4 hh
          cases this
    refine ⟨?_, fun j hj => ?_⟩
    · rw [h3]
      unfold aft stA
      rw [trimTo]
      cases ht : (rf l k).tail
      · simp only [Bool.false_eq_true, if_false]
        rw [if_neg (by omega), hf.2]
      · simp
    · rcases Nat.lt_or_ge j k with h5 | h5
      · exact h2 j h5
      · obtain rfl : j = k := by omega
        exact hf
theorem trim_mid {l : List Flit} : ∀ (k j : Nat), trimTo l k ≤ j → j ≤ k → trimTo l j = trimTo l k ∧ (j < k → (rf l j).tail = false) := by
  intro k
  induction k with
  | zero => intro j h1 h2; obtain rfl : j = 0 := (by omega); exact ⟨rfl, fun h => absurd h (by omega)⟩
  | succ k ih =>
    intro j h1 h2
    rw [trimTo] at h1 ⊢
    cases ht : (rf l k).tail
    · rw [ht] at h1
      simp only [Bool.false_eq_true, if_false] at h1 ⊢
      rcases Nat.lt_or_ge j (k + 1) with h3 | h3
      · obtain ⟨i1, i2⟩ := ih j h1 (by omega)
        refine ⟨i1, fun _ => ?_⟩
        rcases Nat.lt_or_ge j k with h4 | h4
        · exact i2 h4
        · obtain rfl : j = k := by omega
          exact ht
      · obtain rfl : j = k + 1 := by omega
        refine ⟨?_, fun h => by omega⟩
        rw [trimTo, ht]; simp
    · rw [ht] at h1
      simp only [if_true] at h1 ⊢
      obtain rfl : j = k + 1 := by omega
      refine ⟨?_, fun h => by omega⟩
      rw [trimTo, ht]; simp
def tailsTo (l : List Flit) : Nat → Nat
  | 0 => 0
  | k + 1 => tailsTo l k + (if (rf l k).tail = true then 1 else 0)
theorem wp_stream {l : List Flit} {s0 : FS} (h : runF none l = some s0) : ∀ k : Nat, k ≤ l.length → (wpAt l k).2 = trimTo l k ∧ (wpAt l k).1.length = tailsTo l k := by
 intro k
 induction k with
 | zero => intro _; exact ⟨rfl, rfl⟩
 | succ k ih =>
  intro hk
  obtain ⟨i1, i2⟩ := ih (by omega)
  have hS := (stream_at h l.length (Nat.le_refl _)).2
  have hle := trimTo_le l k
  obtain ⟨t, et⟩ : ∃ t, trimTo l k = t := ⟨_, rfl⟩
  rw [et] at i1 hle
  have hw : wpAt l k = ((wpAt l k).1, t) := by rw [← i1]
  have hlen : ((l.take (k + 1)).drop t).length = k + 1 - t := by rw [List.length_drop, List.length_take]; omega
  cases ht : (rf l k).tail
  ·have hno : wholeF ((l.take (k + 1)).drop t) = false := by
    refine wholeF_miss (k := k - t) (by omega) ?_
    unfold isW
    rw [rf_mid (by omega) (by omega), show t + (k - t) = k by omega, ht]
    have : k - t + 1 = ((l.take (k + 1)).drop t).length := by omega
    simp [this]
   rw [wpAt_no hw hno, trimTo, tailsTo, ht, et]
   simp [i2]
  ·have hyes : wholeF ((l.take (k + 1)).drop t) = true := by
    refine wholeF_all (by omega) ?_
    have : ∀ j : Nat, j ≤ k + 1 - t → wholeTo ((l.take (k + 1)).drop t) j = true := by
     intro j
     induction j with
     | zero => intro _; rfl
     | succ j ihj =>
      intro hj
      simp only [wholeTo, Bool.and_eq_true]
      refine ⟨ihj (by omega), ?_⟩
      obtain ⟨m1, m2⟩ := trim_mid (l := l) k (t + j) (by omega) (by omega)
      obtain ⟨f1, f2⟩ := hS (t + j) (by omega)
      rw [m1, et] at f1 f2
      have e0 : rf ((l.take (k + 1)).drop t) (0 : Int) = rf l (t : Int) := by
       have := rf_mid (l := l) (f := t) (k := k + 1) (j := 0) (by omega) (by omega)
       simpa using this
      unfold isW
      rw [rf_mid (by omega) (by omega), e0, f1, hlen]
      unfold fid at f2
      simp only [Prod.mk.injEq] at f2
      have h5 : ((t = t + j) ↔ (j = 0)) := by omega
      have h6 : (rf l ((t + j : Nat) : Int)).tail = decide (j + 1 = k + 1 - t) := by
       rcases Nat.lt_or_ge (t + j) k with h7 | h7
       ·rw [m2 h7]; symm; simp; omega
       ·rw [show t + j = k by omega, ht]; symm; simp; omega
      rw [h6]
      rw [f2.1, f2.2.1, f2.2.2]
      simp [h5]
    rw [hlen]
    exact this _ (Nat.le_refl _)
   rw [wpAt_yes hw hyes, trimTo, tailsTo, ht]
   simp [i2]
theorem tails_trim (l : List Flit) : ∀ k : Nat, tailsTo l (trimTo l k) = tailsTo l k := by
  intro k
  induction k with
  | zero => rfl
  | succ k ih =>
    rw [trimTo]
    cases ht : (rf l k).tail
    · simp [ih, tailsTo, ht]
    · simp
theorem take_tails {l : List Flit} {k : Nat} : ∀ j : Nat, j ≤ k → tailsTo (l.take k) j = tailsTo l j ∧ trimTo (l.take k) j = trimTo l j := by
  intro j
  induction j with
  | zero => intro _; exact ⟨rfl, rfl⟩
  | succ j ih =>
    intro hj
    obtain ⟨i1, i2⟩ := ih (by omega)
    have e : rf (l.take k) (j : Int) = rf l (j : Int) := by
      unfold rf
      simp only [Int.toNat_natCast, List.getD_eq_getElem?_getD, List.getElem?_take]
      rw [if_pos (by omega)]
    exact ⟨by rw [tailsTo, tailsTo, i1, e], by rw [trimTo, trimTo, i2, e]⟩
theorem trim_idem (l : List Flit) : ∀ k : Nat, trimTo l (trimTo l k) = trimTo l k := by
  intro k
  induction k with
  | zero => rfl
  | succ k ih =>
    cases ht : (rf l k).tail
    · have e : trimTo l (k + 1) = trimTo l k := by rw [trimTo, ht]; simp
      rw [e]; exact ih
    · have e : trimTo l (k + 1) = k + 1 := by rw [trimTo, ht]; simp
      rw [e, e]
theorem whole_stream {l : List Flit} {s0 : FS} (h : runF none l = some s0) : wholeB (trimF l) = true ∧ (wholeP (trimF l)).length = tailsTo l l.length := by
  have hle := trimTo_le l l.length
  have hl : (trimF l).length = trimTo l l.length := by unfold trimF; rw [List.length_take]; omega
  have hr : runF none (trimF l) = some (stA l (trimTo l l.length)) := (stream_at h _ hle).1
  obtain ⟨w1, w2⟩ := wp_stream hr (trimF l).length (Nat.le_refl _)
  have e1 : trimTo (trimF l) (trimF l).length = (trimF l).length := by
    rw [hl]
    unfold trimF
    rw [(take_tails (l := l) (k := trimTo l l.length) _ (Nat.le_refl _)).2, trim_idem]
  rw [e1] at w1
  have hn : ¬ (wpAt (trimF l) (trimF l).length).2 < (trimF l).length := by omega
  obtain ⟨a, b⟩ := wholeP_yes (l := trimF l) (ids := (wpAt (trimF l) (trimF l).length).1) (f := (wpAt (trimF l) (trimF l).length).2) rfl hn
  refine ⟨b, ?_⟩
  rw [a, w2, hl]
  unfold trimF
  rw [(take_tails (l := l) (k := trimTo l l.length) _ (Nat.le_refl _)).1, tails_trim]
end NoC
namespace Go.Proofs.YtaihmgbflhbebaaGreat
open Go.ChangeShapes Go.WideShapes Go.ChangeAt Go.RowKit Go.Proofs.YtaihmgbflhbebaaGreatW.PrintWords
open NoC
section
variable {H : Type} {enc : TypeId × Value → H} {W : World} {base : Nat} {spare : Nat → Bool} {held : Bool} {fuel : Nat} {cs : List Value} {x : DataW H × List MemPlace}
def Light (t : TypeId) (d : DataW H) : Prop := ∀ n ∈ d.weights Tryz.prog t, n ≤ reachBytes
theorem light_arg {ts : List TypeId} {ds : List (DataW H)} (h : (DataW.weightsEach Tryz.prog ts ds).all (· ≤ reachBytes) = true) {j : Nat} {t : TypeId} {d : DataW H} (ht : ts[j]? = some t) (hd : ds[j]? = some d) : Light t d :=
  fun n hn => by simpa using List.all_eq_true.1 h n (DataW.weights_mem_each ht hd n hn)
end
section
variable {H : Type} {enc : TypeId × Value → H} {W : World} {base : Nat} {spare : Nat → Bool} {held : Bool} {fuel : Nat} {cs : List Value} {x : DataW H × List MemPlace}
end
section
variable {H : Type} {enc : TypeId × Value → H} {W : World} {base : Nat} {spare : Nat → Bool} {held : Bool} {fuel : Nat} {cs : List Value} {x : DataW H × List MemPlace}
theorem op_bytes (h : DataW.trod enc Tryz.prog W base spare held fuel 22 cs = some x) (hl : Light 22 x.1) :
    ∃ A c N, cs = [.slice A N c] ∧ Byt W A N := by
  rcases open_ints Tryz.underlying22 Tryz.underlying5 (by kernel_rfl) h with ⟨rfl, _⟩ | ⟨a, len, cap, zs, rfl, _, hle, hm, hz, hx, hc, _⟩
  · exact ⟨none, 0, 0, rfl, by decide, fun n h => absurd h (Nat.not_lt_zero _)⟩
  · have hlen : len ≤ zs.length := by rw [hz]; split <;> omega
    have e : (zs.take len).length = len := by rw [List.length_take, Nat.min_eq_left hlen]
    have hb : len * 1 ≤ 140737488351232 := by
      subst hx
      have z := hl _ (by unfold DataW.weights; rw [show Tryz.prog.underlying 22 = _ from Tryz.underlying22]; exact List.mem_cons_self)
      rw [show Tryz.prog.bytesOf 5 = 1 by kernel_rfl] at z
      have hr : reachBytes = 140737488351232 := by decide
      have h1 : (lits (H := H) .u8 (zs.take len)).length = len := by simp [lits, hlen]
      rw [h1] at z
      omega
    have hC : Kd.C (Kd.int .u8) W (some a) (zs.take len).length (zs.take len) := by
      refine ⟨rfl, by rw [e]; omega, fun _ => ⟨a, rfl, ?_⟩⟩
      intro j p hj
      refine ⟨[.int .u8 p], rfl, rfl, ?_⟩
      intro i u hi
      obtain ⟨rfl, rfl⟩ : i = 0 ∧ u = .int .u8 p := by
        cases i with
        | zero => simp at hi; exact ⟨rfl, hi.symm⟩
        | succ i => simp at hi
      have hj2 := List.getElem?_eq_some_iff.1 hj
      obtain ⟨hj3, hj4⟩ := hj2
      have hj5 : j < zs.length := by omega
      have := hc j hj5
      rw [show j * (Kd.int .u8).sz + 0 = j by show j * 1 + 0 = j; omega, this]
      rw [List.getElem_take] at hj4
      simp [hj5, hj4]
    refine ⟨some a, cap, len, rfl, by omega, fun n hn => ?_⟩
    obtain ⟨B, off, ha, hB, hcell⟩ := rdU_at hC n (by omega)
    exact ⟨B, off, _, ha, hB, hcell n (by omega)⟩
end
end Go.Proofs.YtaihmgbflhbebaaGreat
