/- Lemmas for laws of this seat, for all inputs: DrT DrU DrV Load FlOk Cp CpL. -/
import Derived.Test.YtaihmgbflhbebaaQ1
import Derived.Test.YtaihmgbflhbebaaQ5
import Derived.Test.YtaihmgbflhbebaaQ6
import Derived.Test.YtaihmgbflhbebaaQ3
set_option linter.unusedVariables false
set_option linter.unusedSimpArgs false
namespace Go.Proofs.Ytaihmgbflhbebaa
open Go.RowKit Go.Proofs.YtaihmgbflhbebaaW.PrintWords
open NoC
theorem spec_l05Column (x t : Int) (w : World) : Calls Try.prog 61 #[.int .i64 x, .int .i64 t] w fun e w' => e = .returned (.int .i64 (stdCol x t)) ∧ w' = w := by
  by_cases h : t < x
  · go_enter Try.func61, Try.ntmps61
    go_wp2
    go_ret
    exact ⟨ret_int (by unfold stdCol; rw [if_pos h]), rfl⟩
  · go_enter Try.func61, Try.ntmps61
    go_wp2
    go_ret
    exact ⟨ret_int (by unfold stdCol; rw [if_neg (by omega)]), rfl⟩
theorem spec_l05Row (x t : Int) (w : World) : Calls Try.prog 62 #[.int .i64 x, .int .i64 t] w fun e w' => e = .returned (.int .i64 (stdRow x t)) ∧ w' = w := by
  by_cases h : t < x
  · go_enter Try.func62, Try.ntmps62
    go_wp2
    go_ret
    exact ⟨ret_int (by unfold stdRow; rw [if_pos h]), rfl⟩
  · go_enter Try.func62, Try.ntmps62
    go_wp2
    go_ret
    exact ⟨ret_int (by unfold stdRow; rw [if_neg (by omega)]), rfl⟩
theorem std_yes {g : Grid} {r a b : Int} (h : ¬ a = b) (hf : stdFirst g (stdRule r b) a b = true) : stdPort g r a b = stdCol (a % g.w) (b % g.w) := by unfold stdPort; rw [if_neg h, if_pos hf]
theorem std_no {g : Grid} {r a b : Int} (h : ¬ a = b) (hf : stdFirst g (stdRule r b) a b = false) : stdPort g r a b = stdRow (a / g.w) (b / g.w) := by unfold stdPort; rw [if_neg h, if_neg (by simp [hf])]
set_option maxHeartbeats 4000000 in
theorem spec_l05Port (g : Grid) (r a b : Int) (w : World) (g1 : 1 ≤ g.w) (g4 : g.w ≤ 4) (a0 : 0 ≤ a) (a1 : a ≤ 15) (b0 : 0 ≤ b) (b1 : b ≤ 15) (r1 : 1 ≤ r) (r4 : r ≤ 4) :
  Calls Try.prog 41 #[.agg #[.int .i64 g.w, .int .i64 g.h], .int .i64 r, .int .i64 a, .int .i64 b] w fun e w' => e = .returned (.int .i64 (stdPort g r a b)) ∧ Below w.heap.size w w' := by
 have hx : a.tmod g.w = a % g.w := Int.tmod_eq_emod_of_nonneg a0
 have hu : b.tmod g.w = b % g.w := Int.tmod_eq_emod_of_nonneg b0
 have hy : a.tdiv g.w = a / g.w := Int.tdiv_eq_ediv_of_nonneg a0
 have hv : b.tdiv g.w = b / g.w := Int.tdiv_eq_ediv_of_nonneg b0
 have HQ : Hid (∀ x : Int, 0 ≤ x → x ≤ 15 → 0 ≤ x % g.w ∧ x % g.w ≤ 15 ∧ 0 ≤ x / g.w ∧ x / g.w ≤ 15) := Lib.hid (fun x h0 h1 => by
  have e1 := Int.emod_nonneg x (show g.w ≠ 0 by omega)
  have e2 := Int.emod_lt_of_pos x (show 0 < g.w by omega)
  have e3 := Int.ediv_nonneg h0 (show 0 ≤ g.w by omega)
  have e4 := Int.ediv_le_self g.w h0
  omega)
 obtain ⟨q1, q2, q3, q4⟩ := HQ.out a a0 a1
 obtain ⟨s1, s2, s3, s4⟩ := HQ.out b b0 b1
 have gne : ¬ g.w = 0 := by omega
 obtain ⟨x, ex⟩ : ∃ x, a % g.w = x := ⟨_, rfl⟩
 obtain ⟨y, ey⟩ : ∃ x, a / g.w = x := ⟨_, rfl⟩
 obtain ⟨u, eu⟩ : ∃ x, b % g.w = x := ⟨_, rfl⟩
 obtain ⟨v, ev⟩ : ∃ x, b / g.w = x := ⟨_, rfl⟩
 have EX := Lib.hid ex; have EY := Lib.hid ey; have EU := Lib.hid eu; have EV := Lib.hid ev
 by_cases hab : a = b
 ·have HE : Hid (stdPort g r a b = 4) := Lib.hid (by unfold stdPort; rw [if_pos hab])
  subst hab
  go_enter Try.func41, Try.ntmps41
  go_wp2
  go_ret
  exact ⟨ret_int HE.out.symm, bel⟩
 have HAB := Lib.hid hab
 have fab : (a == b) = false := beq_eq_false_iff_ne.2 hab
 have HY : Hid (stdFirst g (stdRule r b) a b = true → stdPort g r a b = stdCol x u) := Lib.hid (fun h => by rw [std_yes hab h, ex, eu])
 have HN : Hid (stdFirst g (stdRule r b) a b = false → stdPort g r a b = stdRow y v) := Lib.hid (fun h => by rw [std_no hab h, ey, ev])
 have HF : Hid (∀ k, stdRule r b = k → stdFirst g (stdRule r b) a b = if k = 2 then decide (y = v) else if k = 3 then decide (u < x) || decide (y = v) else !decide (x = u)) := Lib.hid (fun k hk => by
  rw [hk]
  unfold stdFirst
  rw [ex, ey, eu, ev])
 rw [ex] at hx
 rw [eu] at hu
 rw [ey] at hy
 rw [ev] at hv
 clear hab
 rcases (by omega : r = 1 ∨ r = 2 ∨ r = 3 ∨ r = 4) with rfl | rfl | rfl | rfl
 ·by_cases hxu : x = u
  ·have fxu : (x != u) = false := by simp [hxu]
   have HH := Lib.hid hxu
   clear hxu
   have HE : Hid (stdPort g 1 a b = stdRow y v) := Lib.hid (HN.out (by rw [HF.out 1 (by rfl)]; simp [HH.out]))
   go_enter Try.func41, Try.ntmps41
   go_wp2_with (go_at_call 62; refine (spec_l05Row _ _ _).mono ?_; rintro e w' ⟨rfl, rfl⟩)
   go_ret
   exact ⟨ret_int HE.out.symm, bel⟩
  ·have fxu : (x != u) = true := by simp [hxu]
   have HH := Lib.hid hxu
   clear hxu
   have HE : Hid (stdPort g 1 a b = stdCol x u) := Lib.hid (HY.out (by rw [HF.out 1 (by rfl)]; simp [HH.out]))
   go_enter Try.func41, Try.ntmps41
   go_wp2_with (go_at_call 61; refine (spec_l05Column _ _ _).mono ?_; rintro e w' ⟨rfl, rfl⟩)
   go_ret
   exact ⟨ret_int HE.out.symm, bel⟩
 ·obtain ⟨fx, hfx⟩ : ∃ z, (x != u) = z := ⟨_, rfl⟩
  by_cases hyv : y = v
  ·have fyv : (y == v) = true := by simp [hyv]
   have HH := Lib.hid hyv
   clear hyv
   have HE : Hid (stdPort g 2 a b = stdCol x u) := Lib.hid (HY.out (by rw [HF.out 2 (by rfl)]; simp [HH.out]))
   go_enter Try.func41, Try.ntmps41
   go_wp2_with (go_at_call 61; refine (spec_l05Column _ _ _).mono ?_; rintro e w' ⟨rfl, rfl⟩)
   go_ret
   exact ⟨ret_int HE.out.symm, bel⟩
  ·have fyv : (y == v) = false := by simp [hyv]
   have HH := Lib.hid hyv
   clear hyv
   have HE : Hid (stdPort g 2 a b = stdRow y v) := Lib.hid (HN.out (by rw [HF.out 2 (by rfl)]; simp [HH.out]))
   go_enter Try.func41, Try.ntmps41
   go_wp2_with (go_at_call 62; refine (spec_l05Row _ _ _).mono ?_; rintro e w' ⟨rfl, rfl⟩)
   go_ret
   exact ⟨ret_int HE.out.symm, bel⟩
 ·obtain ⟨fx, hfx⟩ : ∃ z, (x != u) = z := ⟨_, rfl⟩
  by_cases hlt : u < x
  ·have HH := Lib.hid hlt
   have HE : Hid (stdPort g 3 a b = stdCol x u) := Lib.hid (HY.out (by rw [HF.out 3 (by rfl)]; simp [HH.out]))
   go_enter Try.func41, Try.ntmps41
   go_wp2_with (go_at_call 61; refine (spec_l05Column _ _ _).mono ?_; rintro e w' ⟨rfl, rfl⟩)
   go_ret
   exact ⟨ret_int HE.out.symm, bel⟩
  ·have HL := Lib.hid hlt
   by_cases hyv : y = v
   ·have fyv : (y == v) = true := by simp [hyv]
    have HH := Lib.hid hyv
    clear hyv
    have HE : Hid (stdPort g 3 a b = stdCol x u) := Lib.hid (HY.out (by rw [HF.out 3 (by rfl)]; simp [HH.out]))
    go_enter Try.func41, Try.ntmps41
    go_wp2_with (go_at_call 61; refine (spec_l05Column _ _ _).mono ?_; rintro e w' ⟨rfl, rfl⟩)
    go_ret
    exact ⟨ret_int HE.out.symm, bel⟩
   ·have fyv : (y == v) = false := by simp [hyv]
    have HH := Lib.hid hyv
    clear hyv
    have HE : Hid (stdPort g 3 a b = stdRow y v) := Lib.hid (HN.out (by rw [HF.out 3 (by rfl)]; simp [HH.out]; exact Int.not_lt.1 HL.out))
    go_enter Try.func41, Try.ntmps41
    go_wp2_with (go_at_call 62; refine (spec_l05Row _ _ _).mono ?_; rintro e w' ⟨rfl, rfl⟩)
    go_ret
    exact ⟨ret_int HE.out.symm, bel⟩
 ·rcases (by omega : b % 2 = 0 ∨ b % 2 = 1) with hb2 | hb2
  ·have HP := Lib.hid hb2
   by_cases hxu : x = u
   ·have fxu : (x != u) = false := by simp [hxu]
    have HH := Lib.hid hxu
    clear hxu
    have HE : Hid (stdPort g 4 a b = stdRow y v) := Lib.hid (HN.out (by rw [HF.out 1 (by unfold stdRule; rw [if_pos rfl, HP.out]; rfl)]; simp [HH.out]))
    go_enter Try.func41, Try.ntmps41
    go_wp2_with (go_at_call 62; refine (spec_l05Row _ _ _).mono ?_; rintro e w' ⟨rfl, rfl⟩)
    go_ret
    exact ⟨ret_int HE.out.symm, bel⟩
   ·have fxu : (x != u) = true := by simp [hxu]
    have HH := Lib.hid hxu
    clear hxu
    have HE : Hid (stdPort g 4 a b = stdCol x u) := Lib.hid (HY.out (by rw [HF.out 1 (by unfold stdRule; rw [if_pos rfl, HP.out]; rfl)]; simp [HH.out]))
    go_enter Try.func41, Try.ntmps41
    go_wp2_with (go_at_call 61; refine (spec_l05Column _ _ _).mono ?_; rintro e w' ⟨rfl, rfl⟩)
    go_ret
    exact ⟨ret_int HE.out.symm, bel⟩
  ·have HP := Lib.hid hb2
   obtain ⟨fx, hfx⟩ : ∃ z, (x != u) = z := ⟨_, rfl⟩
   by_cases hyv : y = v
   ·have fyv : (y == v) = true := by simp [hyv]
    have HH := Lib.hid hyv
    clear hyv
    have HE : Hid (stdPort g 4 a b = stdCol x u) := Lib.hid (HY.out (by rw [HF.out 2 (by unfold stdRule; rw [if_pos rfl, HP.out]; rfl)]; simp [HH.out]))
    go_enter Try.func41, Try.ntmps41
    go_wp2_with (go_at_call 61; refine (spec_l05Column _ _ _).mono ?_; rintro e w' ⟨rfl, rfl⟩)
    go_ret
    exact ⟨ret_int HE.out.symm, bel⟩
   ·have fyv : (y == v) = false := by simp [hyv]
    have HH := Lib.hid hyv
    clear hyv
    have HE : Hid (stdPort g 4 a b = stdRow y v) := Lib.hid (HN.out (by rw [HF.out 2 (by unfold stdRule; rw [if_pos rfl, HP.out]; rfl)]; simp [HH.out]))
    go_enter Try.func41, Try.ntmps41
    go_wp2_with (go_at_call 62; refine (spec_l05Row _ _ _).mono ?_; rintro e w' ⟨rfl, rfl⟩)
    go_ret
    exact ⟨ret_int HE.out.symm, bel⟩
section
variable {ops : Array Oper} {o : Oper} {a : Act} {Kc : Act → World → Prop} {Q' : Exit → Act → World → Prop}
theorem app_intS {B : Nat} {W : World} (hw : Region.wanted o (yielded ops a.tmps) = true) (s x : Operand)
    (ho : o.op = .call { callee := .builtin .append, args := #[s, x], argTypes := #[26, 26] })
    (v : Value) (xs : List Int) (y : Int) (hs : a.eval s = v) (hx : a.eval x = .slice (some ⟨W.heap.size, 0, none⟩) 1 1)
    (HO : Kd.R (Kd.int .i64) 3 W B (fun _ => True) v xs) (hB : B ≤ W.heap.size) (hl : xs.length ≤ 100000000)
    (h : ∀ v1 w1, Kd.R (Kd.int .i64) 3 w1 B (fun _ => True) v1 (xs ++ [y]) → W.grownBy w1 v.ownBlock → Kc (a.put o.dst v1) w1) :
    if Region.wanted o (yielded ops a.tmps) = true then Oper.wp Try.prog o a (W.alloc (.cells #[.int .i64 y] 3)) Kc Q' else Kc (a.put o.dst undef) (W.alloc (.cells #[.int .i64 y] 3)) :=
  Kd.R_append_step (P := Try.prog) (Kd.int .i64) (w0 := W) B hw s x 26 3 (.int .i64 0) 8 ho Try.underlying26 info_int rfl (by decide) (by omega) v xs y [.int .i64 y] (fun _ => True) (fun _ => False) hs hx rfl (fun _ h => h.elim) (fun _ _ => trivial) HO (Below.refl _ _) hB (by omega) (fun v1 w1 h1 _ h3 _ => h v1 w1 h1 h3)
end
theorem makeTo_len (g : Grid) (r : Int) (k : Nat) : (makeTo g r k).length = k := by simp [makeTo]
theorem makeTo_succ (g : Grid) (r : Int) (k : Nat) : makeTo g r (k + 1) = makeTo g r k ++ [stdPort g r ((k / (nodeCount g).toNat : Nat) : Int) ((k % (nodeCount g).toNat : Nat) : Int)] := by simp [makeTo, List.range_succ]
theorem low_set {B b : Nat} {w0 W : World} (h : Below B w0 W) (hb : B ≤ b) (j : Nat) (u : Value) : Below B w0 (W.setCell ⟨b, j, none⟩ u) :=
  ⟨h.os, h.tape, h.output, by have := h.size; simp only [World.size_setCell]; exact this, fun i hi => (Below.heap_setCell W ⟨b, j, none⟩ u i (fun e => by
    have e2 : i = b := e
    omega)).trans (h.block i hi)⟩
theorem low_then' {B C : Nat} {w0 w1 W : World} (h : Below B w0 w1) (k : Below C w1 W) (hc : B ≤ C) : Below B w0 W := ⟨k.os.trans h.os, k.tape.trans h.tape, k.output.trans h.output, Nat.le_trans h.size k.size, fun i hi => (k.block i (by omega)).trans (h.block i hi)⟩
theorem box_low' {B : Nat} {w w1 : World} {b : Nat} {cs : Array Value} (h : Box w b cs) (hb : Below B w w1) (hB : b < B) : Box w1 b cs := ⟨Nat.lt_of_lt_of_le h.lt hb.size, fun o => by
  rw [← h.get o]
  unfold World.cell?
  rw [hb.block b hB]⟩
theorem low_then {B : Nat} {w0 W W1 : World} (h : Below B w0 W) (k : Below W.heap.size W W1) (hB : B ≤ w0.heap.size) : Below B w0 W1 := ⟨k.os.trans h.os, k.tape.trans h.tape, k.output.trans h.output, Nat.le_trans h.size k.size, fun i hi => (k.block i (Nat.lt_of_lt_of_le hi (Nat.le_trans hB h.size))).trans (h.block i hi)⟩
set_option maxHeartbeats 8000000 in
set_option maxRecDepth 100000 in
theorem spec_l05Make (g : Grid) (r : Int) (w : World) (g1 : 1 ≤ g.w) (g2 : g.w ≤ 4) (g3 : 1 ≤ g.h) (g4 : g.h ≤ 4) (r1 : 1 ≤ r) (r4 : r ≤ 4) :
    Calls Try.prog 21 #[.agg #[.int .i64 g.w, .int .i64 g.h], .int .i64 r] w fun e w' => GotTab w w' (makeT g r) e ∧ Below w.heap.size w w' := by
  have hc16 := count_le g
  obtain ⟨K, hK⟩ : ∃ K : Nat, nodeCount g = (K : Int) := ⟨(nodeCount g).toNat, by omega⟩
  have K16 : K ≤ 16 := by omega
  have K1 : 1 ≤ K := by
    have : nodeCount g = g.w * g.h := by unfold nodeCount gridOk inside; simp [g1, g2, g3, g4]
    have := Int.mul_le_mul g1 g3 (by omega) (by omega)
    omega
  have HK := Lib.hid hK
  have HKN : Hid ((nodeCount g).toNat = K) := Lib.hid (by omega)
  have HKK : Hid (K * K ≤ 256) := Lib.hid (Nat.mul_le_mul K16 K16)
  obtain ⟨KK, hKK⟩ : ∃ z, z = K * K := ⟨_, rfl⟩
  have HKE := Lib.hid hKK
  have hKK2 : KK ≤ 256 := by rw [hKK]; exact HKK.out
  have hwK : IntKind.i64.wrap ((K : Int) * (K : Int)) = (KK : Int) := by
    rw [IntWalk.i64_in _ (by have : ((K : Int) * (K : Int)) = ((K * K : Nat) : Int) := by push_cast; rfl
                             omega), hKK]
    push_cast
    rfl
  have hwK2 : (K : Int) * (K : Int) = (KK : Int) := by rw [hKK]; push_cast; rfl
  have HE : Hid (makeT g r = makeTo g r KK) := Lib.hid (by unfold makeT; rw [HKN.out, hKK])
  clear hc16 hK hKK
  rw [HE.out]
  obtain ⟨wa, ewa⟩ : ∃ z, z = ((w.alloc (.cells #[.int .i64 g.w, .int .i64 g.h] 25)).alloc (.cells #[.slice none 0 0] 30)).alloc (.cells #[.slice none 0 0] 30) := ⟨_, rfl⟩
  have hwa : Below w.heap.size w wa := by rw [ewa]; exact bw_alloc _ (bw_alloc _ (bw_alloc _ (bw_refl w)))
  have zwa : wa.heap.size = w.heap.size + 3 := by rw [ewa]; simp only [szs]
  have HG : Hid (Box wa w.heap.size #[.int .i64 g.w, .int .i64 g.h]) := Lib.hid (by rw [ewa]; exact ((Box.new w w.heap.size _ 25 rfl).alloc _).alloc _)
  have HR1 : Hid (wa.heap[w.heap.size + 1]? = some (.cells #[.slice none 0 0] 30 (0, 0))) := Lib.hid (by
    rw [ewa]
    have h := blk_alloc (blk_new (w.alloc (.cells #[.int .i64 g.w, .int .i64 g.h] 25)) (.cells #[.slice none 0 0] 30)) (.cells #[.slice none 0 0] 30)
    simp only [szs] at h
    exact h)
  have HT1 : Hid (wa.heap[w.heap.size + 2]? = some (.cells #[.slice none 0 0] 30 (0, 0))) := Lib.hid (by
    rw [ewa]
    have h := blk_new ((w.alloc (.cells #[.int .i64 g.w, .int .i64 g.h] 25)).alloc (.cells #[.slice none 0 0] 30)) (.cells #[.slice none 0 0] 30)
    simp only [szs] at h
    exact h)
  have x0 : (((w.alloc (.cells #[.int .i64 g.w, .int .i64 g.h] 25)).alloc (.cells #[.slice none 0 0] 30)).alloc (.cells #[.slice none 0 0] 30)).cell? ⟨w.heap.size, 0, none⟩ = some (.int .i64 g.w) := by rw [← ewa]; exact HG.out.get 0
  have x1 : (((w.alloc (.cells #[.int .i64 g.w, .int .i64 g.h] 25)).alloc (.cells #[.slice none 0 0] 30)).alloc (.cells #[.slice none 0 0] 30)).cell? ⟨w.heap.size, 1, none⟩ = some (.int .i64 g.h) := by rw [← ewa]; exact HG.out.get 1
  go_enter Try.func21, Try.ntmps21
  go_wp2_with fail
  rw [← ewa]
  clear x0 x1 ewa
  refine (spec_NodeCount g _).mono ?_
  rintro e w2 ⟨rfl, hb2⟩
  rw [HK.out]
  have HB2 := Lib.hid (bw_then hwa hb2)
  have HG2 := Lib.hid (HG.out.below hb2)
  have HR2 := Lib.hid (blk_below HR1.out hb2)
  have HT2 := Lib.hid (blk_below HT1.out hb2)
  have z2 := bw_size hb2
  clear hb2 hwa HG HR1 HT1
  go_wp2
  go_loopw [7] (fun i wr => ∃ (k : Nat) (A : Option Addr) (c : Nat), i = .int .i64 k ∧ k ≤ KK ∧ Hid (Kd.R (Kd.int .i64) 3 wr (w.heap.size + 3) (fun _ => True) (.slice A k c) (makeTo g r k)) ∧ Hid (wr.heap[w.heap.size + 2]? = some (.cells #[.slice A k c] 30 (0, 0))) ∧ Hid (wr.heap[w.heap.size + 1]? = some (.cells #[.slice none 0 0] 30 (0, 0))) ∧ Hid (Box wr w.heap.size #[.int .i64 g.w, .int .i64 g.h]) ∧ Hid (Below w.heap.size w wr) ∧ w.heap.size + 3 ≤ wr.heap.size) (fun i _ => KK - (intOf i).toNat)
  case atStart => exact ⟨0, none, 0, rfl, Nat.zero_le _, Lib.hid (Kd.R_nil _ _ _ _ _), HT2, HR2, HG2, HB2, by omega⟩
  case round =>
    obtain ⟨k, A, c, rfl, hk, HO, HT, HR, HG, HB, zr⟩ := hrel
    have hlen := makeTo_len g r k
    by_cases hlt : k < KK
    · have i0 : (k : Int) < (KK : Int) := by omega
      have k0 : (0 : Int) ≤ (k : Int) := by omega
      have kne : ¬ (K : Int) = 0 := by omega
      have hq : (k : Int).tdiv (K : Int) = ((k / K : Nat) : Int) := by rw [Int.tdiv_eq_ediv_of_nonneg k0]; rfl
      have hm : (k : Int).tmod (K : Int) = ((k % K : Nat) : Int) := by rw [Int.tmod_eq_emod_of_nonneg k0]; rfl
      have hq2 : (k : Int) / (K : Int) = ((k / K : Nat) : Int) := rfl
      have hm2 : (k : Int) % (K : Int) = ((k % K : Nat) : Int) := rfl
      have dk : k / K ≤ 15 := by
        have : k / K < K := (Nat.div_lt_iff_lt_mul (by omega)).2 (by rw [← HKE.out]; exact hlt)
        omega
      have mk : k % K ≤ 15 := by have := Nat.mod_lt k (show 0 < K by omega); omega
      obtain ⟨qd, hqd⟩ : ∃ z, k / K = z := ⟨_, rfl⟩
      obtain ⟨md, hmd⟩ : ∃ z, k % K = z := ⟨_, rfl⟩
      rw [hqd] at hq hq2 dk
      rw [hmd] at hm hm2 mk
      obtain ⟨p, hp⟩ : ∃ p, stdPort g r (qd : Int) (md : Int) = p := ⟨_, rfl⟩
      have HS : Hid (makeTo g r (k + 1) = makeTo g r k ++ [p]) := Lib.hid (by rw [makeTo_succ, HKN.out, hqd, hmd, hp])
      have HCALL : Hid (∀ W, Calls Try.prog 41 #[.agg #[.int .i64 g.w, .int .i64 g.h], .int .i64 r, .int .i64 (qd : Int), .int .i64 (md : Int)] W fun e w' => e = .returned (.int .i64 p) ∧ Below W.heap.size W w') := Lib.hid (fun W => by
        have h := spec_l05Port g r (qd : Int) (md : Int) W g1 g2 (by omega) (by omega) (by omega) (by omega) r1 r4
        rw [hp] at h
        exact h)
      have HQ := Lib.hid hq; have HM := Lib.hid hm; have HQ2 := Lib.hid hq2; have HM2 := Lib.hid hm2
      clear hqd hmd hp hq hm hq2 hm2
      go_wp2_with fail
      refine wp_region_tz 0 (fun _ => .cells #[] 0) (fun _ _ => undef) (fun W => Below (w.heap.size + 3) wr W) 14 [(0, .quiet), (1, .quiet), (2, .quiet), (3, .quiet), (4, .quiet), (5, .quiet), (6, .quiet), (7, .quiet), (8, .quiet), (9, .quiet), (10, .chain), (11, .chain), (12, .chain), (13, .quiet)] (by kernel_rfl) (by kernel_rfl) (by kernel_rfl) (by kernel_rfl) (by kernel_rfl) (by kernel_rfl) (by kernel_rfl) (by kernel_rfl) ((bw_drew (bw_refl _)).mono zr) ⟨fun W o h => low_then h (bw_alloc _ (bw_refl _)) zr, fun W h => Nat.zero_le _⟩ (fun W => W = wr.drew) (rfl) (fun e => by cases e) ?_
      refine wpTz_v (some 18) (.pointer (some ⟨w.heap.size + 2, 0, none⟩)) rfl rfl (by rfl) (fun W hC => ?_) ?_
      · clear hC
        go_simp
        try rfl
      try simp only [Act.put, nms]
      refine wpTz_v (some 19) (.slice A k c) rfl rfl (by rfl) (fun W hC => ?_) ?_
      · have ht : W.heap[w.heap.size + 2]? = some (.cells #[.slice A k c] 30 (0, 0)) := (hC.block _ (by omega)).trans HT.out
        have h0 : W.cell? ⟨w.heap.size + 2, 0, none⟩ = some (.slice A k c) := (blk_cell ht 0).trans rfl
        clear ht
        clear hC
        go_simp
        try rfl
      try simp only [Act.put, nms]
      refine wpTz_v (some 20) (.agg #[.int .i64 g.w, .int .i64 g.h]) rfl rfl (by rfl) (fun W hC => ?_) ?_
      · have h0 : W.cell? ⟨w.heap.size, 0, none⟩ = some (.int .i64 g.w) := (box_low' HG.out hC (by omega)).get 0
        have h1 : W.cell? ⟨w.heap.size, 1, none⟩ = some (.int .i64 g.h) := (box_low' HG.out hC (by omega)).get 1
        clear hC
        go_simp
        try rfl
      try simp only [Act.put, nms]
      refine wpTz_v (some 21) (.int .i64 r) rfl rfl (by rfl) (fun W hC => ?_) ?_
      · clear hC
        go_simp
        try rfl
      try simp only [Act.put, nms]
      refine wpTz_v (some 22) (.int .i64 (k : Int)) rfl rfl (by rfl) (fun W hC => ?_) ?_
      · clear hC
        go_simp
        try rfl
      try simp only [Act.put, nms]
      refine wpTz_v (some 23) (.int .i64 (K : Int)) rfl rfl (by rfl) (fun W hC => ?_) ?_
      · clear hC
        go_simp
        try rfl
      try simp only [Act.put, nms]
      refine wpTz_v (some 24) (.int .i64 (qd : Int)) rfl rfl (by rfl) (fun W hC => ?_) ?_
      · have kz : ¬ K = 0 := by omega
        have hwq : IntKind.i64.wrap (qd : Int) = (qd : Int) := IntWalk.i64_in _ (by omega)
        have e1 := HQ.out
        have e2 := HQ2.out
        have e3 := HM.out
        have e4 := HM2.out
        clear hC
        go_simp
        try rfl
      try simp only [Act.put, nms]
      refine wpTz_v (some 25) (.int .i64 (k : Int)) rfl rfl (by rfl) (fun W hC => ?_) ?_
      · clear hC
        go_simp
        try rfl
      try simp only [Act.put, nms]
      refine wpTz_v (some 26) (.int .i64 (K : Int)) rfl rfl (by rfl) (fun W hC => ?_) ?_
      · clear hC
        go_simp
        try rfl
      try simp only [Act.put, nms]
      refine wpTz_v (some 27) (.int .i64 (md : Int)) rfl rfl (by rfl) (fun W hC => ?_) ?_
      · have kz : ¬ K = 0 := by omega
        have hwq : IntKind.i64.wrap (qd : Int) = (qd : Int) := IntWalk.i64_in _ (by omega)
        have e1 := HQ.out
        have e2 := HQ2.out
        have e3 := HM.out
        have e4 := HM2.out
        clear hC
        go_simp
        try rfl
      try simp only [Act.put, nms]
      refine wpTz_c (some 28) rfl rfl (by rfl) wr (fun _ => .int .i64 p) (fun y W => W = y ∧ Below wr.heap.size wr y) (fun W hF hC => ?_) (fun yw => ?_)
      · subst hF
        refine LoOp.enter (by go_simp; first | done | exact ⟨rfl, rfl⟩ | rfl) ?_
        refine (HCALL.out _).mono ?_
        rintro e W1 ⟨rfl, hb1⟩
        exact ⟨_, rfl, W1, rfl, low_then hC hb1 zr, rfl, bw_then (bw_drew (bw_refl wr)) hb1⟩
      try simp only [Act.put, nms]
      refine wpTz_c (some 29) rfl rfl (by rfl) () (fun _ => .slice (some ⟨yw.heap.size, 0, none⟩) 1 1) (fun _ W => W = yw.alloc (.cells #[.int .i64 p] 3) ∧ Below wr.heap.size wr yw) (fun W hF hC => ?_) (fun _ => ?_)
      · obtain ⟨rfl, hby⟩ := hF
        refine LoOp.val (v := .slice (some ⟨W.heap.size, 0, none⟩) 1 1) (w1 := W.alloc (.cells #[.int .i64 p] 3)) ?_ ⟨(), rfl, low_then hC (bw_alloc _ (bw_refl _)) zr, rfl, hby⟩
        clear hC hby
        go_simp
        try rfl
      try simp only [Act.put, nms]
      refine wpTz_c (some 30) rfl rfl (by rfl) ((none, 0) : Option Addr × Nat) (fun y => .slice y.1 (k + 1) y.2) (fun y W9 => Kd.R (Kd.int .i64) 3 W9 (w.heap.size + 3) (fun _ => True) (.slice y.1 (k + 1) y.2) (makeTo g r k ++ [p]) ∧ True) (fun W hF hC => ?_) (fun yv => ?_)
      · obtain ⟨rfl, hby⟩ := hF
        have HOy := Kd.R_below HO.out hby
        have hCy : Below (w.heap.size + 3) wr yw := hby.mono zr
        refine LoOp.of_if (ops := #[]) rfl rfl (by simp) (by rfl) (app_intS (ops := #[]) (W := yw) (B := w.heap.size + 3) (by rfl) (.tmp 19) (.tmp 29) rfl (.slice A k c) (makeTo g r k) p rfl rfl HOy (by have := hby.size; omega) (by rw [makeTo_len]; omega) ?_)
        intro v9 w9 H9 hg9
        obtain ⟨A9, d9, rfl⟩ := Kd.R_slice H9
        have el : (makeTo g r k ++ [p]).length = k + 1 := by rw [List.length_append, makeTo_len]; rfl
        rw [el] at H9
        exact ⟨(A9, d9), by show Value.slice A9 (makeTo g r k ++ [p]).length d9 = _; rw [el], hCy.grown hg9 (by have := hby.size; omega) (fun j hj => Kd.R_base HOy j hj), H9, trivial⟩
      try simp only [Act.put, nms]
      refine wpTz_v (some 31) (.pointer (some ⟨w.heap.size + 2, 0, none⟩)) rfl rfl (by rfl) (fun W hC => ?_) ?_
      · clear hC
        go_simp
        try rfl
      try simp only [Act.put, nms]
      refine wpTz_z (fun w8 hF hC => ?_)
      obtain ⟨A9, c9⟩ := yv
      obtain ⟨H9, hB9⟩ := hF
      dsimp only at H9
      have HG9 := Lib.hid (box_low' HG.out hC (by omega))
      have HR9 : Hid (w8.heap[w.heap.size + 1]? = some (.cells #[.slice none 0 0] 30 (0, 0))) := Lib.hid ((hC.block _ (by omega)).trans HR.out)
      have hT9 : w8.heap[w.heap.size + 2]? = some (.cells #[.slice A k c] 30 (0, 0)) := (hC.block _ (by omega)).trans HT.out
      have y0 : w8.cell? ⟨w.heap.size + 2, 0, none⟩ = some (.slice A k c) := (blk_cell hT9 0).trans rfl
      have yf : w8.frozen? ⟨w.heap.size + 2, 0, none⟩ = false := blk_frozen hT9 0
      have yl : w.heap.size + 2 < w8.heap.size := blk_lt hT9
      have hTz : (w8.setCell ⟨w.heap.size + 2, 0, none⟩ (.slice A9 (k + 1) c9)).heap[w.heap.size + 2]? = some (.cells #[.slice A9 (k + 1) c9] 30 (0, 0)) := (blk_set hT9 0 _).trans rfl
      have HTz := Lib.hid hTz
      have HRz : Hid ((w8.setCell ⟨w.heap.size + 2, 0, none⟩ (.slice A9 (k + 1) c9)).heap[w.heap.size + 1]? = some (.cells #[.slice none 0 0] 30 (0, 0))) := Lib.hid (blk_far (p := ⟨w.heap.size + 2, 0, none⟩) HR9.out (by show w.heap.size + 1 ≠ w.heap.size + 2; omega) _)
      have HGz : Hid (Box (w8.setCell ⟨w.heap.size + 2, 0, none⟩ (.slice A9 (k + 1) c9)) w.heap.size #[.int .i64 g.w, .int .i64 g.h]) := Lib.hid (HG9.out.grown (grown_cell w8 (w.heap.size + 2) 0 _) (by intro e; injection e with e; omega))
      have HOz : Hid (Kd.R (Kd.int .i64) 3 (w8.setCell ⟨w.heap.size + 2, 0, none⟩ (.slice A9 (k + 1) c9)) (w.heap.size + 3) (fun _ => True) (.slice A9 (k + 1) c9) (makeTo g r (k + 1))) := Lib.hid (by rw [HS.out]; exact R_off H9 (by omega) 0 _)
      have HBz : Hid (Below w.heap.size w (w8.setCell ⟨w.heap.size + 2, 0, none⟩ (.slice A9 (k + 1) c9))) := Lib.hid (low_set (low_then' HB.out hC (by omega)) (by omega) 0 _)
      have zz : w.heap.size + 3 ≤ (w8.setCell ⟨w.heap.size + 2, 0, none⟩ (.slice A9 (k + 1) c9)).heap.size := by simp only [szs]; have := hC.size; omega
      clear hTz hT9 hC H9 hB9
      refine ⟨_, rfl, by rfl, ?_⟩
      go_simp
      go_wp2
      go_roundw
      case rel => exact ⟨k + 1, A9, c9, by go_num, by omega, HOz, HTz, HRz, HGz, HBz, zz⟩
      case measure => simp [intOf]; omega
    · obtain rfl : k = KK := by omega
      have i0 : ¬ (k : Int) < (k : Int) := by omega
      have y0 : wr.cell? ⟨w.heap.size + 2, 0, none⟩ = some (.slice A k c) := (blk_cell HT.out 0).trans rfl
      have yl : w.heap.size + 2 < wr.heap.size := blk_lt HT.out
      have v0 : wr.cell? ⟨w.heap.size + 1, 0, none⟩ = some (.slice none 0 0) := (blk_cell HR.out 0).trans rfl
      have vf : wr.frozen? ⟨w.heap.size + 1, 0, none⟩ = false := blk_frozen HR.out 0
      have vl : w.heap.size + 1 < wr.heap.size := blk_lt HR.out
      have HRz : Hid ((wr.setCell ⟨w.heap.size + 1, 0, none⟩ (.slice A k c)).heap[w.heap.size + 1]? = some (.cells #[.slice A k c] 30 (0, 0))) := Lib.hid ((blk_set HR.out 0 _).trans rfl)
      have HOz := Lib.hid (R_off HO.out (show w.heap.size + 1 < w.heap.size + 3 by omega) 0 (.slice A k c))
      have HBz : Hid (Below w.heap.size w (wr.setCell ⟨w.heap.size + 1, 0, none⟩ (.slice A k c))) := Lib.hid (low_set HB.out (by omega) 0 _)
      have HLK := Lib.hid hlen
      clear hlen
      go_wp2
      exact bodyPost_ret (results_cell_row Try.results21 _ _ (w.heap.size + 1) 30 _ (0, 0) _ rfl HRz.out Try.underlying30 rfl (by kernel_rfl)) rfl ⟨⟨_, rfl, Kd.R_lower HOz.out (by omega)⟩, HBz.out⟩
theorem count_in {g : Grid} (g1 : 1 ≤ g.w) (g2 : g.w ≤ 4) (g3 : 1 ≤ g.h) (g4 : g.h ≤ 4) : nodeCount g = g.w * g.h := by unfold nodeCount gridOk inside; simp [g1, g2, g3, g4]
theorem arr_gt {w w1 : World} {g t b : Nat} {cs : Array Value} (h : Arr w g t cs) (hg : w.grownBy w1 (some b)) (hne : g ≠ b) : Arr w1 g t cs := (hg.block g h.lt (by intro e; injection e with e; exact hne e)).trans h
set_option maxHeartbeats 4000000 in
theorem spec_l14Grid (b B0 : Nat) (w : World) (HC : Cur w b B0) : Calls Try.prog 20 #[.pointer (some ⟨b, 0, none⟩)] w fun e w' => ∃ g : Grid, e = .returned (.agg #[.int .i64 g.w, .int .i64 g.h]) ∧ 1 ≤ g.w ∧ g.w ≤ 4 ∧ 1 ≤ g.h ∧ g.h ≤ 4 ∧ 2 ≤ nodeCount g ∧ Cur w' b B0 ∧ w.grownBy w' (some b) := by
  have hb := HC.lt
  have HR1 : Arr (w.alloc (.cells #[.int .i64 0, .int .i64 0] 25)) w.heap.size 25 #[.int .i64 0, .int .i64 0] := Arr.new w _ _ _ rfl
  go_enter Try.func20, Try.ntmps20
  go_wp2_with fail
  refine (spec_l02Grid b B0 _ (HC.below (bw_alloc _ (bw_refl _)))).mono ?_
  rintro e w2 ⟨g, rfl, p1, p2, p3, p4, HC2, hg2⟩
  have z2 := hg2.size
  simp only [szs] at z2
  have HR2 : Arr w2 w.heap.size 25 #[.int .i64 0, .int .i64 0] := arr_gt HR1 hg2 (by omega)
  have HG2 : w.grownBy w2 (some b) := grown_trans (gt_alloc _ (World.grownBy.refl _ _)) hg2
  have HT3 : Arr (w2.alloc (.cells #[.int .i64 g.w, .int .i64 g.h] 25)) w2.heap.size 25 #[.int .i64 g.w, .int .i64 g.h] := Arr.new w2 _ _ _ rfl
  have HR3 := HR2.below (bw_alloc (.cells #[.int .i64 g.w, .int .i64 g.h] 25) (bw_refl w2))
  have HC3 := HC2.below (bw_alloc (.cells #[.int .i64 g.w, .int .i64 g.h] 25) (bw_refl w2))
  have HG3 : w.grownBy (w2.alloc (.cells #[.int .i64 g.w, .int .i64 g.h] 25)) (some b) := gt_alloc _ HG2
  go_wp2_with fail
  refine (spec_NodeCount g _).mono ?_
  rintro e w4 ⟨rfl, hb4⟩
  have HT4 := HT3.below hb4
  have HR4 := HR3.below hb4
  have HC4 := HC3.below hb4
  have HG4 : w.grownBy w4 (some b) := grown_trans HG3 (grown_below _ hb4)
  have z4 := bw_size hb4
  simp only [szs] at z4
  clear hb4 HG3 HC3 HR3 HT3 HG2 HR2 HR1 HC2 hg2
  have hcn := count_in p1 p2 p3 p4
  obtain ⟨c, hc⟩ : ∃ c, nodeCount g = c := ⟨_, rfl⟩
  rw [hc]
  have t0 : w4.cell? ⟨w2.heap.size, 0, none⟩ = some (.int .i64 g.w) := HT4.cell 0
  have t1 : w4.cell? ⟨w2.heap.size, 1, none⟩ = some (.int .i64 g.h) := HT4.cell 1
  have f0 := HT4.frozen 0
  have tl := HT4.lt
  have r0 : w4.cell? ⟨w.heap.size, 0, none⟩ = some (.int .i64 0) := HR4.cell 0
  have r1 : w4.cell? ⟨w.heap.size, 1, none⟩ = some (.int .i64 0) := HR4.cell 1
  have e0 := HR4.frozen 0
  have e1 := HR4.frozen 1
  have rl := HR4.lt
  by_cases h2 : c < 2
  · have hw : g.w = 1 ∧ g.h = 1 := by
      have h1 : g.w * g.h < 2 := by omega
      have a := Int.mul_le_mul_of_nonneg_left p3 (show 0 ≤ g.w by omega)
      have b := Int.mul_le_mul_of_nonneg_right p1 (show 0 ≤ g.h by omega)
      omega
    have HN : Hid (2 ≤ nodeCount ⟨2, g.h⟩) := Lib.hid (by rw [count_in (g := ⟨2, g.h⟩) (by simp) (by simp) p3 p4]; simp only; omega)
    have HH := Lib.hid hw
    have HRz : Arr (((w4.setCell ⟨w2.heap.size, 0, none⟩ (.int .i64 2)).setCell ⟨w.heap.size, 0, none⟩ (.int .i64 2)).setCell ⟨w.heap.size, 1, none⟩ (.int .i64 g.h)) w.heap.size 25 #[.int .i64 2, .int .i64 g.h] := ((HR4.other w2.heap.size 0 _ (by omega)).set 0 _).set 1 _
    have HGz : w.grownBy (((w4.setCell ⟨w2.heap.size, 0, none⟩ (.int .i64 2)).setCell ⟨w.heap.size, 0, none⟩ (.int .i64 2)).setCell ⟨w.heap.size, 1, none⟩ (.int .i64 g.h)) (some b) := gt_own _ _ (gt_own _ _ (gt_own _ _ HG4 (by omega)) (Nat.le_refl _)) (Nat.le_refl _)
    have HCz : Cur (((w4.setCell ⟨w2.heap.size, 0, none⟩ (.int .i64 2)).setCell ⟨w.heap.size, 0, none⟩ (.int .i64 2)).setCell ⟨w.heap.size, 1, none⟩ (.int .i64 g.h)) b B0 := Cur.far _ _ (Cur.far _ _ (Cur.far _ _ HC4 (by omega)) hb) hb
    have HRz := Lib.hid HRz; have HGz := Lib.hid HGz; have HCz := Lib.hid HCz
    clear hw hcn
    go_wp2
    exact bodyPost_ret (results_cell_row Try.results20 _ _ w.heap.size 25 _ (0, 0) _ rfl HRz.out Try.underlying25 rfl (by kernel_rfl)) rfl ⟨⟨2, g.h⟩, rfl, by simp, by simp, p3, p4, HN.out, HCz.out, HGz.out⟩
  · have HN : Hid (2 ≤ nodeCount g) := Lib.hid (by omega)
    have HRz : Arr ((w4.setCell ⟨w.heap.size, 0, none⟩ (.int .i64 g.w)).setCell ⟨w.heap.size, 1, none⟩ (.int .i64 g.h)) w.heap.size 25 #[.int .i64 g.w, .int .i64 g.h] := (HR4.set 0 _).set 1 _
    have HGz : w.grownBy ((w4.setCell ⟨w.heap.size, 0, none⟩ (.int .i64 g.w)).setCell ⟨w.heap.size, 1, none⟩ (.int .i64 g.h)) (some b) := gt_own _ _ (gt_own _ _ HG4 (Nat.le_refl _)) (Nat.le_refl _)
    have HCz : Cur ((w4.setCell ⟨w.heap.size, 0, none⟩ (.int .i64 g.w)).setCell ⟨w.heap.size, 1, none⟩ (.int .i64 g.h)) b B0 := Cur.far _ _ (Cur.far _ _ HC4 hb) hb
    have HRz := Lib.hid HRz; have HGz := Lib.hid HGz; have HCz := Lib.hid HCz
    clear hcn
    go_wp2
    exact bodyPost_ret (results_cell_row Try.results20 _ _ w.heap.size 25 _ (0, 0) _ rfl HRz.out Try.underlying25 rfl (by kernel_rfl)) rfl ⟨g, rfl, p1, p2, p3, p4, HN.out, HCz.out, HGz.out⟩
theorem wrap_mod {n z : Int} (n1 : 0 < n) (z0 : 0 ≤ z) (z1 : z < 2 * n) : z % n = if z < n then z else z - n := by
  by_cases h : z < n
  · rw [if_pos h]; exact Int.emod_eq_of_lt z0 h
  · rw [if_neg h]
    have e : z = (z - n) + n := by omega
    rw [e, Int.add_emod_right, Int.emod_eq_of_lt (by omega) (by omega)]
    omega
set_option maxHeartbeats 4000000 in
theorem spec_l14Packet (b B0 : Nat) (g : Grid) (id : Int) (w : World) (HC : Cur w b B0) (g1 : 1 ≤ g.w) (g2 : g.w ≤ 4) (g3 : 1 ≤ g.h) (g4 : g.h ≤ 4) (gn : 2 ≤ nodeCount g) (i1 : 1 ≤ id) (i9 : id ≤ 9999) :
    Calls Try.prog 50 #[.pointer (some ⟨b, 0, none⟩), .agg #[.int .i64 g.w, .int .i64 g.h], .int .i64 id] w fun e w' => ∃ p : Packet, e = .returned (.agg #[.int .i64 p.id, .int .i64 p.src, .int .i64 p.dst, .int .i64 p.cls, .int .i64 p.len]) ∧ packetOk g p = true ∧ p.id = id ∧ Cur w' b B0 ∧ w.grownBy w' (some b) := by
  have hb := HC.lt
  have hc16 := count_le g
  obtain ⟨n, hn⟩ : ∃ n, nodeCount g = n := ⟨_, rfl⟩
  have HN := Lib.hid hn
  rw [hn] at gn hc16
  clear hn
  obtain ⟨wa, ewa⟩ : ∃ z, z = (w.alloc (.cells #[.int .i64 g.w, .int .i64 g.h] 25)).alloc (.cells #[.int .i64 0, .int .i64 0, .int .i64 0, .int .i64 0, .int .i64 0] 89) := ⟨_, rfl⟩
  have hwa : Below w.heap.size w wa := by rw [ewa]; exact bw_alloc _ (bw_alloc _ (bw_refl w))
  have HR1 : Arr wa (w.heap.size + 1) 89 #[.int .i64 0, .int .i64 0, .int .i64 0, .int .i64 0, .int .i64 0] := by rw [ewa]; exact Arr.new _ _ _ _ (by simp only [szs])
  have zwa : wa.heap.size = w.heap.size + 2 := by rw [ewa]; simp only [szs]
  go_enter Try.func50, Try.ntmps50
  go_wp2_with fail
  rw [← ewa]
  clear ewa
  refine (spec_NodeCount g _).mono ?_
  rintro e w2 ⟨rfl, hb2⟩
  rw [HN.out]
  have HC2 := (HC.below hwa).below hb2
  have HR2 := HR1.below hb2
  have HG2 : w.grownBy w2 (some b) := grown_below _ (bw_then hwa hb2)
  clear hb2 hwa HR1 HC
  go_wp2_with fail
  refine (spec_l01Below b B0 n _ HC2 (by omega) (by omega)).mono ?_
  rintro e w3 ⟨x, rfl, x0, x1, HC3, hg3⟩
  have HR3 := arr_gt HR2 hg3 (by omega)
  have HG3 := grown_trans HG2 hg3
  clear hg3 HR2 HG2 HC2
  go_wp2_with fail
  refine (spec_l01Below b B0 (n - 1) _ HC3 (by omega) (by omega)).mono ?_
  rintro e w4 ⟨y, rfl, y0, y1, HC4, hg4⟩
  have HR4 := arr_gt HR3 hg4 (by omega)
  have HG4 := grown_trans HG3 hg4
  clear hg4 HR3 HG3 HC3
  have hm := wrap_mod (n := n) (z := x + 1 + y) (by omega) (by omega) (by omega)
  obtain ⟨t, ht⟩ : ∃ t, (x + 1 + y) % n = t := ⟨_, rfl⟩
  have htm : (x + 1 + y).tmod n = t := by rw [Int.tmod_eq_emod_of_nonneg (by omega), ht]
  have ht2 : 0 ≤ t ∧ t < n ∧ t ≠ x := by
    rw [← ht, hm]
    split <;> omega
  have nne : ¬ n = 0 := by omega
  clear hm
  go_wp2_with fail
  refine (spec_l01Below b B0 2 _ HC4 (by omega) (by omega)).mono ?_
  rintro e w5 ⟨cl, rfl, c0, c1, HC5, hg5⟩
  have HR5 := arr_gt HR4 hg5 (by omega)
  have HG5 := grown_trans HG4 hg5
  clear hg5 HR4 HG4 HC4
  go_wp2_with fail
  refine (spec_l01Below b B0 5 _ HC5 (by omega) (by omega)).mono ?_
  rintro e w6 ⟨ln, rfl, l0, l1, HC6, hg6⟩
  have HR6 := arr_gt HR5 hg6 (by omega)
  have HG6 := grown_trans HG5 hg6
  clear hg6 HR5 HG5 HC5
  have HP : Hid (packetOk g ⟨id, x, t, cl, 1 + ln⟩ = true) := Lib.hid (by
    simp only [packetOk, isNode, inside, HN.out, Bool.and_eq_true, decide_eq_true_eq]
    omega)
  have r0 : w6.cell? ⟨w.heap.size + 1, 0, none⟩ = some (.int .i64 0) := HR6.cell 0
  have r1 : w6.cell? ⟨w.heap.size + 1, 1, none⟩ = some (.int .i64 0) := HR6.cell 1
  have r2 : w6.cell? ⟨w.heap.size + 1, 2, none⟩ = some (.int .i64 0) := HR6.cell 2
  have r3 : w6.cell? ⟨w.heap.size + 1, 3, none⟩ = some (.int .i64 0) := HR6.cell 3
  have r4 : w6.cell? ⟨w.heap.size + 1, 4, none⟩ = some (.int .i64 0) := HR6.cell 4
  have e0 := HR6.frozen 0
  have e1 := HR6.frozen 1
  have e2 := HR6.frozen 2
  have e3 := HR6.frozen 3
  have e4 := HR6.frozen 4
  have rl := HR6.lt
  have HR6 := Lib.hid HR6; have HG6 := Lib.hid HG6; have HC6 := Lib.hid HC6
  go_wp2
  refine bodyPost_ret (results_cell_row Try.results50 _ _ (w.heap.size + 1) 89 _ (0, 0) _ rfl (((((HR6.out.set 0 _).set 1 _).set 2 _).set 3 _).set 4 _) Try.underlying89 rfl (by kernel_rfl)) rfl ⟨⟨id, x, t, cl, 1 + ln⟩, rfl, HP.out, rfl, ?_, ?_⟩
  · exact Cur.far _ _ (Cur.far _ _ (Cur.far _ _ (Cur.far _ _ (Cur.far _ _ HC6.out (by omega)) (by omega)) (by omega)) (by omega)) (by omega)
  · exact gt_own _ _ (gt_own _ _ (gt_own _ _ (gt_own _ _ (gt_own _ _ HG6.out (by omega)) (by omega)) (by omega)) (by omega)) (by omega)
def Drawn (g : Grid) (l : List Packet) : Prop := l.length ≤ 6 ∧ ∀ j : Nat, j < l.length → packetOk g (rp l j) = true ∧ (rp l j).id = (j : Int) + 1
theorem rp_snoc_lt (xs : List Packet) (x : Packet) (j : Nat) (h : j < xs.length) : rp (xs ++ [x]) (j : Int) = rp xs (j : Int) := by
  simp [rp, List.getD_eq_getElem?_getD, List.getElem?_append, h]
theorem rp_snoc_at (xs : List Packet) (x : Packet) : rp (xs ++ [x]) (xs.length : Int) = x := by
  simp [rp, List.getD_eq_getElem?_getD]
section
variable {ops : Array Oper} {rest : List Oper} {o : Oper} {a : Act} {Q : Exit → Act → World → Prop}
theorem app_PN {B : Nat} {W : World} (hgd : o.guard = none) (s x : Operand)
    (ho : o.op = .call { callee := .builtin .append, args := #[s, x], argTypes := #[61, 61] })
    (v : Value) (xs : List Packet) (p : Packet) (hs : a.eval s = v) (hx : a.eval x = .slice (some ⟨W.heap.size, 0, none⟩) 1 1)
    (HO : kP.R 89 W B (fun _ => True) v xs) (hB : B ≤ W.heap.size) (hl : xs.length ≤ 1000000)
    (h : ∀ v1 w1, kP.R 89 w1 B (fun _ => True) v1 (xs ++ [p]) → W.grownBy w1 v.ownBlock → (v1.ownBlock = v.ownBlock ∨ ∃ b, v1.ownBlock = some b ∧ W.heap.size ≤ b) → wpList Try.prog ops Q rest (a.put o.dst v1) w1) :
    wpList Try.prog ops Q (o :: rest) a (W.alloc (.cells #[.int .i64 p.id, .int .i64 p.src, .int .i64 p.dst, .int .i64 p.cls, .int .i64 p.len] 89)) :=
  Kd.R_append (P := Try.prog) kP (w0 := W) B hgd s x 61 89 (.agg #[.int .i64 0, .int .i64 0, .int .i64 0, .int .i64 0, .int .i64 0]) 40 ho Try.underlying61 info_P rfl (by decide) (by omega) v xs p (pkCells p) (fun _ => True) (fun _ => False) hs hx rfl (fun _ h => h.elim) (fun _ _ => trivial) HO (Below.refl _ _) hB (by omega) (fun v1 w1 h1 _ h3 h4 => h v1 w1 h1 h3 h4)
end
set_option maxHeartbeats 4000000 in
theorem spec_l16Packets (b B0 : Nat) (g : Grid) (w : World) (HC : Cur w b B0) (g1 : 1 ≤ g.w) (g2 : g.w ≤ 4) (g3 : 1 ≤ g.h) (g4 : g.h ≤ 4) (gn : 2 ≤ nodeCount g) :
    Calls Try.prog 25 #[.pointer (some ⟨b, 0, none⟩), .agg #[.int .i64 g.w, .int .i64 g.h]] w fun e w' => ∃ (l : List Packet) (v : Value), e = .returned v ∧ Drawn g l ∧ kP.R 89 w' w.heap.size (fun _ => True) v l ∧ Cur w' b B0 ∧ w.grownBy w' (some b) := by
  have hb := HC.lt
  have HG0 := Arr.new w w.heap.size 25 #[.int .i64 g.w, .int .i64 g.h] rfl
  obtain ⟨wa, ewa⟩ : ∃ z, z = (w.alloc (.cells #[.int .i64 g.w, .int .i64 g.h] 25)).alloc (.cells #[] 89) := ⟨_, rfl⟩
  have hwa : Below w.heap.size w wa := by rw [ewa]; exact bw_alloc _ (bw_alloc _ (bw_refl w))
  have HGa : Arr wa w.heap.size 25 #[.int .i64 g.w, .int .i64 g.h] := by rw [ewa]; exact HG0.below (bw_alloc _ (bw_refl _))
  have HOa : kP.R 89 wa (w.heap.size + 1) (fun _ => True) (.slice (some ⟨w.heap.size + 1, 0, none⟩) 0 0) [] := by
    have h := R_empty' (W0 := w.alloc (.cells #[.int .i64 g.w, .int .i64 g.h] 25)) (W := w.alloc (.cells #[.int .i64 g.w, .int .i64 g.h] 25)) kP 89 (Nat.le_refl _) (w.heap.size + 1) (by simp only [szs])
    simp only [szs] at h
    rw [ewa]
    exact h
  have zwa : wa.heap.size = w.heap.size + 2 := by rw [ewa]; simp only [szs]
  go_enter Try.func25, Try.ntmps25
  go_wp2
  rw [← ewa]
  clear ewa HG0
  go_loopw [5, 6] (fun v i wr => ∃ (k : Nat) (l : List Packet), i = .int .i64 k ∧ Hid (l.length = k) ∧ k ≤ 6 ∧ Hid (∀ j : Nat, j < l.length → packetOk g (rp l j) = true ∧ (rp l j).id = (j : Int) + 1) ∧ Hid (kP.R 89 wr (w.heap.size + 1) (fun _ => True) v l) ∧ Hid (Cur wr b B0) ∧ Hid (w.grownBy wr (some b)) ∧ Hid (Arr wr w.heap.size 25 #[.int .i64 g.w, .int .i64 g.h]) ∧ w.heap.size + 1 ≤ wr.heap.size) (fun _ i _ => 6 - (intOf i).toNat)
  case atStart => exact ⟨0, [], rfl, Lib.hid rfl, Nat.zero_le _, Lib.hid (fun j h => absurd h (Nat.not_lt_zero _)), Lib.hid HOa, Lib.hid (HC.below hwa), Lib.hid (grown_below _ hwa), Lib.hid HGa, by omega⟩
  case round =>
    clear HOa HGa hwa HC
    obtain ⟨k, l, rfl, HL, hk, HP, HO, HC, HG, HB, zr⟩ := hrel
    obtain ⟨A, c, rfl⟩ := Kd.R_slice HO.out
    go_wp2_with fail
    refine (spec_l01Below b B0 7 _ HC.out (by omega) (by omega)).mono ?_
    rintro e w2 ⟨x, rfl, x0, x1, HC2, hg2⟩
    have HAP : (Value.slice A l.length c).ownBlock = none ∨ (Value.slice A l.length c).ownBlock ≠ some b := .inr (fun e => by have := Kd.R_base HO.out b e; omega)
    have HO2 := Lib.hid (R_grownF HO.out hg2 HAP)
    have HB2 := Lib.hid (arr_gt HB.out hg2 (by omega))
    have HG2 := Lib.hid (grown_trans HG.out hg2)
    have z2 := hg2.size
    have HC2 := Lib.hid HC2
    clear hg2
    by_cases hlt : (k : Int) < x
    · have t0 : w2.cell? ⟨w.heap.size, 0, none⟩ = some (.int .i64 g.w) := HB2.out.cell 0
      have t1 : w2.cell? ⟨w.heap.size, 1, none⟩ = some (.int .i64 g.h) := HB2.out.cell 1
      have tl := HB2.out.lt
      go_wp2_with fail
      refine (spec_l14Packet b B0 g ((k : Int) + 1) _ HC2.out g1 g2 g3 g4 gn (by omega) (by omega)).mono ?_
      rintro e w3 ⟨p, rfl, hp, hid, HC3, hg3⟩
      have HAP2 : (Value.slice A l.length c).ownBlock = none ∨ (Value.slice A l.length c).ownBlock ≠ some b := .inr (fun e => by have := Kd.R_base HO2.out b e; omega)
      have HO3 := R_grownF HO2.out hg3 HAP2
      have HB3 := arr_gt HB2.out hg3 (by omega)
      have HG3 := grown_trans HG2.out hg3
      have z3 := hg3.size
      have HPP := Lib.hid hp; have HPI := Lib.hid hid
      clear hg3 hp hid t0 t1 tl
      have hl6 : l.length ≤ 1000000 := by have := HL.out; omega
      go_wp2_with (at_builtin; refine app_PN (B := w.heap.size + 1) rfl (.tmp 14) (.tmp 20) rfl _ l p rfl rfl HO3 (by omega) hl6 ?_; intro v4 w4 HO4 hg4 hat4)
      have hk2 : k + 1 ≤ 6 := by omega
      have zz : w3.heap.size ≤ w4.heap.size := hg4.size
      have ha : ∀ q, (Value.slice A l.length c).ownBlock = some q → w.heap.size + 1 ≤ q := fun q hq => Kd.R_base HO3 q hq
      have HC4 : Cur w4 b B0 := HC3.grown hg4 (fun q hq => ⟨by have := ha q hq; have := HC3.1; omega, by have := ha q hq; omega⟩)
      have HG4 : w.grownBy w4 (some b) := ⟨hg4.os.trans HG3.os, hg4.tape.trans HG3.tape, hg4.output.trans HG3.output, Nat.le_trans HG3.size hg4.size, fun i hi hne => (hg4.block i (Nat.lt_of_lt_of_le hi HG3.size) (fun e => by have := ha i e.symm; omega)).trans (HG3.block i hi hne)⟩
      have HB4 : Arr w4 w.heap.size 25 #[.int .i64 g.w, .int .i64 g.h] := (hg4.block _ HB3.lt (fun e => by have := ha _ e.symm; omega)).trans HB3
      have HL4 : Hid ((l ++ [p]).length = k + 1) := Lib.hid (by rw [List.length_append, HL.out]; rfl)
      have HP4 : Hid (∀ j : Nat, j < (l ++ [p]).length → packetOk g (rp (l ++ [p]) j) = true ∧ (rp (l ++ [p]) j).id = (j : Int) + 1) := Lib.hid (fun j hj => by
        by_cases e : j < l.length
        · rw [rp_snoc_lt _ _ _ e]; exact HP.out j e
        · have e2 : j = l.length := by rw [List.length_append] at hj; simp at hj; omega
          subst e2
          rw [rp_snoc_at]
          exact ⟨HPP.out, by rw [HPI.out, HL.out]⟩)
      have HO4 := Lib.hid HO4; have HC4 := Lib.hid HC4; have HG4 := Lib.hid HG4; have HB4 := Lib.hid HB4
      go_roundw
      case rel => exact ⟨k + 1, l ++ [p], by go_num, HL4, hk2, HP4, HO4, HC4, HG4, HB4, by omega⟩
      case measure => simp [intOf]; omega
    · go_wp2
      go_ret
      exact ⟨l, _, rfl, ⟨by rw [HL.out]; exact hk, HP.out⟩, Kd.R_lower HO2.out (by omega), HC2.out, HG2.out⟩
structure TX where
  A : Option Addr
  c : Nat
  lo : Nat
  hi : Nat
def gT (B : Nat) (y : TX) (xs : List Int) (W : World) : Prop := B ≤ y.lo ∧ y.lo ≤ y.hi ∧ y.hi ≤ W.heap.size ∧ RU (Kd.int .i64) 3 W y.lo y.hi (.slice y.A xs.length y.c) xs
theorem gT.below {B : Nat} {y : TX} {xs : List Int} {W W1 : World} (h : gT B y xs W) (hb : Below W.heap.size W W1) : gT B y xs W1 := ⟨h.1, h.2.1, Nat.le_trans h.2.2.1 hb.size, h.2.2.2.below hb⟩
theorem gT.grown {B b : Nat} {y : TX} {xs : List Int} {W W1 : World} (h : gT B y xs W) (hg : W.grownBy W1 (some b)) (hb : b < B) : gT B y xs W1 :=
  ⟨h.1, h.2.1, Nat.le_trans h.2.2.1 hg.size, h.2.2.2.step (fun k h1 _ h3 => hg.block k h3 (fun e => by
    have := h.1
    have := Option.some.inj e
    omega))⟩
theorem gT.of {B : Nat} {xs : List Int} {W W1 : World} {e : Ending} (h : GotTab W W1 xs e) (hb : Below W.heap.size W W1) (hB : B ≤ W.heap.size) : ∃ y : TX, e = .returned (.agg #[.slice y.A xs.length y.c]) ∧ gT B y xs W1 ∧ W.heap.size ≤ y.lo ∧ y.hi ≤ W1.heap.size := by
  obtain ⟨v, rfl, hr⟩ := h
  obtain ⟨A, c, rfl⟩ := Kd.R_slice hr
  exact ⟨⟨A, c, W.heap.size, W1.heap.size⟩, rfl, ⟨hB, hb.size, Nat.le_refl _, RU.of hr (Nat.le_refl _) (Nat.le_refl _)⟩, Nat.le_refl _, Nat.le_refl _⟩
theorem spec_PacketOk (g : Grid) (p : Packet) (w : World) : Calls Try.prog 68 #[.agg #[.int .i64 g.w, .int .i64 g.h], .agg #[.int .i64 p.id, .int .i64 p.src, .int .i64 p.dst, .int .i64 p.cls, .int .i64 p.len]] w fun e w' => e = .returned (.bool (packetOk g p)) ∧ Below w.heap.size w w' := by
  go_enter Try.func68, Try.ntmps68
  cases h1 : inside p.id 1 9999
  · go_wp2_with (first | (go_at_call 66; refine (spec_l01In _ _ _ _).mono ?_; rintro e w' ⟨rfl, rfl⟩) | (go_at_call 84; refine (spec_l02Has g _ _).mono ?_; rintro e w1 ⟨rfl, hb1⟩; obtain ⟨hc1, hf1, hz1⟩ := bcell hb1; (try simp only [szs] at hz1); have hb2 := far2; obtain ⟨hc2, hf2, hz2⟩ := bcell hb2; (try simp only [szs] at hz2); try (first | obtain ⟨hy1, hy2, hy3, hy4⟩ := lts4 hz2 | obtain ⟨hy1, hy2, hy3⟩ := lts3 hz2 | obtain ⟨hy1, hy2⟩ := lts2 hz2 | have hy1 := lts1 hz2); have hb9 := hb1))
    go_ret
    exact ⟨ret_bool (by simp [packetOk, h1]), bel⟩
  cases h2 : isNode g p.src
  · go_wp2_with (first | (go_at_call 66; refine (spec_l01In _ _ _ _).mono ?_; rintro e w' ⟨rfl, rfl⟩) | (go_at_call 84; refine (spec_l02Has g _ _).mono ?_; rintro e w1 ⟨rfl, hb1⟩; obtain ⟨hc1, hf1, hz1⟩ := bcell hb1; (try simp only [szs] at hz1); have hb2 := far2; obtain ⟨hc2, hf2, hz2⟩ := bcell hb2; (try simp only [szs] at hz2); try (first | obtain ⟨hy1, hy2, hy3, hy4⟩ := lts4 hz2 | obtain ⟨hy1, hy2, hy3⟩ := lts3 hz2 | obtain ⟨hy1, hy2⟩ := lts2 hz2 | have hy1 := lts1 hz2); have hb9 := hb1))
    go_ret
    exact ⟨ret_bool (by simp [packetOk, h2]), bel⟩
  cases h3 : isNode g p.dst
  · go_wp2_with (first | (go_at_call 66; refine (spec_l01In _ _ _ _).mono ?_; rintro e w' ⟨rfl, rfl⟩) | (go_at_call 84; refine (spec_l02Has g _ _).mono ?_; rintro e w1 ⟨rfl, hb1⟩; obtain ⟨hc1, hf1, hz1⟩ := bcell hb1; (try simp only [szs] at hz1); have hb2 := far2; obtain ⟨hc2, hf2, hz2⟩ := bcell hb2; (try simp only [szs] at hz2); try (first | obtain ⟨hy1, hy2, hy3, hy4⟩ := lts4 hz2 | obtain ⟨hy1, hy2, hy3⟩ := lts3 hz2 | obtain ⟨hy1, hy2⟩ := lts2 hz2 | have hy1 := lts1 hz2); have hb9 := hb1))
    go_ret
    exact ⟨ret_bool (by simp [packetOk, h3]), bel⟩
  by_cases h4 : p.src = p.dst
  · have e4 : (p.src != p.dst) = false := bne_eq_false_iff_eq.2 h4
    have H4 := Lib.hid h4
    clear h4
    go_wp2_with (first | (go_at_call 66; refine (spec_l01In _ _ _ _).mono ?_; rintro e w' ⟨rfl, rfl⟩) | (go_at_call 84; refine (spec_l02Has g _ _).mono ?_; rintro e w1 ⟨rfl, hb1⟩; obtain ⟨hc1, hf1, hz1⟩ := bcell hb1; (try simp only [szs] at hz1); have hb2 := far2; obtain ⟨hc2, hf2, hz2⟩ := bcell hb2; (try simp only [szs] at hz2); try (first | obtain ⟨hy1, hy2, hy3, hy4⟩ := lts4 hz2 | obtain ⟨hy1, hy2, hy3⟩ := lts3 hz2 | obtain ⟨hy1, hy2⟩ := lts2 hz2 | have hy1 := lts1 hz2); have hb9 := hb1))
    go_ret
    exact ⟨ret_bool (by simp [packetOk, H4.out]), bel⟩
  have e4 : (p.src != p.dst) = true := bne_iff_ne.2 h4
  have H4 := Lib.hid h4
  clear h4
  cases h5 : inside p.cls 0 1
  · go_wp2_with (first | (go_at_call 66; refine (spec_l01In _ _ _ _).mono ?_; rintro e w' ⟨rfl, rfl⟩) | (go_at_call 84; refine (spec_l02Has g _ _).mono ?_; rintro e w1 ⟨rfl, hb1⟩; obtain ⟨hc1, hf1, hz1⟩ := bcell hb1; (try simp only [szs] at hz1); have hb2 := far2; obtain ⟨hc2, hf2, hz2⟩ := bcell hb2; (try simp only [szs] at hz2); try (first | obtain ⟨hy1, hy2, hy3, hy4⟩ := lts4 hz2 | obtain ⟨hy1, hy2, hy3⟩ := lts3 hz2 | obtain ⟨hy1, hy2⟩ := lts2 hz2 | have hy1 := lts1 hz2); have hb9 := hb1))
    go_ret
    exact ⟨ret_bool (by simp [packetOk, h5]), bel⟩
  · go_wp2_with (first | (go_at_call 66; refine (spec_l01In _ _ _ _).mono ?_; rintro e w' ⟨rfl, rfl⟩) | (go_at_call 84; refine (spec_l02Has g _ _).mono ?_; rintro e w1 ⟨rfl, hb1⟩; obtain ⟨hc1, hf1, hz1⟩ := bcell hb1; (try simp only [szs] at hz1); have hb2 := far2; obtain ⟨hc2, hf2, hz2⟩ := bcell hb2; (try simp only [szs] at hz2); try (first | obtain ⟨hy1, hy2, hy3, hy4⟩ := lts4 hz2 | obtain ⟨hy1, hy2, hy3⟩ := lts3 hz2 | obtain ⟨hy1, hy2⟩ := lts2 hz2 | have hy1 := lts1 hz2); have hb9 := hb1))
    go_ret
    exact ⟨ret_bool (by simp [packetOk, h1, h2, h3, H4.out, h5]), bel⟩

theorem impl_ClassesOk (m : Mesh) (pa pb : List Int) (A B C : Option Addr) (c d k : Nat) (w : World) (hr : Kd.C (Kd.int .i64) w A m.br.length m.br) (hn : m.br.length ≤ 2097152) (ha : Kd.C (Kd.int .i64) w B pa.length pa) (hka : pa.length ≤ 2097152) (hb : Kd.C (Kd.int .i64) w C pb.length pb) (hkb : pb.length ≤ 2097152) :
    Calls Try.prog 28 #[.agg #[.int .i64 m.g.w, .int .i64 m.g.h, .slice A m.br.length c], .agg #[.slice B pa.length d, .slice C pb.length k]] w fun e w' => e = .returned (.bool (classesOk m pa pb)) ∧ Below w.heap.size w w' := by
  go_enter Try.func28, Try.ntmps28
  cases h1 : tableOk m pa
  · go_wp2_with (first | (go_at_call 54; refine (impl_TableOk m pa A B _ _ _ (by exact Kd.C_below hr bel) hn (by exact Kd.C_below ha bel) hka).mono ?_; rintro e w1 ⟨rfl, hb1⟩; obtain ⟨hc1, hf1, hz1⟩ := bcell hb1; (try simp only [szs] at hz1); have hb2 := far2; obtain ⟨hc2, hf2, hz2⟩ := bcell hb2; (try simp only [szs] at hz2); try (first | obtain ⟨hy1, hy2, hy3, hy4⟩ := lts4 hz2 | obtain ⟨hy1, hy2, hy3⟩ := lts3 hz2 | obtain ⟨hy1, hy2⟩ := lts2 hz2 | have hy1 := lts1 hz2); have hb9 := hb1))
    go_ret
    exact ⟨ret_bool (by simp [classesOk, h1]), bel⟩
  · go_wp2_with (first | (go_at_call_of 54 pa; refine (impl_TableOk m pa A B _ _ _ (by exact Kd.C_below hr bel) hn (by exact Kd.C_below ha bel) hka).mono ?_; rintro e w1 ⟨rfl, hb1⟩; obtain ⟨hc1, hf1, hz1⟩ := bcell hb1; (try simp only [szs] at hz1); have hb2 := far2; obtain ⟨hc2, hf2, hz2⟩ := bcell hb2; (try simp only [szs] at hz2); try (first | obtain ⟨hy1, hy2, hy3, hy4⟩ := lts4 hz2 | obtain ⟨hy1, hy2, hy3⟩ := lts3 hz2 | obtain ⟨hy1, hy2⟩ := lts2 hz2 | have hy1 := lts1 hz2); have hb9 := hb1) | (go_at_call_of 54 pb; refine (impl_TableOk m pb A C _ _ _ (by exact Kd.C_below hr bel) hn (by exact Kd.C_below hb bel) hkb).mono ?_; rintro e w1 ⟨rfl, hb1⟩; obtain ⟨hc1, hf1, hz1⟩ := bcell hb1; (try simp only [szs] at hz1); have hb2 := far2; obtain ⟨hc2, hf2, hz2⟩ := bcell hb2; (try simp only [szs] at hz2); try (first | obtain ⟨hy1, hy2, hy3, hy4⟩ := lts4 hz2 | obtain ⟨hy1, hy2, hy3⟩ := lts3 hz2 | obtain ⟨hy1, hy2⟩ := lts2 hz2 | have hy1 := lts1 hz2); have hb9 := hb1))
    go_ret
    exact ⟨ret_bool (by simp [classesOk, h1]), bel⟩
theorem spec_ClassesOk (m : Mesh) (pa pb : List Int) (A B C : Option Addr) (c d k : Nat) (w : World) (hr : Kd.C (Kd.int .i64) w A m.br.length m.br) (hn : m.br.length ≤ 2097152) (ha : Kd.C (Kd.int .i64) w B pa.length pa) (hka : pa.length ≤ 2097152) (hb : Kd.C (Kd.int .i64) w C pb.length pb) (hkb : pb.length ≤ 2097152) :
    Calls Try.prog 43 #[.agg #[.int .i64 m.g.w, .int .i64 m.g.h, .slice A m.br.length c], .agg #[.slice B pa.length d, .slice C pb.length k]] w fun e w' => e = .returned (.bool (classesOk m pa pb)) ∧ Below w.heap.size w w' := by
  go_enter Try.func43, Try.ntmps43
  cases h1 : tableOk m pa
  · go_wp2_with (first | (go_at_call 63; refine (spec_TableOk m pa A B _ _ _ (by exact Kd.C_below hr bel) hn (by exact Kd.C_below ha bel) hka).mono ?_; rintro e w1 ⟨rfl, hb1⟩; obtain ⟨hc1, hf1, hz1⟩ := bcell hb1; (try simp only [szs] at hz1); have hb2 := far2; obtain ⟨hc2, hf2, hz2⟩ := bcell hb2; (try simp only [szs] at hz2); try (first | obtain ⟨hy1, hy2, hy3, hy4⟩ := lts4 hz2 | obtain ⟨hy1, hy2, hy3⟩ := lts3 hz2 | obtain ⟨hy1, hy2⟩ := lts2 hz2 | have hy1 := lts1 hz2); have hb9 := hb1))
    go_ret
    exact ⟨ret_bool (by simp [classesOk, h1]), bel⟩
  · go_wp2_with (first | (go_at_call_of 63 pa; refine (spec_TableOk m pa A B _ _ _ (by exact Kd.C_below hr bel) hn (by exact Kd.C_below ha bel) hka).mono ?_; rintro e w1 ⟨rfl, hb1⟩; obtain ⟨hc1, hf1, hz1⟩ := bcell hb1; (try simp only [szs] at hz1); have hb2 := far2; obtain ⟨hc2, hf2, hz2⟩ := bcell hb2; (try simp only [szs] at hz2); try (first | obtain ⟨hy1, hy2, hy3, hy4⟩ := lts4 hz2 | obtain ⟨hy1, hy2, hy3⟩ := lts3 hz2 | obtain ⟨hy1, hy2⟩ := lts2 hz2 | have hy1 := lts1 hz2); have hb9 := hb1) | (go_at_call_of 63 pb; refine (spec_TableOk m pb A C _ _ _ (by exact Kd.C_below hr bel) hn (by exact Kd.C_below hb bel) hkb).mono ?_; rintro e w1 ⟨rfl, hb1⟩; obtain ⟨hc1, hf1, hz1⟩ := bcell hb1; (try simp only [szs] at hz1); have hb2 := far2; obtain ⟨hc2, hf2, hz2⟩ := bcell hb2; (try simp only [szs] at hz2); try (first | obtain ⟨hy1, hy2, hy3, hy4⟩ := lts4 hz2 | obtain ⟨hy1, hy2, hy3⟩ := lts3 hz2 | obtain ⟨hy1, hy2⟩ := lts2 hz2 | have hy1 := lts1 hz2); have hb9 := hb1))
    go_ret
    exact ⟨ret_bool (by simp [classesOk, h1]), bel⟩

theorem impl_tableFor_b (pa pb : List Int) (B C : Option Addr) (d k : Nat) (cl : Int) (hc : (cl == 1) = true) (w : World) :
    Calls Try.prog 56 #[.agg #[.slice B pa.length d, .slice C pb.length k], .int .i64 cl] w fun e w' => e = .returned (.agg #[.slice C pb.length k]) ∧ Below w.heap.size w w' := by
  go_enter Try.func56, Try.ntmps56
  go_wp2
  exact bodyPost_ret (v := .agg #[.slice C pb.length k]) (by simp [results, Try.results56, go_sem]) rfl ⟨rfl, bel⟩
theorem impl_tableFor_a (pa pb : List Int) (B C : Option Addr) (d k : Nat) (cl : Int) (hc : (cl == 1) = false) (w : World) :
    Calls Try.prog 56 #[.agg #[.slice B pa.length d, .slice C pb.length k], .int .i64 cl] w fun e w' => e = .returned (.agg #[.slice B pa.length d]) ∧ Below w.heap.size w w' := by
  go_enter Try.func56, Try.ntmps56
  go_wp2
  exact bodyPost_ret (v := .agg #[.slice B pa.length d]) (by simp [results, Try.results56, go_sem]) rfl ⟨rfl, bel⟩

theorem impl_areInside (l : List Int) (lo hi : Int) (A : Option Addr) (c : Nat) (w : World) (hr : Kd.C (Kd.int .i64) w A l.length l) (hn : l.length ≤ 2097152) :
    Calls Try.prog 31 #[.slice A l.length c, .int .i64 lo, .int .i64 hi] w fun e w' => e = .returned (.bool (allI l.length (fun i => inside (ri l i) lo hi))) ∧ w = w' := by
  go_enter Try.func31, Try.ntmps31
  go_wp2
  go_loop [11] (fun i => ∃ k : Nat, i = .int .i64 k ∧ k ≤ l.length ∧ Hid (∀ j : Nat, j < k → inside (ri l j) lo hi = true)) (fun i => l.length - (intOf i).toNat)
  case atStart => exact ⟨0, rfl, Nat.zero_le _, Lib.hid fun j h => absurd h (Nat.not_lt_zero _)⟩
  case round =>
    obtain ⟨k, rfl, hk, HA⟩ := hrel
    by_cases hlt : k < l.length
    · obtain ⟨b, off, rfl, hb, hx⟩ := rdI_at hr k hlt
      have hxk := hx k hlt
      clear hx
      cases h1 : inside (ri l k) lo hi
      · have H1 := Lib.hid h1
        go_wp2_with (go_at_call 16; refine (impl_inside _ _ _ _).mono ?_; rintro e w' ⟨rfl, rfl⟩)
        go_ret
        exact ⟨ret_bool (allI_false k hlt H1.out).symm, rfl⟩
      · have H1 := Lib.hid h1
        go_wp2_with (go_at_call 16; refine (impl_inside _ _ _ _).mono ?_; rintro e w' ⟨rfl, rfl⟩)
        go_round
        case rel => exact ⟨k + 1, by go_num, by omega, Lib.hid (upto HA.out H1.out)⟩
        case measure => simp [intOf]; omega
    · go_wp2
      go_ret
      exact ⟨ret_bool (allI_true (fun j hj => HA.out j (by omega))).symm, rfl⟩
theorem flitOk_1 {g : Grid} {f : Flit} (h : isNode g f.dst = false) : flitOk g f = false := by simp [flitOk, h]
theorem flitOk_2 {g : Grid} {f : Flit} (h : inside f.cls 0 1 = false) : flitOk g f = false := by simp [flitOk, h]
theorem flitOk_3 {g : Grid} {f : Flit} (h1 : isNode g f.dst = true) (h2 : inside f.cls 0 1 = true) : flitOk g f = true := by simp [flitOk, h1, h2]

set_option maxHeartbeats 1000000 in
theorem impl_areFlits (g : Grid) (l : List Flit) (A : Option Addr) (c : Nat) (w : World) (hr : kF.C w A l.length l) (hn : l.length ≤ 2097152) :
    Calls Try.prog 30 #[.agg #[.int .i64 g.w, .int .i64 g.h], .slice A l.length c] w fun e w' => e = .returned (.bool (areFl g l)) ∧ Below w.heap.size w w' := by
  go_enter Try.func30, Try.ntmps30
  go_wp2
  go_loopw [9] (fun i wr => ∃ k : Nat, i = .int .i64 k ∧ k ≤ l.length ∧ Hid (∀ j : Nat, j < k → flitOk g (rf l j) = true) ∧ Below (w.alloc (.cells #[.int .i64 g.w, .int .i64 g.h] 25)).heap.size (w.alloc (.cells #[.int .i64 g.w, .int .i64 g.h] 25)) wr) (fun i _ => l.length - (intOf i).toNat)
  case atStart => exact ⟨0, rfl, Nat.zero_le _, Lib.hid fun j h => absurd h (Nat.not_lt_zero _), bel⟩
  case round =>
    obtain ⟨k, rfl, hk, HA, HB⟩ := hrel
    obtain ⟨hc0, hf0, hz0⟩ := bcell HB
    simp only [szs] at hz0
    have yy1 := lts1 hz0
    by_cases hlt : k < l.length
    · obtain ⟨b, off, rfl, hb, p0, p1, p2, p3, p4⟩ := rdFl_at hr k hlt
      obtain ⟨z1, z2, z3, z4, z5, z6⟩ := more hb
      have i0 : (0 : Int) ≤ (k : Int) := by omega
      have i1 : (k : Int) < (l.length : Int) := by omega
      cases h1 : isNode g (rf l k).dst
      · have H1 := Lib.hid h1
        go_wp2_with (first | (go_at_call 32; refine (impl_isNode g _ _).mono ?_; rintro e w1 ⟨rfl, hb1⟩; obtain ⟨hc1, hf1, hz1⟩ := bcell hb1; (try simp only [szs] at hz1); have hb2 := far2; obtain ⟨hc2, hf2, hz2⟩ := bcell hb2; (try simp only [szs] at hz2); try (first | obtain ⟨hy1, hy2, hy3, hy4⟩ := lts4 hz2 | obtain ⟨hy1, hy2, hy3⟩ := lts3 hz2 | obtain ⟨hy1, hy2⟩ := lts2 hz2 | have hy1 := lts1 hz2); have hb9 := hb1) | (go_at_call 16; refine (impl_inside _ _ _ _).mono ?_; rintro e w' ⟨rfl, rfl⟩))
        go_ret
        exact ⟨ret_bool (areFl_no k hlt (flitOk_1 H1.out)).symm, bel⟩
      cases h2 : inside (rf l k).cls 0 1
      · have H1 := Lib.hid h1
        have H2 := Lib.hid h2
        go_wp2_with (first | (go_at_call 32; refine (impl_isNode g _ _).mono ?_; rintro e w1 ⟨rfl, hb1⟩; obtain ⟨hc1, hf1, hz1⟩ := bcell hb1; (try simp only [szs] at hz1); have hb2 := far2; obtain ⟨hc2, hf2, hz2⟩ := bcell hb2; (try simp only [szs] at hz2); try (first | obtain ⟨hy1, hy2, hy3, hy4⟩ := lts4 hz2 | obtain ⟨hy1, hy2, hy3⟩ := lts3 hz2 | obtain ⟨hy1, hy2⟩ := lts2 hz2 | have hy1 := lts1 hz2); have hb9 := hb1) | (go_at_call 16; refine (impl_inside _ _ _ _).mono ?_; rintro e w' ⟨rfl, rfl⟩))
        go_ret
        exact ⟨ret_bool (areFl_no k hlt (flitOk_2 H2.out)).symm, bel⟩
      · have H1 := Lib.hid h1
        have H2 := Lib.hid h2
        go_wp2_with (first | (go_at_call 32; refine (impl_isNode g _ _).mono ?_; rintro e w1 ⟨rfl, hb1⟩; obtain ⟨hc1, hf1, hz1⟩ := bcell hb1; (try simp only [szs] at hz1); have hb2 := far2; obtain ⟨hc2, hf2, hz2⟩ := bcell hb2; (try simp only [szs] at hz2); try (first | obtain ⟨hy1, hy2, hy3, hy4⟩ := lts4 hz2 | obtain ⟨hy1, hy2, hy3⟩ := lts3 hz2 | obtain ⟨hy1, hy2⟩ := lts2 hz2 | have hy1 := lts1 hz2); have hb9 := hb1) | (go_at_call 16; refine (impl_inside _ _ _ _).mono ?_; rintro e w' ⟨rfl, rfl⟩))
        go_roundw
        case rel => exact ⟨k + 1, by go_num, by omega, Lib.hid (upto HA.out (flitOk_3 H1.out H2.out)), bel⟩
        case measure => simp [intOf]; omega
    · go_wp2
      go_ret
      exact ⟨ret_bool (areFl_yes (fun j hj => HA.out j (by omega))).symm, bel⟩
set_option maxHeartbeats 1000000 in
theorem spec_l15Flits (g : Grid) (l : List Flit) (A : Option Addr) (c : Nat) (w : World) (hr : kF.C w A l.length l) (hn : l.length ≤ 2097152) :
  Calls Try.prog 67 #[.agg #[.int .i64 g.w, .int .i64 g.h], .slice A l.length c] w fun e w' => e = .returned (.bool (areFl g l)) ∧ Below w.heap.size w w' := by
 go_enter Try.func67, Try.ntmps67
 go_wp2
 go_loopw [5] (fun i wr => ∃ k : Nat, i = .int .i64 k ∧ k ≤ l.length ∧ Hid (∀ j : Nat, j < k → flitOk g (rf l j) = true) ∧ Below (w.alloc (.cells #[.int .i64 g.w, .int .i64 g.h] 25)).heap.size (w.alloc (.cells #[.int .i64 g.w, .int .i64 g.h] 25)) wr) (fun i _ => l.length - (intOf i).toNat)
 case atStart => exact ⟨0, rfl, Nat.zero_le _, Lib.hid fun j h => absurd h (Nat.not_lt_zero _), bel⟩
 case round =>
  obtain ⟨k, rfl, hk, HA, HB⟩ := hrel
  obtain ⟨hc0, hf0, hz0⟩ := bcell HB
  simp only [szs] at hz0
  have yy1 := lts1 hz0
  by_cases hlt : k < l.length
  ·obtain ⟨b, off, rfl, hb, p0, p1, p2, p3, p4⟩ := rdFl_at hr k hlt
   obtain ⟨z1, z2, z3, z4, z5, z6⟩ := more hb
   have i0 : (0 : Int) ≤ (k : Int) := by omega
   have i1 : (k : Int) < (l.length : Int) := by omega
   cases h1 : isNode g (rf l k).dst
   ·have H1 := Lib.hid h1
    go_wp2_with fail
    refine wp_region_far ((w.alloc (.cells #[.int .i64 g.w, .int .i64 g.h] 25))) (by kernel_rfl) (by kernel_rfl) bel ?_
    have hqc := far_cell ((w.alloc (.cells #[.int .i64 g.w, .int .i64 g.h] 25)))
    have hqf := far_frozen ((w.alloc (.cells #[.int .i64 g.w, .int .i64 g.h] 25)))
    repeat (first | go_big_quiet_step (first | (go_at_call 84; exact far_call (Calls.says (spec_l02Has g (rf l k).dst _) (congrArg Value.bool H1.out)))) | quiet_step (first | (go_at_call 84; exact far_call (Calls.says (spec_l02Has g (rf l k).dst _) (congrArg Value.bool H1.out)))))
    refine wpQuiet_nil ?_
    intro wq hbq
    clear hqc hqf
    obtain ⟨hcq, hfq, hzq⟩ := bcell hbq
    try simp only [szs] at hzq
    go_wp2
    go_ret
    exact ⟨ret_bool (areFl_no k hlt (flitOk_1 H1.out)).symm, bel⟩
   cases h2 : inside (rf l k).cls 0 1
   ·have H1 := Lib.hid h1
    have H2 := Lib.hid h2
    go_wp2_with fail
    refine wp_region_far ((w.alloc (.cells #[.int .i64 g.w, .int .i64 g.h] 25))) (by kernel_rfl) (by kernel_rfl) bel ?_
    have hqc := far_cell ((w.alloc (.cells #[.int .i64 g.w, .int .i64 g.h] 25)))
    have hqf := far_frozen ((w.alloc (.cells #[.int .i64 g.w, .int .i64 g.h] 25)))
    repeat (first | go_big_quiet_step (first | (go_at_call 84; exact far_call (Calls.says (spec_l02Has g (rf l k).dst _) (congrArg Value.bool H1.out))) | (go_at_call 66; exact far_same (Calls.says (spec_l01In (rf l k).cls 0 1 _) (congrArg Value.bool H2.out)))) | quiet_step (first | (go_at_call 84; exact far_call (Calls.says (spec_l02Has g (rf l k).dst _) (congrArg Value.bool H1.out))) | (go_at_call 66; exact far_same (Calls.says (spec_l01In (rf l k).cls 0 1 _) (congrArg Value.bool H2.out)))))
    refine wpQuiet_nil ?_
    intro wq hbq
    clear hqc hqf
    obtain ⟨hcq, hfq, hzq⟩ := bcell hbq
    try simp only [szs] at hzq
    go_wp2
    go_ret
    exact ⟨ret_bool (areFl_no k hlt (flitOk_2 H2.out)).symm, bel⟩
   ·have H1 := Lib.hid h1
    have H2 := Lib.hid h2
    go_wp2_with fail
    refine wp_region_far ((w.alloc (.cells #[.int .i64 g.w, .int .i64 g.h] 25))) (by kernel_rfl) (by kernel_rfl) bel ?_
    have hqc := far_cell ((w.alloc (.cells #[.int .i64 g.w, .int .i64 g.h] 25)))
    have hqf := far_frozen ((w.alloc (.cells #[.int .i64 g.w, .int .i64 g.h] 25)))
    repeat (first | go_big_quiet_step (first | (go_at_call 84; exact far_call (Calls.says (spec_l02Has g (rf l k).dst _) (congrArg Value.bool H1.out))) | (go_at_call 66; exact far_same (Calls.says (spec_l01In (rf l k).cls 0 1 _) (congrArg Value.bool H2.out)))) | quiet_step (first | (go_at_call 84; exact far_call (Calls.says (spec_l02Has g (rf l k).dst _) (congrArg Value.bool H1.out))) | (go_at_call 66; exact far_same (Calls.says (spec_l01In (rf l k).cls 0 1 _) (congrArg Value.bool H2.out)))))
    refine wpQuiet_nil ?_
    intro wq hbq
    clear hqc hqf
    obtain ⟨hcq, hfq, hzq⟩ := bcell hbq
    try simp only [szs] at hzq
    go_wp2
    go_roundw
    case rel => exact ⟨k + 1, by go_num, by omega, Lib.hid (upto HA.out (flitOk_3 H1.out H2.out)), bel⟩
    case measure => simp [intOf]; omega
  ·go_wp2
   go_ret
   exact ⟨ret_bool (areFl_yes (fun j hj => HA.out j (by omega))).symm, bel⟩
section
variable {ops : Array Oper} {rest : List Oper} {o : Oper} {a : Act} {Q : Exit → Act → World → Prop}
theorem app_F {W0 W : World} (hgd : o.guard = none) (s x : Operand)
    (ho : o.op = .call { callee := .builtin .append, args := #[s, x], argTypes := #[68, 68] })
    (v : Value) (xs : List Flit) (q : Flit) (hs : a.eval s = v) (hx : a.eval x = .slice (some ⟨W.heap.size, 0, none⟩) 1 1)
    (HO : kF.R 77 W W0.heap.size (fun _ => True) v xs) (HB : Below W0.heap.size W0 W) (hl : xs.length ≤ 100000000)
    (h : ∀ v1 w1, kF.R 77 w1 W0.heap.size (fun _ => True) v1 (xs ++ [q]) → Below W0.heap.size W0 w1 → wpList Try.prog ops Q rest (a.put o.dst v1) w1) :
    wpList Try.prog ops Q (o :: rest) a (W.alloc (.cells #[.int .i64 q.pk, .int .i64 q.dst, .int .i64 q.cls, .bool q.head, .bool q.tail] 77)) :=
  app_own kF hgd s x 68 77 (.agg #[.int .i64 0, .int .i64 0, .int .i64 0, .bool false, .bool false]) 32 ho Try.underlying68 info_F rfl (by decide) (by omega) v xs q (fCells q) hs hx rfl HO HB (by omega) h
end
theorem clsOnly_take_len (l : List Flit) (c : Int) (k : Nat) : (clsOnly (l.take k) c).length ≤ k :=
  Nat.le_trans (List.length_filter_le _ _) (by rw [List.length_take]; omega)
theorem clsOnly_yes {l : List Flit} {c : Int} (k : Nat) (hk : k < l.length) (h : (rf l k).cls = c) : clsOnly (l.take (k + 1)) c = clsOnly (l.take k) c ++ [rf l k] := by
  rw [clsOnly_take k hk, if_pos (by simp [h])]
theorem clsOnly_no {l : List Flit} {c : Int} (k : Nat) (hk : k < l.length) (h : ¬ (rf l k).cls = c) : clsOnly (l.take (k + 1)) c = clsOnly (l.take k) c := by
  rw [clsOnly_take k hk, if_neg (by simp [h])]
set_option maxHeartbeats 1000000 in
theorem impl_ClassOnly (l : List Flit) (x : Int) (A : Option Addr) (c : Nat) (w : World) (hr : kF.C w A l.length l) (hn : l.length ≤ 2097152) :
    Calls Try.prog 29 #[.slice A l.length c, .int .i64 x] w fun e w' => GotF w w' (clsOnly l x) e ∧ Below w.heap.size w w' := by
  go_enter Try.func29, Try.ntmps29
  go_wp2
  go_loopw [5, 11] (fun v i wr => ∃ j : Nat, i = .int .i64 j ∧ j ≤ l.length ∧ kF.R 77 wr w.heap.size (fun _ => True) v (clsOnly (l.take j) x) ∧ Below w.heap.size w wr) (fun _ i _ => l.length - (intOf i).toNat)
  case atStart => exact ⟨0, rfl, Nat.zero_le _, R_empty (W0 := w) _ _ (bw_size bel), bel⟩
  case round =>
    obtain ⟨j, rfl, hj, HO, HB⟩ := hrel
    obtain ⟨Ao, co, rfl⟩ := Kd.R_slice HO
    have hlen := clsOnly_take_len l x j
    obtain ⟨hc0, hf0, hz0⟩ := bcell HB
    by_cases hlt : j < l.length
    · obtain ⟨b, off, rfl, hbl, p0, p1, p2, p3, p4⟩ := rdFl_at hr j hlt
      by_cases e1 : (rf l j).cls = x
      · have f1 : ((rf l j).cls == x) = true := beq_iff_eq.2 e1
        have HS := Lib.hid (clsOnly_yes j hlt e1)
        clear e1
        go_wp2_with (at_builtin; refine app_F (W0 := w) rfl (.tmp 19) (.tmp 21) rfl _ (clsOnly (l.take j) x) (rf l j) rfl (by first | rfl | exact congrArg (fun z => Value.slice (some ⟨z, 0, none⟩) 1 1) (World.size_alloc _ _).symm) (by exact Kd.R_below HO bel) bel (by omega) ?_; intro v1 w1 HO1 HB1; obtain ⟨hc1, hf1, hz1⟩ := bcell HB1; (try simp only [szs] at hz1); have hb2 := HB1; have hb9 := HB1)
        go_roundw
        case rel => exact ⟨j + 1, by go_num, by omega, by rw [HS.out]; exact (by exact Kd.R_below HO1 bel), bel⟩
        case measure => simp [intOf]; omega
      · have f1 : ((rf l j).cls == x) = false := beq_eq_false_iff_ne.2 e1
        have HS := Lib.hid (clsOnly_no j hlt e1)
        clear e1
        go_wp2
        go_roundw
        case rel => exact ⟨j + 1, by go_num, by omega, by rw [HS.out]; exact (by exact Kd.R_below HO bel), bel⟩
        case measure => simp [intOf]; omega
    · go_wp2
      go_ret
      have E : clsOnly (l.take j) x = clsOnly l x := by rw [List.take_of_length_le (by omega)]
      exact ⟨(by rw [← E]; exact ⟨_, rfl, (by exact Kd.R_below HO bel)⟩), bel⟩
theorem stp_refl (w : World) : Stp w w := ⟨Below.refl _ _⟩
theorem stp_drew {w W : World} (h : Stp w W) : Stp w W.drew := ⟨bw_drew h.h⟩
theorem stp_then {w W W' : World} (h : Stp w W) (k : Stp W W') : Stp w W' := ⟨bw_then h.h k.h⟩
theorem GotTab.at {w w' : World} {t : List Int} {e : Ending} (h : GotTab w w' t e) : ∃ A c, e = .returned (.agg #[.slice A t.length c]) ∧ Kd.R (Kd.int .i64) 3 w' w.heap.size (fun _ => True) (.slice A t.length c) t := by
  obtain ⟨v, rfl, hr⟩ := h
  obtain ⟨A, c, rfl⟩ := Kd.R_slice hr
  exact ⟨A, c, rfl, hr⟩
set_option maxHeartbeats 1000000 in
theorem spec_l12Copy (t : List Int) (A : Option Addr) (c : Nat) (w : World) (hr : Kd.C (Kd.int .i64) w A t.length t) (hn : t.length ≤ 2097152) :
    Calls Try.prog 64 #[.agg #[.slice A t.length c]] w fun e w' => GotTab w w' t e ∧ Below w.heap.size w w' := by
  have R := Lib.hid hr
  clear hr
  go_enter Try.func64, Try.ntmps64
  go_wp2_with (at_builtin; (refine copy_int (B := ((w.alloc (.cells #[.slice A t.length c] 30)).alloc (.cells #[.slice none 0 0] 30)).heap.size) rfl (.tmp 3) (.tmp 5) rfl _ t A c rfl rfl (by with_reducible repeat (first | assumption | (refine lit_new ?_; first | done | rfl | (simp only [World.size_alloc, World.size_drew, World.size_setCell]; done)) | exact lit_new (by simp only [World.size_alloc, World.size_drew, World.size_setCell]) | refine lit_stp (by assumption) ?_ | refine lit_alloc _ ?_ | refine lit_drew ?_)) (by simp only [szs]; omega) (by exact Kd.C_below R.out bel) (by simp only [szs]; omega) (by omega) ?_; intro v1 w1 HO1 hb1 ht1; obtain ⟨A1, c1, rfl⟩ := Kd.R_slice HO1; obtain ⟨hc1, hf1, hz1⟩ := bcell hb1; (try simp only [szs] at hz1); have hb2 := far2; obtain ⟨hc2, hf2, hz2⟩ := bcell hb2; (try simp only [szs] at hz2); try (first | obtain ⟨hy1, hy2, hy3, hy4⟩ := lts4 hz2 | obtain ⟨hy1, hy2, hy3⟩ := lts3 hz2 | obtain ⟨hy1, hy2⟩ := lts2 hz2 | have hy1 := lts1 hz2); have hb9 := hb1))
  exact bodyPost_ret (v := .agg #[.slice A1 t.length c1]) (by simp [results, Try.results64, go_sem, *]) rfl ⟨⟨_, rfl, (by apply Kd.R_lower; (with_reducible repeat (first | exact HO1 | apply R_off | (apply R_belowC; assumption))); all_goals (first | omega | (simp only [szs]; omega)))⟩, bel⟩
set_option maxHeartbeats 2000000 in
theorem spec_l15Mesh (m : Mesh) (A : Option Addr) (c : Nat) (w : World) (hr : Kd.C (Kd.int .i64) w A m.br.length m.br) (hn : m.br.length ≤ 2097152) :
    Calls Try.prog 44 #[.agg #[.int .i64 m.g.w, .int .i64 m.g.h, .slice A m.br.length c]] w fun e w' => GotMesh w w' m e ∧ Below w.heap.size w w' := by
  have R := Lib.hid hr
  clear hr
  have xx := (Box.new w w.heap.size #[.int .i64 m.g.w, .int .i64 m.g.h, .slice A m.br.length c] 28 rfl)
  have g0 : (w.alloc (.cells #[.int .i64 m.g.w, .int .i64 m.g.h, .slice A m.br.length c] 28)).cell? ⟨w.heap.size, 0, none⟩ = some (.int .i64 m.g.w) := xx.get 0
  have g1 : (w.alloc (.cells #[.int .i64 m.g.w, .int .i64 m.g.h, .slice A m.br.length c] 28)).cell? ⟨w.heap.size, 1, none⟩ = some (.int .i64 m.g.h) := xx.get 1
  have g2 : (w.alloc (.cells #[.int .i64 m.g.w, .int .i64 m.g.h, .slice A m.br.length c] 28)).cell? ⟨w.heap.size, 2, none⟩ = some (.slice A m.br.length c) := xx.get 2
  clear xx
  go_enter Try.func44, Try.ntmps44
  go_wp2_with fail
  go_region_held3 (fun w' => Below ((w.alloc (.cells #[.int .i64 m.g.w, .int .i64 m.g.h, .slice A m.br.length c] 28))).heap.size ((w.alloc (.cells #[.int .i64 m.g.w, .int .i64 m.g.h, .slice A m.br.length c] 28))) w' ∧ ∀ bq oq, bq < ((w.alloc (.cells #[.int .i64 m.g.w, .int .i64 m.g.h, .slice A m.br.length c] 28))).heap.size → w'.cell? ⟨bq, oq, none⟩ = ((w.alloc (.cells #[.int .i64 m.g.w, .int .i64 m.g.h, .slice A m.br.length c] 28))).cell? ⟨bq, oq, none⟩) (first | exact far_of bel) ( first | (refine copyS_int (B := ((w.alloc (.cells #[.int .i64 m.g.w, .int .i64 m.g.h, .slice A m.br.length c] 28)).alloc (.cells #[.int .i64 0, .int .i64 0, .slice none 0 0] 28)).heap.size) (by rfl) (.tmp 5) (.tmp 7) rfl _ m.br A c rfl rfl (by with_reducible repeat (first | assumption | (refine lit_new ?_; first | done | rfl | (simp only [World.size_alloc, World.size_drew, World.size_setCell]; done)) | exact lit_new (by simp only [World.size_alloc, World.size_drew, World.size_setCell]) | refine lit_stp (by assumption) ?_ | refine lit_alloc _ ?_ | refine lit_drew ?_)) (by simp only [szs]; omega) (by exact Kd.C_below R.out bel) (by simp only [szs]; omega) (by omega) ?_; intro v1 w1 HO1 hb1 ht1; obtain ⟨A1, c1, rfl⟩ := Kd.R_slice HO1; obtain ⟨hc1, hf1, hz1⟩ := bcell hb1; (try simp only [szs] at hz1); have hb2 := far2; obtain ⟨hc2, hf2, hz2⟩ := bcell hb2; (try simp only [szs] at hz2); try (first | obtain ⟨hy1, hy2, hy3, hy4⟩ := lts4 hz2 | obtain ⟨hy1, hy2, hy3⟩ := lts3 hz2 | obtain ⟨hy1, hy2⟩ := lts2 hz2 | have hy1 := lts1 hz2); have hb9 := hb1))
  all_goals go_wp2
  all_goals exact bodyPost_ret (v := .agg #[.int .i64 m.g.w, .int .i64 m.g.h, .slice A1 m.br.length c1]) (by simp [results, Try.results44, go_sem, *]) rfl ⟨⟨_, rfl, (by apply Kd.R_lower; (with_reducible repeat (first | exact HO1 | apply R_off | (apply R_belowC; assumption))); all_goals (first | omega | (simp only [szs]; omega)))⟩, bel⟩
set_option maxHeartbeats 2000000 in
theorem spec_l15Classes (pa pb : List Int) (A B : Option Addr) (c d : Nat) (w : World) (hr : Kd.C (Kd.int .i64) w A pa.length pa) (hn : pa.length ≤ 2097152) (hs : Kd.C (Kd.int .i64) w B pb.length pb) (hm : pb.length ≤ 2097152) :
    Calls Try.prog 45 #[.agg #[.slice A pa.length c, .slice B pb.length d]] w fun e w' => GotCls w w' pa pb e ∧ Below w.heap.size w w' := by
  have R := Lib.hid hr
  have S := Lib.hid hs
  clear hr hs
  have xx := (Box.new w w.heap.size #[.slice A pa.length c, .slice B pb.length d] 32 rfl)
  have g0 : (w.alloc (.cells #[.slice A pa.length c, .slice B pb.length d] 32)).cell? ⟨w.heap.size, 0, none⟩ = some (.slice A pa.length c) := xx.get 0
  have g1 : (w.alloc (.cells #[.slice A pa.length c, .slice B pb.length d] 32)).cell? ⟨w.heap.size, 1, none⟩ = some (.slice B pb.length d) := xx.get 1
  clear xx
  go_enter Try.func45, Try.ntmps45
  go_wp2_with fail
  go_region_held3 (fun w' => Below ((w.alloc (.cells #[.slice A pa.length c, .slice B pb.length d] 32))).heap.size ((w.alloc (.cells #[.slice A pa.length c, .slice B pb.length d] 32))) w' ∧ ∀ bq oq, bq < ((w.alloc (.cells #[.slice A pa.length c, .slice B pb.length d] 32))).heap.size → w'.cell? ⟨bq, oq, none⟩ = ((w.alloc (.cells #[.slice A pa.length c, .slice B pb.length d] 32))).cell? ⟨bq, oq, none⟩) (first | exact far_of bel) ( first | (go_at_call_of 64 pa; refine (spec_l12Copy pa A c _ (by exact Kd.C_below R.out bel) hn).mono ?_; rintro e wa ⟨hg1, hba⟩; obtain ⟨Aa, ca, rfl, HOA⟩ := hg1.at; have sa := bw_size hba; (try simp only [szs] at sa); have hb1 := hba; obtain ⟨hc1, hf1, hz1⟩ := bcell hb1; (try simp only [szs] at hz1); have hb2 := far2; obtain ⟨hc2, hf2, hz2⟩ := bcell hb2; (try simp only [szs] at hz2); try (first | obtain ⟨hy1, hy2, hy3, hy4⟩ := lts4 hz2 | obtain ⟨hy1, hy2, hy3⟩ := lts3 hz2 | obtain ⟨hy1, hy2⟩ := lts2 hz2 | have hy1 := lts1 hz2); have hb9 := hb1) | (go_at_call_of 64 pb; refine (spec_l12Copy pb B d _ (by exact Kd.C_below S.out bel) hm).mono ?_; rintro e wb ⟨hg1, hbb⟩; obtain ⟨Ab, cb, rfl, HOB⟩ := hg1.at; have sb := bw_size hbb; (try simp only [szs] at sb); have hb1 := hbb; obtain ⟨hc1, hf1, hz1⟩ := bcell hb1; (try simp only [szs] at hz1); have hb2 := far2; obtain ⟨hc2, hf2, hz2⟩ := bcell hb2; (try simp only [szs] at hz2); try (first | obtain ⟨hy1, hy2, hy3, hy4⟩ := lts4 hz2 | obtain ⟨hy1, hy2, hy3⟩ := lts3 hz2 | obtain ⟨hy1, hy2⟩ := lts2 hz2 | have hy1 := lts1 hz2); have hb9 := hb1))
  all_goals go_wp2
  all_goals exact bodyPost_ret (v := .agg #[.slice Aa pa.length ca, .slice Ab pb.length cb]) (by simp [results, Try.results45, go_sem, *]) rfl ⟨⟨_, _, rfl, (by apply Kd.R_lower; (with_reducible repeat (first | exact HOA | apply R_off | (apply R_belowC; assumption))); all_goals (first | omega | (simp only [szs]; omega))), (by apply Kd.R_lower; (with_reducible repeat (first | exact HOB | apply R_off | (apply R_belowC; assumption))); all_goals (first | omega | (simp only [szs]; omega))), R_apart HOA HOB (by first | omega | (simp only [szs]; omega))⟩, bel⟩
theorem own_lit0 {e g B sz : Nat} {w : World} (h : Lit e w g) (hB : B ≤ g) : w.ownsRow B e sz (.slice (some ⟨g, 0, none⟩) 0 0) 0 [] :=
  ⟨by simp, .inr ⟨g, 0, #[], rfl, hB, h, Nat.le_refl _, Nat.zero_le _, by simp, by simp⟩⟩
theorem FR.nil (w : World) (lo : Nat) : FR w lo [] [] := ⟨rfl, fun i h => absurd h (Nat.not_lt_zero _), fun i j _ h => absurd h (Nat.not_lt_zero _)⟩
theorem FR.snoc {w : World} {lo : Nat} {vs : List Value} {l : List (List Flit)} {u : Value} {y : List Flit} (h : FR w lo vs l) (hu : kF.R 77 w lo (fun _ => True) u y) (ha : ∀ i : Nat, i < l.length → Apart (vr vs i) u) : FR w lo (vs ++ [u]) (l ++ [y]) := by
  have hl := h.len
  have e1 : ∀ i : Nat, i < l.length → vr (vs ++ [u]) i = vr vs i := fun i hi => vr_left (by omega)
  have e2 : vr (vs ++ [u]) l.length = u := by
    have := vr_right (a := vs) (b := [u]) (i := 0)
    rw [Nat.add_zero, hl] at this
    exact this
  refine ⟨by simp [hl], fun i hi => ?_, fun i j hij hj => ?_⟩
  · rw [List.length_append, List.length_singleton] at hi
    by_cases e : i < l.length
    · rw [e1 i e, rl_left e]
      exact h.row i e
    · obtain rfl : i = l.length := by omega
      rw [e2]
      have := rl_right (a := l) (b := [y]) (i := 0)
      rw [Nat.add_zero] at this
      rw [this]
      exact hu
  · rw [List.length_append, List.length_singleton] at hj
    by_cases e : j < l.length
    · rw [e1 i (by omega), e1 j e]
      exact h.ap i j hij e
    · obtain rfl : j = l.length := by omega
      rw [e2, e1 i hij]
      exact ha i hij
theorem FR.other {w w1 : World} {lo base n : Nat} {vs us : List Value} {l : List (List Flit)} {v : Value} (h : FR w lo vs l) (ho : w.ownsRow base 68 1 v n us) (hg : w.grownBy w1 v.ownBlock) : FR w1 lo vs l :=
  ⟨h.len, fun i hi => by obtain ⟨inner, hin⟩ := Kd.R_own (h.row i hi); exact R_grownF (h.row i hi) hg (own_type_ne hin ho (by decide)), h.ap⟩
theorem RF_other {w w1 : World} {lo base n : Nat} {us : List Value} {u : Value} {y : List Flit} {v : Value} (h : kF.R 77 w lo (fun _ => True) u y) (ho : w.ownsRow base 68 1 v n us) (hg : w.grownBy w1 v.ownBlock) : kF.R 77 w1 lo (fun _ => True) u y := by
  obtain ⟨inner, hin⟩ := Kd.R_own h
  exact R_grownF h hg (own_type_ne hin ho (by decide))
def GotOX (w w' : World) (l : List (List Flit)) (e : Ending) : Prop := ∃ A c vs, e = .returned (.slice A l.length c) ∧ w'.ownsRow w.heap.size 68 1 (.slice A l.length c) l.length vs ∧ FR w' w.heap.size vs l
theorem take_snocB (l : List (List Flit)) (k : Nat) (hk : k < l.length) : l.take (k + 1) = l.take k ++ [rl l k] := by
  have : rl l (k : Int) = l[k] := by simp [rl, List.getD_eq_getElem?_getD, hk]
  rw [this, List.take_succ_eq_append_getElem hk]
section
variable {ops : Array Oper} {rest : List Oper} {o : Oper} {a : Act} {Q : Exit → Act → World → Prop}
theorem app_row {B : Nat} {W0 W : World} (hgd : o.guard = none) (s x : Operand)
    (ho : o.op = .call { callee := .builtin .append, args := #[s, x], argTypes := #[33, 33] })
    (v u : Value) (vs : List Value) (l : List (List Flit)) (y : List Flit) (hs : a.eval s = v) (hx : a.eval x = .slice (some ⟨W.heap.size, 0, none⟩) 1 1) (h1 : u.oneCell' = true)
    (HO : W.ownsRow B 68 1 v vs.length vs) (HF : FR W B vs l) (HU : kF.R 77 W B (fun _ => True) u y) (ha : ∀ i : Nat, i < l.length → Apart (vr vs i) u)
    (HB : Below B W0 W) (hB : B ≤ W.heap.size) (hl : vs.length ≤ 10000000)
    (h : ∀ v1 w1, w1.ownsRow B 68 1 v1 (vs ++ [u]).length (vs ++ [u]) → FR w1 B (vs ++ [u]) (l ++ [y]) → Below B W0 w1 → wpList Try.prog ops Q rest (a.put o.dst v1) w1) : wpList Try.prog ops Q (o :: rest) a (W.alloc (.cells #[u] 68)) := by
  refine print_append (P := Try.prog) (w0 := W0) B hgd s x 33 68 (.slice none 0 0) 24 ho Try.underlying33 info_B rfl (by omega) v vs u hs hx h1 HO HB hB (by omega) ?_
  intro v1 w1 hown hb hg hat
  exact h v1 w1 hown ((HF.other HO hg).snoc (RF_other HU HO hg) ha) hb
end
set_option maxHeartbeats 2000000 in
set_option maxRecDepth 100000 in
theorem spec_l15Lists (l : List (List Flit)) (A : Option Addr) (c : Nat) (w : World) (hr : (kB 77).C w A l.length l) (hn : l.length ≤ 2097152) (hm : Hid (∀ x ∈ l, x.length ≤ 2097152)) :
    Calls Try.prog 65 #[.slice A l.length c] w fun e w' => GotOX w w' l e ∧ Below w.heap.size w w' := by
  go_enter Try.func65, Try.ntmps65
  go_wp2
  go_loopw [3, 4] (fun v i wr => ∃ vs : List Value, i = .int .i64 vs.length ∧ vs.length ≤ l.length ∧ Hid (wr.ownsRow w.heap.size 68 1 v vs.length vs) ∧ Hid (FR wr w.heap.size vs (l.take vs.length)) ∧ Below w.heap.size w wr) (fun _ i _ => l.length - (intOf i).toNat)
  case atStart => exact ⟨[], rfl, Nat.zero_le _, Lib.hid (own_lit0 (lit_new rfl) (Nat.le_refl _)), Lib.hid (FR.nil _ _), bel⟩
  case round =>
    obtain ⟨vs, rfl, hk, HO, HF, HB⟩ := hrel
    obtain ⟨Ao, co, rfl⟩ := own_slice HO.out
    have hzr := bw_size HB
    by_cases hlt : vs.length < l.length
    · have i0 : (vs.length : Int) < (l.length : Int) := by omega
      have k0 : (0 : Int) ≤ (vs.length : Int) := by omega
      obtain ⟨b, off, rfl, hb, Ai, ci, p0, hle, hCi⟩ := rdB_at (Kd.C_below hr HB) vs.length hlt
      have hki := hm.out _ (rl_mem hlt)
      have HT := Lib.hid (take_snocB l vs.length hlt)
      have HW : Hid (∀ i : Nat, i < (l.take vs.length).length → Within (vr vs i) w.heap.size wr.heap.size) := Lib.hid (fun i hi => within_R (HF.out.row i hi))
      go_wp2_with (first | (at_builtin; refine copy_F (B := w.heap.size) rfl (.tmp 13) (.tmp 17) rfl _ (rl l vs.length) Ai ci rfl rfl (by with_reducible repeat (first | assumption | (refine lit_new ?_; first | done | rfl | (simp only [World.size_alloc, World.size_drew, World.size_setCell]; done)) | exact lit_new (by simp only [World.size_alloc, World.size_drew, World.size_setCell]) | refine lit_stp (by assumption) ?_ | refine lit_alloc _ ?_ | refine lit_drew ?_)) (by first | omega | (simp only [szs]; omega)) (by exact Kd.C_below hCi bel) (by first | omega | (simp only [szs]; omega)) (by omega) ?_; intro v1 w1 HO1 hb1 ht1; obtain ⟨A1, c1, rfl⟩ := Kd.R_slice HO1; have hz1 := bw_size hb1; (try simp only [szs] at hz1); have HT1 := Lib.hid ht1; clear ht1) | (at_builtin; refine app_row (W0 := w) rfl (.tmp 12) (.tmp 19) rfl _ _ vs (l.take vs.length) (rl l vs.length) rfl (by first | rfl | exact congrArg (fun z => Value.slice (some ⟨z, 0, none⟩) 1 1) (World.size_alloc _ _).symm) rfl (by exact pw_own_below HO.out bel) (by exact HF.out.below bel) HO1 (fun i hi => apart_of (HW.out i hi) HT1.out (fun k => by (try simp only [szs]); omega)) bel (by first | omega | (simp only [szs]; omega)) (by omega) ?_; intro v2 w2 HO2 HF2 HB2))
      go_roundw
      case rel => exact ⟨vs ++ [.slice A1 (rl l vs.length).length c1], by rw [List.length_append, List.length_singleton]; go_num, by simp; omega, Lib.hid HO2, Lib.hid (by rw [List.length_append, List.length_singleton, HT.out]; exact HF2), HB2⟩
      case measure => simp [intOf]; omega
    · have e : vs.length = l.length := by omega
      have HE := Lib.hid e
      have i0 : ¬ (vs.length : Int) < (l.length : Int) := by omega
      clear e
      go_wp2
      have hF := HF.out
      have hO := HO.out
      rw [HE.out, List.take_length] at hF
      go_ret
      refine ⟨⟨Ao, co, vs, by rw [HE.out]; rfl, by rw [HE.out] at hO; exact hO, hF⟩, HB⟩
end Go.Proofs.Ytaihmgbflhbebaa
