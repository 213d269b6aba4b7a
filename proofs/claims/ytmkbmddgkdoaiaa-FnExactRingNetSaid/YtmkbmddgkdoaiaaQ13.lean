/- Lemmas for laws of this seat, for all inputs: Clock Ring Open OpenP NetS NetM NetK. -/
import Derived.Test.YtmkbmddgkdoaiaaQ2
import Derived.RangeFuncBox
import Derived.Test.YtmkbmddgkdoaiaaQ10
import Derived.Test.YtmkbmddgkdoaiaaQ11
import Derived.Test.YtmkbmddgkdoaiaaQ12
import Derived.ProofKit
import Derived.OpenShut
import Derived.SizedLaws
import Derived.WideShapes
import Derived.ChangeSame
import Derived.Test.YtmkbmddgkdoaiaaQ8
set_option linter.unusedVariables false
set_option linter.unusedSimpArgs false
namespace Go.Proofs.Ytmkbmddgkdoaiaa
open Go.RowKit Go.Proofs.YtmkbmddgkdoaiaaW.PrintWords
open NoC
section
variable {P : Program} {ops : Array Oper} {rest : List Oper} {o : Oper} {a : Act} {Q : Exit → Act → World → Prop}
theorem app_intG {W0 W : World} (hgd : o.guard = none) (s x : Operand) (t e : TypeId)
    (ho : o.op = .call { callee := .builtin .append, args := #[s, x], argTypes := #[t, t] })
    (ht : P.underlying t = some (.slice e)) (hinfo : (P.info? e).map (fun i => (i.zero, i.size, i.bytes)) = some (some (.int .i64 0), 1, 8))
    (v : Value) (xs : List Int) (y : Int) (hs : a.eval s = v) (hx : a.eval x = .slice (some ⟨W.heap.size, 0, none⟩) 1 1)
    (HO : Kd.R (Kd.int .i64) e W W0.heap.size (fun _ => True) v xs) (HB : Below W0.heap.size W0 W) (hl : xs.length ≤ 1000000000)
    (h : ∀ v1 w1, Kd.R (Kd.int .i64) e w1 W0.heap.size (fun _ => True) v1 (xs ++ [y]) → Below W0.heap.size W0 w1 → W.grownBy w1 v.ownBlock → (v1.ownBlock = v.ownBlock ∨ ∃ b, v1.ownBlock = some b ∧ W.heap.size ≤ b) → wpList P ops Q rest (a.put o.dst v1) w1) :
    wpList P ops Q (o :: rest) a (W.alloc (.cells #[.int .i64 y] e)) :=
  Kd.R_append (Kd.int .i64) W0.heap.size hgd s x t e (.int .i64 0) 8 ho ht hinfo rfl (by decide) (by omega) v xs y [.int .i64 y] (fun _ => True) (fun _ => False) hs hx rfl (fun _ hk => hk.elim) (fun _ _ => trivial) HO HB HB.size (by omega) h
end
def cwAt (i : Nat) : Int := if i / 4 = i % 4 then 4 else ri [1, 2, 0, 3] ((i / 4 : Nat) : Int)
def cwL (k : Nat) : List Int := (List.range k).map cwAt
theorem cwL_succ (k : Nat) : cwL (k + 1) = cwL k ++ [cwAt k] := by simp [cwL, List.range_succ]
theorem cwL_len (k : Nat) : (cwL k).length = k := by simp [cwL]

theorem R_off2 {e base : Nat} {w w1 : World} {v : Value} {xs : List Int} {b : Nat} {u : Value} (h : Kd.R (Kd.int .i64) e w base (fun _ => True) v xs) (hlo : ∀ k, v.ownBlock = some k → b < k) (he : w1 = w.setCell ⟨b, 0, none⟩ u) : Kd.R (Kd.int .i64) e w1 base (fun _ => True) v xs := by
  subst he
  refine R_grownI h (grownBy_setCell' w b u) ?_
  cases e : v.ownBlock with
  | none => exact .inl rfl
  | some k => right; intro e2; have := hlo k e; injection e2 with e2; omega
theorem lo_step {W : World} {v v1 : Value} {b : Nat} (h : ∀ k, v.ownBlock = some k → b < k) (hat : v1.ownBlock = v.ownBlock ∨ ∃ g, v1.ownBlock = some g ∧ W.heap.size ≤ g) (hb : b < W.heap.size) : ∀ k, v1.ownBlock = some k → b < k := by
  intro k hk
  rcases hat with hat | ⟨g, hg, hle⟩
  · exact h k (by rw [← hat]; exact hk)
  · rw [hg] at hk; injection hk with hk; omega
theorem box_ne {v : Value} {b : Nat} (h : ∀ k, v.ownBlock = some k → b < k) (c : Nat) (hc : c ≤ b) : some c ≠ v.ownBlock := by
  intro e
  have := h c e.symm
  omega

set_option maxHeartbeats 8000000 in
theorem spec_ClockwiseTable (w : World) : Calls Try.prog 10 #[] w fun e w' => GotTab w w' (cwL 16) e ∧ Below w.heap.size w w' := by
 go_enter Try.func10, Try.ntmps10
 go_wp2
 go_loopw [2] (fun i wr => ∃ k : Nat, k ≤ 16 ∧ (∃ v : Value, i = .int .i64 k ∧ Kd.R (Kd.int .i64) 3 wr w.heap.size (fun _ => True) v (cwL (k)) ∧ Boxed wr w.heap.size 28 (.slice none 0 0) ∧ Boxed wr (w.heap.size + 1) 28 v ∧ (∀ k, v.ownBlock = some k → w.heap.size + 1 < k) ∧ w.heap.size + 1 < wr.heap.size ∧ Below w.heap.size w wr)) (fun i _ => 16 - (intOf i).toNat)
 case atStart => exact ⟨0, Nat.zero_le _, .slice none 0 0, rfl, Kd.R_nil _ _ _ _ _, Boxed.alloc (Boxed.new w _ _) _, by have h := Boxed.new (w.alloc (.cells #[.slice none 0 0] 28)) 28 (.slice none 0 0); rw [World.size_alloc] at h; exact h, (fun k h => by simp [Value.ownBlock] at h), by simp only [szs]; omega, bel⟩
 case round =>
  obtain ⟨k, hk, v, rfl, HO, HBR, HBV, hlo, hsz, HB⟩ := hrel
  obtain ⟨Ao, co, rfl⟩ := Kd.R_slice HO
  have hx0 := HBV.cell
  have hf0 := HBV.frozen
  have hsz9 : w.heap.size < wr.heap.size := by omega
  rcases (by omega : k = 0 ∨ k = 1 ∨ k = 2 ∨ k = 3 ∨ k = 4 ∨ k = 5 ∨ k = 6 ∨ k = 7 ∨ k = 8 ∨ k = 9 ∨ k = 10 ∨ k = 11 ∨ k = 12 ∨ k = 13 ∨ k = 14 ∨ k = 15 ∨ k = 16) with rfl | rfl | rfl | rfl | rfl | rfl | rfl | rfl | rfl | rfl | rfl | rfl | rfl | rfl | rfl | rfl | rfl
  ·go_wp2_with (at_builtin; refine app_intG (W0 := w) rfl (.tmp 20) (.tmp 22) 24 3 rfl Try.underlying24 info_int _ _ _ rfl (by first | rfl | exact congrArg (fun z => Value.slice (some ⟨z, 0, none⟩) 1 1) (World.size_alloc _ _).symm) (by exact Kd.R_below HO bel) bel (by rw [cwL_len]; omega) ?_; intro v1 w1 HO1 HB1 hg1 hat1; obtain ⟨A1, c1, rfl⟩ := Kd.R_slice HO1; have HR1 := Boxed.kept (Boxed.alloc HBR _) hg1 (box_ne hlo _ (by omega)); have HV1 := Boxed.kept (Boxed.alloc HBV _) hg1 (box_ne hlo _ (by omega)); have hlo1 := lo_step hlo hat1 (by simp only [szs]; omega); have hsz1 : w.heap.size + 1 < w1.heap.size := Nat.lt_of_lt_of_le (by simp only [szs]; omega) hg1.size; have hx1 := HV1.cell; have hxf := HV1.frozen; clear hx0 hf0)
   go_roundw
   case rel => exact ⟨1, by omega, _, by first | rfl | (simp; done) | go_num, R_off2 (by rw [cwL_succ]; exact HO1) hlo1 rfl, HR1.kept (grownBy_setCell' _ _ _) (by intro e; injection e with e; omega), HV1.set _, hlo1, by simpa only [szs] using hsz1, bw_set _ HB1 (by omega)⟩
   case measure => simp [intOf]
  ·go_wp2_with (at_builtin; refine app_intG (W0 := w) rfl (.tmp 20) (.tmp 22) 24 3 rfl Try.underlying24 info_int _ _ _ rfl (by first | rfl | exact congrArg (fun z => Value.slice (some ⟨z, 0, none⟩) 1 1) (World.size_alloc _ _).symm) (by exact Kd.R_below HO bel) bel (by rw [cwL_len]; omega) ?_; intro v1 w1 HO1 HB1 hg1 hat1; obtain ⟨A1, c1, rfl⟩ := Kd.R_slice HO1; have HR1 := Boxed.kept (Boxed.alloc HBR _) hg1 (box_ne hlo _ (by omega)); have HV1 := Boxed.kept (Boxed.alloc HBV _) hg1 (box_ne hlo _ (by omega)); have hlo1 := lo_step hlo hat1 (by simp only [szs]; omega); have hsz1 : w.heap.size + 1 < w1.heap.size := Nat.lt_of_lt_of_le (by simp only [szs]; omega) hg1.size; have hx1 := HV1.cell; have hxf := HV1.frozen; clear hx0 hf0)
   go_roundw
   case rel => exact ⟨2, by omega, _, by first | rfl | (simp; done) | go_num, R_off2 (by rw [cwL_succ]; exact HO1) hlo1 rfl, HR1.kept (grownBy_setCell' _ _ _) (by intro e; injection e with e; omega), HV1.set _, hlo1, by simpa only [szs] using hsz1, bw_set _ HB1 (by omega)⟩
   case measure => simp [intOf]
  ·go_wp2_with (at_builtin; refine app_intG (W0 := w) rfl (.tmp 20) (.tmp 22) 24 3 rfl Try.underlying24 info_int _ _ _ rfl (by first | rfl | exact congrArg (fun z => Value.slice (some ⟨z, 0, none⟩) 1 1) (World.size_alloc _ _).symm) (by exact Kd.R_below HO bel) bel (by rw [cwL_len]; omega) ?_; intro v1 w1 HO1 HB1 hg1 hat1; obtain ⟨A1, c1, rfl⟩ := Kd.R_slice HO1; have HR1 := Boxed.kept (Boxed.alloc HBR _) hg1 (box_ne hlo _ (by omega)); have HV1 := Boxed.kept (Boxed.alloc HBV _) hg1 (box_ne hlo _ (by omega)); have hlo1 := lo_step hlo hat1 (by simp only [szs]; omega); have hsz1 : w.heap.size + 1 < w1.heap.size := Nat.lt_of_lt_of_le (by simp only [szs]; omega) hg1.size; have hx1 := HV1.cell; have hxf := HV1.frozen; clear hx0 hf0)
   go_roundw
   case rel => exact ⟨3, by omega, _, by first | rfl | (simp; done) | go_num, R_off2 (by rw [cwL_succ]; exact HO1) hlo1 rfl, HR1.kept (grownBy_setCell' _ _ _) (by intro e; injection e with e; omega), HV1.set _, hlo1, by simpa only [szs] using hsz1, bw_set _ HB1 (by omega)⟩
   case measure => simp [intOf]
  ·go_wp2_with (at_builtin; refine app_intG (W0 := w) rfl (.tmp 20) (.tmp 22) 24 3 rfl Try.underlying24 info_int _ _ _ rfl (by first | rfl | exact congrArg (fun z => Value.slice (some ⟨z, 0, none⟩) 1 1) (World.size_alloc _ _).symm) (by exact Kd.R_below HO bel) bel (by rw [cwL_len]; omega) ?_; intro v1 w1 HO1 HB1 hg1 hat1; obtain ⟨A1, c1, rfl⟩ := Kd.R_slice HO1; have HR1 := Boxed.kept (Boxed.alloc HBR _) hg1 (box_ne hlo _ (by omega)); have HV1 := Boxed.kept (Boxed.alloc HBV _) hg1 (box_ne hlo _ (by omega)); have hlo1 := lo_step hlo hat1 (by simp only [szs]; omega); have hsz1 : w.heap.size + 1 < w1.heap.size := Nat.lt_of_lt_of_le (by simp only [szs]; omega) hg1.size; have hx1 := HV1.cell; have hxf := HV1.frozen; clear hx0 hf0)
   go_roundw
   case rel => exact ⟨4, by omega, _, by first | rfl | (simp; done) | go_num, R_off2 (by rw [cwL_succ]; exact HO1) hlo1 rfl, HR1.kept (grownBy_setCell' _ _ _) (by intro e; injection e with e; omega), HV1.set _, hlo1, by simpa only [szs] using hsz1, bw_set _ HB1 (by omega)⟩
   case measure => simp [intOf]
  ·go_wp2_with (at_builtin; refine app_intG (W0 := w) rfl (.tmp 20) (.tmp 22) 24 3 rfl Try.underlying24 info_int _ _ _ rfl (by first | rfl | exact congrArg (fun z => Value.slice (some ⟨z, 0, none⟩) 1 1) (World.size_alloc _ _).symm) (by exact Kd.R_below HO bel) bel (by rw [cwL_len]; omega) ?_; intro v1 w1 HO1 HB1 hg1 hat1; obtain ⟨A1, c1, rfl⟩ := Kd.R_slice HO1; have HR1 := Boxed.kept (Boxed.alloc HBR _) hg1 (box_ne hlo _ (by omega)); have HV1 := Boxed.kept (Boxed.alloc HBV _) hg1 (box_ne hlo _ (by omega)); have hlo1 := lo_step hlo hat1 (by simp only [szs]; omega); have hsz1 : w.heap.size + 1 < w1.heap.size := Nat.lt_of_lt_of_le (by simp only [szs]; omega) hg1.size; have hx1 := HV1.cell; have hxf := HV1.frozen; clear hx0 hf0)
   go_roundw
   case rel => exact ⟨5, by omega, _, by first | rfl | (simp; done) | go_num, R_off2 (by rw [cwL_succ]; exact HO1) hlo1 rfl, HR1.kept (grownBy_setCell' _ _ _) (by intro e; injection e with e; omega), HV1.set _, hlo1, by simpa only [szs] using hsz1, bw_set _ HB1 (by omega)⟩
   case measure => simp [intOf]
  ·go_wp2_with (at_builtin; refine app_intG (W0 := w) rfl (.tmp 20) (.tmp 22) 24 3 rfl Try.underlying24 info_int _ _ _ rfl (by first | rfl | exact congrArg (fun z => Value.slice (some ⟨z, 0, none⟩) 1 1) (World.size_alloc _ _).symm) (by exact Kd.R_below HO bel) bel (by rw [cwL_len]; omega) ?_; intro v1 w1 HO1 HB1 hg1 hat1; obtain ⟨A1, c1, rfl⟩ := Kd.R_slice HO1; have HR1 := Boxed.kept (Boxed.alloc HBR _) hg1 (box_ne hlo _ (by omega)); have HV1 := Boxed.kept (Boxed.alloc HBV _) hg1 (box_ne hlo _ (by omega)); have hlo1 := lo_step hlo hat1 (by simp only [szs]; omega); have hsz1 : w.heap.size + 1 < w1.heap.size := Nat.lt_of_lt_of_le (by simp only [szs]; omega) hg1.size; have hx1 := HV1.cell; have hxf := HV1.frozen; clear hx0 hf0)
   go_roundw
   case rel => exact ⟨6, by omega, _, by first | rfl | (simp; done) | go_num, R_off2 (by rw [cwL_succ]; exact HO1) hlo1 rfl, HR1.kept (grownBy_setCell' _ _ _) (by intro e; injection e with e; omega), HV1.set _, hlo1, by simpa only [szs] using hsz1, bw_set _ HB1 (by omega)⟩
   case measure => simp [intOf]
  ·go_wp2_with (at_builtin; refine app_intG (W0 := w) rfl (.tmp 20) (.tmp 22) 24 3 rfl Try.underlying24 info_int _ _ _ rfl (by first | rfl | exact congrArg (fun z => Value.slice (some ⟨z, 0, none⟩) 1 1) (World.size_alloc _ _).symm) (by exact Kd.R_below HO bel) bel (by rw [cwL_len]; omega) ?_; intro v1 w1 HO1 HB1 hg1 hat1; obtain ⟨A1, c1, rfl⟩ := Kd.R_slice HO1; have HR1 := Boxed.kept (Boxed.alloc HBR _) hg1 (box_ne hlo _ (by omega)); have HV1 := Boxed.kept (Boxed.alloc HBV _) hg1 (box_ne hlo _ (by omega)); have hlo1 := lo_step hlo hat1 (by simp only [szs]; omega); have hsz1 : w.heap.size + 1 < w1.heap.size := Nat.lt_of_lt_of_le (by simp only [szs]; omega) hg1.size; have hx1 := HV1.cell; have hxf := HV1.frozen; clear hx0 hf0)
   go_roundw
   case rel => exact ⟨7, by omega, _, by first | rfl | (simp; done) | go_num, R_off2 (by rw [cwL_succ]; exact HO1) hlo1 rfl, HR1.kept (grownBy_setCell' _ _ _) (by intro e; injection e with e; omega), HV1.set _, hlo1, by simpa only [szs] using hsz1, bw_set _ HB1 (by omega)⟩
   case measure => simp [intOf]
  ·go_wp2_with (at_builtin; refine app_intG (W0 := w) rfl (.tmp 20) (.tmp 22) 24 3 rfl Try.underlying24 info_int _ _ _ rfl (by first | rfl | exact congrArg (fun z => Value.slice (some ⟨z, 0, none⟩) 1 1) (World.size_alloc _ _).symm) (by exact Kd.R_below HO bel) bel (by rw [cwL_len]; omega) ?_; intro v1 w1 HO1 HB1 hg1 hat1; obtain ⟨A1, c1, rfl⟩ := Kd.R_slice HO1; have HR1 := Boxed.kept (Boxed.alloc HBR _) hg1 (box_ne hlo _ (by omega)); have HV1 := Boxed.kept (Boxed.alloc HBV _) hg1 (box_ne hlo _ (by omega)); have hlo1 := lo_step hlo hat1 (by simp only [szs]; omega); have hsz1 : w.heap.size + 1 < w1.heap.size := Nat.lt_of_lt_of_le (by simp only [szs]; omega) hg1.size; have hx1 := HV1.cell; have hxf := HV1.frozen; clear hx0 hf0)
   go_roundw
   case rel => exact ⟨8, by omega, _, by first | rfl | (simp; done) | go_num, R_off2 (by rw [cwL_succ]; exact HO1) hlo1 rfl, HR1.kept (grownBy_setCell' _ _ _) (by intro e; injection e with e; omega), HV1.set _, hlo1, by simpa only [szs] using hsz1, bw_set _ HB1 (by omega)⟩
   case measure => simp [intOf]
  ·go_wp2_with (at_builtin; refine app_intG (W0 := w) rfl (.tmp 20) (.tmp 22) 24 3 rfl Try.underlying24 info_int _ _ _ rfl (by first | rfl | exact congrArg (fun z => Value.slice (some ⟨z, 0, none⟩) 1 1) (World.size_alloc _ _).symm) (by exact Kd.R_below HO bel) bel (by rw [cwL_len]; omega) ?_; intro v1 w1 HO1 HB1 hg1 hat1; obtain ⟨A1, c1, rfl⟩ := Kd.R_slice HO1; have HR1 := Boxed.kept (Boxed.alloc HBR _) hg1 (box_ne hlo _ (by omega)); have HV1 := Boxed.kept (Boxed.alloc HBV _) hg1 (box_ne hlo _ (by omega)); have hlo1 := lo_step hlo hat1 (by simp only [szs]; omega); have hsz1 : w.heap.size + 1 < w1.heap.size := Nat.lt_of_lt_of_le (by simp only [szs]; omega) hg1.size; have hx1 := HV1.cell; have hxf := HV1.frozen; clear hx0 hf0)
   go_roundw
   case rel => exact ⟨9, by omega, _, by first | rfl | (simp; done) | go_num, R_off2 (by rw [cwL_succ]; exact HO1) hlo1 rfl, HR1.kept (grownBy_setCell' _ _ _) (by intro e; injection e with e; omega), HV1.set _, hlo1, by simpa only [szs] using hsz1, bw_set _ HB1 (by omega)⟩
   case measure => simp [intOf]
  ·go_wp2_with (at_builtin; refine app_intG (W0 := w) rfl (.tmp 20) (.tmp 22) 24 3 rfl Try.underlying24 info_int _ _ _ rfl (by first | rfl | exact congrArg (fun z => Value.slice (some ⟨z, 0, none⟩) 1 1) (World.size_alloc _ _).symm) (by exact Kd.R_below HO bel) bel (by rw [cwL_len]; omega) ?_; intro v1 w1 HO1 HB1 hg1 hat1; obtain ⟨A1, c1, rfl⟩ := Kd.R_slice HO1; have HR1 := Boxed.kept (Boxed.alloc HBR _) hg1 (box_ne hlo _ (by omega)); have HV1 := Boxed.kept (Boxed.alloc HBV _) hg1 (box_ne hlo _ (by omega)); have hlo1 := lo_step hlo hat1 (by simp only [szs]; omega); have hsz1 : w.heap.size + 1 < w1.heap.size := Nat.lt_of_lt_of_le (by simp only [szs]; omega) hg1.size; have hx1 := HV1.cell; have hxf := HV1.frozen; clear hx0 hf0)
   go_roundw
   case rel => exact ⟨10, by omega, _, by first | rfl | (simp; done) | go_num, R_off2 (by rw [cwL_succ]; exact HO1) hlo1 rfl, HR1.kept (grownBy_setCell' _ _ _) (by intro e; injection e with e; omega), HV1.set _, hlo1, by simpa only [szs] using hsz1, bw_set _ HB1 (by omega)⟩
   case measure => simp [intOf]
  ·go_wp2_with (at_builtin; refine app_intG (W0 := w) rfl (.tmp 20) (.tmp 22) 24 3 rfl Try.underlying24 info_int _ _ _ rfl (by first | rfl | exact congrArg (fun z => Value.slice (some ⟨z, 0, none⟩) 1 1) (World.size_alloc _ _).symm) (by exact Kd.R_below HO bel) bel (by rw [cwL_len]; omega) ?_; intro v1 w1 HO1 HB1 hg1 hat1; obtain ⟨A1, c1, rfl⟩ := Kd.R_slice HO1; have HR1 := Boxed.kept (Boxed.alloc HBR _) hg1 (box_ne hlo _ (by omega)); have HV1 := Boxed.kept (Boxed.alloc HBV _) hg1 (box_ne hlo _ (by omega)); have hlo1 := lo_step hlo hat1 (by simp only [szs]; omega); have hsz1 : w.heap.size + 1 < w1.heap.size := Nat.lt_of_lt_of_le (by simp only [szs]; omega) hg1.size; have hx1 := HV1.cell; have hxf := HV1.frozen; clear hx0 hf0)
   go_roundw
   case rel => exact ⟨11, by omega, _, by first | rfl | (simp; done) | go_num, R_off2 (by rw [cwL_succ]; exact HO1) hlo1 rfl, HR1.kept (grownBy_setCell' _ _ _) (by intro e; injection e with e; omega), HV1.set _, hlo1, by simpa only [szs] using hsz1, bw_set _ HB1 (by omega)⟩
   case measure => simp [intOf]
  ·go_wp2_with (at_builtin; refine app_intG (W0 := w) rfl (.tmp 20) (.tmp 22) 24 3 rfl Try.underlying24 info_int _ _ _ rfl (by first | rfl | exact congrArg (fun z => Value.slice (some ⟨z, 0, none⟩) 1 1) (World.size_alloc _ _).symm) (by exact Kd.R_below HO bel) bel (by rw [cwL_len]; omega) ?_; intro v1 w1 HO1 HB1 hg1 hat1; obtain ⟨A1, c1, rfl⟩ := Kd.R_slice HO1; have HR1 := Boxed.kept (Boxed.alloc HBR _) hg1 (box_ne hlo _ (by omega)); have HV1 := Boxed.kept (Boxed.alloc HBV _) hg1 (box_ne hlo _ (by omega)); have hlo1 := lo_step hlo hat1 (by simp only [szs]; omega); have hsz1 : w.heap.size + 1 < w1.heap.size := Nat.lt_of_lt_of_le (by simp only [szs]; omega) hg1.size; have hx1 := HV1.cell; have hxf := HV1.frozen; clear hx0 hf0)
   go_roundw
   case rel => exact ⟨12, by omega, _, by first | rfl | (simp; done) | go_num, R_off2 (by rw [cwL_succ]; exact HO1) hlo1 rfl, HR1.kept (grownBy_setCell' _ _ _) (by intro e; injection e with e; omega), HV1.set _, hlo1, by simpa only [szs] using hsz1, bw_set _ HB1 (by omega)⟩
   case measure => simp [intOf]
  ·go_wp2_with (at_builtin; refine app_intG (W0 := w) rfl (.tmp 20) (.tmp 22) 24 3 rfl Try.underlying24 info_int _ _ _ rfl (by first | rfl | exact congrArg (fun z => Value.slice (some ⟨z, 0, none⟩) 1 1) (World.size_alloc _ _).symm) (by exact Kd.R_below HO bel) bel (by rw [cwL_len]; omega) ?_; intro v1 w1 HO1 HB1 hg1 hat1; obtain ⟨A1, c1, rfl⟩ := Kd.R_slice HO1; have HR1 := Boxed.kept (Boxed.alloc HBR _) hg1 (box_ne hlo _ (by omega)); have HV1 := Boxed.kept (Boxed.alloc HBV _) hg1 (box_ne hlo _ (by omega)); have hlo1 := lo_step hlo hat1 (by simp only [szs]; omega); have hsz1 : w.heap.size + 1 < w1.heap.size := Nat.lt_of_lt_of_le (by simp only [szs]; omega) hg1.size; have hx1 := HV1.cell; have hxf := HV1.frozen; clear hx0 hf0)
   go_roundw
   case rel => exact ⟨13, by omega, _, by first | rfl | (simp; done) | go_num, R_off2 (by rw [cwL_succ]; exact HO1) hlo1 rfl, HR1.kept (grownBy_setCell' _ _ _) (by intro e; injection e with e; omega), HV1.set _, hlo1, by simpa only [szs] using hsz1, bw_set _ HB1 (by omega)⟩
   case measure => simp [intOf]
  ·go_wp2_with (at_builtin; refine app_intG (W0 := w) rfl (.tmp 20) (.tmp 22) 24 3 rfl Try.underlying24 info_int _ _ _ rfl (by first | rfl | exact congrArg (fun z => Value.slice (some ⟨z, 0, none⟩) 1 1) (World.size_alloc _ _).symm) (by exact Kd.R_below HO bel) bel (by rw [cwL_len]; omega) ?_; intro v1 w1 HO1 HB1 hg1 hat1; obtain ⟨A1, c1, rfl⟩ := Kd.R_slice HO1; have HR1 := Boxed.kept (Boxed.alloc HBR _) hg1 (box_ne hlo _ (by omega)); have HV1 := Boxed.kept (Boxed.alloc HBV _) hg1 (box_ne hlo _ (by omega)); have hlo1 := lo_step hlo hat1 (by simp only [szs]; omega); have hsz1 : w.heap.size + 1 < w1.heap.size := Nat.lt_of_lt_of_le (by simp only [szs]; omega) hg1.size; have hx1 := HV1.cell; have hxf := HV1.frozen; clear hx0 hf0)
   go_roundw
   case rel => exact ⟨14, by omega, _, by first | rfl | (simp; done) | go_num, R_off2 (by rw [cwL_succ]; exact HO1) hlo1 rfl, HR1.kept (grownBy_setCell' _ _ _) (by intro e; injection e with e; omega), HV1.set _, hlo1, by simpa only [szs] using hsz1, bw_set _ HB1 (by omega)⟩
   case measure => simp [intOf]
  ·go_wp2_with (at_builtin; refine app_intG (W0 := w) rfl (.tmp 20) (.tmp 22) 24 3 rfl Try.underlying24 info_int _ _ _ rfl (by first | rfl | exact congrArg (fun z => Value.slice (some ⟨z, 0, none⟩) 1 1) (World.size_alloc _ _).symm) (by exact Kd.R_below HO bel) bel (by rw [cwL_len]; omega) ?_; intro v1 w1 HO1 HB1 hg1 hat1; obtain ⟨A1, c1, rfl⟩ := Kd.R_slice HO1; have HR1 := Boxed.kept (Boxed.alloc HBR _) hg1 (box_ne hlo _ (by omega)); have HV1 := Boxed.kept (Boxed.alloc HBV _) hg1 (box_ne hlo _ (by omega)); have hlo1 := lo_step hlo hat1 (by simp only [szs]; omega); have hsz1 : w.heap.size + 1 < w1.heap.size := Nat.lt_of_lt_of_le (by simp only [szs]; omega) hg1.size; have hx1 := HV1.cell; have hxf := HV1.frozen; clear hx0 hf0)
   go_roundw
   case rel => exact ⟨15, by omega, _, by first | rfl | (simp; done) | go_num, R_off2 (by rw [cwL_succ]; exact HO1) hlo1 rfl, HR1.kept (grownBy_setCell' _ _ _) (by intro e; injection e with e; omega), HV1.set _, hlo1, by simpa only [szs] using hsz1, bw_set _ HB1 (by omega)⟩
   case measure => simp [intOf]
  ·go_wp2_with (at_builtin; refine app_intG (W0 := w) rfl (.tmp 20) (.tmp 22) 24 3 rfl Try.underlying24 info_int _ _ _ rfl (by first | rfl | exact congrArg (fun z => Value.slice (some ⟨z, 0, none⟩) 1 1) (World.size_alloc _ _).symm) (by exact Kd.R_below HO bel) bel (by rw [cwL_len]; omega) ?_; intro v1 w1 HO1 HB1 hg1 hat1; obtain ⟨A1, c1, rfl⟩ := Kd.R_slice HO1; have HR1 := Boxed.kept (Boxed.alloc HBR _) hg1 (box_ne hlo _ (by omega)); have HV1 := Boxed.kept (Boxed.alloc HBV _) hg1 (box_ne hlo _ (by omega)); have hlo1 := lo_step hlo hat1 (by simp only [szs]; omega); have hsz1 : w.heap.size + 1 < w1.heap.size := Nat.lt_of_lt_of_le (by simp only [szs]; omega) hg1.size; have hx1 := HV1.cell; have hxf := HV1.frozen; clear hx0 hf0)
   go_roundw
   case rel => exact ⟨16, by omega, _, by first | rfl | (simp; done) | go_num, R_off2 (by rw [cwL_succ]; exact HO1) hlo1 rfl, HR1.kept (grownBy_setCell' _ _ _) (by intro e; injection e with e; omega), HV1.set _, hlo1, by simpa only [szs] using hsz1, bw_set _ HB1 (by omega)⟩
   case measure => simp [intOf]
  ·have hr0 := HBR.cell
   have hrf := HBR.frozen
   go_wp2
   exact bodyPost_ret (v := .agg #[.slice Ao (cwL 16).length co]) (by simp [results, Try.results10, go_sem, *]) rfl ⟨⟨_, rfl, R_off2 HO (fun k h => by have := hlo k h; omega) rfl⟩, bel⟩

set_option maxHeartbeats 8000000 in
theorem impl_ClockwiseTable (w : World) : Calls Try.prog 13 #[] w fun e w' => GotTab w w' (cwL 16) e ∧ Below w.heap.size w w' := by
 go_enter Try.func13, Try.ntmps13
 go_wp2
 go_loopw [8] (fun i wr => ∃ a : Nat, a ≤ 4 ∧ (∃ v : Value, i = .int .i64 a ∧ Kd.R (Kd.int .i64) 3 wr w.heap.size (fun _ => True) v (cwL (4 * a)) ∧ Boxed wr w.heap.size 28 (.slice none 0 0) ∧ Boxed wr (w.heap.size + 1) 28 v ∧ (∀ k, v.ownBlock = some k → w.heap.size + 2 < k) ∧ w.heap.size + 2 < wr.heap.size ∧ Below w.heap.size w wr ∧ Box wr (w.heap.size + 2) #[.int .i64 1, .int .i64 2, .int .i64 0, .int .i64 3])) (fun i _ => 4 - (intOf i).toNat)
 case atStart => exact ⟨0, Nat.zero_le _, .slice none 0 0, rfl, Kd.R_nil _ _ _ _ _, Boxed.alloc (Boxed.alloc (Boxed.new w _ _) _) _, Boxed.alloc (by have h := Boxed.new (w.alloc (.cells #[.slice none 0 0] 28)) 28 (.slice none 0 0); rw [World.size_alloc] at h; exact h) _, (fun k h => by simp [Value.ownBlock] at h), by simp only [szs]; omega, bel, Box.new _ _ _ _ (by simp only [szs])⟩
 case round =>
  obtain ⟨a, ha, v, hi, HO, HBR, HBV, hlo, hsz, HB, HX⟩ := hrel
  rcases (by omega : a = 0 ∨ a = 1 ∨ a = 2 ∨ a = 3 ∨ a = 4) with rfl | rfl | rfl | rfl | rfl
  ·replace hi := hi.trans (show Value.int .i64 ((0 : Nat) : Int) = .int .i64 0 from rfl)
   subst hi
   obtain ⟨wo, rfl⟩ : ∃ x : World, x = wr := ⟨_, rfl⟩
   go_wp2
   go_loopw [11] (fun i wr => ∃ j : Nat, j ≤ 4 ∧ (∃ v : Value, i = .int .i64 j ∧ Kd.R (Kd.int .i64) 3 wr w.heap.size (fun _ => True) v (cwL (0 + j)) ∧ Boxed wr w.heap.size 28 (.slice none 0 0) ∧ Boxed wr (w.heap.size + 1) 28 v ∧ (∀ k, v.ownBlock = some k → w.heap.size + 2 < k) ∧ w.heap.size + 2 < wr.heap.size ∧ Below w.heap.size w wr ∧ Box wr (w.heap.size + 2) #[.int .i64 1, .int .i64 2, .int .i64 0, .int .i64 3])) (fun i _ => 4 - (intOf i).toNat)
   case atStart => exact ⟨0, Nat.zero_le _, v, rfl, HO, HBR, HBV, hlo, hsz, HB, HX⟩
   case round =>
    clear HO HBR HBV hlo hsz HB HX
    obtain ⟨j, hj, v, hj0, HO, HBR, HBV, hlo, hsz, HB, HX⟩ := hrel
    obtain ⟨Ao, co, rfl⟩ := Kd.R_slice HO
    have hx0 := HBV.cell
    have hf0 := HBV.frozen
    obtain ⟨xlt, xget⟩ := HX
    have hxa : wr.cell? ⟨w.heap.size + 2, 0, none⟩ = some (.int .i64 1) := xget 0
    rcases (by omega : j = 0 ∨ j = 1 ∨ j = 2 ∨ j = 3 ∨ j = 4) with rfl | rfl | rfl | rfl | rfl
    ·replace hj0 := hj0.trans (show Value.int .i64 ((0 : Nat) : Int) = .int .i64 0 from rfl)
     subst hj0
     go_wp2_with (at_builtin; refine app_intG (W0 := w) rfl (.tmp 21) (.tmp 23) 24 3 rfl Try.underlying24 info_int _ _ _ rfl (by first | rfl | exact congrArg (fun z => Value.slice (some ⟨z, 0, none⟩) 1 1) (World.size_alloc _ _).symm) (by exact Kd.R_below HO bel) bel (by rw [cwL_len]; omega) ?_; intro v1 w1 HO1 HB1 hg1 hat1; obtain ⟨A1, c1, rfl⟩ := Kd.R_slice HO1; have HR1 := Boxed.kept (HBR) hg1 (box_ne hlo _ (by omega)); have HV1 := Boxed.kept (HBV) hg1 (box_ne hlo _ (by omega)); have hlo1 := lo_step hlo hat1 (by omega); have hsz1 : w.heap.size + 2 < w1.heap.size := Nat.lt_of_lt_of_le (by omega) hg1.size; have hx1 := HV1.cell; have hxf := HV1.frozen; have HX1 := Box.grown ⟨xlt, xget⟩ hg1 (box_ne hlo _ (by omega)); clear hx0 hf0)
     go_roundw
     case rel => exact ⟨1, by omega, _, by first | rfl | (simp; done) | go_num, R_off2 (by rw [show 0 + 1 = (0 + 0) + 1 from rfl, cwL_succ]; exact HO1) (fun k h => by have := hlo1 k h; omega) rfl, HR1.kept (grownBy_setCell' _ _ _) (by intro e; injection e with e; omega), HV1.set _, hlo1, by simpa only [szs] using hsz1, bw_set _ HB1 (by omega), HX1.grown (grownBy_setCell' _ _ _) (by intro e; injection e with e; omega)⟩
     case measure => simp [intOf]
    ·replace hj0 := hj0.trans (show Value.int .i64 ((1 : Nat) : Int) = .int .i64 1 from rfl)
     subst hj0
     go_wp2_with (at_builtin; refine app_intG (W0 := w) rfl (.tmp 21) (.tmp 23) 24 3 rfl Try.underlying24 info_int _ _ _ rfl (by first | rfl | exact congrArg (fun z => Value.slice (some ⟨z, 0, none⟩) 1 1) (World.size_alloc _ _).symm) (by exact Kd.R_below HO bel) bel (by rw [cwL_len]; omega) ?_; intro v1 w1 HO1 HB1 hg1 hat1; obtain ⟨A1, c1, rfl⟩ := Kd.R_slice HO1; have HR1 := Boxed.kept (HBR) hg1 (box_ne hlo _ (by omega)); have HV1 := Boxed.kept (HBV) hg1 (box_ne hlo _ (by omega)); have hlo1 := lo_step hlo hat1 (by omega); have hsz1 : w.heap.size + 2 < w1.heap.size := Nat.lt_of_lt_of_le (by omega) hg1.size; have hx1 := HV1.cell; have hxf := HV1.frozen; have HX1 := Box.grown ⟨xlt, xget⟩ hg1 (box_ne hlo _ (by omega)); clear hx0 hf0)
     go_roundw
     case rel => exact ⟨2, by omega, _, by first | rfl | (simp; done) | go_num, R_off2 (by rw [show 0 + 2 = (0 + 1) + 1 from rfl, cwL_succ]; exact HO1) (fun k h => by have := hlo1 k h; omega) rfl, HR1.kept (grownBy_setCell' _ _ _) (by intro e; injection e with e; omega), HV1.set _, hlo1, by simpa only [szs] using hsz1, bw_set _ HB1 (by omega), HX1.grown (grownBy_setCell' _ _ _) (by intro e; injection e with e; omega)⟩
     case measure => simp [intOf]
    ·replace hj0 := hj0.trans (show Value.int .i64 ((2 : Nat) : Int) = .int .i64 2 from rfl)
     subst hj0
     go_wp2_with (at_builtin; refine app_intG (W0 := w) rfl (.tmp 21) (.tmp 23) 24 3 rfl Try.underlying24 info_int _ _ _ rfl (by first | rfl | exact congrArg (fun z => Value.slice (some ⟨z, 0, none⟩) 1 1) (World.size_alloc _ _).symm) (by exact Kd.R_below HO bel) bel (by rw [cwL_len]; omega) ?_; intro v1 w1 HO1 HB1 hg1 hat1; obtain ⟨A1, c1, rfl⟩ := Kd.R_slice HO1; have HR1 := Boxed.kept (HBR) hg1 (box_ne hlo _ (by omega)); have HV1 := Boxed.kept (HBV) hg1 (box_ne hlo _ (by omega)); have hlo1 := lo_step hlo hat1 (by omega); have hsz1 : w.heap.size + 2 < w1.heap.size := Nat.lt_of_lt_of_le (by omega) hg1.size; have hx1 := HV1.cell; have hxf := HV1.frozen; have HX1 := Box.grown ⟨xlt, xget⟩ hg1 (box_ne hlo _ (by omega)); clear hx0 hf0)
     go_roundw
     case rel => exact ⟨3, by omega, _, by first | rfl | (simp; done) | go_num, R_off2 (by rw [show 0 + 3 = (0 + 2) + 1 from rfl, cwL_succ]; exact HO1) (fun k h => by have := hlo1 k h; omega) rfl, HR1.kept (grownBy_setCell' _ _ _) (by intro e; injection e with e; omega), HV1.set _, hlo1, by simpa only [szs] using hsz1, bw_set _ HB1 (by omega), HX1.grown (grownBy_setCell' _ _ _) (by intro e; injection e with e; omega)⟩
     case measure => simp [intOf]
    ·replace hj0 := hj0.trans (show Value.int .i64 ((3 : Nat) : Int) = .int .i64 3 from rfl)
     subst hj0
     go_wp2_with (at_builtin; refine app_intG (W0 := w) rfl (.tmp 21) (.tmp 23) 24 3 rfl Try.underlying24 info_int _ _ _ rfl (by first | rfl | exact congrArg (fun z => Value.slice (some ⟨z, 0, none⟩) 1 1) (World.size_alloc _ _).symm) (by exact Kd.R_below HO bel) bel (by rw [cwL_len]; omega) ?_; intro v1 w1 HO1 HB1 hg1 hat1; obtain ⟨A1, c1, rfl⟩ := Kd.R_slice HO1; have HR1 := Boxed.kept (HBR) hg1 (box_ne hlo _ (by omega)); have HV1 := Boxed.kept (HBV) hg1 (box_ne hlo _ (by omega)); have hlo1 := lo_step hlo hat1 (by omega); have hsz1 : w.heap.size + 2 < w1.heap.size := Nat.lt_of_lt_of_le (by omega) hg1.size; have hx1 := HV1.cell; have hxf := HV1.frozen; have HX1 := Box.grown ⟨xlt, xget⟩ hg1 (box_ne hlo _ (by omega)); clear hx0 hf0)
     go_roundw
     case rel => exact ⟨4, by omega, _, by first | rfl | (simp; done) | go_num, R_off2 (by rw [show 0 + 4 = (0 + 3) + 1 from rfl, cwL_succ]; exact HO1) (fun k h => by have := hlo1 k h; omega) rfl, HR1.kept (grownBy_setCell' _ _ _) (by intro e; injection e with e; omega), HV1.set _, hlo1, by simpa only [szs] using hsz1, bw_set _ HB1 (by omega), HX1.grown (grownBy_setCell' _ _ _) (by intro e; injection e with e; omega)⟩
     case measure => simp [intOf]
    ·replace hj0 := hj0.trans (show Value.int .i64 ((4 : Nat) : Int) = .int .i64 4 from rfl)
     subst hj0
     go_wp2
     go_roundw
     case rel => exact ⟨1, by omega, _, by first | rfl | (simp; done) | go_num, HO, HBR, HBV, hlo, hsz, HB, ⟨xlt, xget⟩⟩
     case measure => simp [intOf]
  ·replace hi := hi.trans (show Value.int .i64 ((1 : Nat) : Int) = .int .i64 1 from rfl)
   subst hi
   obtain ⟨wo, rfl⟩ : ∃ x : World, x = wr := ⟨_, rfl⟩
   go_wp2
   go_loopw [11] (fun i wr => ∃ j : Nat, j ≤ 4 ∧ (∃ v : Value, i = .int .i64 j ∧ Kd.R (Kd.int .i64) 3 wr w.heap.size (fun _ => True) v (cwL (4 + j)) ∧ Boxed wr w.heap.size 28 (.slice none 0 0) ∧ Boxed wr (w.heap.size + 1) 28 v ∧ (∀ k, v.ownBlock = some k → w.heap.size + 2 < k) ∧ w.heap.size + 2 < wr.heap.size ∧ Below w.heap.size w wr ∧ Box wr (w.heap.size + 2) #[.int .i64 1, .int .i64 2, .int .i64 0, .int .i64 3])) (fun i _ => 4 - (intOf i).toNat)
   case atStart => exact ⟨0, Nat.zero_le _, v, rfl, HO, HBR, HBV, hlo, hsz, HB, HX⟩
   case round =>
    clear HO HBR HBV hlo hsz HB HX
    obtain ⟨j, hj, v, hj0, HO, HBR, HBV, hlo, hsz, HB, HX⟩ := hrel
    obtain ⟨Ao, co, rfl⟩ := Kd.R_slice HO
    have hx0 := HBV.cell
    have hf0 := HBV.frozen
    obtain ⟨xlt, xget⟩ := HX
    have hxa : wr.cell? ⟨w.heap.size + 2, 1, none⟩ = some (.int .i64 2) := xget 1
    rcases (by omega : j = 0 ∨ j = 1 ∨ j = 2 ∨ j = 3 ∨ j = 4) with rfl | rfl | rfl | rfl | rfl
    ·replace hj0 := hj0.trans (show Value.int .i64 ((0 : Nat) : Int) = .int .i64 0 from rfl)
     subst hj0
     go_wp2_with (at_builtin; refine app_intG (W0 := w) rfl (.tmp 21) (.tmp 23) 24 3 rfl Try.underlying24 info_int _ _ _ rfl (by first | rfl | exact congrArg (fun z => Value.slice (some ⟨z, 0, none⟩) 1 1) (World.size_alloc _ _).symm) (by exact Kd.R_below HO bel) bel (by rw [cwL_len]; omega) ?_; intro v1 w1 HO1 HB1 hg1 hat1; obtain ⟨A1, c1, rfl⟩ := Kd.R_slice HO1; have HR1 := Boxed.kept (HBR) hg1 (box_ne hlo _ (by omega)); have HV1 := Boxed.kept (HBV) hg1 (box_ne hlo _ (by omega)); have hlo1 := lo_step hlo hat1 (by omega); have hsz1 : w.heap.size + 2 < w1.heap.size := Nat.lt_of_lt_of_le (by omega) hg1.size; have hx1 := HV1.cell; have hxf := HV1.frozen; have HX1 := Box.grown ⟨xlt, xget⟩ hg1 (box_ne hlo _ (by omega)); clear hx0 hf0)
     go_roundw
     case rel => exact ⟨1, by omega, _, by first | rfl | (simp; done) | go_num, R_off2 (by rw [show 4 + 1 = (4 + 0) + 1 from rfl, cwL_succ]; exact HO1) (fun k h => by have := hlo1 k h; omega) rfl, HR1.kept (grownBy_setCell' _ _ _) (by intro e; injection e with e; omega), HV1.set _, hlo1, by simpa only [szs] using hsz1, bw_set _ HB1 (by omega), HX1.grown (grownBy_setCell' _ _ _) (by intro e; injection e with e; omega)⟩
     case measure => simp [intOf]
    ·replace hj0 := hj0.trans (show Value.int .i64 ((1 : Nat) : Int) = .int .i64 1 from rfl)
     subst hj0
     go_wp2_with (at_builtin; refine app_intG (W0 := w) rfl (.tmp 21) (.tmp 23) 24 3 rfl Try.underlying24 info_int _ _ _ rfl (by first | rfl | exact congrArg (fun z => Value.slice (some ⟨z, 0, none⟩) 1 1) (World.size_alloc _ _).symm) (by exact Kd.R_below HO bel) bel (by rw [cwL_len]; omega) ?_; intro v1 w1 HO1 HB1 hg1 hat1; obtain ⟨A1, c1, rfl⟩ := Kd.R_slice HO1; have HR1 := Boxed.kept (HBR) hg1 (box_ne hlo _ (by omega)); have HV1 := Boxed.kept (HBV) hg1 (box_ne hlo _ (by omega)); have hlo1 := lo_step hlo hat1 (by omega); have hsz1 : w.heap.size + 2 < w1.heap.size := Nat.lt_of_lt_of_le (by omega) hg1.size; have hx1 := HV1.cell; have hxf := HV1.frozen; have HX1 := Box.grown ⟨xlt, xget⟩ hg1 (box_ne hlo _ (by omega)); clear hx0 hf0)
     go_roundw
     case rel => exact ⟨2, by omega, _, by first | rfl | (simp; done) | go_num, R_off2 (by rw [show 4 + 2 = (4 + 1) + 1 from rfl, cwL_succ]; exact HO1) (fun k h => by have := hlo1 k h; omega) rfl, HR1.kept (grownBy_setCell' _ _ _) (by intro e; injection e with e; omega), HV1.set _, hlo1, by simpa only [szs] using hsz1, bw_set _ HB1 (by omega), HX1.grown (grownBy_setCell' _ _ _) (by intro e; injection e with e; omega)⟩
     case measure => simp [intOf]
    ·replace hj0 := hj0.trans (show Value.int .i64 ((2 : Nat) : Int) = .int .i64 2 from rfl)
     subst hj0
     go_wp2_with (at_builtin; refine app_intG (W0 := w) rfl (.tmp 21) (.tmp 23) 24 3 rfl Try.underlying24 info_int _ _ _ rfl (by first | rfl | exact congrArg (fun z => Value.slice (some ⟨z, 0, none⟩) 1 1) (World.size_alloc _ _).symm) (by exact Kd.R_below HO bel) bel (by rw [cwL_len]; omega) ?_; intro v1 w1 HO1 HB1 hg1 hat1; obtain ⟨A1, c1, rfl⟩ := Kd.R_slice HO1; have HR1 := Boxed.kept (HBR) hg1 (box_ne hlo _ (by omega)); have HV1 := Boxed.kept (HBV) hg1 (box_ne hlo _ (by omega)); have hlo1 := lo_step hlo hat1 (by omega); have hsz1 : w.heap.size + 2 < w1.heap.size := Nat.lt_of_lt_of_le (by omega) hg1.size; have hx1 := HV1.cell; have hxf := HV1.frozen; have HX1 := Box.grown ⟨xlt, xget⟩ hg1 (box_ne hlo _ (by omega)); clear hx0 hf0)
     go_roundw
     case rel => exact ⟨3, by omega, _, by first | rfl | (simp; done) | go_num, R_off2 (by rw [show 4 + 3 = (4 + 2) + 1 from rfl, cwL_succ]; exact HO1) (fun k h => by have := hlo1 k h; omega) rfl, HR1.kept (grownBy_setCell' _ _ _) (by intro e; injection e with e; omega), HV1.set _, hlo1, by simpa only [szs] using hsz1, bw_set _ HB1 (by omega), HX1.grown (grownBy_setCell' _ _ _) (by intro e; injection e with e; omega)⟩
     case measure => simp [intOf]
    ·replace hj0 := hj0.trans (show Value.int .i64 ((3 : Nat) : Int) = .int .i64 3 from rfl)
     subst hj0
     go_wp2_with (at_builtin; refine app_intG (W0 := w) rfl (.tmp 21) (.tmp 23) 24 3 rfl Try.underlying24 info_int _ _ _ rfl (by first | rfl | exact congrArg (fun z => Value.slice (some ⟨z, 0, none⟩) 1 1) (World.size_alloc _ _).symm) (by exact Kd.R_below HO bel) bel (by rw [cwL_len]; omega) ?_; intro v1 w1 HO1 HB1 hg1 hat1; obtain ⟨A1, c1, rfl⟩ := Kd.R_slice HO1; have HR1 := Boxed.kept (HBR) hg1 (box_ne hlo _ (by omega)); have HV1 := Boxed.kept (HBV) hg1 (box_ne hlo _ (by omega)); have hlo1 := lo_step hlo hat1 (by omega); have hsz1 : w.heap.size + 2 < w1.heap.size := Nat.lt_of_lt_of_le (by omega) hg1.size; have hx1 := HV1.cell; have hxf := HV1.frozen; have HX1 := Box.grown ⟨xlt, xget⟩ hg1 (box_ne hlo _ (by omega)); clear hx0 hf0)
     go_roundw
     case rel => exact ⟨4, by omega, _, by first | rfl | (simp; done) | go_num, R_off2 (by rw [show 4 + 4 = (4 + 3) + 1 from rfl, cwL_succ]; exact HO1) (fun k h => by have := hlo1 k h; omega) rfl, HR1.kept (grownBy_setCell' _ _ _) (by intro e; injection e with e; omega), HV1.set _, hlo1, by simpa only [szs] using hsz1, bw_set _ HB1 (by omega), HX1.grown (grownBy_setCell' _ _ _) (by intro e; injection e with e; omega)⟩
     case measure => simp [intOf]
    ·replace hj0 := hj0.trans (show Value.int .i64 ((4 : Nat) : Int) = .int .i64 4 from rfl)
     subst hj0
     go_wp2
     go_roundw
     case rel => exact ⟨2, by omega, _, by first | rfl | (simp; done) | go_num, HO, HBR, HBV, hlo, hsz, HB, ⟨xlt, xget⟩⟩
     case measure => simp [intOf]
  ·replace hi := hi.trans (show Value.int .i64 ((2 : Nat) : Int) = .int .i64 2 from rfl)
   subst hi
   obtain ⟨wo, rfl⟩ : ∃ x : World, x = wr := ⟨_, rfl⟩
   go_wp2
   go_loopw [11] (fun i wr => ∃ j : Nat, j ≤ 4 ∧ (∃ v : Value, i = .int .i64 j ∧ Kd.R (Kd.int .i64) 3 wr w.heap.size (fun _ => True) v (cwL (8 + j)) ∧ Boxed wr w.heap.size 28 (.slice none 0 0) ∧ Boxed wr (w.heap.size + 1) 28 v ∧ (∀ k, v.ownBlock = some k → w.heap.size + 2 < k) ∧ w.heap.size + 2 < wr.heap.size ∧ Below w.heap.size w wr ∧ Box wr (w.heap.size + 2) #[.int .i64 1, .int .i64 2, .int .i64 0, .int .i64 3])) (fun i _ => 4 - (intOf i).toNat)
   case atStart => exact ⟨0, Nat.zero_le _, v, rfl, HO, HBR, HBV, hlo, hsz, HB, HX⟩
   case round =>
    clear HO HBR HBV hlo hsz HB HX
    obtain ⟨j, hj, v, hj0, HO, HBR, HBV, hlo, hsz, HB, HX⟩ := hrel
    obtain ⟨Ao, co, rfl⟩ := Kd.R_slice HO
    have hx0 := HBV.cell
    have hf0 := HBV.frozen
    obtain ⟨xlt, xget⟩ := HX
    have hxa : wr.cell? ⟨w.heap.size + 2, 2, none⟩ = some (.int .i64 0) := xget 2
    rcases (by omega : j = 0 ∨ j = 1 ∨ j = 2 ∨ j = 3 ∨ j = 4) with rfl | rfl | rfl | rfl | rfl
    ·replace hj0 := hj0.trans (show Value.int .i64 ((0 : Nat) : Int) = .int .i64 0 from rfl)
     subst hj0
     go_wp2_with (at_builtin; refine app_intG (W0 := w) rfl (.tmp 21) (.tmp 23) 24 3 rfl Try.underlying24 info_int _ _ _ rfl (by first | rfl | exact congrArg (fun z => Value.slice (some ⟨z, 0, none⟩) 1 1) (World.size_alloc _ _).symm) (by exact Kd.R_below HO bel) bel (by rw [cwL_len]; omega) ?_; intro v1 w1 HO1 HB1 hg1 hat1; obtain ⟨A1, c1, rfl⟩ := Kd.R_slice HO1; have HR1 := Boxed.kept (HBR) hg1 (box_ne hlo _ (by omega)); have HV1 := Boxed.kept (HBV) hg1 (box_ne hlo _ (by omega)); have hlo1 := lo_step hlo hat1 (by omega); have hsz1 : w.heap.size + 2 < w1.heap.size := Nat.lt_of_lt_of_le (by omega) hg1.size; have hx1 := HV1.cell; have hxf := HV1.frozen; have HX1 := Box.grown ⟨xlt, xget⟩ hg1 (box_ne hlo _ (by omega)); clear hx0 hf0)
     go_roundw
     case rel => exact ⟨1, by omega, _, by first | rfl | (simp; done) | go_num, R_off2 (by rw [show 8 + 1 = (8 + 0) + 1 from rfl, cwL_succ]; exact HO1) (fun k h => by have := hlo1 k h; omega) rfl, HR1.kept (grownBy_setCell' _ _ _) (by intro e; injection e with e; omega), HV1.set _, hlo1, by simpa only [szs] using hsz1, bw_set _ HB1 (by omega), HX1.grown (grownBy_setCell' _ _ _) (by intro e; injection e with e; omega)⟩
     case measure => simp [intOf]
    ·replace hj0 := hj0.trans (show Value.int .i64 ((1 : Nat) : Int) = .int .i64 1 from rfl)
     subst hj0
     go_wp2_with (at_builtin; refine app_intG (W0 := w) rfl (.tmp 21) (.tmp 23) 24 3 rfl Try.underlying24 info_int _ _ _ rfl (by first | rfl | exact congrArg (fun z => Value.slice (some ⟨z, 0, none⟩) 1 1) (World.size_alloc _ _).symm) (by exact Kd.R_below HO bel) bel (by rw [cwL_len]; omega) ?_; intro v1 w1 HO1 HB1 hg1 hat1; obtain ⟨A1, c1, rfl⟩ := Kd.R_slice HO1; have HR1 := Boxed.kept (HBR) hg1 (box_ne hlo _ (by omega)); have HV1 := Boxed.kept (HBV) hg1 (box_ne hlo _ (by omega)); have hlo1 := lo_step hlo hat1 (by omega); have hsz1 : w.heap.size + 2 < w1.heap.size := Nat.lt_of_lt_of_le (by omega) hg1.size; have hx1 := HV1.cell; have hxf := HV1.frozen; have HX1 := Box.grown ⟨xlt, xget⟩ hg1 (box_ne hlo _ (by omega)); clear hx0 hf0)
     go_roundw
     case rel => exact ⟨2, by omega, _, by first | rfl | (simp; done) | go_num, R_off2 (by rw [show 8 + 2 = (8 + 1) + 1 from rfl, cwL_succ]; exact HO1) (fun k h => by have := hlo1 k h; omega) rfl, HR1.kept (grownBy_setCell' _ _ _) (by intro e; injection e with e; omega), HV1.set _, hlo1, by simpa only [szs] using hsz1, bw_set _ HB1 (by omega), HX1.grown (grownBy_setCell' _ _ _) (by intro e; injection e with e; omega)⟩
     case measure => simp [intOf]
    ·replace hj0 := hj0.trans (show Value.int .i64 ((2 : Nat) : Int) = .int .i64 2 from rfl)
     subst hj0
     go_wp2_with (at_builtin; refine app_intG (W0 := w) rfl (.tmp 21) (.tmp 23) 24 3 rfl Try.underlying24 info_int _ _ _ rfl (by first | rfl | exact congrArg (fun z => Value.slice (some ⟨z, 0, none⟩) 1 1) (World.size_alloc _ _).symm) (by exact Kd.R_below HO bel) bel (by rw [cwL_len]; omega) ?_; intro v1 w1 HO1 HB1 hg1 hat1; obtain ⟨A1, c1, rfl⟩ := Kd.R_slice HO1; have HR1 := Boxed.kept (HBR) hg1 (box_ne hlo _ (by omega)); have HV1 := Boxed.kept (HBV) hg1 (box_ne hlo _ (by omega)); have hlo1 := lo_step hlo hat1 (by omega); have hsz1 : w.heap.size + 2 < w1.heap.size := Nat.lt_of_lt_of_le (by omega) hg1.size; have hx1 := HV1.cell; have hxf := HV1.frozen; have HX1 := Box.grown ⟨xlt, xget⟩ hg1 (box_ne hlo _ (by omega)); clear hx0 hf0)
     go_roundw
     case rel => exact ⟨3, by omega, _, by first | rfl | (simp; done) | go_num, R_off2 (by rw [show 8 + 3 = (8 + 2) + 1 from rfl, cwL_succ]; exact HO1) (fun k h => by have := hlo1 k h; omega) rfl, HR1.kept (grownBy_setCell' _ _ _) (by intro e; injection e with e; omega), HV1.set _, hlo1, by simpa only [szs] using hsz1, bw_set _ HB1 (by omega), HX1.grown (grownBy_setCell' _ _ _) (by intro e; injection e with e; omega)⟩
     case measure => simp [intOf]
    ·replace hj0 := hj0.trans (show Value.int .i64 ((3 : Nat) : Int) = .int .i64 3 from rfl)
     subst hj0
     go_wp2_with (at_builtin; refine app_intG (W0 := w) rfl (.tmp 21) (.tmp 23) 24 3 rfl Try.underlying24 info_int _ _ _ rfl (by first | rfl | exact congrArg (fun z => Value.slice (some ⟨z, 0, none⟩) 1 1) (World.size_alloc _ _).symm) (by exact Kd.R_below HO bel) bel (by rw [cwL_len]; omega) ?_; intro v1 w1 HO1 HB1 hg1 hat1; obtain ⟨A1, c1, rfl⟩ := Kd.R_slice HO1; have HR1 := Boxed.kept (HBR) hg1 (box_ne hlo _ (by omega)); have HV1 := Boxed.kept (HBV) hg1 (box_ne hlo _ (by omega)); have hlo1 := lo_step hlo hat1 (by omega); have hsz1 : w.heap.size + 2 < w1.heap.size := Nat.lt_of_lt_of_le (by omega) hg1.size; have hx1 := HV1.cell; have hxf := HV1.frozen; have HX1 := Box.grown ⟨xlt, xget⟩ hg1 (box_ne hlo _ (by omega)); clear hx0 hf0)
     go_roundw
     case rel => exact ⟨4, by omega, _, by first | rfl | (simp; done) | go_num, R_off2 (by rw [show 8 + 4 = (8 + 3) + 1 from rfl, cwL_succ]; exact HO1) (fun k h => by have := hlo1 k h; omega) rfl, HR1.kept (grownBy_setCell' _ _ _) (by intro e; injection e with e; omega), HV1.set _, hlo1, by simpa only [szs] using hsz1, bw_set _ HB1 (by omega), HX1.grown (grownBy_setCell' _ _ _) (by intro e; injection e with e; omega)⟩
     case measure => simp [intOf]
    ·replace hj0 := hj0.trans (show Value.int .i64 ((4 : Nat) : Int) = .int .i64 4 from rfl)
     subst hj0
     go_wp2
     go_roundw
     case rel => exact ⟨3, by omega, _, by first | rfl | (simp; done) | go_num, HO, HBR, HBV, hlo, hsz, HB, ⟨xlt, xget⟩⟩
     case measure => simp [intOf]
  ·replace hi := hi.trans (show Value.int .i64 ((3 : Nat) : Int) = .int .i64 3 from rfl)
   subst hi
   obtain ⟨wo, rfl⟩ : ∃ x : World, x = wr := ⟨_, rfl⟩
   go_wp2
   go_loopw [11] (fun i wr => ∃ j : Nat, j ≤ 4 ∧ (∃ v : Value, i = .int .i64 j ∧ Kd.R (Kd.int .i64) 3 wr w.heap.size (fun _ => True) v (cwL (12 + j)) ∧ Boxed wr w.heap.size 28 (.slice none 0 0) ∧ Boxed wr (w.heap.size + 1) 28 v ∧ (∀ k, v.ownBlock = some k → w.heap.size + 2 < k) ∧ w.heap.size + 2 < wr.heap.size ∧ Below w.heap.size w wr ∧ Box wr (w.heap.size + 2) #[.int .i64 1, .int .i64 2, .int .i64 0, .int .i64 3])) (fun i _ => 4 - (intOf i).toNat)
   case atStart => exact ⟨0, Nat.zero_le _, v, rfl, HO, HBR, HBV, hlo, hsz, HB, HX⟩
   case round =>
    clear HO HBR HBV hlo hsz HB HX
    obtain ⟨j, hj, v, hj0, HO, HBR, HBV, hlo, hsz, HB, HX⟩ := hrel
    obtain ⟨Ao, co, rfl⟩ := Kd.R_slice HO
    have hx0 := HBV.cell
    have hf0 := HBV.frozen
    obtain ⟨xlt, xget⟩ := HX
    have hxa : wr.cell? ⟨w.heap.size + 2, 3, none⟩ = some (.int .i64 3) := xget 3
    rcases (by omega : j = 0 ∨ j = 1 ∨ j = 2 ∨ j = 3 ∨ j = 4) with rfl | rfl | rfl | rfl | rfl
    ·replace hj0 := hj0.trans (show Value.int .i64 ((0 : Nat) : Int) = .int .i64 0 from rfl)
     subst hj0
     go_wp2_with (at_builtin; refine app_intG (W0 := w) rfl (.tmp 21) (.tmp 23) 24 3 rfl Try.underlying24 info_int _ _ _ rfl (by first | rfl | exact congrArg (fun z => Value.slice (some ⟨z, 0, none⟩) 1 1) (World.size_alloc _ _).symm) (by exact Kd.R_below HO bel) bel (by rw [cwL_len]; omega) ?_; intro v1 w1 HO1 HB1 hg1 hat1; obtain ⟨A1, c1, rfl⟩ := Kd.R_slice HO1; have HR1 := Boxed.kept (HBR) hg1 (box_ne hlo _ (by omega)); have HV1 := Boxed.kept (HBV) hg1 (box_ne hlo _ (by omega)); have hlo1 := lo_step hlo hat1 (by omega); have hsz1 : w.heap.size + 2 < w1.heap.size := Nat.lt_of_lt_of_le (by omega) hg1.size; have hx1 := HV1.cell; have hxf := HV1.frozen; have HX1 := Box.grown ⟨xlt, xget⟩ hg1 (box_ne hlo _ (by omega)); clear hx0 hf0)
     go_roundw
     case rel => exact ⟨1, by omega, _, by first | rfl | (simp; done) | go_num, R_off2 (by rw [show 12 + 1 = (12 + 0) + 1 from rfl, cwL_succ]; exact HO1) (fun k h => by have := hlo1 k h; omega) rfl, HR1.kept (grownBy_setCell' _ _ _) (by intro e; injection e with e; omega), HV1.set _, hlo1, by simpa only [szs] using hsz1, bw_set _ HB1 (by omega), HX1.grown (grownBy_setCell' _ _ _) (by intro e; injection e with e; omega)⟩
     case measure => simp [intOf]
    ·replace hj0 := hj0.trans (show Value.int .i64 ((1 : Nat) : Int) = .int .i64 1 from rfl)
     subst hj0
     go_wp2_with (at_builtin; refine app_intG (W0 := w) rfl (.tmp 21) (.tmp 23) 24 3 rfl Try.underlying24 info_int _ _ _ rfl (by first | rfl | exact congrArg (fun z => Value.slice (some ⟨z, 0, none⟩) 1 1) (World.size_alloc _ _).symm) (by exact Kd.R_below HO bel) bel (by rw [cwL_len]; omega) ?_; intro v1 w1 HO1 HB1 hg1 hat1; obtain ⟨A1, c1, rfl⟩ := Kd.R_slice HO1; have HR1 := Boxed.kept (HBR) hg1 (box_ne hlo _ (by omega)); have HV1 := Boxed.kept (HBV) hg1 (box_ne hlo _ (by omega)); have hlo1 := lo_step hlo hat1 (by omega); have hsz1 : w.heap.size + 2 < w1.heap.size := Nat.lt_of_lt_of_le (by omega) hg1.size; have hx1 := HV1.cell; have hxf := HV1.frozen; have HX1 := Box.grown ⟨xlt, xget⟩ hg1 (box_ne hlo _ (by omega)); clear hx0 hf0)
     go_roundw
     case rel => exact ⟨2, by omega, _, by first | rfl | (simp; done) | go_num, R_off2 (by rw [show 12 + 2 = (12 + 1) + 1 from rfl, cwL_succ]; exact HO1) (fun k h => by have := hlo1 k h; omega) rfl, HR1.kept (grownBy_setCell' _ _ _) (by intro e; injection e with e; omega), HV1.set _, hlo1, by simpa only [szs] using hsz1, bw_set _ HB1 (by omega), HX1.grown (grownBy_setCell' _ _ _) (by intro e; injection e with e; omega)⟩
     case measure => simp [intOf]
    ·replace hj0 := hj0.trans (show Value.int .i64 ((2 : Nat) : Int) = .int .i64 2 from rfl)
     subst hj0
     go_wp2_with (at_builtin; refine app_intG (W0 := w) rfl (.tmp 21) (.tmp 23) 24 3 rfl Try.underlying24 info_int _ _ _ rfl (by first | rfl | exact congrArg (fun z => Value.slice (some ⟨z, 0, none⟩) 1 1) (World.size_alloc _ _).symm) (by exact Kd.R_below HO bel) bel (by rw [cwL_len]; omega) ?_; intro v1 w1 HO1 HB1 hg1 hat1; obtain ⟨A1, c1, rfl⟩ := Kd.R_slice HO1; have HR1 := Boxed.kept (HBR) hg1 (box_ne hlo _ (by omega)); have HV1 := Boxed.kept (HBV) hg1 (box_ne hlo _ (by omega)); have hlo1 := lo_step hlo hat1 (by omega); have hsz1 : w.heap.size + 2 < w1.heap.size := Nat.lt_of_lt_of_le (by omega) hg1.size; have hx1 := HV1.cell; have hxf := HV1.frozen; have HX1 := Box.grown ⟨xlt, xget⟩ hg1 (box_ne hlo _ (by omega)); clear hx0 hf0)
     go_roundw
     case rel => exact ⟨3, by omega, _, by first | rfl | (simp; done) | go_num, R_off2 (by rw [show 12 + 3 = (12 + 2) + 1 from rfl, cwL_succ]; exact HO1) (fun k h => by have := hlo1 k h; omega) rfl, HR1.kept (grownBy_setCell' _ _ _) (by intro e; injection e with e; omega), HV1.set _, hlo1, by simpa only [szs] using hsz1, bw_set _ HB1 (by omega), HX1.grown (grownBy_setCell' _ _ _) (by intro e; injection e with e; omega)⟩
     case measure => simp [intOf]
    ·replace hj0 := hj0.trans (show Value.int .i64 ((3 : Nat) : Int) = .int .i64 3 from rfl)
     subst hj0
     go_wp2_with (at_builtin; refine app_intG (W0 := w) rfl (.tmp 21) (.tmp 23) 24 3 rfl Try.underlying24 info_int _ _ _ rfl (by first | rfl | exact congrArg (fun z => Value.slice (some ⟨z, 0, none⟩) 1 1) (World.size_alloc _ _).symm) (by exact Kd.R_below HO bel) bel (by rw [cwL_len]; omega) ?_; intro v1 w1 HO1 HB1 hg1 hat1; obtain ⟨A1, c1, rfl⟩ := Kd.R_slice HO1; have HR1 := Boxed.kept (HBR) hg1 (box_ne hlo _ (by omega)); have HV1 := Boxed.kept (HBV) hg1 (box_ne hlo _ (by omega)); have hlo1 := lo_step hlo hat1 (by omega); have hsz1 : w.heap.size + 2 < w1.heap.size := Nat.lt_of_lt_of_le (by omega) hg1.size; have hx1 := HV1.cell; have hxf := HV1.frozen; have HX1 := Box.grown ⟨xlt, xget⟩ hg1 (box_ne hlo _ (by omega)); clear hx0 hf0)
     go_roundw
     case rel => exact ⟨4, by omega, _, by first | rfl | (simp; done) | go_num, R_off2 (by rw [show 12 + 4 = (12 + 3) + 1 from rfl, cwL_succ]; exact HO1) (fun k h => by have := hlo1 k h; omega) rfl, HR1.kept (grownBy_setCell' _ _ _) (by intro e; injection e with e; omega), HV1.set _, hlo1, by simpa only [szs] using hsz1, bw_set _ HB1 (by omega), HX1.grown (grownBy_setCell' _ _ _) (by intro e; injection e with e; omega)⟩
     case measure => simp [intOf]
    ·replace hj0 := hj0.trans (show Value.int .i64 ((4 : Nat) : Int) = .int .i64 4 from rfl)
     subst hj0
     go_wp2
     go_roundw
     case rel => exact ⟨4, by omega, _, by first | rfl | (simp; done) | go_num, HO, HBR, HBV, hlo, hsz, HB, ⟨xlt, xget⟩⟩
     case measure => simp [intOf]
  ·replace hi := hi.trans (show Value.int .i64 ((4 : Nat) : Int) = .int .i64 4 from rfl)
   subst hi
   obtain ⟨Ao, co, rfl⟩ := Kd.R_slice HO
   have hr0 := HBR.cell
   have hrf := HBR.frozen
   have hx0 := HBV.cell
   have hf0 := HBV.frozen
   go_wp2
   exact bodyPost_ret (v := .agg #[.slice Ao (cwL 16).length co]) (by simp [results, Try.results13, go_sem, *]) rfl ⟨⟨_, rfl, R_off2 HO (fun k h => by have := hlo k h; omega) rfl⟩, bel⟩

def ringM : Mesh := ⟨⟨2, 2⟩, []⟩
def ringL : List Packet := [⟨1, 0, 3, 0, 5⟩, ⟨2, 1, 2, 0, 5⟩, ⟨3, 3, 0, 0, 5⟩, ⟨4, 2, 1, 0, 5⟩]
def ringN : Net := sendAllN (netNewN ringM (cwL 16) (cwL 16)) ringL
theorem C_ring (W : World) : kP.C (W.alloc (.cells #[.int .i64 1, .int .i64 0, .int .i64 3, .int .i64 0, .int .i64 5, .int .i64 2, .int .i64 1, .int .i64 2, .int .i64 0, .int .i64 5, .int .i64 3, .int .i64 3, .int .i64 0, .int .i64 0, .int .i64 5, .int .i64 4, .int .i64 2, .int .i64 1, .int .i64 0, .int .i64 5] 44)) (some ⟨W.heap.size, 0, none⟩) ringL.length ringL := by
  have hb : Box (W.alloc (.cells #[.int .i64 1, .int .i64 0, .int .i64 3, .int .i64 0, .int .i64 5, .int .i64 2, .int .i64 1, .int .i64 2, .int .i64 0, .int .i64 5, .int .i64 3, .int .i64 3, .int .i64 0, .int .i64 0, .int .i64 5, .int .i64 4, .int .i64 2, .int .i64 1, .int .i64 0, .int .i64 5] 44)) W.heap.size #[.int .i64 1, .int .i64 0, .int .i64 3, .int .i64 0, .int .i64 5, .int .i64 2, .int .i64 1, .int .i64 2, .int .i64 0, .int .i64 5, .int .i64 3, .int .i64 3, .int .i64 0, .int .i64 0, .int .i64 5, .int .i64 4, .int .i64 2, .int .i64 1, .int .i64 0, .int .i64 5] := Box.new W _ _ _ rfl
  refine ⟨rfl, by first | decide | simp [ringL], fun _ => ⟨_, rfl, fun j q hj => ⟨pkCells q, rfl, rfl, fun i u hu => ?_⟩⟩⟩
  have hj4 : j < 4 := by
    have := (List.getElem?_eq_some_iff.1 hj).1
    simpa [ringL] using this
  have hi : i < 5 := by
    have := (List.getElem?_eq_some_iff.1 hu).1
    simpa [pkCells] using this
  have hg := hb.get (j * 5 + i)
  have e : ((⟨W.heap.size, 0, none⟩ : Addr).add (j * kP.sz + i)) = ⟨W.heap.size, j * 5 + i, none⟩ := by
    show ((⟨W.heap.size, 0, none⟩ : Addr).add (j * 5 + i)) = _
    unfold Addr.add
    split
    · rename_i h
      simp_all
    · simp
  rw [e, hg, ← hu]
  clear hg e hu hb
  rcases (by omega : j = 0 ∨ j = 1 ∨ j = 2 ∨ j = 3) with rfl | rfl | rfl | rfl <;> (obtain rfl := Option.some.inj hj; rcases (by omega : i = 0 ∨ i = 1 ∨ i = 2 ∨ i = 3 ∨ i = 4) with rfl | rfl | rfl | rfl | rfl <;> rfl)
theorem bn_put' {w : World} {b c : Nat} {n : Net} {q : NA} (h : BN w c) (hne : c ≠ b) : BN (putN w b n q) c := by
  obtain ⟨cs, h1, h2⟩ := h
  exact ⟨cs, by rw [blk_put hne]; exact h1, h2⟩
theorem cw_len : (cwL 16).length = 16 := cwL_len 16
set_option maxHeartbeats 16000000 in
set_option maxRecDepth 100000 in
theorem impl_RingNet (w : World) : Calls Try.prog 5 #[] w fun e w' => GotNX w w' ringN e ∧ Below w.heap.size w w' := by
  obtain ⟨wa, ewa⟩ : ∃ z, z = w.alloc (.cells #[.int .i64 0, .int .i64 0, .slice none 0 0, .slice none 0 0, .slice none 0 0, .slice none 0 0, .slice none 0 0, .slice none 0 0, .slice none 0 0, .slice none 0 0, .int .i64 0] 33) := ⟨_, rfl⟩
  have hwa : Below w.heap.size w wa := by rw [ewa]; exact bw_alloc _ (bw_refl w)
  have zwa : wa.heap.size = w.heap.size + 1 := by rw [ewa]; simp only [szs]
  have HZ : Hid (BN wa w.heap.size) := Lib.hid (by rw [ewa]; exact (BT.new w zeroN ZQ).bn)
  go_enter Try.func5, Try.ntmps5
  go_wp2_with fail
  rw [← ewa]
  clear ewa
  refine (impl_ClockwiseTable _).mono ?_
  rintro e w1 ⟨hg, hb1⟩
  obtain ⟨Aa, ca, rfl, HOa⟩ := hg.at
  have HW1 := Lib.hid (bw_then hwa hb1)
  have HZ1 := Lib.hid (HZ.out.below hb1)
  have HOa := Lib.hid HOa
  have z1 := bw_size hb1
  clear hb1 hwa HZ hg
  go_wp2_with fail
  refine (impl_ClockwiseTable _).mono ?_
  rintro e w2 ⟨hg, hb2⟩
  obtain ⟨Ab, cb, rfl, HOb⟩ := hg.at
  have HW2 := Lib.hid (bw_then HW1.out hb2)
  have HZ2 := Lib.hid (HZ1.out.below hb2)
  have HCa := Lib.hid (Kd.R_rowX (Kd.R_below HOa.out hb2)).2.2
  have HCb := Lib.hid (Kd.R_rowX HOb).2.2
  have HCm : Hid (Kd.C (Kd.int .i64) w2 none ringM.br.length ringM.br) := Lib.hid (Kd.R_rowX (Kd.R_nil (Kd.int .i64) 3 w2 0 (fun _ => True))).2.2
  have z2 := bw_size hb2
  have hl16 := cw_len
  clear hb2 HOa HOb HW1 HZ1 hg
  have HCALL := Lib.hid (impl_NetNew ringM (cwL 16) (cwL 16) none Aa Ab 0 ca cb w2 HCm.out (by simp [ringM]) HCa.out (by omega) HCb.out (by omega))
  clear hl16
  go_wp2_with fail
  refine HCALL.out.mono ?_
  rintro e w3 ⟨hg, hb3⟩
  obtain ⟨uq, uu4, uu7, uu8, rfl, HNu⟩ := hg
  obtain ⟨N0, hN0⟩ : ∃ z, netNewN ringM (cwL 16) (cwL 16) = z := ⟨_, rfl⟩
  have HNB0 : Hid (NB N0) := Lib.hid (by rw [← hN0]; exact netNew_nb (by simp [ringM]) (by rw [cw_len]; omega) (by rw [cw_len]; omega))
  rw [hN0] at HNu
  rw [hN0]
  have HE0 := Lib.hid hN0
  clear hN0 HCALL
  obtain ⟨cok, hcok⟩ : ∃ z, classesOk ringM (cwL 16) (cwL 16) = z := ⟨_, rfl⟩
  rw [hcok]
  clear hcok
  obtain ⟨u1, u2, u3, u4, u5, u6, u7, u8, v1, v2, v3, v4, v5, v6, v7, v8⟩ := uq
  dsimp only [netCells]
  have hw3 : Below w3.heap.size w3 (w3.alloc (.cells #[.int .i64 N0.mesh.g.w, .int .i64 N0.mesh.g.h, .slice u1 N0.mesh.br.length v1, .slice u2 N0.pa.length v2, .slice u3 N0.pb.length v3, .slice u4 N0.bufs.length v4, .slice u5 N0.owners.length v5, .slice u6 N0.turns.length v6, .slice u7 N0.srcs.length v7, .slice u8 N0.arrs.length v8, .int .i64 N0.time] 33)) := bw_alloc _ (bw_refl w3)
  have HBT3 : Hid (BT (w3.alloc (.cells #[.int .i64 N0.mesh.g.w, .int .i64 N0.mesh.g.h, .slice u1 N0.mesh.br.length v1, .slice u2 N0.pa.length v2, .slice u3 N0.pb.length v3, .slice u4 N0.bufs.length v4, .slice u5 N0.owners.length v5, .slice u6 N0.turns.length v6, .slice u7 N0.srcs.length v7, .slice u8 N0.arrs.length v8, .int .i64 N0.time] 33)) w3.heap.size N0 ⟨u1, u2, u3, u4, u5, u6, u7, u8, v1, v2, v3, v4, v5, v6, v7, v8⟩) := Lib.hid (blk_new w3 _)
  have HN3 : Hid (NX (w3.alloc (.cells #[.int .i64 N0.mesh.g.w, .int .i64 N0.mesh.g.h, .slice u1 N0.mesh.br.length v1, .slice u2 N0.pa.length v2, .slice u3 N0.pb.length v3, .slice u4 N0.bufs.length v4, .slice u5 N0.owners.length v5, .slice u6 N0.turns.length v6, .slice u7 N0.srcs.length v7, .slice u8 N0.arrs.length v8, .int .i64 N0.time] 33)) w2.heap.size N0 ⟨u1, u2, u3, u4, u5, u6, u7, u8, v1, v2, v3, v4, v5, v6, v7, v8⟩ uu4 uu7 uu8) := Lib.hid (HNu.below hw3)
  have HZ3 : Hid (BN (w3.alloc (.cells #[.int .i64 N0.mesh.g.w, .int .i64 N0.mesh.g.h, .slice u1 N0.mesh.br.length v1, .slice u2 N0.pa.length v2, .slice u3 N0.pb.length v3, .slice u4 N0.bufs.length v4, .slice u5 N0.owners.length v5, .slice u6 N0.turns.length v6, .slice u7 N0.srcs.length v7, .slice u8 N0.arrs.length v8, .int .i64 N0.time] 33)) w.heap.size) := Lib.hid ((HZ2.out.below hb3).below hw3)
  have HW3 : Hid (Below w.heap.size w (w3.alloc (.cells #[.int .i64 N0.mesh.g.w, .int .i64 N0.mesh.g.h, .slice u1 N0.mesh.br.length v1, .slice u2 N0.pa.length v2, .slice u3 N0.pb.length v3, .slice u4 N0.bufs.length v4, .slice u5 N0.owners.length v5, .slice u6 N0.turns.length v6, .slice u7 N0.srcs.length v7, .slice u8 N0.arrs.length v8, .int .i64 N0.time] 33))) := Lib.hid (bw_then (bw_then HW2.out hb3) hw3)
  have z3 := bw_size hb3
  clear HNu hb3 hw3 HZ2 HW2
  have box11 : Box (w3.alloc (.cells #[.int .i64 N0.mesh.g.w, .int .i64 N0.mesh.g.h, .slice u1 N0.mesh.br.length v1, .slice u2 N0.pa.length v2, .slice u3 N0.pb.length v3, .slice u4 N0.bufs.length v4, .slice u5 N0.owners.length v5, .slice u6 N0.turns.length v6, .slice u7 N0.srcs.length v7, .slice u8 N0.arrs.length v8, .int .i64 N0.time] 33)) w3.heap.size #[.int .i64 N0.mesh.g.w, .int .i64 N0.mesh.g.h, .slice u1 N0.mesh.br.length v1, .slice u2 N0.pa.length v2, .slice u3 N0.pb.length v3, .slice u4 N0.bufs.length v4, .slice u5 N0.owners.length v5, .slice u6 N0.turns.length v6, .slice u7 N0.srcs.length v7, .slice u8 N0.arrs.length v8, .int .i64 N0.time] := HBT3.out.box
  obtain ⟨xa0, xa1, xa2, xa3, xa4, xa5, xa6, xa7, xa8, xa9, xa10⟩ := all11 box11
  clear box11
  have xal := HBT3.out.lt
  go_wp2_with fail
  clear xa0 xa1 xa2 xa3 xa4 xa5 xa6 xa7 xa8 xa9 xa10 xal
  obtain ⟨w4, e4⟩ : ∃ z, z = (w3.alloc (.cells #[.int .i64 N0.mesh.g.w, .int .i64 N0.mesh.g.h, .slice u1 N0.mesh.br.length v1, .slice u2 N0.pa.length v2, .slice u3 N0.pb.length v3, .slice u4 N0.bufs.length v4, .slice u5 N0.owners.length v5, .slice u6 N0.turns.length v6, .slice u7 N0.srcs.length v7, .slice u8 N0.arrs.length v8, .int .i64 N0.time] 33)) := ⟨_, rfl⟩
  rw [← e4] at HBT3 HN3 HZ3 HW3
  have z4 : w4.heap.size = w3.heap.size + 1 := by rw [e4]; simp only [szs]
  have HPL : Hid (kP.C (w4.alloc (.cells #[.int .i64 1, .int .i64 0, .int .i64 3, .int .i64 0, .int .i64 5, .int .i64 2, .int .i64 1, .int .i64 2, .int .i64 0, .int .i64 5, .int .i64 3, .int .i64 3, .int .i64 0, .int .i64 0, .int .i64 5, .int .i64 4, .int .i64 2, .int .i64 1, .int .i64 0, .int .i64 5] 44)) (some ⟨w4.heap.size, 0, none⟩) ringL.length ringL) := Lib.hid (C_ring w4)
  obtain ⟨w5, e5⟩ : ∃ z, z = w4.alloc (.cells #[.int .i64 1, .int .i64 0, .int .i64 3, .int .i64 0, .int .i64 5, .int .i64 2, .int .i64 1, .int .i64 2, .int .i64 0, .int .i64 5, .int .i64 3, .int .i64 3, .int .i64 0, .int .i64 0, .int .i64 5, .int .i64 4, .int .i64 2, .int .i64 1, .int .i64 0, .int .i64 5] 44) := ⟨_, rfl⟩
  have hw5 : Below w4.heap.size w4 w5 := by rw [e5]; exact bw_alloc _ (bw_refl w4)
  rw [← e5] at HPL
  have HBT5 := Lib.hid (HBT3.out.below hw5)
  have HN5 := Lib.hid (HN3.out.below hw5)
  have HZ5 := Lib.hid (HZ3.out.below hw5)
  have HW5 := Lib.hid (bw_then HW3.out hw5)
  have z5 := bw_size hw5
  have HCALL := impl_SendAll N0 ringL ⟨u1, u2, u3, u4, u5, u6, u7, u8, v1, v2, v3, v4, v5, v6, v7, v8⟩ (some ⟨w4.heap.size, 0, none⟩) 4 w5 (HN5.out.reads HNB0.out) HPL.out (by simp [ringL])
  rw [z4] at HCALL
  have HCALL := Lib.hid HCALL
  clear hw5 HBT3 HN3 HZ3 HW3 HPL
  rw [e4] at e5
  rw [← e5]
  clear e4 e5
  refine HCALL.out.mono ?_
  rintro e w6 ⟨hg, hb6⟩
  obtain ⟨sq, ss4, ss7, ss8, rfl, HNs⟩ := hg
  obtain ⟨N1, hN1⟩ : ∃ z, sendAllN N0 ringL = z := ⟨_, rfl⟩
  obtain ⟨k1, hk1⟩ : ∃ z, sendAllK N0 ringL = z := ⟨_, rfl⟩
  rw [hN1] at HNs
  rw [hN1, hk1]
  have HS : Hid (ringN = N1) := Lib.hid (by unfold ringN; rw [HE0.out]; exact hN1)
  clear hN1 hk1 HCALL
  obtain ⟨s1, s2, s3, s4, s5, s6, s7, s8, t1, t2, t3, t4, t5, t6, t7, t8⟩ := sq
  dsimp only [netCells]
  have hw7 : Below w6.heap.size w6 (w6.alloc (.cells #[.int .i64 N1.mesh.g.w, .int .i64 N1.mesh.g.h, .slice s1 N1.mesh.br.length t1, .slice s2 N1.pa.length t2, .slice s3 N1.pb.length t3, .slice s4 N1.bufs.length t4, .slice s5 N1.owners.length t5, .slice s6 N1.turns.length t6, .slice s7 N1.srcs.length t7, .slice s8 N1.arrs.length t8, .int .i64 N1.time] 33)) := bw_alloc _ (bw_refl w6)
  have HBT7 : Hid (BT (w6.alloc (.cells #[.int .i64 N1.mesh.g.w, .int .i64 N1.mesh.g.h, .slice s1 N1.mesh.br.length t1, .slice s2 N1.pa.length t2, .slice s3 N1.pb.length t3, .slice s4 N1.bufs.length t4, .slice s5 N1.owners.length t5, .slice s6 N1.turns.length t6, .slice s7 N1.srcs.length t7, .slice s8 N1.arrs.length t8, .int .i64 N1.time] 33)) w6.heap.size N1 ⟨s1, s2, s3, s4, s5, s6, s7, s8, t1, t2, t3, t4, t5, t6, t7, t8⟩) := Lib.hid (blk_new w6 _)
  have HN7 : Hid (NX (w6.alloc (.cells #[.int .i64 N1.mesh.g.w, .int .i64 N1.mesh.g.h, .slice s1 N1.mesh.br.length t1, .slice s2 N1.pa.length t2, .slice s3 N1.pb.length t3, .slice s4 N1.bufs.length t4, .slice s5 N1.owners.length t5, .slice s6 N1.turns.length t6, .slice s7 N1.srcs.length t7, .slice s8 N1.arrs.length t8, .int .i64 N1.time] 33)) w5.heap.size N1 ⟨s1, s2, s3, s4, s5, s6, s7, s8, t1, t2, t3, t4, t5, t6, t7, t8⟩ ss4 ss7 ss8) := Lib.hid (HNs.below hw7)
  have HZ7 : Hid (BN (w6.alloc (.cells #[.int .i64 N1.mesh.g.w, .int .i64 N1.mesh.g.h, .slice s1 N1.mesh.br.length t1, .slice s2 N1.pa.length t2, .slice s3 N1.pb.length t3, .slice s4 N1.bufs.length t4, .slice s5 N1.owners.length t5, .slice s6 N1.turns.length t6, .slice s7 N1.srcs.length t7, .slice s8 N1.arrs.length t8, .int .i64 N1.time] 33)) w.heap.size) := Lib.hid ((HZ5.out.below hb6).below hw7)
  have HW7 : Hid (Below w.heap.size w (w6.alloc (.cells #[.int .i64 N1.mesh.g.w, .int .i64 N1.mesh.g.h, .slice s1 N1.mesh.br.length t1, .slice s2 N1.pa.length t2, .slice s3 N1.pb.length t3, .slice s4 N1.bufs.length t4, .slice s5 N1.owners.length t5, .slice s6 N1.turns.length t6, .slice s7 N1.srcs.length t7, .slice s8 N1.arrs.length t8, .int .i64 N1.time] 33))) := Lib.hid (bw_then (bw_then HW5.out hb6) hw7)
  have z6 := bw_size hb6
  clear HNs hb6 hw7 HZ5 HW5 HBT5 HN5
  have box11 : Box (w6.alloc (.cells #[.int .i64 N1.mesh.g.w, .int .i64 N1.mesh.g.h, .slice s1 N1.mesh.br.length t1, .slice s2 N1.pa.length t2, .slice s3 N1.pb.length t3, .slice s4 N1.bufs.length t4, .slice s5 N1.owners.length t5, .slice s6 N1.turns.length t6, .slice s7 N1.srcs.length t7, .slice s8 N1.arrs.length t8, .int .i64 N1.time] 33)) w6.heap.size #[.int .i64 N1.mesh.g.w, .int .i64 N1.mesh.g.h, .slice s1 N1.mesh.br.length t1, .slice s2 N1.pa.length t2, .slice s3 N1.pb.length t3, .slice s4 N1.bufs.length t4, .slice s5 N1.owners.length t5, .slice s6 N1.turns.length t6, .slice s7 N1.srcs.length t7, .slice s8 N1.arrs.length t8, .int .i64 N1.time] := HBT7.out.box
  obtain ⟨xb0, xb1, xb2, xb3, xb4, xb5, xb6, xb7, xb8, xb9, xb10⟩ := all11 box11
  clear box11
  have xbl := HBT7.out.lt
  obtain ⟨⟨ry0, rv0⟩, ⟨ry1, rv1⟩, ⟨ry2, rv2⟩, ⟨ry3, rv3⟩, ⟨ry4, rv4⟩, ⟨ry5, rv5⟩, ⟨ry6, rv6⟩, ⟨ry7, rv7⟩, ⟨ry8, rv8⟩, ⟨ry9, rv9⟩, ⟨ry10, rv10⟩, rz0, rz1, rz2, rz3, rz4, rz5, rz6, rz7, rz8, rz9, rz10⟩ := allBN HZ7.out
  have zl := HZ7.out.lt
  go_wp2
  obtain ⟨W9, e9⟩ : ∃ z, z = putN (w6.alloc (.cells #[.int .i64 N1.mesh.g.w, .int .i64 N1.mesh.g.h, .slice s1 N1.mesh.br.length t1, .slice s2 N1.pa.length t2, .slice s3 N1.pb.length t3, .slice s4 N1.bufs.length t4, .slice s5 N1.owners.length t5, .slice s6 N1.turns.length t6, .slice s7 N1.srcs.length t7, .slice s8 N1.arrs.length t8, .int .i64 N1.time] 33)) w.heap.size N1 ⟨s1, s2, s3, s4, s5, s6, s7, s8, t1, t2, t3, t4, t5, t6, t7, t8⟩ := ⟨_, rfl⟩
  have HB9 : Hid (BT W9 w.heap.size N1 ⟨s1, s2, s3, s4, s5, s6, s7, s8, t1, t2, t3, t4, t5, t6, t7, t8⟩) := Lib.hid (by rw [e9]; exact putN_BT HZ7.out)
  have HN9 := Lib.hid (show NX W9 _ N1 ⟨s1, s2, s3, s4, s5, s6, s7, s8, t1, t2, t3, t4, t5, t6, t7, t8⟩ ss4 ss7 ss8 from by rw [e9]; exact HN7.out.put HZ7.out)
  have HL9 : Hid (Below w.heap.size w W9) := Lib.hid (by rw [e9]; exact below_put HW7.out (Nat.le_refl _))
  unfold putN at e9
  try dsimp only at e9
  rw [← e9]
  clear e9
  exact bodyPost_ret (results_cell_row Try.results5 _ _ w.heap.size 33 _ (0, 0) _ rfl HB9.out Try.underlying33 rfl (by kernel_rfl)) rfl (by rw [HS.out]; exact ⟨⟨_, _, _, _, rfl, HN9.out.lower (by omega)⟩, HL9.out⟩)
set_option maxHeartbeats 16000000 in
set_option maxRecDepth 100000 in
theorem spec_RingNet (w : World) : Calls Try.prog 4 #[] w fun e w' => GotNX w w' ringN e ∧ Below w.heap.size w w' := by
  obtain ⟨wa, ewa⟩ : ∃ z, z = w.alloc (.cells #[.int .i64 0, .int .i64 0, .slice none 0 0, .slice none 0 0, .slice none 0 0, .slice none 0 0, .slice none 0 0, .slice none 0 0, .slice none 0 0, .slice none 0 0, .int .i64 0] 33) := ⟨_, rfl⟩
  have hwa : Below w.heap.size w wa := by rw [ewa]; exact bw_alloc _ (bw_refl w)
  have zwa : wa.heap.size = w.heap.size + 1 := by rw [ewa]; simp only [szs]
  have HZ : Hid (BN wa w.heap.size) := Lib.hid (by rw [ewa]; exact (BT.new w zeroN ZQ).bn)
  go_enter Try.func4, Try.ntmps4
  go_wp2_with fail
  rw [← ewa]
  clear ewa
  refine (spec_ClockwiseTable _).mono ?_
  rintro e w1 ⟨hg, hb1⟩
  obtain ⟨Aa, ca, rfl, HOa⟩ := hg.at
  have HW1 := Lib.hid (bw_then hwa hb1)
  have HZ1 := Lib.hid (HZ.out.below hb1)
  have HOa := Lib.hid HOa
  have z1 := bw_size hb1
  clear hb1 hwa HZ hg
  go_wp2_with fail
  refine (spec_ClockwiseTable _).mono ?_
  rintro e w2 ⟨hg, hb2⟩
  obtain ⟨Ab, cb, rfl, HOb⟩ := hg.at
  have HW2 := Lib.hid (bw_then HW1.out hb2)
  have HZ2 := Lib.hid (HZ1.out.below hb2)
  have HCa := Lib.hid (Kd.R_rowX (Kd.R_below HOa.out hb2)).2.2
  have HCb := Lib.hid (Kd.R_rowX HOb).2.2
  have HCm : Hid (Kd.C (Kd.int .i64) w2 none ringM.br.length ringM.br) := Lib.hid (Kd.R_rowX (Kd.R_nil (Kd.int .i64) 3 w2 0 (fun _ => True))).2.2
  have z2 := bw_size hb2
  have hl16 := cw_len
  clear hb2 HOa HOb HW1 HZ1 hg
  have HCALL := Lib.hid (spec_NetNew ringM (cwL 16) (cwL 16) none Aa Ab 0 ca cb w2 HCm.out (by simp [ringM]) HCa.out (by omega) HCb.out (by omega))
  clear hl16
  go_wp2_with fail
  refine HCALL.out.mono ?_
  rintro e w3 ⟨hg, hb3⟩
  obtain ⟨uq, uu4, uu7, uu8, rfl, HNu⟩ := hg
  obtain ⟨N0, hN0⟩ : ∃ z, netNewN ringM (cwL 16) (cwL 16) = z := ⟨_, rfl⟩
  have HNB0 : Hid (NB N0) := Lib.hid (by rw [← hN0]; exact netNew_nb (by simp [ringM]) (by rw [cw_len]; omega) (by rw [cw_len]; omega))
  rw [hN0] at HNu
  rw [hN0]
  have HE0 := Lib.hid hN0
  clear hN0 HCALL
  obtain ⟨cok, hcok⟩ : ∃ z, classesOk ringM (cwL 16) (cwL 16) = z := ⟨_, rfl⟩
  rw [hcok]
  clear hcok
  obtain ⟨u1, u2, u3, u4, u5, u6, u7, u8, v1, v2, v3, v4, v5, v6, v7, v8⟩ := uq
  dsimp only [netCells]
  have hw3 : Below w3.heap.size w3 (w3.alloc (.cells #[.int .i64 N0.mesh.g.w, .int .i64 N0.mesh.g.h, .slice u1 N0.mesh.br.length v1, .slice u2 N0.pa.length v2, .slice u3 N0.pb.length v3, .slice u4 N0.bufs.length v4, .slice u5 N0.owners.length v5, .slice u6 N0.turns.length v6, .slice u7 N0.srcs.length v7, .slice u8 N0.arrs.length v8, .int .i64 N0.time] 33)) := bw_alloc _ (bw_refl w3)
  have HBT3 : Hid (BT (w3.alloc (.cells #[.int .i64 N0.mesh.g.w, .int .i64 N0.mesh.g.h, .slice u1 N0.mesh.br.length v1, .slice u2 N0.pa.length v2, .slice u3 N0.pb.length v3, .slice u4 N0.bufs.length v4, .slice u5 N0.owners.length v5, .slice u6 N0.turns.length v6, .slice u7 N0.srcs.length v7, .slice u8 N0.arrs.length v8, .int .i64 N0.time] 33)) w3.heap.size N0 ⟨u1, u2, u3, u4, u5, u6, u7, u8, v1, v2, v3, v4, v5, v6, v7, v8⟩) := Lib.hid (blk_new w3 _)
  have HN3 : Hid (NX (w3.alloc (.cells #[.int .i64 N0.mesh.g.w, .int .i64 N0.mesh.g.h, .slice u1 N0.mesh.br.length v1, .slice u2 N0.pa.length v2, .slice u3 N0.pb.length v3, .slice u4 N0.bufs.length v4, .slice u5 N0.owners.length v5, .slice u6 N0.turns.length v6, .slice u7 N0.srcs.length v7, .slice u8 N0.arrs.length v8, .int .i64 N0.time] 33)) w2.heap.size N0 ⟨u1, u2, u3, u4, u5, u6, u7, u8, v1, v2, v3, v4, v5, v6, v7, v8⟩ uu4 uu7 uu8) := Lib.hid (HNu.below hw3)
  have HZ3 : Hid (BN (w3.alloc (.cells #[.int .i64 N0.mesh.g.w, .int .i64 N0.mesh.g.h, .slice u1 N0.mesh.br.length v1, .slice u2 N0.pa.length v2, .slice u3 N0.pb.length v3, .slice u4 N0.bufs.length v4, .slice u5 N0.owners.length v5, .slice u6 N0.turns.length v6, .slice u7 N0.srcs.length v7, .slice u8 N0.arrs.length v8, .int .i64 N0.time] 33)) w.heap.size) := Lib.hid ((HZ2.out.below hb3).below hw3)
  have HW3 : Hid (Below w.heap.size w (w3.alloc (.cells #[.int .i64 N0.mesh.g.w, .int .i64 N0.mesh.g.h, .slice u1 N0.mesh.br.length v1, .slice u2 N0.pa.length v2, .slice u3 N0.pb.length v3, .slice u4 N0.bufs.length v4, .slice u5 N0.owners.length v5, .slice u6 N0.turns.length v6, .slice u7 N0.srcs.length v7, .slice u8 N0.arrs.length v8, .int .i64 N0.time] 33))) := Lib.hid (bw_then (bw_then HW2.out hb3) hw3)
  have z3 := bw_size hb3
  clear HNu hb3 hw3 HZ2 HW2
  have box11 : Box (w3.alloc (.cells #[.int .i64 N0.mesh.g.w, .int .i64 N0.mesh.g.h, .slice u1 N0.mesh.br.length v1, .slice u2 N0.pa.length v2, .slice u3 N0.pb.length v3, .slice u4 N0.bufs.length v4, .slice u5 N0.owners.length v5, .slice u6 N0.turns.length v6, .slice u7 N0.srcs.length v7, .slice u8 N0.arrs.length v8, .int .i64 N0.time] 33)) w3.heap.size #[.int .i64 N0.mesh.g.w, .int .i64 N0.mesh.g.h, .slice u1 N0.mesh.br.length v1, .slice u2 N0.pa.length v2, .slice u3 N0.pb.length v3, .slice u4 N0.bufs.length v4, .slice u5 N0.owners.length v5, .slice u6 N0.turns.length v6, .slice u7 N0.srcs.length v7, .slice u8 N0.arrs.length v8, .int .i64 N0.time] := HBT3.out.box
  obtain ⟨xa0, xa1, xa2, xa3, xa4, xa5, xa6, xa7, xa8, xa9, xa10⟩ := all11 box11
  clear box11
  have xal := HBT3.out.lt
  go_wp2_with fail
  clear xa0 xa1 xa2 xa3 xa4 xa5 xa6 xa7 xa8 xa9 xa10 xal
  obtain ⟨w4, e4⟩ : ∃ z, z = (w3.alloc (.cells #[.int .i64 N0.mesh.g.w, .int .i64 N0.mesh.g.h, .slice u1 N0.mesh.br.length v1, .slice u2 N0.pa.length v2, .slice u3 N0.pb.length v3, .slice u4 N0.bufs.length v4, .slice u5 N0.owners.length v5, .slice u6 N0.turns.length v6, .slice u7 N0.srcs.length v7, .slice u8 N0.arrs.length v8, .int .i64 N0.time] 33)) := ⟨_, rfl⟩
  rw [← e4] at HBT3 HN3 HZ3 HW3
  have z4 : w4.heap.size = w3.heap.size + 1 := by rw [e4]; simp only [szs]
  have HPL : Hid (kP.C (w4.alloc (.cells #[.int .i64 1, .int .i64 0, .int .i64 3, .int .i64 0, .int .i64 5, .int .i64 2, .int .i64 1, .int .i64 2, .int .i64 0, .int .i64 5, .int .i64 3, .int .i64 3, .int .i64 0, .int .i64 0, .int .i64 5, .int .i64 4, .int .i64 2, .int .i64 1, .int .i64 0, .int .i64 5] 44)) (some ⟨w4.heap.size, 0, none⟩) ringL.length ringL) := Lib.hid (C_ring w4)
  obtain ⟨w5, e5⟩ : ∃ z, z = w4.alloc (.cells #[.int .i64 1, .int .i64 0, .int .i64 3, .int .i64 0, .int .i64 5, .int .i64 2, .int .i64 1, .int .i64 2, .int .i64 0, .int .i64 5, .int .i64 3, .int .i64 3, .int .i64 0, .int .i64 0, .int .i64 5, .int .i64 4, .int .i64 2, .int .i64 1, .int .i64 0, .int .i64 5] 44) := ⟨_, rfl⟩
  have hw5 : Below w4.heap.size w4 w5 := by rw [e5]; exact bw_alloc _ (bw_refl w4)
  rw [← e5] at HPL
  have HBT5 := Lib.hid (HBT3.out.below hw5)
  have HN5 := Lib.hid (HN3.out.below hw5)
  have HZ5 := Lib.hid (HZ3.out.below hw5)
  have HW5 := Lib.hid (bw_then HW3.out hw5)
  have z5 := bw_size hw5
  have HCALL := spec_SendAll N0 ringL ⟨u1, u2, u3, u4, u5, u6, u7, u8, v1, v2, v3, v4, v5, v6, v7, v8⟩ (some ⟨w4.heap.size, 0, none⟩) 4 w5 (HN5.out.reads HNB0.out) HPL.out (by simp [ringL])
  rw [z4] at HCALL
  have HCALL := Lib.hid HCALL
  clear hw5 HBT3 HN3 HZ3 HW3 HPL
  rw [e4] at e5
  rw [← e5]
  clear e4 e5
  refine HCALL.out.mono ?_
  rintro e w6 ⟨hg, hb6⟩
  obtain ⟨sq, ss4, ss7, ss8, rfl, HNs⟩ := hg
  obtain ⟨N1, hN1⟩ : ∃ z, sendAllN N0 ringL = z := ⟨_, rfl⟩
  obtain ⟨k1, hk1⟩ : ∃ z, sendAllK N0 ringL = z := ⟨_, rfl⟩
  rw [hN1] at HNs
  rw [hN1, hk1]
  have HS : Hid (ringN = N1) := Lib.hid (by unfold ringN; rw [HE0.out]; exact hN1)
  clear hN1 hk1 HCALL
  obtain ⟨s1, s2, s3, s4, s5, s6, s7, s8, t1, t2, t3, t4, t5, t6, t7, t8⟩ := sq
  dsimp only [netCells]
  have HNs := Lib.hid HNs
  have HB6 : Hid (BN w6 w3.heap.size) := Lib.hid ((HBT5.out.below hb6).bn)
  have HZ6 := Lib.hid (HZ5.out.below hb6)
  have HW6 := Lib.hid (bw_then HW5.out hb6)
  have z6 := bw_size hb6
  clear hb6 HZ5 HW5 HBT5 HN5
  obtain ⟨⟨ry0, rv0⟩, ⟨ry1, rv1⟩, ⟨ry2, rv2⟩, ⟨ry3, rv3⟩, ⟨ry4, rv4⟩, ⟨ry5, rv5⟩, ⟨ry6, rv6⟩, ⟨ry7, rv7⟩, ⟨ry8, rv8⟩, ⟨ry9, rv9⟩, ⟨ry10, rv10⟩, rz0, rz1, rz2, rz3, rz4, rz5, rz6, rz7, rz8, rz9, rz10⟩ := allBN HZ6.out
  obtain ⟨⟨qy0, qv0⟩, ⟨qy1, qv1⟩, ⟨qy2, qv2⟩, ⟨qy3, qv3⟩, ⟨qy4, qv4⟩, ⟨qy5, qv5⟩, ⟨qy6, qv6⟩, ⟨qy7, qv7⟩, ⟨qy8, qv8⟩, ⟨qy9, qv9⟩, ⟨qy10, qv10⟩, qz0, qz1, qz2, qz3, qz4, qz5, qz6, qz7, qz8, qz9, qz10⟩ := allBN HB6.out
  have zl := HZ6.out.lt
  have bl := HB6.out.lt
  go_wp2
  obtain ⟨W8, e8⟩ : ∃ z, z = putN w6 w3.heap.size N1 ⟨s1, s2, s3, s4, s5, s6, s7, s8, t1, t2, t3, t4, t5, t6, t7, t8⟩ := ⟨_, rfl⟩
  have HZ8 : Hid (BN W8 w.heap.size) := Lib.hid (by rw [e8]; exact bn_put' HZ6.out (by omega))
  have HN8 := Lib.hid (show NX W8 _ N1 ⟨s1, s2, s3, s4, s5, s6, s7, s8, t1, t2, t3, t4, t5, t6, t7, t8⟩ ss4 ss7 ss8 from by rw [e8]; exact HNs.out.put HB6.out)
  have HL8 : Hid (Below w.heap.size w W8) := Lib.hid (by rw [e8]; exact below_put HW6.out (by omega))
  obtain ⟨W9, e9⟩ : ∃ z, z = putN W8 w.heap.size N1 ⟨s1, s2, s3, s4, s5, s6, s7, s8, t1, t2, t3, t4, t5, t6, t7, t8⟩ := ⟨_, rfl⟩
  have HB9 : Hid (BT W9 w.heap.size N1 ⟨s1, s2, s3, s4, s5, s6, s7, s8, t1, t2, t3, t4, t5, t6, t7, t8⟩) := Lib.hid (by rw [e9]; exact putN_BT HZ8.out)
  have HN9 := Lib.hid (show NX W9 _ N1 ⟨s1, s2, s3, s4, s5, s6, s7, s8, t1, t2, t3, t4, t5, t6, t7, t8⟩ ss4 ss7 ss8 from by rw [e9]; exact HN8.out.put HZ8.out)
  have HL9 : Hid (Below w.heap.size w W9) := Lib.hid (by rw [e9]; exact below_put HL8.out (Nat.le_refl _))
  unfold putN at e8 e9
  try dsimp only at e8 e9
  rw [← e8, ← e9]
  clear e8 e9
  exact bodyPost_ret (results_cell_row Try.results4 _ _ w.heap.size 33 _ (0, 0) _ rfl HB9.out Try.underlying33 rfl (by kernel_rfl)) rfl (by rw [HS.out]; exact ⟨⟨_, _, _, _, rfl, HN9.out.lower (by omega)⟩, HL9.out⟩)
end Go.Proofs.Ytmkbmddgkdoaiaa
namespace Go.Proofs.Ytmkbmddgkdoaiaa
open Go.ChangeShapes Go.WideShapes Go.ChangeAt Go.RowKit Go.Proofs.YtmkbmddgkdoaiaaW.PrintWords
open NoC
section
variable {H : Type} {enc : TypeId × Value → H} {W : World} {base : Nat} {spare : Nat → Bool} {held : Bool} {fuel : Nat} {cs : List Value} {x : DataW H × List MemPlace}
end
section
variable {H : Type} {enc : TypeId × Value → H} {W : World} {base : Nat} {spare : Nat → Bool} {held : Bool} {fuel : Nat} {cs : List Value} {x : DataW H × List MemPlace}
end
structure NetC (w : World) (n : Net) (q : NA) : Prop where
  br : Kd.C (Kd.int .i64) w q.a1 n.mesh.br.length n.mesh.br
  pa : Kd.C (Kd.int .i64) w q.a2 n.pa.length n.pa
  pb : Kd.C (Kd.int .i64) w q.a3 n.pb.length n.pb
  bufs : (kB 77).C w q.a4 n.bufs.length n.bufs
  owners : Kd.C (Kd.int .i64) w q.a5 n.owners.length n.owners
  turns : Kd.C (Kd.int .i64) w q.a6 n.turns.length n.turns
  srcs : (kB 77).C w q.a7 n.srcs.length n.srcs
  arrs : (kB 77).C w q.a8 n.arrs.length n.arrs
  h1 : n.mesh.br.length ≤ 140737488355328
  h2 : n.pa.length ≤ 140737488355328
  h3 : n.pb.length ≤ 140737488355328
  h5 : n.owners.length ≤ 140737488355328
  h6 : n.turns.length ≤ 140737488355328
theorem NetC.below {w w1 : World} {n : Net} {q : NA} (h : NetC w n q) (hb : Below w.heap.size w w1) : NetC w1 n q :=
  ⟨Kd.C_below h.br hb, Kd.C_below h.pa hb, Kd.C_below h.pb hb, Kd.C_below h.bufs hb, Kd.C_below h.owners hb, Kd.C_below h.turns hb, Kd.C_below h.srcs hb, Kd.C_below h.arrs hb, h.h1, h.h2, h.h3, h.h5, h.h6⟩
section
variable {H : Type} {enc : TypeId × Value → H} {W : World} {base : Nat} {spare : Nat → Bool} {held : Bool} {fuel : Nat} {cs : List Value} {x : DataW H × List MemPlace}
end
end Go.Proofs.Ytmkbmddgkdoaiaa
namespace Go.Proofs.Ytmkbmddgkdoaiaa
open Go.RowKit Go.Proofs.YtmkbmddgkdoaiaaW.PrintWords
open NoC
theorem RU.off {α : Type} {d : Kd α} {e : Nat} {w : World} {lo hi : Nat} {v : Value} {xs : List α} (h : RU d e w lo hi v xs) {g : Nat} (hg : g < lo) (j : Nat) (u : Value) : RU d e (w.setCell ⟨g, j, none⟩ u) lo hi v xs :=
  h.step (fun k h1 _ _ => Below.heap_setCell w ⟨g, j, none⟩ u k (by show k ≠ g; omega))
theorem OB.off {w : World} {lo hi : Nat} {v : Value} {l : List (List Flit)} {vs : List Value} (h : OB w lo hi v l vs) {g : Nat} (hg : g < lo) (j : Nat) (u : Value) : OB (w.setCell ⟨g, j, none⟩ u) lo hi v l vs :=
  h.step (fun k h1 _ _ => Below.heap_setCell w ⟨g, j, none⟩ u k (by show k ≠ g; omega))
theorem RU.bel {α : Type} {d : Kd α} {e : Nat} {w w1 : World} {lo hi : Nat} {v : Value} {xs : List α} (hb : Below w.heap.size w w1) (h : RU d e w lo hi v xs) : RU d e w1 lo hi v xs := h.below hb
theorem OB.bel {w w1 : World} {lo hi : Nat} {v : Value} {l : List (List Flit)} {vs : List Value} (hb : Below w.heap.size w w1) (h : OB w lo hi v l vs) : OB w1 lo hi v l vs := h.below hb
end Go.Proofs.Ytmkbmddgkdoaiaa
