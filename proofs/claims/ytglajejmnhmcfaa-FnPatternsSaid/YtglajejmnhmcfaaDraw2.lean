/- The places that a law draws: twelve numbers, each 0 .. 9999; for all bytes. -/
import Derived.Test.YtglajejmnhmcfaaDraw
set_option linter.unusedVariables false
set_option linter.unusedSimpArgs false
namespace Go.Proofs.Ytglajejmnhmcfaa
open Go.RowKit Go.Proofs.YtglajejmnhmcfaaW.PrintWords
open NoC

section
variable {P : Program} {ops : Array Oper} {rest : List Oper} {o : Oper} {a : Act} {Q : Exit → Act → World → Prop}
/-- append, with what it leaves alone. -/
theorem app_intC {W0 W : World} (hgd : o.guard = none) (s x : Operand) (t e : TypeId)
    (ho : o.op = .call { callee := .builtin .append, args := #[s, x], argTypes := #[t, t] })
    (ht : P.underlying t = some (.slice e)) (hinfo : (P.info? e).map (fun i => (i.zero, i.size, i.bytes)) = some (some (.int .i64 0), 1, 8))
    (v : Value) (xs : List Int) (y : Int) (hs : a.eval s = v) (hx : a.eval x = .slice (some ⟨W.heap.size, 0, none⟩) 1 1)
    (HO : Kd.R (Kd.int .i64) e W W0.heap.size (fun _ => True) v xs) (HB : Below W0.heap.size W0 W) (hl : xs.length ≤ 1000000000)
    (h : ∀ v1 w1, Kd.R (Kd.int .i64) e w1 W0.heap.size (fun _ => True) v1 (xs ++ [y]) → Below W0.heap.size W0 w1 → W.grownBy w1 v.ownBlock → (v1.ownBlock = v.ownBlock ∨ ∃ b, v1.ownBlock = some b ∧ W.heap.size ≤ b) → wpList P ops Q rest (a.put o.dst v1) w1) :
    wpList P ops Q (o :: rest) a (W.alloc (.cells #[.int .i64 y] e)) :=
  Kd.R_append (Kd.int .i64) W0.heap.size hgd s x t e (.int .i64 0) 8 ho ht hinfo rfl (by decide) (by omega) v xs y [.int .i64 y] (fun _ => True) (fun _ => False) hs hx rfl (fun _ hk => hk.elim) (fun _ _ => trivial) HO HB HB.size (by omega) h
end
theorem ri_snoc_lt (xs : List Int) (x : Int) (j : Nat) (h : j < xs.length) : ri (xs ++ [x]) j = ri xs j := by
  rw [ri_get _ j (by rw [List.length_append]; simp; omega), ri_get _ j h, List.getElem_append_left h]
theorem ri_snoc_at (xs : List Int) (x : Int) : ri (xs ++ [x]) xs.length = x := by
  rw [ri_get _ _ (by rw [List.length_append]; simp)]
  simp
set_option maxHeartbeats 1000000 in
theorem spec_DrawPlaces (A : Option Addr) (N c : Nat) (w : World) (HX : Byt w A N) : Calls Try.prog 19 #[.slice A N c] w fun e w' => (∃ xs : List Int, GotI w w' xs e ∧ xs.length = 12 ∧ ∀ j : Nat, j < 12 → 0 ≤ ri xs j ∧ ri xs j ≤ 9999) ∧ Below w.heap.size w w' := by
  go_enter Try.func19, Try.ntmps19
  go_wp2_with (go_at_call 46; refine (spec_l01New A N c _ HX).mono ?_; rintro e w1 ⟨b, rfl, hb, HC1, hb1⟩; have hz1 := hb1.size)
  have hbl := HC1.lt
  go_loopw [4, 5] (fun v i wr => ∃ (k : Nat) (xs : List Int), i = .int .i64 k ∧ k ≤ 12 ∧ Hid (xs.length = k) ∧ Hid (∀ j : Nat, j < k → 0 ≤ ri xs j ∧ ri xs j ≤ 9999) ∧ Kd.R (Kd.int .i64) 3 wr w.heap.size (fun _ => True) v xs ∧ v.ownBlock ≠ some b ∧ Cur wr b w.heap.size ∧ Below w.heap.size w wr) (fun _ i _ => 12 - (intOf i).toNat)
  case atStart => exact ⟨0, [], rfl, Nat.zero_le _, Lib.hid rfl, Lib.hid fun j h => absurd h (Nat.not_lt_zero _), R_empty' (W0 := w) (W := w1) _ _ hz1 _ rfl, by simp [Value.ownBlock]; omega, HC1.below (bw_alloc _ (bw_refl _)), (by with_reducible repeat (first | assumption | exact bw_refl _ | apply bw_alloc | apply bw_drew | apply bw_drewN | refine bw_set _ ?_ (by omega) | refine bw_then ?_ (by assumption)))⟩
  case round =>
    obtain ⟨k, xs, rfl, hk, HL, HA, HO, HAP, HC, HB⟩ := hrel
    obtain ⟨Ao, co, rfl⟩ := Kd.R_slice HO
    have hle : xs.length ≤ 12 := by have := HL.out; omega
    by_cases hlt : (k : Int) < 12
    · go_wp2_with (first
        | (go_at_call 47; refine (spec_l01Below b _ 10000 _ HC (by decide) (by decide)).mono ?_; rintro e w2 ⟨x, rfl, x0, x1, HC2, hg2⟩; have HB2 := bw_cur HB hg2 hb; have HO2 := R_grownI HO hg2 (.inr HAP))
        | (at_builtin; refine app_intC (W0 := w) rfl (.tmp 13) (.tmp 16) 36 3 rfl Try.underlying36 info_int _ xs x rfl rfl HO2 HB2 (by omega) ?_; intro v3 w3 HO3 HB3 hg3 hat3))
      have HC3 : Cur w3 b w.heap.size := HC2.grown hg3 (fun q hq => ⟨Kd.R_base HO2 q hq, fun e => HAP (by subst e; exact hq)⟩)
      have HAP3 : v3.ownBlock ≠ some b := by
        rcases hat3 with hat | ⟨q, hq, hle⟩
        · rw [hat]; exact HAP
        · rw [hq]; intro e; injection e with e; have := HC2.lt; omega
      go_roundw
      case rel => exact ⟨k + 1, xs ++ [x], by go_num, by omega, Lib.hid (by rw [List.length_append]; simp; exact HL.out), Lib.hid (upto (fun j hj => by rw [ri_snoc_lt _ _ _ (by have := HL.out; omega)]; exact HA.out j hj) (by rw [← HL.out, ri_snoc_at]; omega)), HO3, HAP3, HC3, HB3⟩
      case measure => simp [intOf]; omega
    · go_wp2
      go_ret
      have hk12 : k = 12 := by omega
      subst hk12
      exact ⟨⟨xs, ⟨_, rfl, HO⟩, HL.out, HA.out⟩, HB⟩
end Go.Proofs.Ytglajejmnhmcfaa
