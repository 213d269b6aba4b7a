/- The cycle among waits: what the program and the reference return; for all lists of at most a million waits. -/
import Derived.Test.YtfofebegfobjdaaWt
import Derived.RangeFuncBox
import Derived.Laws.Cover3
set_option linter.unusedVariables false
set_option linter.unusedSimpArgs false
namespace Go.Proofs.Ytfofebegfobjdaa
open Go.RowKit Go.Proofs.YtfofebegfobjdaaW.PrintWords
open NoC

/-- The first wait from a place, -1 if there is none. -/
def widx (l : List Wait) (x : Int) : Int := if l.any (fun q => q.a == x) then ((l.findIdx (fun q => q.a == x) : Nat) : Int) else -1
theorem rw_get (l : List Wait) (k : Nat) (h : k < l.length) : rw_ l (k : Int) = l[k] := by
  simp [rw_, List.getD_eq_getElem?_getD, h]
theorem widx_yes {l : List Wait} {x : Int} (j : Nat) (hj : j < l.length) (h : (rw_ l j).a = x) (hb : ∀ q : Nat, q < j → ¬ (rw_ l q).a = x) : widx l x = j := by
  have hany : l.any (fun q => q.a == x) = true := by
    rw [List.any_eq_true]
    rw [rw_get l j hj] at h
    exact ⟨_, List.getElem_mem hj, by simpa using h⟩
  unfold widx
  rw [if_pos hany]
  have : l.findIdx (fun q => q.a == x) = j := by
    rw [List.findIdx_eq hj]
    rw [rw_get l j hj] at h
    refine ⟨by simpa using h, fun i hi => ?_⟩
    have := hb i hi
    rw [rw_get l i (by omega)] at this
    simpa using this
  rw [this]
theorem widx_no {l : List Wait} {x : Int} (h : ∀ q : Nat, q < l.length → ¬ (rw_ l q).a = x) : widx l x = -1 := by
  have hany : ¬ l.any (fun q => q.a == x) = true := by
    rw [List.any_eq_true]
    rintro ⟨q, hq, e⟩
    obtain ⟨j, hj, rfl⟩ := List.getElem_of_mem hq
    exact h j hj (by rw [rw_get l j hj]; simpa using e)
  unfold widx
  rw [if_neg hany]
theorem widx_range (l : List Wait) (x : Int) : widx l x = -1 ∨ ∃ j : Nat, j < l.length ∧ widx l x = j := by
  by_cases h : l.any (fun q => q.a == x) = true
  · right
    refine ⟨l.findIdx (fun q => q.a == x), ?_, by unfold widx; rw [if_pos h]⟩
    rw [List.findIdx_lt_length]
    rw [List.any_eq_true] at h
    exact h
  · left
    unfold widx
    rw [if_neg h]
/-- The buffers that are passed, for so many steps. -/
def cyc (l : List Wait) (s : Int) : Nat → Int → List Int → List Int
  | 0, _, _ => []
  | k + 1, at_, out =>
    if widx l at_ = -1 then []
    else if (rw_ l (widx l at_)).b = s then out
    else if (rw_ l (widx l at_)).b = -1 then []
    else cyc l s k (rw_ l (widx l at_)).b (out ++ [(rw_ l (widx l at_)).b])
def cycAt (l : List Wait) (j : Nat) : List Int := cyc l (rw_ l j).a l.length (rw_ l j).a [(rw_ l j).a]
theorem cyc_len (l : List Wait) (s : Int) : ∀ (k : Nat) (a : Int) (out : List Int), (cyc l s k a out).length ≤ out.length + k := by
  intro k
  induction k with
  | zero => intro a out; simp [cyc]
  | succ k ih =>
    intro a out
    unfold cyc
    split
    · simp
    · split
      · omega
      · split
        · simp
        · have := ih (rw_ l (widx l a)).b (out ++ [(rw_ l (widx l a)).b])
          simp only [List.length_append, List.length_singleton] at this
          omega
def wcL (l : List Wait) : List Int := (((List.range l.length).map (cycAt l)).find? (fun r => decide (0 < r.length))).getD []
theorem wcL_yes {l : List Wait} (j : Nat) (hj : j < l.length) (h : 0 < (cycAt l j).length) (hb : ∀ q, q < j → cycAt l q = []) : wcL l = cycAt l j := by
  unfold wcL
  have : ((List.range l.length).map (cycAt l)).find? (fun r => decide (0 < r.length)) = some (cycAt l j) := by
    rw [List.find?_eq_some_iff_getElem]
    refine ⟨by simpa using h, j, by simpa using hj, by simp, fun q hq => ?_⟩
    simp [hb q hq]
  rw [this]
  rfl
theorem wcL_no {l : List Wait} (hb : ∀ q, q < l.length → cycAt l q = []) : wcL l = [] := by
  unfold wcL
  have : ((List.range l.length).map (cycAt l)).find? (fun r => decide (0 < r.length)) = none := by
    rw [List.find?_eq_none]
    intro r hr
    simp only [List.mem_map, List.mem_range] at hr
    obtain ⟨q, hq, rfl⟩ := hr
    simp [hb q hq]
  rw [this]
  rfl
theorem wcL_len (l : List Wait) : (wcL l).length ≤ l.length + 1 := by
  by_cases h : ∃ j, j < l.length ∧ 0 < (cycAt l j).length
  · have hx : ∃ j, j < l.length ∧ 0 < (cycAt l j).length ∧ ∀ q, q < j → cycAt l q = [] := by
      obtain ⟨j, hj⟩ := h
      induction j using Nat.strongRecOn with
      | ind j ih =>
        by_cases hb : ∃ q, q < j ∧ 0 < (cycAt l q).length
        · obtain ⟨q, hq, hp⟩ := hb
          exact ih q hq ⟨by omega, hp⟩
        · refine ⟨j, hj.1, hj.2, fun q hq => ?_⟩
          apply List.eq_nil_of_length_eq_zero
          rcases Nat.eq_zero_or_pos (cycAt l q).length with e | e
          · exact e
          · exact absurd ⟨q, hq, e⟩ hb
    obtain ⟨j, hj, hp, hb⟩ := hx
    rw [wcL_yes j hj hp hb]
    have := cyc_len l (rw_ l j).a l.length (rw_ l j).a [(rw_ l j).a]
    unfold cycAt
    simp only [List.length_singleton] at this
    omega
  · rw [wcL_no (fun q hq => by
      apply List.eq_nil_of_length_eq_zero
      rcases Nat.eq_zero_or_pos (cycAt l q).length with e | e
      · exact e
      · exact absurd ⟨q, hq, e⟩ h)]
    simp
theorem impl_cycleOf_1 (q : Wait) (x : Int) (gm : Nat) (w : World) (h0 : w.cell? ⟨gm, 0, none⟩ = some (.int .i64 x)) :
    Calls Try.prog 63 #[.agg #[.int .i64 q.a, .int .i64 q.b], .pointer (some ⟨gm, 0, none⟩)] w fun e w' => e = .returned (.bool (q.a == x)) ∧ Below w.heap.size w w' := by
  have g0 := World.block_lt_of_cell? w _ h0
  go_enter Try.func63, Try.ntmps63
  go_wp2
  go_ret
  exact ⟨ret_bool (by first | rfl | (simp; done) | (by_cases h : q.a = x <;> simp [h])), (by with_reducible repeat (first | assumption | exact bw_refl _ | apply bw_alloc | apply bw_drew | apply bw_drewN | refine bw_set _ ?_ (by omega) | refine bw_then ?_ (by assumption)))⟩
set_option maxHeartbeats 1000000 in
theorem slices_IndexFunc_W (l : List Wait) (x : Int) (D : Option Addr) (n gm : Nat) (w : World) (hp : kW.C w D l.length l) (hkl : l.length ≤ 1048576) (h0 : w.cell? ⟨gm, 0, none⟩ = some (.int .i64 x)) :
    Calls Try.prog 62 #[.slice D l.length n, .func (.func 63) #[] #[.pointer (some ⟨gm, 0, none⟩)]] w fun e w' => e = .returned (.int .i64 (widx l x)) ∧ Below w.heap.size w w' := by
  have g0 := World.block_lt_of_cell? w _ h0
  have hcall : ∀ (q : Wait) (w' : World), Below w.heap.size w w' → Calls Try.prog 63 #[.agg #[.int .i64 q.a, .int .i64 q.b], .pointer (some ⟨gm, 0, none⟩)] w' fun e w'' => e = .returned (.bool (q.a == x)) ∧ Below w'.heap.size w' w'' := by
    intro q w' hb
    obtain ⟨hc, _, _⟩ := bcell hb
    exact impl_cycleOf_1 q x gm w' ((hc _ _ g0).trans h0)
  have HCALL := Lib.hid hcall
  clear hcall h0 g0
  go_enter Try.func62, Try.ntmps62
  go_wp2
  go_loopw [8] (fun i wr => ∃ j : Nat, i = .int .i64 j ∧ j ≤ l.length ∧ Hid (∀ q : Nat, q < j → ¬ (rw_ l q).a = x) ∧ Below w.heap.size w wr) (fun i _ => l.length - (intOf i).toNat)
  case atStart => exact ⟨0, rfl, Nat.zero_le _, Lib.hid fun x h => absurd h (Nat.not_lt_zero _), (by with_reducible repeat (first | assumption | exact bw_refl _ | apply bw_alloc | apply bw_drew | apply bw_drewN | refine bw_set _ ?_ (by omega) | refine bw_then ?_ (by assumption)))⟩
  case round =>
    obtain ⟨j, rfl, hj, HA, HB⟩ := hrel
    obtain ⟨hc0, hf0, hz0⟩ := bcell HB
    by_cases hlt : j < l.length
    · obtain ⟨b, off, rfl, hbl, p0, p1⟩ := rdW_at hp j hlt
      by_cases e : (rw_ l j).a = x
      · have E := Lib.hid e
        have E1 := Lib.hid (show ((rw_ l j).a == x) = true from beq_iff_eq.2 e)
        clear e
        go_wp2_with (go_at_call 63; refine (HCALL.out (rw_ l j) _ (by exact (by with_reducible repeat (first | assumption | exact bw_refl _ | apply bw_alloc | apply bw_drew | apply bw_drewN | refine bw_set _ ?_ (by omega) | refine bw_then ?_ (by assumption))))).mono ?_; rintro e w1 ⟨he, hb1⟩; rw [E1.out] at he; subst he; obtain ⟨hc1, hf1, hz1⟩ := bcell hb1; (try simp only [World.size_alloc, World.size_setCell, World.size_drew, sz_drewN] at hz1); have hb2 := (by first | exact bw_then hb2 hb1 | exact bw_then (bw_drewN _ hb2) hb1 | exact bw_then (bw_alloc _ hb2) hb1 | exact bw_then (bw_drew hb2) hb1 | exact bw_then HB hb1 | exact bw_then (bw_drewN _ HB) hb1 | exact bw_then (bw_alloc _ HB) hb1 | exact bw_then (bw_drew HB) hb1 | exact hb1); obtain ⟨hc2, hf2, hz2⟩ := bcell hb2; (try simp only [World.size_alloc, World.size_setCell, World.size_drew, sz_drewN] at hz2); try (first | obtain ⟨hy1, hy2, hy3, hy4⟩ := lts4 hz2 | obtain ⟨hy1, hy2, hy3⟩ := lts3 hz2 | obtain ⟨hy1, hy2⟩ := lts2 hz2 | have hy1 := lts1 hz2); have hb9 := hb1)
        go_ret
        exact ⟨ret_int (widx_yes j hlt E.out HA.out).symm, (by with_reducible repeat (first | assumption | exact bw_refl _ | apply bw_alloc | apply bw_drew | apply bw_drewN | refine bw_set _ ?_ (by omega) | refine bw_then ?_ (by assumption)))⟩
      · have E := Lib.hid e
        have E1 := Lib.hid (show ((rw_ l j).a == x) = false from beq_eq_false_iff_ne.2 e)
        clear e
        go_wp2_with (go_at_call 63; refine (HCALL.out (rw_ l j) _ (by exact (by with_reducible repeat (first | assumption | exact bw_refl _ | apply bw_alloc | apply bw_drew | apply bw_drewN | refine bw_set _ ?_ (by omega) | refine bw_then ?_ (by assumption))))).mono ?_; rintro e w1 ⟨he, hb1⟩; rw [E1.out] at he; subst he; obtain ⟨hc1, hf1, hz1⟩ := bcell hb1; (try simp only [World.size_alloc, World.size_setCell, World.size_drew, sz_drewN] at hz1); have hb2 := (by first | exact bw_then hb2 hb1 | exact bw_then (bw_drewN _ hb2) hb1 | exact bw_then (bw_alloc _ hb2) hb1 | exact bw_then (bw_drew hb2) hb1 | exact bw_then HB hb1 | exact bw_then (bw_drewN _ HB) hb1 | exact bw_then (bw_alloc _ HB) hb1 | exact bw_then (bw_drew HB) hb1 | exact hb1); obtain ⟨hc2, hf2, hz2⟩ := bcell hb2; (try simp only [World.size_alloc, World.size_setCell, World.size_drew, sz_drewN] at hz2); try (first | obtain ⟨hy1, hy2, hy3, hy4⟩ := lts4 hz2 | obtain ⟨hy1, hy2, hy3⟩ := lts3 hz2 | obtain ⟨hy1, hy2⟩ := lts2 hz2 | have hy1 := lts1 hz2); have hb9 := hb1)
        go_roundw
        case rel => exact ⟨j + 1, by go_num, by omega, Lib.hid (upto HA.out E.out), (by with_reducible repeat (first | assumption | exact bw_refl _ | apply bw_alloc | apply bw_drew | apply bw_drewN | refine bw_set _ ?_ (by omega) | refine bw_then ?_ (by assumption)))⟩
        case measure => simp [intOf]; omega
    · go_wp2
      go_ret
      exact ⟨ret_int (widx_no (fun x hx => HA.out x (by omega))).symm, (by with_reducible repeat (first | assumption | exact bw_refl _ | apply bw_alloc | apply bw_drew | apply bw_drewN | refine bw_set _ ?_ (by omega) | refine bw_then ?_ (by assumption)))⟩
theorem R_one {e : Nat} {W0 W : World} (x : Int) (hb : W0.heap.size ≤ W.heap.size) : Kd.R (Kd.int .i64) e (W.alloc (.cells #[.int .i64 x] e)) W0.heap.size (fun _ => True) (.slice (some ⟨W.heap.size, 0, none⟩) 1 1) [x] := by
  have h2 := World.ownsRow_lit (base := W0.heap.size) (e := e) (size := 1) W #[.int .i64 x] 1 hb (by decide) (by simp)
  exact Kd.R_of_own (enc := Value.int .i64) (xs := [x]) (by simpa [encs] using h2) (fun _ _ => trivial)
section
variable {P : Program} {ops : Array Oper} {rest : List Oper} {o : Oper} {a : Act} {Q : Exit → Act → World → Prop}
theorem app_intH {W0 W : World} (hgd : o.guard = none) (s x : Operand) (t e : TypeId)
    (ho : o.op = .call { callee := .builtin .append, args := #[s, x], argTypes := #[t, t] })
    (ht : P.underlying t = some (.slice e)) (hinfo : (P.info? e).map (fun i => (i.zero, i.size, i.bytes)) = some (some (.int .i64 0), 1, 8))
    (v : Value) (xs : List Int) (y : Int) (hs : a.eval s = v) (hx : a.eval x = .slice (some ⟨W.heap.size, 0, none⟩) 1 1)
    (HO : Kd.R (Kd.int .i64) e W W0.heap.size (fun _ => True) v xs) (HB : Below W0.heap.size W0 W) (hl : xs.length ≤ 1000000000)
    (h : ∀ v1 w1, Kd.R (Kd.int .i64) e w1 W0.heap.size (fun _ => True) v1 (xs ++ [y]) → Below W0.heap.size W0 w1 → W.grownBy w1 v.ownBlock → (v1.ownBlock = v.ownBlock ∨ ∃ b, v1.ownBlock = some b ∧ W.heap.size ≤ b) → wpList P ops Q rest (a.put o.dst v1) w1) :
    wpList P ops Q (o :: rest) a (W.alloc (.cells #[.int .i64 y] e)) :=
  Kd.R_append (Kd.int .i64) W0.heap.size hgd s x t e (.int .i64 0) 8 ho ht hinfo rfl (by decide) (by omega) v xs y [.int .i64 y] (fun _ => True) (fun _ => False) hs hx rfl (fun _ hk => hk.elim) (fun _ _ => trivial) HO HB HB.size (by omega) h
end
set_option maxHeartbeats 4000000 in
theorem impl_cycleOf (l : List Wait) (s : Int) (D : Option Addr) (n : Nat) (w : World) (hp : kW.C w D l.length l) (hkl : l.length ≤ 1048576) :
    Calls Try.prog 58 #[.slice D l.length n, .int .i64 s] w fun e w' => ((e = .returned (.slice none 0 0) ∧ cyc l s l.length s [s] = []) ∨ (GotI w w' (cyc l s l.length s [s]) e ∧ 0 < (cyc l s l.length s [s]).length)) ∧ Below w.heap.size w w' := by
  go_enter Try.func58, Try.ntmps58
  go_wp2
  go_loopw [5, 13] (fun v i wr => ∃ (j : Nat) (at_ : Int) (out : List Int), i = .int .i64 j ∧ j ≤ l.length ∧ (1 ≤ out.length ∧ out.length ≤ j + 1) ∧ Hid (cyc l s l.length s [s] = cyc l s (l.length - j) at_ out) ∧ Kd.R (Kd.int .i64) 3 wr w.heap.size (fun _ => True) v out ∧ Boxed wr (w.heap.size + 1) 3 (.int .i64 at_) ∧ v.ownBlock ≠ some (w.heap.size + 1) ∧ w.heap.size + 1 < wr.heap.size ∧ Below w.heap.size w wr) (fun _ i _ => l.length - (intOf i).toNat)
  case atStart =>
    have hbx : Boxed ((w.alloc (.cells #[.int .i64 s] 3)).alloc (.cells #[.int .i64 s] 3)) (w.heap.size + 1) 3 (.int .i64 s) := by
      have h := Boxed.new (w.alloc (.cells #[.int .i64 s] 3)) 3 (.int .i64 s)
      rwa [World.size_alloc] at h
    exact ⟨0, s, [s], rfl, Nat.zero_le _, ⟨Nat.le_refl _, by simp⟩, Lib.hid (by rw [Nat.sub_zero]), Kd.R_below (R_one (W0 := w) s (Nat.le_refl _)) (bw_alloc _ (bw_refl _)), hbx, by simp [Value.ownBlock], by simp only [World.size_alloc, World.size_setCell, World.size_drew, sz_drewN]; omega, (by with_reducible repeat (first | assumption | exact bw_refl _ | apply bw_alloc | apply bw_drew | apply bw_drewN | refine bw_set _ ?_ (by omega) | refine bw_then ?_ (by assumption)))⟩
  case round =>
    obtain ⟨j, at_, out, rfl, hj, ⟨ho1, ho2⟩, HC, HO, HV, hne, hsz, HB⟩ := hrel
    obtain ⟨Ao, co, rfl⟩ := Kd.R_slice HO
    obtain ⟨hc0, hf0, hz0⟩ := bcell HB
    have hv0 := HV.cell
    have hv1 := HV.frozen
    by_cases hlt : j < l.length
    · obtain ⟨k, hk⟩ : ∃ k, l.length - j = k + 1 := ⟨l.length - j - 1, by omega⟩
      have HK := Lib.hid hk
      have hkk : l.length - (j + 1) = k := by omega
      have HKK := Lib.hid hkk
      clear hk hkk
      obtain ⟨ix, hix⟩ : ∃ x, widx l at_ = x := ⟨_, rfl⟩
      have hr := widx_range l at_
      rw [hix] at hr
      have HIX := Lib.hid hix
      clear hix
      have ARMC : True := trivial
      rcases hr with rfl | ⟨q, hq, rfl⟩
      · go_wp2_with (go_at_call 62; refine (slices_IndexFunc_W l at_ D _ _ _ (by exact Kd.C_below hp (by with_reducible repeat (first | assumption | exact bw_refl _ | apply bw_alloc | apply bw_drew | apply bw_drewN | refine bw_set _ ?_ (by omega) | refine bw_then ?_ (by assumption)))) hkl hv0).mono ?_; rintro e w1 ⟨he, hb1⟩; rw [HIX.out] at he; subst he; obtain ⟨hc1, hf1, hz1⟩ := bcell hb1; (try simp only [World.size_alloc, World.size_setCell, World.size_drew, sz_drewN] at hz1); have hb2 := (by first | exact bw_then hb2 hb1 | exact bw_then (bw_drewN _ hb2) hb1 | exact bw_then (bw_alloc _ hb2) hb1 | exact bw_then (bw_drew hb2) hb1 | exact bw_then HB hb1 | exact bw_then (bw_drewN _ HB) hb1 | exact bw_then (bw_alloc _ HB) hb1 | exact bw_then (bw_drew HB) hb1 | exact hb1); obtain ⟨hc2, hf2, hz2⟩ := bcell hb2; (try simp only [World.size_alloc, World.size_setCell, World.size_drew, sz_drewN] at hz2); try (first | obtain ⟨hy1, hy2, hy3, hy4⟩ := lts4 hz2 | obtain ⟨hy1, hy2, hy3⟩ := lts3 hz2 | obtain ⟨hy1, hy2⟩ := lts2 hz2 | have hy1 := lts1 hz2); have hb9 := hb1)
        go_ret
        exact ⟨.inl ⟨rfl, by rw [HC.out, HK.out, cyc, if_pos HIX.out]⟩, (by with_reducible repeat (first | assumption | exact bw_refl _ | apply bw_alloc | apply bw_drew | apply bw_drewN | refine bw_set _ ?_ (by omega) | refine bw_then ?_ (by assumption)))⟩
      · obtain ⟨b, off, rfl, hbl, p0, p1⟩ := rdW_at hp q hq
        have i0 : ¬ (q : Int) < 0 := by omega
        obtain ⟨nx, hnx⟩ : ∃ x, (rw_ l q).b = x := ⟨_, rfl⟩
        rw [hnx] at p1
        have HNX := Lib.hid hnx
        clear hnx
        have hq1 : ¬ ((q : Int) = -1) := by omega
        have HQ1 := Lib.hid hq1
        clear hq1
        by_cases e1 : nx = s
        · have f1 : (nx == s) = true := beq_iff_eq.2 e1
          have hcy : cyc l s (k + 1) at_ out = out := by rw [cyc, HIX.out, if_neg HQ1.out, HNX.out, if_pos e1]
          have HCY := Lib.hid hcy
          clear hcy e1
          go_wp2_with (go_at_call 62; refine (slices_IndexFunc_W l at_ _ _ _ _ (by exact Kd.C_below hp (by with_reducible repeat (first | assumption | exact bw_refl _ | apply bw_alloc | apply bw_drew | apply bw_drewN | refine bw_set _ ?_ (by omega) | refine bw_then ?_ (by assumption)))) hkl hv0).mono ?_; rintro e w1 ⟨he, hb1⟩; rw [HIX.out] at he; subst he; have HV1 := HV.kept (grown_below none hb1) (by simp); have hw0 := HV1.cell; have hw1 := HV1.frozen; have HO1 := Kd.R_below HO hb1; obtain ⟨hc1, hf1, hz1⟩ := bcell hb1; (try simp only [World.size_alloc, World.size_setCell, World.size_drew, sz_drewN] at hz1); have hb2 := (by first | exact bw_then hb2 hb1 | exact bw_then (bw_drewN _ hb2) hb1 | exact bw_then (bw_alloc _ hb2) hb1 | exact bw_then (bw_drew hb2) hb1 | exact bw_then HB hb1 | exact bw_then (bw_drewN _ HB) hb1 | exact bw_then (bw_alloc _ HB) hb1 | exact bw_then (bw_drew HB) hb1 | exact hb1); obtain ⟨hc2, hf2, hz2⟩ := bcell hb2; (try simp only [World.size_alloc, World.size_setCell, World.size_drew, sz_drewN] at hz2); try (first | obtain ⟨hy1, hy2, hy3, hy4⟩ := lts4 hz2 | obtain ⟨hy1, hy2, hy3⟩ := lts3 hz2 | obtain ⟨hy1, hy2⟩ := lts2 hz2 | have hy1 := lts1 hz2); have hb9 := hb1)
          go_ret
          refine ⟨.inr ⟨⟨_, rfl, ?_⟩, by rw [HC.out, HK.out, HCY.out]; exact ho1⟩, ?_⟩
          · rw [HC.out, HK.out, HCY.out]
            exact R_grownI HO1 (grownBy_setCell' _ _ _) (.inr hne)
          · exact bw_set _ (by exact (by with_reducible repeat (first | assumption | exact bw_refl _ | apply bw_alloc | apply bw_drew | apply bw_drewN | refine bw_set _ ?_ (by omega) | refine bw_then ?_ (by assumption)))) (by omega)
        · have f1 : (nx == s) = false := beq_eq_false_iff_ne.2 e1
          by_cases e2 : nx = -1
          · have f2 : (nx == -1) = true := beq_iff_eq.2 e2
            have hcy : cyc l s (k + 1) at_ out = [] := by rw [cyc, HIX.out, if_neg HQ1.out, HNX.out, if_neg e1, if_pos e2]
            have HCY := Lib.hid hcy
            clear hcy e1 e2
            go_wp2_with (go_at_call 62; refine (slices_IndexFunc_W l at_ _ _ _ _ (by exact Kd.C_below hp (by with_reducible repeat (first | assumption | exact bw_refl _ | apply bw_alloc | apply bw_drew | apply bw_drewN | refine bw_set _ ?_ (by omega) | refine bw_then ?_ (by assumption)))) hkl hv0).mono ?_; rintro e w1 ⟨he, hb1⟩; rw [HIX.out] at he; subst he; have HV1 := HV.kept (grown_below none hb1) (by simp); have hw0 := HV1.cell; have hw1 := HV1.frozen; have HO1 := Kd.R_below HO hb1; obtain ⟨hc1, hf1, hz1⟩ := bcell hb1; (try simp only [World.size_alloc, World.size_setCell, World.size_drew, sz_drewN] at hz1); have hb2 := (by first | exact bw_then hb2 hb1 | exact bw_then (bw_drewN _ hb2) hb1 | exact bw_then (bw_alloc _ hb2) hb1 | exact bw_then (bw_drew hb2) hb1 | exact bw_then HB hb1 | exact bw_then (bw_drewN _ HB) hb1 | exact bw_then (bw_alloc _ HB) hb1 | exact bw_then (bw_drew HB) hb1 | exact hb1); obtain ⟨hc2, hf2, hz2⟩ := bcell hb2; (try simp only [World.size_alloc, World.size_setCell, World.size_drew, sz_drewN] at hz2); try (first | obtain ⟨hy1, hy2, hy3, hy4⟩ := lts4 hz2 | obtain ⟨hy1, hy2, hy3⟩ := lts3 hz2 | obtain ⟨hy1, hy2⟩ := lts2 hz2 | have hy1 := lts1 hz2); have hb9 := hb1)
            go_ret
            exact ⟨.inl ⟨rfl, by rw [HC.out, HK.out, HCY.out]⟩, bw_set _ (by exact (by with_reducible repeat (first | assumption | exact bw_refl _ | apply bw_alloc | apply bw_drew | apply bw_drewN | refine bw_set _ ?_ (by omega) | refine bw_then ?_ (by assumption)))) (by omega)⟩
          · have f2 : (nx == -1) = false := beq_eq_false_iff_ne.2 e2
            have hcy : cyc l s (k + 1) at_ out = cyc l s k nx (out ++ [nx]) := by rw [cyc, HIX.out, if_neg HQ1.out, HNX.out, if_neg e1, if_neg e2]
            have HCY := Lib.hid hcy
            clear hcy e1 e2
            go_wp2_with (first | (go_at_call 62; refine (slices_IndexFunc_W l at_ _ _ _ _ (by exact Kd.C_below hp (by with_reducible repeat (first | assumption | exact bw_refl _ | apply bw_alloc | apply bw_drew | apply bw_drewN | refine bw_set _ ?_ (by omega) | refine bw_then ?_ (by assumption)))) hkl hv0).mono ?_; rintro e w1 ⟨he, hb1⟩; rw [HIX.out] at he; subst he; have HV1 := HV.kept (grown_below none hb1) (by simp); have hw0 := HV1.cell; have hw1 := HV1.frozen; have HO1 := Kd.R_below HO hb1; obtain ⟨hc1, hf1, hz1⟩ := bcell hb1; (try simp only [World.size_alloc, World.size_setCell, World.size_drew, sz_drewN] at hz1); have hb2 := (by first | exact bw_then hb2 hb1 | exact bw_then (bw_drewN _ hb2) hb1 | exact bw_then (bw_alloc _ hb2) hb1 | exact bw_then (bw_drew hb2) hb1 | exact bw_then HB hb1 | exact bw_then (bw_drewN _ HB) hb1 | exact bw_then (bw_alloc _ HB) hb1 | exact bw_then (bw_drew HB) hb1 | exact hb1); obtain ⟨hc2, hf2, hz2⟩ := bcell hb2; (try simp only [World.size_alloc, World.size_setCell, World.size_drew, sz_drewN] at hz2); try (first | obtain ⟨hy1, hy2, hy3, hy4⟩ := lts4 hz2 | obtain ⟨hy1, hy2, hy3⟩ := lts3 hz2 | obtain ⟨hy1, hy2⟩ := lts2 hz2 | have hy1 := lts1 hz2); have hb9 := hb1) | (at_builtin; refine app_intH (W0 := w) rfl (.tmp 32) (.tmp 34) 24 3 rfl Try.underlying24 info_int _ out _ rfl (by first | rfl | exact congrArg (fun z => Value.slice (some ⟨z, 0, none⟩) 1 1) (by simp only [World.size_alloc, World.size_setCell, World.size_drew, sz_drewN])) (R_grownI HO1 (grownBy_setCell' _ _ _) (.inr hne)) (bw_set _ (by exact (by with_reducible repeat (first | assumption | exact bw_refl _ | apply bw_alloc | apply bw_drew | apply bw_drewN | refine bw_set _ ?_ (by omega) | refine bw_then ?_ (by assumption)))) (by omega)) (by omega) ?_; intro v1 w2 HO2 HB2 hg2 hat2; have HV2 := (HV1.set (.int .i64 nx)).kept hg2 (Ne.symm hne); have hs1 := hb1.size; have hs2 := hg2.size; simp only [World.size_alloc, World.size_setCell, World.size_drew, sz_drewN] at hs2; simp only [World.size_alloc, World.size_setCell, World.size_drew, sz_drewN] at hat2))
            go_roundw
            case rel =>
              refine ⟨j + 1, nx, out ++ [nx], by go_num, by omega, ⟨by simp, by simp; omega⟩, Lib.hid (by rw [HC.out, HK.out, HCY.out, HKK.out]), HO2, HV2, ?_, by omega, HB2⟩
              rcases hat2 with hat2 | ⟨g, hg, hle⟩
              · rw [hat2]; exact hne
              · rw [hg]; intro e; injection e with e; omega
            case measure => simp [intOf]; omega
    · go_wp2
      go_ret
      exact ⟨.inl ⟨rfl, by rw [HC.out, show l.length - j = 0 by omega, cyc]⟩, (by with_reducible repeat (first | assumption | exact bw_refl _ | apply bw_alloc | apply bw_drew | apply bw_drewN | refine bw_set _ ?_ (by omega) | refine bw_then ?_ (by assumption)))⟩
theorem impl_cycleOf_nil (l : List Wait) (s : Int) (D : Option Addr) (n : Nat) (w : World) (hp : kW.C w D l.length l) (hkl : l.length ≤ 1048576) (h : cyc l s l.length s [s] = []) :
    Calls Try.prog 58 #[.slice D l.length n, .int .i64 s] w fun e w' => e = .returned (.slice none 0 0) ∧ Below w.heap.size w w' := by
  refine (impl_cycleOf l s D n w hp hkl).mono ?_
  rintro e w1 ⟨hd, hb⟩
  refine ⟨?_, hb⟩
  rcases hd with ⟨h1, _⟩ | ⟨_, h2⟩
  · exact h1
  · rw [h] at h2; simp at h2
theorem impl_cycleOf_some (l : List Wait) (s : Int) (D : Option Addr) (n : Nat) (w : World) (hp : kW.C w D l.length l) (hkl : l.length ≤ 1048576) (h : 0 < (cyc l s l.length s [s]).length) :
    Calls Try.prog 58 #[.slice D l.length n, .int .i64 s] w fun e w' => GotI w w' (cyc l s l.length s [s]) e ∧ Below w.heap.size w w' := by
  refine (impl_cycleOf l s D n w hp hkl).mono ?_
  rintro e w1 ⟨hd, hb⟩
  refine ⟨?_, hb⟩
  rcases hd with ⟨_, h1⟩ | ⟨h2, _⟩
  · rw [h1] at h; simp at h
  · exact h2
set_option maxHeartbeats 2000000 in
theorem impl_WaitCycle (l : List Wait) (D : Option Addr) (n : Nat) (w : World) (hp : kW.C w D l.length l) (hkl : l.length ≤ 1048576) :
    Calls Try.prog 40 #[.slice D l.length n] w fun e w' => GotI w w' (wcL l) e ∧ Below w.heap.size w w' := by
  have q1 : ∀ w : World, (binOp .neq 24 (.slice none 0 0) (.slice none 0 0)).run Try.prog w = .ok (.bool false) w := fun w => by rw [Go.run_neq_slice_nil _ _ _ _ _ _ Try.underlying24]; rfl
  have q2 : ∀ (a : Addr) (l c : Nat) (w : World), (binOp .neq 24 (.slice (some a) l c) (.slice none 0 0)).run Try.prog w = .ok (.bool true) w := fun a l c w => by rw [Go.run_neq_slice_nil _ _ _ _ _ _ Try.underlying24]; rfl
  go_enter Try.func40, Try.ntmps40
  go_wp2
  go_loopw [8] (fun i wr => ∃ j : Nat, i = .int .i64 j ∧ j ≤ l.length ∧ Hid (∀ q, q < j → cycAt l q = []) ∧ Below w.heap.size w wr) (fun i _ => l.length - (intOf i).toNat)
  case atStart => exact ⟨0, rfl, Nat.zero_le _, Lib.hid fun q h => absurd h (Nat.not_lt_zero _), (by with_reducible repeat (first | assumption | exact bw_refl _ | apply bw_alloc | apply bw_drew | apply bw_drewN | refine bw_set _ ?_ (by omega) | refine bw_then ?_ (by assumption)))⟩
  case round =>
    obtain ⟨j, rfl, hj, HA, HB⟩ := hrel
    obtain ⟨hc0, hf0, hz0⟩ := bcell HB
    by_cases hlt : j < l.length
    · obtain ⟨b, off, rfl, hbl, p0, p1⟩ := rdW_at hp j hlt
      by_cases hz : (cycAt l j).length = 0
      · have hn := List.eq_nil_of_length_eq_zero hz
        have HN := Lib.hid hn
        clear hn hz
        go_wp2_with (go_at_call 58; refine (impl_cycleOf_nil l (rw_ l j).a _ _ _ (by exact Kd.C_below hp (by with_reducible repeat (first | assumption | exact bw_refl _ | apply bw_alloc | apply bw_drew | apply bw_drewN | refine bw_set _ ?_ (by omega) | refine bw_then ?_ (by assumption)))) hkl HN.out).mono ?_; rintro e w1 ⟨rfl, hb1⟩; obtain ⟨hc1, hf1, hz1⟩ := bcell hb1; (try simp only [World.size_alloc, World.size_setCell, World.size_drew, sz_drewN] at hz1); have hb2 := (by first | exact bw_then hb2 hb1 | exact bw_then (bw_drewN _ hb2) hb1 | exact bw_then (bw_alloc _ hb2) hb1 | exact bw_then (bw_drew hb2) hb1 | exact bw_then HB hb1 | exact bw_then (bw_drewN _ HB) hb1 | exact bw_then (bw_alloc _ HB) hb1 | exact bw_then (bw_drew HB) hb1 | exact hb1); obtain ⟨hc2, hf2, hz2⟩ := bcell hb2; (try simp only [World.size_alloc, World.size_setCell, World.size_drew, sz_drewN] at hz2); try (first | obtain ⟨hy1, hy2, hy3, hy4⟩ := lts4 hz2 | obtain ⟨hy1, hy2, hy3⟩ := lts3 hz2 | obtain ⟨hy1, hy2⟩ := lts2 hz2 | have hy1 := lts1 hz2); have hb9 := hb1)
        go_roundw
        case rel => exact ⟨j + 1, by go_num, by omega, Lib.hid (upto HA.out HN.out), (by with_reducible repeat (first | assumption | exact bw_refl _ | apply bw_alloc | apply bw_drew | apply bw_drewN | refine bw_set _ ?_ (by omega) | refine bw_then ?_ (by assumption)))⟩
        case measure => simp [intOf]; omega
      · have hpos : 0 < (cycAt l j).length := by omega
        have HP := Lib.hid hpos
        have HW := Lib.hid (wcL_yes j hlt hpos HA.out)
        clear hz hpos
        go_wp2_with (go_at_call 58; refine (impl_cycleOf_some l (rw_ l j).a _ _ _ (by exact Kd.C_below hp (by with_reducible repeat (first | assumption | exact bw_refl _ | apply bw_alloc | apply bw_drew | apply bw_drewN | refine bw_set _ ?_ (by omega) | refine bw_then ?_ (by assumption)))) hkl HP.out).mono ?_; rintro e w1 ⟨hg1, hb1⟩; obtain ⟨v1, rfl, HO1⟩ := hg1; obtain ⟨g, cap, hv, hgb, hgl, cells, HG⟩ := Kd.R_form HO1 HP.out; subst hv; obtain ⟨hc1, hf1, hz1⟩ := bcell hb1; (try simp only [World.size_alloc, World.size_setCell, World.size_drew, sz_drewN] at hz1); have hb2 := (by first | exact bw_then hb2 hb1 | exact bw_then (bw_drewN _ hb2) hb1 | exact bw_then (bw_alloc _ hb2) hb1 | exact bw_then (bw_drew hb2) hb1 | exact bw_then HB hb1 | exact bw_then (bw_drewN _ HB) hb1 | exact bw_then (bw_alloc _ HB) hb1 | exact bw_then (bw_drew HB) hb1 | exact hb1); obtain ⟨hc2, hf2, hz2⟩ := bcell hb2; (try simp only [World.size_alloc, World.size_setCell, World.size_drew, sz_drewN] at hz2); try (first | obtain ⟨hy1, hy2, hy3, hy4⟩ := lts4 hz2 | obtain ⟨hy1, hy2, hy3⟩ := lts3 hz2 | obtain ⟨hy1, hy2⟩ := lts2 hz2 | have hy1 := lts1 hz2); have hb9 := hb1)
        go_ret
        exact ⟨by rw [HW.out]; exact ⟨_, rfl, Kd.R_lower HO1 (bw_size (by with_reducible repeat (first | assumption | exact bw_refl _ | apply bw_alloc | apply bw_drew | apply bw_drewN | refine bw_set _ ?_ (by omega) | refine bw_then ?_ (by assumption))))⟩, (by with_reducible repeat (first | assumption | exact bw_refl _ | apply bw_alloc | apply bw_drew | apply bw_drewN | refine bw_set _ ?_ (by omega) | refine bw_then ?_ (by assumption)))⟩
    · go_wp2
      go_ret
      exact ⟨by rw [wcL_no (fun q hq => HA.out q (by omega))]; exact GotI.nil _ _, (by with_reducible repeat (first | assumption | exact bw_refl _ | apply bw_alloc | apply bw_drew | apply bw_drewN | refine bw_set _ ?_ (by omega) | refine bw_then ?_ (by assumption)))⟩
end Go.Proofs.Ytfofebegfobjdaa
