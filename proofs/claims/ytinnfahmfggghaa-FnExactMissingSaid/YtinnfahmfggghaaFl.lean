/- Flits: rows of them, and the laws' own words: measure, copy, compare, mark; for all lists of at most a million flits. -/
import Derived.Test.YtinnfahmfggghaaMark
import Derived.Test.YtinnfahmfggghaaNetB
set_option linter.unusedVariables false
set_option linter.unusedSimpArgs false
namespace Go.Proofs.Ytinnfahmfggghaa
open Go.RowKit Go.Proofs.YtinnfahmfggghaaW.PrintWords
open NoC

theorem info_F : (Try.prog.info? 142).map (fun i => (i.zero, i.size, i.bytes)) = some (some (.agg #[.int .i64 0, .int .i64 0, .int .i64 0, .bool false, .bool false]), 5, 32) := by kernel_rfl
/-- A row of packets that a call hands back. -/
def GotF (w w' : World) (xs : List Flit) (e : Ending) : Prop := ∃ v, e = .returned v ∧ kF.R 142 w' w.heap.size (fun _ => True) v xs
theorem GotF.read {w w' : World} {xs : List Flit} {e : Ending} (h : GotF w w' xs e) : ∃ A c, e = .returned (.slice A xs.length c) ∧ xs.length ≤ c ∧ kF.C w' A xs.length xs := by
  obtain ⟨v, rfl, hR⟩ := h
  obtain ⟨A, c, rfl, h1, h2⟩ := Kd.R_reads hR
  exact ⟨A, c, rfl, h1, h2⟩
section
variable {ops : Array Oper} {rest : List Oper} {o : Oper} {a : Act} {Q : Exit → Act → World → Prop}
theorem make_F {W0 W : World} (hgd : o.guard = none) {N : Tmp} (hd : o.dst = some N) (x y : Operand) (ho : o.op = .makeSlice 107 x y) (n : Nat) (hx : a.eval x = .int .i64 n) (hy : a.eval y = .int .i64 n)
    (hl : n ≤ 1000000000) (HB : Below W0.heap.size W0 W)
    (h : ∀ v1 w1, kF.R 142 w1 W0.heap.size (fun _ => True) v1 (List.replicate n z0) → Below W0.heap.size W0 w1 → wpList Try.prog ops Q rest (a.put o.dst v1) w1) : wpList Try.prog ops Q (o :: rest) a W :=
  Kd.R_make kF (w0 := W0) W0.heap.size 142 hgd hd 107 x y ho (n : Int) hx hy Try.underlying107 (.agg #[.int .i64 0, .int .i64 0, .int .i64 0, .bool false, .bool false]) 32 info_F rfl (by decide) (by omega) z0 (ok := fun _ => True) (okp := fun _ => True) rfl (fun _ hk => hk) trivial (by omega) (by simp; omega) HB HB.size
    (fun v1 w1 h1 h2 _ _ => h v1 w1 (by simpa using h1) h2)
/-- out[k] = p. -/
theorem put_F {W0 W : World} (hN : o.dst = none) (hgd : o.guard = none) (p x : Operand) (ho : o.op = .store 142 p x) {g m cap o' : Nat} (k : Nat) (xs : List Flit) (y : Flit)
    (haddr : a.eval p = .pointer (some ⟨g, o', none⟩)) (hoff : o' = k * 5) (hx : a.eval x = (.agg #[.int .i64 y.pk, .int .i64 y.dst, .int .i64 y.cls, .bool y.head, .bool y.tail])) (HO : kF.R 142 W W0.heap.size (fun _ => True) (.slice (some ⟨g, 0, none⟩) m cap) xs) (hk : k < m) (HB : Below W0.heap.size W0 W)
    (h : ∀ w1, kF.R 142 w1 W0.heap.size (fun _ => True) (.slice (some ⟨g, 0, none⟩) m cap) (xs.set k y) → Below W0.heap.size W0 w1 → W.grownBy w1 (some g) → wpList Try.prog ops Q rest a w1) : wpList Try.prog ops Q (o :: rest) a W := by
  have hc := rowF_cell z0 HO k hk
  refine Kd.R_store kF (w0 := W0) W0.heap.size hN hgd 142 p x ho 142 (k : Int) 0 xs y ((.agg #[.int .i64 y.pk, .int .i64 y.dst, .int .i64 y.cls, .bool y.head, .bool y.tail])) (fCells y) (fCells (xs.getD k z0)) (fun _ => True) (fun _ => False) haddr (by rw [hoff]; rfl) hx rfl (by kernel_rfl) ?_ HO (by omega) (by omega) rfl ?_ (by show 0 + 5 ≤ 5; omega) ?_ (fun _ h => h.elim) HB ?_
  · intro q hq
    simp only [fCells, List.mem_cons, List.not_mem_nil, or_false] at hq
    rcases hq with rfl | rfl | rfl | rfl | rfl <;> rfl
  · exact hc.1
  · rfl
  · intro w1 h1 h2 h3
    exact h w1 h1 h2 h3
end

theorem laws_toFlit (p : Flit) (w : World) : Calls Try.prog 161 #[.agg #[.int .i64 p.pk, .int .i64 p.dst, .int .i64 p.cls, .bool p.head, .bool p.tail]] w fun e w' => e = .returned (.agg #[.int .i64 p.pk, .int .i64 p.dst, .int .i64 p.cls, .bool p.head, .bool p.tail]) ∧ Below w.heap.size w w' := by
  go_enter Try.func161, Try.ntmps161
  go_wp2
  exact bodyPost_ret (v := .agg #[.int .i64 p.pk, .int .i64 p.dst, .int .i64 p.cls, .bool p.head, .bool p.tail]) (by simp [results, Try.results161, go_sem]) rfl ⟨rfl, (by with_reducible repeat (first | assumption | exact bw_refl _ | apply bw_alloc | apply bw_drew | apply bw_drewN | refine bw_set _ ?_ (by omega) | refine bw_then ?_ (by assumption)))⟩
theorem laws_szFlitS (l : List Flit) (left : Int) (A : Option Addr) (c : Nat) (w : World) (hl : l.length ≤ 140737488355328) (h0 : -1 ≤ left) (h1 : left ≤ 1048576) :
    Calls Try.prog 120 #[.slice A l.length c, .int .i64 left] w fun e w' => e = .returned (.int .i64 (szN l.length left)) ∧ w = w' := by
  go_enter Try.func120, Try.ntmps120
  by_cases h : left - l.length < 0
  · go_wp2
    go_ret
    exact ⟨ret_int (by simp [szN]; omega), rfl⟩
  · go_wp2
    go_ret
    exact ⟨ret_int (by simp [szN]; omega), rfl⟩

theorem same_getF {x l : List Flit} (h1 : x.length = l.length) (h : ∀ j : Nat, j < l.length → rf x j = rf l j) : x = l := by
  apply List.ext_getElem h1
  intro j a b
  have := h j b
  simpa [rf, List.getD_eq_getElem?_getD, a, b] using this
theorem set_getF {x : List Flit} {k : Nat} {v : Flit} (hk : k < x.length) (j : Nat) (hj : j < x.length) : rf (x.set k v) j = if k = j then v else rf x j := by
  by_cases e : k = j
  · subst e; simp [rf, List.getD_eq_getElem?_getD, hk]
  · simp [rf, List.getD_eq_getElem?_getD, e]

set_option maxHeartbeats 1000000 in
theorem laws_toFlitS (l : List Flit) (A : Option Addr) (c : Nat) (w : World) (hr : kF.C w A l.length l) (hn : l.length ≤ 1048576) :
    Calls Try.prog 125 #[.slice A l.length c] w fun e w' => GotF w w' l e ∧ Below w.heap.size w w' := by
  go_enter Try.func125, Try.ntmps125
  go_wp2_with (first | (refine make_F (W0 := w) rfl (N := 7) rfl (.tmp 6) (.tmp 6) rfl l.length rfl rfl (by omega) (by with_reducible repeat (first | assumption | exact bw_refl _ | apply bw_alloc | apply bw_drew | apply bw_drewN | refine bw_set _ ?_ (by omega) | refine bw_then ?_ (by assumption))) ?_; intro v1 w1 HO1 HB1; obtain ⟨hc1, hf1, hz1⟩ := bcell HB1; (try simp only [World.size_alloc, World.size_setCell, World.size_drew, sz_drewN] at hz1); have hb2 := HB1; have hb9 := HB1))
  go_loopw [4] (fun i wr => ∃ (k : Nat) (x : List Flit), i = .int .i64 k ∧ k ≤ l.length ∧ Hid (x.length = l.length) ∧ Hid (∀ j : Nat, j < k → rf x j = rf l j) ∧ kF.R 142 wr w.heap.size (fun _ => True) v1 x ∧ Below w.heap.size w wr) (fun i _ => l.length - (intOf i).toNat)
  case atStart => exact ⟨0, List.replicate l.length z0, rfl, Nat.zero_le _, Lib.hid (by simp), Lib.hid fun j h => absurd h (Nat.not_lt_zero _), HO1, HB1⟩
  case round =>
    obtain ⟨k, x, rfl, hk, HL, HA, HO, HB⟩ := hrel
    obtain ⟨hc0, hf0, hz0⟩ := bcell HB
    by_cases hlt : k < l.length
    · obtain ⟨b, off, rfl, hb, p0, p1, p2, p3, p4⟩ := rdFl_at hr k hlt
      obtain ⟨g, cap, hv, hgb, hgl, cells, HG⟩ := Kd.R_form HO (by have := HL.out; omega)
      rw [HL.out] at hv
      rw [hv] at HO
      subst hv
      clear HG
      go_wp2_with (first | (go_at_call 161; refine (laws_toFlit (rf l k) _).mono ?_; rintro e w1 ⟨rfl, hb1⟩; obtain ⟨hc1, hf1, hz1⟩ := bcell hb1; (try simp only [World.size_alloc, World.size_setCell, World.size_drew, sz_drewN] at hz1); have hb2 := (by first | exact bw_then hb2 hb1 | exact bw_then (bw_drewN _ hb2) hb1 | exact bw_then (bw_alloc _ hb2) hb1 | exact bw_then (bw_drew hb2) hb1 | exact bw_then HB hb1 | exact bw_then (bw_drewN _ HB) hb1 | exact bw_then (bw_alloc _ HB) hb1 | exact bw_then (bw_drew HB) hb1 | exact hb1); obtain ⟨hc2, hf2, hz2⟩ := bcell hb2; (try simp only [World.size_alloc, World.size_setCell, World.size_drew, sz_drewN] at hz2); try (first | obtain ⟨hy1, hy2, hy3, hy4⟩ := lts4 hz2 | obtain ⟨hy1, hy2, hy3⟩ := lts3 hz2 | obtain ⟨hy1, hy2⟩ := lts2 hz2 | have hy1 := lts1 hz2); have hb9 := hb1) | (refine put_F (W0 := w) rfl rfl (.tmp 21) (.tmp 20) rfl k x (rf l k) rfl (by simp) rfl (by exact Kd.R_below HO (by with_reducible repeat (first | assumption | exact bw_refl _ | apply bw_alloc | apply bw_drew | apply bw_drewN | refine bw_set _ ?_ (by omega) | refine bw_then ?_ (by assumption)))) hlt (by with_reducible repeat (first | assumption | exact bw_refl _ | apply bw_alloc | apply bw_drew | apply bw_drewN | refine bw_set _ ?_ (by omega) | refine bw_then ?_ (by assumption))) ?_; intro w9 HO9 HB9 HG9))
      go_roundw
      case rel => exact ⟨k + 1, x.set k (rf l k), by go_num, by omega, Lib.hid (by rw [List.length_set]; exact HL.out), Lib.hid (upto (fun j hj => by rw [set_getF (by have := HL.out; omega) j (by have := HL.out; omega), if_neg (by omega)]; exact HA.out j hj) (by rw [set_getF (by have := HL.out; omega) k (by have := HL.out; omega), if_pos rfl])), HO9, HB9⟩
      case measure => simp [intOf]; omega
    · go_wp2
      go_ret
      have e : x = l := same_getF HL.out (fun j hj => HA.out j (by omega))
      subst e
      exact ⟨⟨_, rfl, HO⟩, (by with_reducible repeat (first | assumption | exact bw_refl _ | apply bw_alloc | apply bw_drew | apply bw_drewN | refine bw_set _ ?_ (by omega) | refine bw_then ?_ (by assumption)))⟩
theorem bneb_self (b : Bool) : (b != b) = false := by cases b <;> rfl
theorem laws_eqFlit (p : Flit) (w : World) : Calls Try.prog 160 #[.agg #[.int .i64 p.pk, .int .i64 p.dst, .int .i64 p.cls, .bool p.head, .bool p.tail], .agg #[.int .i64 p.pk, .int .i64 p.dst, .int .i64 p.cls, .bool p.head, .bool p.tail]] w fun e w' => e = .returned (.bool true) ∧ Below w.heap.size w w' := by
  have e1 := bne_self p.pk
  have e2 := bne_self p.dst
  have e3 := bne_self p.cls
  have e4 := bneb_self p.head
  have e5 := bneb_self p.tail
  go_enter Try.func160, Try.ntmps160
  go_wp2
  try (go_quiet (fail); go_wp2)
  try (go_quiet (fail); go_wp2)
  try (go_quiet (fail); go_wp2)
  try (go_quiet (fail); go_wp2)
  try (go_quiet (fail); go_wp2)
  go_ret
  exact ⟨rfl, (by with_reducible repeat (first | assumption | exact bw_refl _ | apply bw_alloc | apply bw_drew | apply bw_drewN | refine bw_set _ ?_ (by omega) | refine bw_then ?_ (by assumption)))⟩
/-- Of a row and what was copied from it. -/
theorem laws_eqFlitS (l : List Flit) (A B : Option Addr) (c d : Nat) (w : World) (hr : kF.C w A l.length l) (hs : kF.C w B l.length l) (hn : l.length ≤ 1048576) :
    Calls Try.prog 114 #[.slice A l.length c, .slice B l.length d] w fun e w' => e = .returned (.bool true) ∧ Below w.heap.size w w' := by
  have e0 := bne_self (l.length : Int)
  go_enter Try.func114, Try.ntmps114
  go_wp2
  try (go_quiet (fail); go_wp2)
  go_loopw [5] (fun i wr => ∃ k : Nat, k ≤ l.length ∧ i = .int .i64 k ∧ Below w.heap.size w wr) (fun i _ => l.length - (intOf i).toNat)
  case atStart => exact ⟨0, Nat.zero_le _, rfl, (by with_reducible repeat (first | assumption | exact bw_refl _ | apply bw_alloc | apply bw_drew | apply bw_drewN | refine bw_set _ ?_ (by omega) | refine bw_then ?_ (by assumption)))⟩
  case round =>
    obtain ⟨k, hk, rfl, HB⟩ := hrel
    obtain ⟨hc0, hf0, hz0⟩ := bcell HB
    by_cases hlt : k < l.length
    · obtain ⟨b1, o1, rfl, hb1, p0, p1, p2, p3, p4⟩ := rdFl_at hr k hlt
      obtain ⟨b2, o2, rfl, hb2, q0, q1, q2, q3, q4⟩ := rdFl_at hs k hlt
      have i0 : (0 : Int) ≤ (k : Int) := by omega
      have i1 : (k : Int) < (l.length : Int) := by omega
      go_wp2_with fail
      refine wp_region_far (w) (by kernel_rfl) (by kernel_rfl) (by with_reducible repeat (first | assumption | exact bw_refl _ | apply bw_alloc | apply bw_drew | apply bw_drewN | refine bw_set _ ?_ (by omega) | refine bw_then ?_ (by assumption))) ?_
      have hqc := far_cell (w)
      have hqf := far_frozen (w)
      repeat (first | go_big_quiet_step ((go_at_call 160; exact far_call (laws_eqFlit (rf l k) _))) | quiet_step ((go_at_call 160; exact far_call (laws_eqFlit (rf l k) _))))
      refine wpQuiet_nil ?_
      intro wq hbq
      clear hqc hqf
      obtain ⟨hcq, hfq, hzq⟩ := bcell hbq
      try simp only [World.size_alloc, World.size_setCell, World.size_drew, sz_drewN] at hzq
      go_wp2
      go_roundw
      case rel => exact ⟨k + 1, by omega, by go_num, (by with_reducible repeat (first | assumption | exact bw_refl _ | apply bw_alloc | apply bw_drew | apply bw_drewN | refine bw_set _ ?_ (by omega) | refine bw_then ?_ (by assumption)))⟩
      case measure => simp [intOf]; omega
    · go_wp2
      go_ret
      exact ⟨rfl, (by with_reducible repeat (first | assumption | exact bw_refl _ | apply bw_alloc | apply bw_drew | apply bw_drewN | refine bw_set _ ?_ (by omega) | refine bw_then ?_ (by assumption)))⟩
end Go.Proofs.Ytinnfahmfggghaa
