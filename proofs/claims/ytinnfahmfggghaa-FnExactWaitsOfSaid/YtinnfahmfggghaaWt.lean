/- Waits: rows of them, and the laws' own words: measure, copy, compare, mark; for all lists of at most a million waits. -/
import Derived.Test.YtinnfahmfggghaaMark
set_option linter.unusedVariables false
set_option linter.unusedSimpArgs false
namespace Go.Proofs.Ytinnfahmfggghaa
open Go.RowKit Go.Proofs.YtinnfahmfggghaaW.PrintWords
open NoC

def wCells (x : Wait) : List Value := [.int .i64 x.a, .int .i64 x.b]
def kW : Kd Wait := Kd.flat 2 wCells (fun _ => rfl) (fun x u hu => by
  simp only [wCells, List.mem_cons, List.not_mem_nil, or_false] at hu
  rcases hu with rfl | rfl <;> rfl)
def zw : Wait := ⟨0, 0⟩
def rw_ (l : List Wait) (i : Int) : Wait := l.getD i.toNat zw
theorem rdW_at {w : World} {A : Option Addr} {l : List Wait} (h : kW.C w A l.length l) (k : Nat) (hk : k < l.length) :
    ∃ b off, A = some ⟨b, off, none⟩ ∧ b < w.heap.size ∧ w.cell? ⟨b, off + k * 2, none⟩ = some (.int .i64 (rw_ l k).a) ∧ w.cell? ⟨b, off + k * 2 + 1, none⟩ = some (.int .i64 (rw_ l k).b) := by
  obtain ⟨b, off, rfl, hb, hx⟩ := rdF_at (n := 2) zw (by omega) h k hk
  exact ⟨b, off, rfl, hb, hx k hk 0 _ rfl, hx k hk 1 _ rfl⟩
theorem info_W : (Try.prog.info? 122).map (fun i => (i.zero, i.size, i.bytes)) = some (some (.agg #[.int .i64 0, .int .i64 0]), 2, 16) := by kernel_rfl
def GotW (w w' : World) (xs : List Wait) (e : Ending) : Prop := ∃ v, e = .returned v ∧ kW.R 122 w' w.heap.size (fun _ => True) v xs
section
variable {ops : Array Oper} {rest : List Oper} {o : Oper} {a : Act} {Q : Exit → Act → World → Prop}
theorem make_W {W0 W : World} (hgd : o.guard = none) {N : Tmp} (hd : o.dst = some N) (x y : Operand) (ho : o.op = .makeSlice 73 x y) (n : Nat) (hx : a.eval x = .int .i64 n) (hy : a.eval y = .int .i64 n)
    (hl : n ≤ 1000000000) (HB : Below W0.heap.size W0 W)
    (h : ∀ v1 w1, kW.R 122 w1 W0.heap.size (fun _ => True) v1 (List.replicate n zw) → Below W0.heap.size W0 w1 → wpList Try.prog ops Q rest (a.put o.dst v1) w1) : wpList Try.prog ops Q (o :: rest) a W :=
  Kd.R_make kW (w0 := W0) W0.heap.size 122 hgd hd 73 x y ho (n : Int) hx hy Try.underlying73 (.agg #[.int .i64 0, .int .i64 0]) 16 info_W rfl (by decide) (by omega) zw (ok := fun _ => True) (okp := fun _ => True) rfl (fun _ hk => hk) trivial (by omega) (by simp; omega) HB HB.size
    (fun v1 w1 h1 h2 _ _ => h v1 w1 (by simpa using h1) h2)
theorem put_W {W0 W : World} (hN : o.dst = none) (hgd : o.guard = none) (p x : Operand) (ho : o.op = .store 122 p x) {g m cap o' : Nat} (k : Nat) (xs : List Wait) (y : Wait)
    (haddr : a.eval p = .pointer (some ⟨g, o', none⟩)) (hoff : o' = k * 2) (hx : a.eval x = .agg #[.int .i64 y.a, .int .i64 y.b]) (HO : kW.R 122 W W0.heap.size (fun _ => True) (.slice (some ⟨g, 0, none⟩) m cap) xs) (hk : k < m) (HB : Below W0.heap.size W0 W)
    (h : ∀ w1, kW.R 122 w1 W0.heap.size (fun _ => True) (.slice (some ⟨g, 0, none⟩) m cap) (xs.set k y) → Below W0.heap.size W0 w1 → W.grownBy w1 (some g) → wpList Try.prog ops Q rest a w1) : wpList Try.prog ops Q (o :: rest) a W := by
  have hc := rowF_cell zw HO k hk
  refine Kd.R_store kW (w0 := W0) W0.heap.size hN hgd 122 p x ho 122 (k : Int) 0 xs y (.agg #[.int .i64 y.a, .int .i64 y.b]) (wCells y) (wCells (xs.getD k zw)) (fun _ => True) (fun _ => False) haddr (by rw [hoff]; rfl) hx rfl (by kernel_rfl) ?_ HO (by omega) (by omega) rfl ?_ (by show 0 + 2 ≤ 2; omega) ?_ (fun _ h => h.elim) HB ?_
  · intro q hq
    simp only [wCells, List.mem_cons, List.not_mem_nil, or_false] at hq
    rcases hq with rfl | rfl <;> rfl
  · exact hc.1
  · rfl
  · intro w1 h1 h2 h3
    exact h w1 h1 h2 h3
end
theorem same_getW {x l : List Wait} (h1 : x.length = l.length) (h : ∀ j : Nat, j < l.length → rw_ x j = rw_ l j) : x = l := by
  apply List.ext_getElem h1
  intro j a b
  have := h j b
  simpa [rw_, List.getD_eq_getElem?_getD, a, b] using this
theorem set_getW {x : List Wait} {k : Nat} {v : Wait} (hk : k < x.length) (j : Nat) (hj : j < x.length) : rw_ (x.set k v) j = if k = j then v else rw_ x j := by
  by_cases e : k = j
  · subst e; simp [rw_, List.getD_eq_getElem?_getD, hk]
  · simp [rw_, List.getD_eq_getElem?_getD, e]
theorem laws_eqWait (p : Wait) (w : World) : Calls Try.prog 103 #[.agg #[.int .i64 p.a, .int .i64 p.b], .agg #[.int .i64 p.a, .int .i64 p.b]] w fun e w' => e = .returned (.bool true) ∧ Below w.heap.size w w' := by
  have e1 := bne_self p.a
  have e2 := bne_self p.b
  go_enter Try.func103, Try.ntmps103
  go_wp2
  try (go_quiet (fail); go_wp2)
  try (go_quiet (fail); go_wp2)
  go_ret
  exact ⟨rfl, (by with_reducible repeat (first | assumption | exact bw_refl _ | apply bw_alloc | apply bw_drew | apply bw_drewN | refine bw_set _ ?_ (by omega) | refine bw_then ?_ (by assumption)))⟩
/-- Of a row and what was copied from it. -/
theorem laws_eqWaitS (l : List Wait) (A B : Option Addr) (c d : Nat) (w : World) (hr : kW.C w A l.length l) (hs : kW.C w B l.length l) (hn : l.length ≤ 1048576) :
    Calls Try.prog 40 #[.slice A l.length c, .slice B l.length d] w fun e w' => e = .returned (.bool true) ∧ Below w.heap.size w w' := by
  have e0 := bne_self (l.length : Int)
  go_enter Try.func40, Try.ntmps40
  go_wp2
  try (go_quiet (fail); go_wp2)
  go_loopw [5] (fun i wr => ∃ k : Nat, k ≤ l.length ∧ i = .int .i64 k ∧ Below w.heap.size w wr) (fun i _ => l.length - (intOf i).toNat)
  case atStart => exact ⟨0, Nat.zero_le _, rfl, (by with_reducible repeat (first | assumption | exact bw_refl _ | apply bw_alloc | apply bw_drew | apply bw_drewN | refine bw_set _ ?_ (by omega) | refine bw_then ?_ (by assumption)))⟩
  case round =>
    obtain ⟨k, hk, rfl, HB⟩ := hrel
    obtain ⟨hc0, hf0, hz0⟩ := bcell HB
    by_cases hlt : k < l.length
    · obtain ⟨b1, o1, rfl, hb1, p0, p1⟩ := rdW_at hr k hlt
      obtain ⟨b2, o2, rfl, hb2, q0, q1⟩ := rdW_at hs k hlt
      have i0 : (0 : Int) ≤ (k : Int) := by omega
      have i1 : (k : Int) < (l.length : Int) := by omega
      go_wp2_with fail
      refine wp_region_far (w) (by kernel_rfl) (by kernel_rfl) (by with_reducible repeat (first | assumption | exact bw_refl _ | apply bw_alloc | apply bw_drew | apply bw_drewN | refine bw_set _ ?_ (by omega) | refine bw_then ?_ (by assumption))) ?_
      have hqc := far_cell (w)
      have hqf := far_frozen (w)
      repeat (first | go_big_quiet_step ((go_at_call 103; exact far_call (laws_eqWait (rw_ l k) _))) | quiet_step ((go_at_call 103; exact far_call (laws_eqWait (rw_ l k) _))))
      refine wpQuiet_nil ?_
      intro wq hbq
      clear hqc hqf
      obtain ⟨hcq, hfq, hzq⟩ := bcell hbq
      try simp only [World.size_alloc, World.size_setCell, World.size_drew, sz_drewN] at hzq
      go_wp2
      go_roundw
      case rel => exact ⟨k + 1, by omega, by go_num, (by with_reducible repeat (first | assumption | exact bw_refl _ | apply bw_alloc | apply bw_drew | apply bw_drewN | refine bw_set _ ?_ (by omega) | refine bw_then ?_ (by assumption)))⟩
      case measure => simp [intOf]; omega
    · go_wp2
      go_ret
      exact ⟨rfl, (by with_reducible repeat (first | assumption | exact bw_refl _ | apply bw_alloc | apply bw_drew | apply bw_drewN | refine bw_set _ ?_ (by omega) | refine bw_then ?_ (by assumption)))⟩
def markV (k : Int) (j : Nat) : Wait := ⟨k + 2 * j, k + 2 * j + 1⟩
theorem rowW_set {e base g m c : Nat} {w : World} {xs : List Wait} (h : kW.R e w base (fun _ => True) (.slice (some ⟨g, 0, none⟩) m c) xs) (k : Nat) (hk : k < m) (p : Wait) :
    kW.R e ((w.setCell ⟨g, k * 2, none⟩ (.int .i64 p.a)).setCell ⟨g, k * 2 + 1, none⟩ (.int .i64 p.b)) base (fun _ => True) (.slice (some ⟨g, 0, none⟩) m c) (xs.set k p) ∧
    w.grownBy ((w.setCell ⟨g, k * 2, none⟩ (.int .i64 p.a)).setCell ⟨g, k * 2 + 1, none⟩ (.int .i64 p.b)) (some g) := by
  have hc := rowF_cell zw h k hk
  have := Kd.R_seg (d := kW) h (k : Int) (by omega) (by omega) (c := wCells (xs.getD k zw)) (seg := wCells p) (j := 0) (okp := fun _ => False) (x' := p) rfl (fun j u hu => hc.1 j u hu) (by show 0 + 2 ≤ 2; omega) rfl (fun _ h => h.elim)
  exact this
set_option maxHeartbeats 2000000 in
theorem laws_markWaitS (l : List Wait) (k : Int) (A : Option Addr) (c base : Nat) (w : World) (HO0 : kW.R 122 w base (fun _ => True) (.slice A l.length c) l) (hn : l.length ≤ 1048576) (k0 : 0 ≤ k) (k1 : k ≤ 1000000000) :
    Calls Try.prog 41 #[.slice A l.length c, .int .i64 k] w fun e w' => e = .returned (.int .i64 (k + 2 * l.length)) ∧ w.grownBy w' (Value.slice A l.length c).ownBlock := by
  go_enter Try.func41, Try.ntmps41
  go_wp2
  go_loopw [1, 5] (fun v i wr => ∃ (j : Nat) (x : List Wait), i = .int .i64 j ∧ v = .int .i64 (k + 2 * j) ∧ j ≤ l.length ∧ Hid (x.length = l.length) ∧ kW.R 122 wr base (fun _ => True) (.slice A l.length c) x ∧ w.grownBy wr (Value.slice A l.length c).ownBlock) (fun _ i _ => l.length - (intOf i).toNat)
  case atStart => exact ⟨0, l, rfl, by simp, Nat.zero_le _, Lib.hid rfl, HO0, World.grownBy.refl _ _⟩
  case round =>
    obtain ⟨j, x, rfl, rfl, hj, HL, HO, HG⟩ := hrel
    by_cases hlt : j < l.length
    · obtain ⟨g, cap, hv, hgb, hgl, cells, HGC⟩ := Kd.R_form HO (by have := HL.out; omega)
      injection hv with hv1 hv2 hv3
      subst hv1
      subst hv3
      clear HGC hv2
      obtain ⟨hcc, hff⟩ := rowF_cell zw HO j hlt
      have x0 : wr.cell? ⟨g, j * 2, none⟩ = some (.int .i64 (rw_ x j).a) := hcc 0 _ rfl
      have x1 : wr.cell? ⟨g, j * 2 + 1, none⟩ = some (.int .i64 (rw_ x j).b) := hcc 1 _ rfl
      have f0 : wr.frozen? ⟨g, j * 2, none⟩ = false := hff 0
      have f1 := hff 1
      have HP := rowW_set HO j hlt (markV k j)
      have HS := Lib.hid HP
      clear HP hcc hff
      go_wp2
      go_roundw
      case rel => exact ⟨j + 1, x.set j (markV k j), by go_num, by first | (push_cast; congr 1; omega) | (congr 1; push_cast; omega), by omega, Lib.hid (by rw [List.length_set]; exact HL.out), HS.out.1, grown_trans HG HS.out.2⟩
      case measure => simp [intOf]; omega
    · go_wp2
      go_ret
      exact ⟨ret_int (by rw [show j = l.length by omega]), HG⟩
end Go.Proofs.Ytinnfahmfggghaa
