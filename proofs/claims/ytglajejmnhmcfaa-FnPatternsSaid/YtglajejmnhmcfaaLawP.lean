/- The laws' own words on rows of packets: measure, copy, compare; for all lists of at most a million packets. -/
import Derived.Test.YtglajejmnhmcfaaLawI
import Derived.Test.YtglajejmnhmcfaaFlat
set_option linter.unusedVariables false
set_option linter.unusedSimpArgs false
namespace Go.Proofs.Ytglajejmnhmcfaa
open Go.RowKit Go.Proofs.YtglajejmnhmcfaaW.PrintWords
open NoC

theorem info_P : (Try.prog.info? 40).map (fun i => (i.zero, i.size, i.bytes)) = some (some (.agg #[.int .i64 0, .int .i64 0, .int .i64 0, .int .i64 0, .int .i64 0]), 5, 40) := by kernel_rfl
/-- A row of packets that a call hands back. -/
def GotP (w w' : World) (xs : List Packet) (e : Ending) : Prop := ∃ v, e = .returned v ∧ kP.R 40 w' w.heap.size (fun _ => True) v xs
theorem GotP.read {w w' : World} {xs : List Packet} {e : Ending} (h : GotP w w' xs e) : ∃ A c, e = .returned (.slice A xs.length c) ∧ xs.length ≤ c ∧ kP.C w' A xs.length xs := by
  obtain ⟨v, rfl, hR⟩ := h
  obtain ⟨A, c, rfl, h1, h2⟩ := Kd.R_reads hR
  exact ⟨A, c, rfl, h1, h2⟩
section
variable {ops : Array Oper} {rest : List Oper} {o : Oper} {a : Act} {Q : Exit → Act → World → Prop}
theorem make_P {W0 W : World} (hgd : o.guard = none) {N : Tmp} (hd : o.dst = some N) (x y : Operand) (ho : o.op = .makeSlice 28 x y) (n : Nat) (hx : a.eval x = .int .i64 n) (hy : a.eval y = .int .i64 n)
    (hl : n ≤ 1000000000) (HB : Below W0.heap.size W0 W)
    (h : ∀ v1 w1, kP.R 40 w1 W0.heap.size (fun _ => True) v1 (List.replicate n zp) → Below W0.heap.size W0 w1 → wpList Try.prog ops Q rest (a.put o.dst v1) w1) : wpList Try.prog ops Q (o :: rest) a W :=
  Kd.R_make kP (w0 := W0) W0.heap.size 40 hgd hd 28 x y ho (n : Int) hx hy Try.underlying28 (.agg #[.int .i64 0, .int .i64 0, .int .i64 0, .int .i64 0, .int .i64 0]) 40 info_P rfl (by decide) (by omega) zp (ok := fun _ => True) (okp := fun _ => True) rfl (fun _ hk => hk) trivial (by omega) (by simp; omega) HB HB.size
    (fun v1 w1 h1 h2 _ _ => h v1 w1 (by simpa using h1) h2)
/-- out[k] = p. -/
theorem put_P {W0 W : World} (hN : o.dst = none) (hgd : o.guard = none) (p x : Operand) (ho : o.op = .store 40 p x) {g m cap o' : Nat} (k : Nat) (xs : List Packet) (y : Packet)
    (haddr : a.eval p = .pointer (some ⟨g, o', none⟩)) (hoff : o' = k * 5) (hx : a.eval x = .agg #[.int .i64 y.id, .int .i64 y.src, .int .i64 y.dst, .int .i64 y.cls, .int .i64 y.len]) (HO : kP.R 40 W W0.heap.size (fun _ => True) (.slice (some ⟨g, 0, none⟩) m cap) xs) (hk : k < m) (HB : Below W0.heap.size W0 W)
    (h : ∀ w1, kP.R 40 w1 W0.heap.size (fun _ => True) (.slice (some ⟨g, 0, none⟩) m cap) (xs.set k y) → Below W0.heap.size W0 w1 → W.grownBy w1 (some g) → wpList Try.prog ops Q rest a w1) : wpList Try.prog ops Q (o :: rest) a W := by
  have hc := rowF_cell zp HO k hk
  refine Kd.R_store kP (w0 := W0) W0.heap.size hN hgd 40 p x ho 40 (k : Int) 0 xs y (.agg #[.int .i64 y.id, .int .i64 y.src, .int .i64 y.dst, .int .i64 y.cls, .int .i64 y.len]) (pkCells y) (pkCells (xs.getD k zp)) (fun _ => True) (fun _ => False) haddr (by rw [hoff]; rfl) hx rfl (by kernel_rfl) ?_ HO (by omega) (by omega) rfl ?_ (by show 0 + 5 ≤ 5; omega) ?_ (fun _ h => h.elim) HB ?_
  · intro q hq
    simp only [pkCells, List.mem_cons, List.not_mem_nil, or_false] at hq
    rcases hq with rfl | rfl | rfl | rfl | rfl <;> rfl
  · exact hc.1
  · rfl
  · intro w1 h1 h2 h3
    exact h w1 h1 h2 h3
end

theorem same_getP {x l : List Packet} (h1 : x.length = l.length) (h : ∀ j : Nat, j < l.length → rp x j = rp l j) : x = l := by
  apply List.ext_getElem h1
  intro j a b
  have := h j b
  simpa [rp, List.getD_eq_getElem?_getD, a, b] using this
theorem set_getP {x : List Packet} {k : Nat} {v : Packet} (hk : k < x.length) (j : Nat) (hj : j < x.length) : rp (x.set k v) j = if k = j then v else rp x j := by
  by_cases e : k = j
  · subst e; simp [rp, List.getD_eq_getElem?_getD, hk]
  · simp [rp, List.getD_eq_getElem?_getD, e]

theorem bne_self (n : Int) : (n != n) = false := bne_eq_false_iff_eq.2 rfl
theorem laws_eqPacket (p : Packet) (w : World) : Calls Try.prog 44 #[.agg #[.int .i64 p.id, .int .i64 p.src, .int .i64 p.dst, .int .i64 p.cls, .int .i64 p.len], .agg #[.int .i64 p.id, .int .i64 p.src, .int .i64 p.dst, .int .i64 p.cls, .int .i64 p.len]] w fun e w' => e = .returned (.bool true) ∧ Below w.heap.size w w' := by
  have e1 := bne_self p.id
  have e2 := bne_self p.src
  have e3 := bne_self p.dst
  have e4 := bne_self p.cls
  have e5 := bne_self p.len
  go_enter Try.func44, Try.ntmps44
  go_wp2
  try (go_quiet (fail); go_wp2)
  try (go_quiet (fail); go_wp2)
  try (go_quiet (fail); go_wp2)
  try (go_quiet (fail); go_wp2)
  try (go_quiet (fail); go_wp2)
  go_ret
  exact ⟨rfl, (by with_reducible repeat (first | assumption | exact bw_refl _ | apply bw_alloc | apply bw_drew | apply bw_drewN | refine bw_set _ ?_ (by omega) | refine bw_then ?_ (by assumption)))⟩
/-- Of a row and what was copied from it. -/
theorem laws_eqPacketS (l : List Packet) (A B : Option Addr) (c d : Nat) (w : World) (hr : kP.C w A l.length l) (hs : kP.C w B l.length l) (hn : l.length ≤ 1048576) :
    Calls Try.prog 14 #[.slice A l.length c, .slice B l.length d] w fun e w' => e = .returned (.bool true) ∧ Below w.heap.size w w' := by
  have e0 := bne_self (l.length : Int)
  go_enter Try.func14, Try.ntmps14
  go_wp2
  try (go_quiet (fail); go_wp2)
  go_loopw [5] (fun i wr => ∃ k : Nat, k ≤ l.length ∧ i = .int .i64 k ∧ Below w.heap.size w wr) (fun i _ => l.length - (intOf i).toNat)
  case atStart => exact ⟨0, Nat.zero_le _, rfl, (by with_reducible repeat (first | assumption | exact bw_refl _ | apply bw_alloc | apply bw_drew | apply bw_drewN | refine bw_set _ ?_ (by omega) | refine bw_then ?_ (by assumption)))⟩
  case round =>
    obtain ⟨k, hk, rfl, HB⟩ := hrel
    obtain ⟨hc0, hf0, hz0⟩ := bcell HB
    by_cases hlt : k < l.length
    · obtain ⟨b1, o1, rfl, hb1, p0, p1, p2, p3, p4⟩ := rdP_at hr k hlt
      obtain ⟨b2, o2, rfl, hb2, q0, q1, q2, q3, q4⟩ := rdP_at hs k hlt
      have i0 : (0 : Int) ≤ (k : Int) := by omega
      have i1 : (k : Int) < (l.length : Int) := by omega
      go_wp2_with fail
      refine wp_region_far (w) (by kernel_rfl) (by kernel_rfl) (by with_reducible repeat (first | assumption | exact bw_refl _ | apply bw_alloc | apply bw_drew | apply bw_drewN | refine bw_set _ ?_ (by omega) | refine bw_then ?_ (by assumption))) ?_
      have hqc := far_cell (w)
      have hqf := far_frozen (w)
      repeat (first | go_big_quiet_step ((go_at_call 44; exact far_call (laws_eqPacket (rp l k) _))) | quiet_step ((go_at_call 44; exact far_call (laws_eqPacket (rp l k) _))))
      refine wpQuiet_nil ?_
      intro wq hbq
      clear hqc hqf
      obtain ⟨hcq, hfq, hzq⟩ := bcell hbq
      try simp only [World.size_alloc, World.size_setCell, World.size_drew, sz_drewN] at hzq
      go_wp2
      go_roundw
      case rel => exact ⟨k + 1, by omega, by go_num, (by with_reducible repeat (first | assumption | exact bw_refl _ | apply bw_alloc | apply bw_drew | apply bw_drewN | refine bw_set _ ?_ (by omega) | refine bw_then ?_ (by assumption)))⟩
      case measure => simp [intOf]; omega
    · go_wp2
      go_ret
      exact ⟨rfl, (by with_reducible repeat (first | assumption | exact bw_refl _ | apply bw_alloc | apply bw_drew | apply bw_drewN | refine bw_set _ ?_ (by omega) | refine bw_then ?_ (by assumption)))⟩
end Go.Proofs.Ytglajejmnhmcfaa
