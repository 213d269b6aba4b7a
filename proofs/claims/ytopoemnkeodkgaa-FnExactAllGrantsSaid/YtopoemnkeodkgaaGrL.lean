/- The laws' own words on rows of grants: compare, mark, read again; for all rows of at most a million. -/
import Derived.Test.YtopoemnkeodkgaaGrS
import Derived.Test.YtopoemnkeodkgaaNetK
set_option linter.unusedVariables false
set_option linter.unusedSimpArgs false
namespace Go.Proofs.Ytopoemnkeodkgaa
open Go.RowKit Go.Proofs.YtopoemnkeodkgaaW.PrintWords
open NoC

theorem same_getG {x l : List Grant} (h1 : x.length = l.length) (h : ∀ j : Nat, j < l.length → rg x j = rg l j) : x = l := by
  apply List.ext_getElem h1
  intro j a b
  have := h j b
  simpa [rg, List.getD_eq_getElem?_getD, a, b] using this
theorem set_getG {x : List Grant} {k : Nat} {v : Grant} (hk : k < x.length) (j : Nat) (hj : j < x.length) : rg (x.set k v) j = if k = j then v else rg x j := by
  by_cases e : k = j
  · subst e; simp [rg, List.getD_eq_getElem?_getD, hk]
  · simp [rg, List.getD_eq_getElem?_getD, e]
theorem laws_eqGrant (p : Grant) (w : World) : Calls Try.prog 39 #[.agg #[.int .i64 p.node, .int .i64 p.port, .int .i64 p.input], .agg #[.int .i64 p.node, .int .i64 p.port, .int .i64 p.input]] w fun e w' => e = .returned (.bool true) ∧ Below w.heap.size w w' := by
  have e1 := bne_self p.node
  have e2 := bne_self p.port
  have e3 := bne_self p.input
  go_enter Try.func39, Try.ntmps39
  go_wp2
  try (go_quiet (fail); go_wp2)
  try (go_quiet (fail); go_wp2)
  try (go_quiet (fail); go_wp2)
  go_ret
  exact ⟨rfl, (by with_reducible repeat (first | assumption | exact bw_refl _ | apply bw_alloc | apply bw_drew | apply bw_drewN | refine bw_set _ ?_ (by omega) | refine bw_then ?_ (by assumption)))⟩
theorem laws_eqGrantS (l : List Grant) (A B : Option Addr) (c d : Nat) (w : World) (hr : kG.C w A l.length l) (hs : kG.C w B l.length l) (hn : l.length ≤ 1048576) :
    Calls Try.prog 13 #[.slice A l.length c, .slice B l.length d] w fun e w' => e = .returned (.bool true) ∧ Below w.heap.size w w' := by
  have e0 := bne_self (l.length : Int)
  go_enter Try.func13, Try.ntmps13
  go_wp2
  try (go_quiet (fail); go_wp2)
  go_loopw [5] (fun i wr => ∃ k : Nat, k ≤ l.length ∧ i = .int .i64 k ∧ Below w.heap.size w wr) (fun i _ => l.length - (intOf i).toNat)
  case atStart => exact ⟨0, Nat.zero_le _, rfl, (by with_reducible repeat (first | assumption | exact bw_refl _ | apply bw_alloc | apply bw_drew | apply bw_drewN | refine bw_set _ ?_ (by omega) | refine bw_then ?_ (by assumption)))⟩
  case round =>
    obtain ⟨k, hk, rfl, HB⟩ := hrel
    obtain ⟨hc0, hf0, hz0⟩ := bcell HB
    by_cases hlt : k < l.length
    · obtain ⟨b1, o1, rfl, hb1, p0, p1, p2⟩ := rdG_at hr k hlt
      obtain ⟨b2, o2, rfl, hb2, q0, q1, q2⟩ := rdG_at hs k hlt
      have i0 : (0 : Int) ≤ (k : Int) := by omega
      have i1 : (k : Int) < (l.length : Int) := by omega
      go_wp2_with fail
      refine wp_region_far (w) (by kernel_rfl) (by kernel_rfl) (by with_reducible repeat (first | assumption | exact bw_refl _ | apply bw_alloc | apply bw_drew | apply bw_drewN | refine bw_set _ ?_ (by omega) | refine bw_then ?_ (by assumption))) ?_
      have hqc := far_cell (w)
      have hqf := far_frozen (w)
      repeat (first | go_big_quiet_step ((go_at_call 39; exact far_call (laws_eqGrant (rg l k) _))) | quiet_step ((go_at_call 39; exact far_call (laws_eqGrant (rg l k) _))))
      refine wpQuiet_nil ?_
      intro wq hbq
      clear hqc hqf
      obtain ⟨hcq, hfq, hzq⟩ := bcell hbq
      try simp only [World.size_alloc, World.size_setCell, World.size_drew, sz_drewN] at hzq
      go_wp2
      go_roundw
      case rel => exact ⟨k + 1, by omega, by go_num, (by with_reducible repeat (first | assumption | exact bw_refl _ | apply bw_alloc | apply bw_drew | apply bw_drewN | refine bw_set _ ?_ (by omega) | refine bw_then ?_ (by assumption)))⟩
      case measure => simp [intOf]; omega
    · go_wp2
      go_ret
      exact ⟨rfl, (by with_reducible repeat (first | assumption | exact bw_refl _ | apply bw_alloc | apply bw_drew | apply bw_drewN | refine bw_set _ ?_ (by omega) | refine bw_then ?_ (by assumption)))⟩
def markGrantQ (k : Int) (j : Nat) : Grant := ⟨k + 3 * j, k + 3 * j + 1, k + 3 * j + 1 + 1⟩
def markGrantL (k : Int) (n : Nat) : List Grant := (List.range n).map (markGrantQ k)
theorem markGrant_len (k : Int) (n : Nat) : (markGrantL k n).length = n := by simp [markGrantL]
theorem markGrant_get (k : Int) (n j : Nat) (h : j < n) : rg (markGrantL k n) j = markGrantQ k j := by
  simp [rg, markGrantL, List.getD_eq_getElem?_getD, h]
theorem rowG_put {e base g m c : Nat} {w : World} {xs : List Grant} (h : kG.R e w base (fun _ => True) (.slice (some ⟨g, 0, none⟩) m c) xs) (k : Nat) (hk : k < m) (p : Grant) :
    kG.R e (((w.setCell ⟨g, k * 3, none⟩ (.int .i64 p.node)).setCell ⟨g, k * 3 + 1, none⟩ (.int .i64 p.port)).setCell ⟨g, k * 3 + 2, none⟩ (.int .i64 p.input)) base (fun _ => True) (.slice (some ⟨g, 0, none⟩) m c) (xs.set k p) ∧ w.grownBy (((w.setCell ⟨g, k * 3, none⟩ (.int .i64 p.node)).setCell ⟨g, k * 3 + 1, none⟩ (.int .i64 p.port)).setCell ⟨g, k * 3 + 2, none⟩ (.int .i64 p.input)) (some g) := by
  have hc := rowF_cell zg h k hk
  have := Kd.R_seg (d := kG) h (k : Int) (by omega) (by omega) (c := gCells (xs.getD k zg)) (seg := gCells p) (j := 0) (okp := fun _ => False) (x' := p) rfl (fun j u hu => hc.1 j u hu) (by show 0 + 3 ≤ 3; omega) rfl (fun _ h => h.elim)
  exact this
set_option maxHeartbeats 2000000 in
theorem laws_markGrantS2 (l : List Grant) (k : Int) (A : Option Addr) (c base : Nat) (w : World) (HO0 : kG.R 73 w base (fun _ => True) (.slice A l.length c) l) (hn : l.length ≤ 1048576) (k0 : 0 ≤ k) (k1 : k ≤ 100000000000000000) :
    Calls Try.prog 15 #[.slice A l.length c, .int .i64 k] w fun e w' => e = .returned (.int .i64 (k + 3 * l.length)) ∧ kG.R 73 w' base (fun _ => True) (.slice A l.length c) (markGrantL k l.length) ∧ w.grownBy w' (Value.slice A l.length c).ownBlock := by
  go_enter Try.func15, Try.ntmps15
  go_wp2
  go_loopw [1, 5] (fun v i wr => ∃ (j : Nat) (x : List Grant), i = .int .i64 j ∧ v = .int .i64 (k + 3 * j) ∧ j ≤ l.length ∧ Hid (x.length = l.length) ∧ Hid (∀ q : Nat, q < j → rg x q = markGrantQ k q) ∧ kG.R 73 wr base (fun _ => True) (.slice A l.length c) x ∧ w.grownBy wr (Value.slice A l.length c).ownBlock) (fun _ i _ => l.length - (intOf i).toNat)
  case atStart => exact ⟨0, l, rfl, by simp, Nat.zero_le _, Lib.hid rfl, Lib.hid fun q h => absurd h (Nat.not_lt_zero _), HO0, World.grownBy.refl _ _⟩
  case round =>
    obtain ⟨j, x, rfl, rfl, hj, HL, HA, HO, HG⟩ := hrel
    by_cases hlt : j < l.length
    · obtain ⟨g, cap, hv, hgb, hgl, cells, HGC⟩ := Kd.R_form HO (by have := HL.out; omega)
      injection hv with hv1 hv2 hv3
      subst hv1
      subst hv3
      clear HGC hv2
      obtain ⟨hcc, hff⟩ := rowF_cell zg HO j hlt
      have x0 : wr.cell? ⟨g, j * 3, none⟩ = some (.int .i64 (rg x j).node) := hcc 0 _ rfl
      have x1 : wr.cell? ⟨g, j * 3 + 1, none⟩ = some (.int .i64 (rg x j).port) := hcc 1 _ rfl
      have x2 : wr.cell? ⟨g, j * 3 + 2, none⟩ = some (.int .i64 (rg x j).input) := hcc 2 _ rfl
      have f0 : wr.frozen? ⟨g, j * 3, none⟩ = false := hff 0
      have f1 : wr.frozen? ⟨g, j * 3 + 1, none⟩ = false := hff 1
      have f2 : wr.frozen? ⟨g, j * 3 + 2, none⟩ = false := hff 2
      have HP := rowG_put HO j hlt (markGrantQ k j)
      have HS := Lib.hid HP
      clear HP hcc hff
      go_wp2
      go_roundw
      case rel => exact ⟨j + 1, x.set j (markGrantQ k j), by go_num, by first | (push_cast; congr 1; omega) | (congr 1; push_cast; omega), by omega, Lib.hid (by rw [List.length_set]; exact HL.out), Lib.hid (upto (fun q hq => by rw [set_getG (by have := HL.out; omega) q (by have := HL.out; omega), if_neg (by omega)]; exact HA.out q hq) (by rw [set_getG (by have := HL.out; omega) j (by have := HL.out; omega), if_pos rfl])), HS.out.1, grown_trans HG HS.out.2⟩
      case measure => simp [intOf]; omega
    · go_wp2
      go_ret
      have e : x = markGrantL k l.length := same_getG (by rw [HL.out, markGrant_len]) (fun q hq => by rw [markGrant_len] at hq; rw [HA.out q (by omega), markGrant_get _ _ _ hq])
      subst e
      exact ⟨ret_int (by rw [show j = l.length by omega]), HO, HG⟩
set_option maxHeartbeats 2000000 in
theorem laws_heldGrantS (n : Nat) (k : Int) (A : Option Addr) (c : Nat) (w : World) (hr0 : kG.C w A n (markGrantL k n)) (hn : n ≤ 1048576) (k0 : 0 ≤ k) (k1 : k ≤ 100000000000000000) :
    Calls Try.prog 16 #[.slice A n c, .int .i64 k] w fun e w' => e = .returned (.int .i64 (k + 3 * n)) ∧ w = w' := by
  have hr : kG.C w A (markGrantL k n).length (markGrantL k n) := by rw [markGrant_len]; exact hr0
  go_enter Try.func16, Try.ntmps16
  go_wp2
  go_loop [1, 5] (fun v i => ∃ j : Nat, i = .int .i64 j ∧ v = .int .i64 (k + 3 * j) ∧ j ≤ n) (fun _ i => n - (intOf i).toNat)
  case atStart => exact ⟨0, rfl, by simp, Nat.zero_le _⟩
  case round =>
    obtain ⟨j, rfl, rfl, hj⟩ := hrel
    by_cases hlt : j < n
    · obtain ⟨b, off, rfl, hb, p0, p1, p2⟩ := rdG_at hr j (by rw [markGrant_len]; exact hlt)
      rw [markGrant_get _ _ _ hlt] at p0 p1 p2
      simp only [markGrantQ] at p0 p1 p2
      have e0 := bne_self (k + 3 * (j : Int))
      have e1 := bne_self (k + 3 * (j : Int) + 1)
      have e2 := bne_self (k + 3 * (j : Int) + 1 + 1)
      go_wp2
      go_round
      case rel => exact ⟨j + 1, by go_num, by first | (push_cast; congr 1; omega) | (congr 1; push_cast; omega), by omega⟩
      case measure => simp [intOf]; omega
    · go_wp2
      go_ret
      exact ⟨ret_int (by rw [show j = n by omega]), rfl⟩
end Go.Proofs.Ytopoemnkeodkgaa
