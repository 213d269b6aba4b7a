/- Lemmas for laws of this seat, for all inputs: ReqJ NetOkS ReqS GrD GrI StW GrS Mv StH. -/
import Derived.Test.YtodbglncccgdbaaQ8
import Derived.Lib.SliceRun
import Derived.Test.YtodbglncccgdbaaQ3
import Derived.Test.YtodbglncccgdbaaQ7
set_option linter.unusedVariables false
set_option linter.unusedSimpArgs false
namespace Go.Proofs.Ytodbglncccgdbaa
open Go.RowKit Go.Proofs.YtodbglncccgdbaaW.PrintWords
open NoC
set_option maxHeartbeats 4000000 in
set_option maxRecDepth 100000 in
theorem impl_isRequest (n : Net) (q : NA) (bx : Nat) (a i p : Int) (w : World) (hr : NetR 102 w n q) (hx : Box w bx (netCells n q)) (ha : At n a i) :
    Calls Try.prog 121 #[.pointer (some ⟨bx, 0, none⟩), .int .i64 a, .int .i64 i, .int .i64 p] w fun e w' => e = .returned (.bool (reqI n a i p)) ∧ Below w.heap.size w w' := by
  have R := Lib.hid hr
  have X := Lib.hid hx
  have HA := Lib.hid ha
  obtain ⟨a0, a15, j0, j1, j2, j3, j4, j5⟩ := ha.idx
  have i0 := ha.i0
  have i9 := ha.i9
  obtain ⟨y0, y1⟩ := ha.wanted
  clear ha
  obtain ⟨a1, a2, a3, a4, a5, a6, a7, a8, c1, c2, c3, c4, c5, c6, c7, c8⟩ := q; obtain ⟨Rbr, Rpa, Rpb, Rbu, Row, Rtu, Rso, Rar, L1, L2, L3, L4, L5, L6, L7, L8, L9, L10, L11⟩ := hr; have M9 := Lib.hid L9; have M10 := Lib.hid L10; have M11 := Lib.hid L11; clear L9 L10 L11; dsimp only [netCells] at *
  have xl := hx.lt; have x0 : w.cell? ⟨bx, 0, none⟩ = some (.int .i64 n.mesh.g.w) := hx.get 0; have x1 : w.cell? ⟨bx, 1, none⟩ = some (.int .i64 n.mesh.g.h) := hx.get 1; have x2 : w.cell? ⟨bx, 2, none⟩ = some (.slice a1 n.mesh.br.length c1) := hx.get 2; have x3 : w.cell? ⟨bx, 3, none⟩ = some (.slice a2 n.pa.length c2) := hx.get 3; have x4 : w.cell? ⟨bx, 4, none⟩ = some (.slice a3 n.pb.length c3) := hx.get 4; have x5 : w.cell? ⟨bx, 5, none⟩ = some (.slice a4 n.bufs.length c4) := hx.get 5; have x6 : w.cell? ⟨bx, 6, none⟩ = some (.slice a5 n.owners.length c5) := hx.get 6; have x7 : w.cell? ⟨bx, 7, none⟩ = some (.slice a6 n.turns.length c6) := hx.get 7; have x8 : w.cell? ⟨bx, 8, none⟩ = some (.slice a7 n.srcs.length c7) := hx.get 8; have x9 : w.cell? ⟨bx, 9, none⟩ = some (.slice a8 n.arrs.length c8) := hx.get 9; have x10 : w.cell? ⟨bx, 10, none⟩ = some (.int .i64 n.time) := hx.get 10; clear hx
  by_cases h0 : p < 0
  · have HN := Lib.hid (reqI_neg (n := n) (a := a) (i := i) h0)
    go_enter Try.func121, Try.ntmps121
    go_wp2
    go_ret
    exact ⟨ret_bool HN.out.symm, bel⟩
  by_cases h1 : wantedN n a i = p
  case neg =>
    have HN := Lib.hid (reqI_no (request_no1 h1))
    have f1 : (wantedN n a i != p) = true := bne_iff_ne.2 h1
    clear h1
    go_enter Try.func121, Try.ntmps121
    go_wp2_with (go_at_call 122; refine (impl_wanted n _ bx a i _ R.out X.out HA.out).mono ?_; rintro e w1 ⟨rfl, hb1⟩; obtain ⟨hc1, hf1, hz1⟩ := bcell hb1; (try simp only [szs] at hz1); have hb2 := far2; obtain ⟨hc2, hf2, hz2⟩ := bcell hb2; (try simp only [szs] at hz2); try (first | obtain ⟨hy1, hy2, hy3, hy4⟩ := lts4 hz2 | obtain ⟨hy1, hy2, hy3⟩ := lts3 hz2 | obtain ⟨hy1, hy2⟩ := lts2 hz2 | have hy1 := lts1 hz2); have hb9 := hb1)
    go_ret
    exact ⟨ret_bool HN.out.symm, bel⟩
  have p0 : 0 ≤ p := by omega
  have p4 : p ≤ 4 := by omega
  have H1 := Lib.hid h1
  have hl0 := wanted_len (n := n) (a := a) (i := i) (by omega)
  have f1 : (p != p) = false := bne_eq_false_iff_eq.2 rfl
  have HI := Lib.hid (reqI_in (n := n) (a := a) (i := i) p0 p4)
  clear h1 y0 y1
  cases h2 : roomN n a p (i % 2)
  · have H2 := Lib.hid h2
    go_enter Try.func121, Try.ntmps121
    go_wp2_with (first | (go_at_call 122; refine (impl_wanted n _ bx a i _ R.out X.out HA.out).mono ?_; rintro e w1 ⟨he, hb1⟩; rw [H1.out] at he; subst he; obtain ⟨hc1, hf1, hz1⟩ := bcell hb1; (try simp only [szs] at hz1); have hb2 := far2; obtain ⟨hc2, hf2, hz2⟩ := bcell hb2; (try simp only [szs] at hz2); try (first | obtain ⟨hy1, hy2, hy3, hy4⟩ := lts4 hz2 | obtain ⟨hy1, hy2, hy3⟩ := lts3 hz2 | obtain ⟨hy1, hy2⟩ := lts2 hz2 | have hy1 := lts1 hz2); have hb9 := hb1) | (go_at_call 123; refine (impl_hasRoom n _ bx a p (i % 2) _ (R.out.below bel) (X.out.below bel) HA.out.ok HA.out.nd p0 p4 (by omega) (by omega)).mono ?_; rintro e w1 ⟨rfl, hb1⟩; obtain ⟨hc1, hf1, hz1⟩ := bcell hb1; (try simp only [szs] at hz1); have hb2 := far2; obtain ⟨hc2, hf2, hz2⟩ := bcell hb2; (try simp only [szs] at hz2); try (first | obtain ⟨hy1, hy2, hy3, hy4⟩ := lts4 hz2 | obtain ⟨hy1, hy2, hy3⟩ := lts3 hz2 | obtain ⟨hy1, hy2⟩ := lts2 hz2 | have hy1 := lts1 hz2); have hb9 := hb1))
    go_ret
    exact ⟨ret_bool (by rw [HI.out, request_no2 H2.out]), bel⟩
  have H2 := Lib.hid h2
  have m0 : 0 ≤ 10 * a + 2 * p + i % 2 := by omega
  have m1 : 10 * a + 2 * p + i % 2 < (n.owners.length : Int) := by omega
  obtain ⟨b5, o5, rfl, hb5, r0⟩ := rdI_int Row (10 * a + 2 * p + i % 2) m0 m1
  obtain ⟨o, ho⟩ : ∃ o, ri n.owners (10 * a + 2 * p + i % 2) = o := ⟨_, rfl⟩
  rw [ho] at r0
  have HO := Lib.hid (show ownAt n a p (i % 2) = o from ho)
  clear ho
  obtain ⟨W, hW⟩ : ∃ W, W = w := ⟨w, rfl⟩
  cases hh : (rf (bufOf n a i) 0).head
  all_goals
    have HQ := Lib.hid hh
    unfold bufOf at hl0 hh
    obtain ⟨b, off, rfl, hb, Ai, ci, u0, hle, hCi⟩ := rdB_int Rbu (10 * a + i) j0 j1
    obtain ⟨b1, o1, rfl, hb1, q0, q1, q2, q3, q4⟩ := rdFl_0 hCi hl0
    obtain ⟨l, el⟩ : ∃ l, rl n.bufs (10 * a + i) = l := ⟨_, rfl⟩
    rw [el] at hl0 hh u0 hle q0 q1 q2 q3 q4
    have hl1 : (0 : Int) < (l.length : Int) := by omega
    rw [hh] at q3
    clear hCi el hh hW
    go_enter Try.func121, Try.ntmps121
    go_wp2_with (first | (go_at_call 122; refine (impl_wanted n _ bx a i _ R.out X.out HA.out).mono ?_; rintro e w1 ⟨he, hb1⟩; rw [H1.out] at he; subst he; obtain ⟨hc1, hf1, hz1⟩ := bcell hb1; (try simp only [szs] at hz1); have hb2 := far2; obtain ⟨hc2, hf2, hz2⟩ := bcell hb2; (try simp only [szs] at hz2); try (first | obtain ⟨hy1, hy2, hy3, hy4⟩ := lts4 hz2 | obtain ⟨hy1, hy2, hy3⟩ := lts3 hz2 | obtain ⟨hy1, hy2⟩ := lts2 hz2 | have hy1 := lts1 hz2); have hb9 := hb1) | (go_at_call 123; refine (impl_hasRoom n _ bx a p (i % 2) _ (R.out.below bel) (X.out.below bel) HA.out.ok HA.out.nd p0 p4 (by omega) (by omega)).mono ?_; rintro e w1 ⟨rfl, hb1⟩; obtain ⟨hc1, hf1, hz1⟩ := bcell hb1; (try simp only [szs] at hz1); have hb2 := far2; obtain ⟨hc2, hf2, hz2⟩ := bcell hb2; (try simp only [szs] at hz2); try (first | obtain ⟨hy1, hy2, hy3, hy4⟩ := lts4 hz2 | obtain ⟨hy1, hy2, hy3⟩ := lts3 hz2 | obtain ⟨hy1, hy2⟩ := lts2 hz2 | have hy1 := lts1 hz2); have hb9 := hb1))
    refine wp_region_far (w) (by kernel_rfl) (by kernel_rfl) bel ?_
    have hqc := far_cell (w)
    have hqf := far_frozen (w)
    repeat (first | go_big_quiet_step ((go_at_call 68; exact far_same (impl_BufferAt a p (i % 2) _ (by omega) (by omega) (by omega) (by omega) (by omega) (by omega)))) | quiet_step ((go_at_call 68; exact far_same (impl_BufferAt a p (i % 2) _ (by omega) (by omega) (by omega) (by omega) (by omega) (by omega)))))
    refine wpQuiet_nil ?_
    intro wq hbq
    clear hqc hqf
    obtain ⟨hcq, hfq, hzq⟩ := bcell hbq
    try simp only [szs] at hzq
    go_wp2
    go_ret
    exact ⟨ret_bool (by first | rw [HI.out, request_1 H1.out H2.out HQ.out, HO.out] | rw [HI.out, request_2 H1.out H2.out HQ.out, HO.out]), bel⟩
set_option maxHeartbeats 2000000 in
theorem impl_requests (n : Net) (q : NA) (bx : Nat) (a p : Int) (w : World) (hr : NetR 102 w n q) (hx : Box w bx (netCells n q)) (ok : netOk n = true) (nd : isNode n.mesh.g a = true) :
    Calls Try.prog 111 #[.pointer (some ⟨bx, 0, none⟩), .int .i64 a, .int .i64 p] w fun e w' => GotI w w' (requestsN n a p) e ∧ Below w.heap.size w w' := by
  have R := Lib.hid hr
  have X := Lib.hid hx
  have OK := Lib.hid ok
  have ND := Lib.hid nd
  clear hr hx ok nd
  go_enter Try.func111, Try.ntmps111
  go_wp2
  go_loopw [7, 10] (fun v j wr => ∃ k : Nat, j = .int .i64 k ∧ k ≤ 10 ∧ Kd.R (Kd.int .i64) 3 wr w.heap.size (fun _ => True) v (requestsTo n a p k) ∧ Below w.heap.size w wr) (fun _ j _ => 10 - (intOf j).toNat)
  case atStart => exact ⟨0, rfl, Nat.zero_le _, R_empty (W0 := w) _ _ (bw_size bel), bel⟩
  case round =>
    obtain ⟨k, rfl, hk, HO, HB⟩ := hrel
    obtain ⟨Ao, co, rfl⟩ := Kd.R_slice HO
    have hlen := requestsTo_len n a p k
    obtain ⟨hcr, hfr, hzr⟩ := bcell HB
    by_cases hlt : k < 10
    · have i0 : (k : Int) < 10 := by omega
      cases h1 : reqI n a k p
      · have HS := Lib.hid (requestsTo_no h1)
        go_wp2_with (go_at_call 121; refine (impl_isRequest n q bx a k p _ (R.out.below bel) (X.out.below bel) ⟨OK.out, ND.out, by omega, by omega⟩).mono ?_; rintro e w1 ⟨rfl, hb1⟩; obtain ⟨hc1, hf1, hz1⟩ := bcell hb1; (try simp only [szs] at hz1); have hb2 := far2; obtain ⟨hc2, hf2, hz2⟩ := bcell hb2; (try simp only [szs] at hz2); try (first | obtain ⟨hy1, hy2, hy3, hy4⟩ := lts4 hz2 | obtain ⟨hy1, hy2, hy3⟩ := lts3 hz2 | obtain ⟨hy1, hy2⟩ := lts2 hz2 | have hy1 := lts1 hz2); have hb9 := hb1)
        go_roundw
        case rel => exact ⟨k + 1, by go_num, by omega, by rw [HS.out]; exact (by exact Kd.R_below HO bel), bel⟩
        case measure => simp [intOf]; omega
      · have HS := Lib.hid (requestsTo_yes h1)
        go_wp2_with (first | (go_at_call 121; refine (impl_isRequest n q bx a k p _ (R.out.below bel) (X.out.below bel) ⟨OK.out, ND.out, by omega, by omega⟩).mono ?_; rintro e w1 ⟨rfl, hb1⟩; obtain ⟨hc1, hf1, hz1⟩ := bcell hb1; (try simp only [szs] at hz1); have hb2 := far2; obtain ⟨hc2, hf2, hz2⟩ := bcell hb2; (try simp only [szs] at hz2); try (first | obtain ⟨hy1, hy2, hy3, hy4⟩ := lts4 hz2 | obtain ⟨hy1, hy2, hy3⟩ := lts3 hz2 | obtain ⟨hy1, hy2⟩ := lts2 hz2 | have hy1 := lts1 hz2); have hb9 := hb1) | (at_builtin; refine app_int (W0 := w) rfl (.tmp 18) (.tmp 20) 26 3 rfl Try.underlying26 info_int _ (requestsTo n a p k) _ rfl (by first | rfl | exact congrArg (fun z => Value.slice (some ⟨z, 0, none⟩) 1 1) (World.size_alloc _ _).symm) (by exact Kd.R_below HO bel) bel (by omega) ?_; intro v1 w1 HO1 HB1; obtain ⟨hc1, hf1, hz1⟩ := bcell HB1; (try simp only [szs] at hz1); have hb2 := HB1; have hb9 := HB1))
        go_roundw
        case rel => exact ⟨k + 1, by go_num, by omega, by rw [HS.out]; exact (by exact Kd.R_below HO1 bel), bel⟩
        case measure => simp [intOf]; omega
    · have i0 : ¬ (k : Int) < 10 := by omega
      obtain rfl : k = 10 := by omega
      go_wp2
      go_ret
      exact ⟨⟨_, rfl, (by exact Kd.R_below HO bel)⟩, bel⟩
def Blk (W : World) (b : Nat) (t : TypeId) (cs : Array Value) : Prop := W.heap[b]? = some (.cells cs t (0, 0))
theorem Blk.lt {W : World} {b : Nat} {t : TypeId} {cs : Array Value} (h : Blk W b t cs) : b < W.heap.size := (Array.getElem?_eq_some_iff.1 h).1
theorem Blk.cell {W : World} {b : Nat} {t : TypeId} {cs : Array Value} (h : Blk W b t cs) (o : Nat) : W.cell? ⟨b, o, none⟩ = cs[o]? := by
  unfold World.cell?
  rw [show W.heap[b]? = _ from h]
  rfl
theorem Blk.frozen {W : World} {b : Nat} {t : TypeId} {cs : Array Value} (h : Blk W b t cs) (o : Nat) : W.frozen? ⟨b, o, none⟩ = false := by
  unfold World.frozen?
  rw [show W.heap[b]? = _ from h]
  simp
theorem Blk.new (W : World) (b : Nat) (t : TypeId) (cs : Array Value) (hb : b = W.heap.size) : Blk (W.alloc (.cells cs t)) b t cs := by
  subst hb
  exact (show (W.heap.push _)[W.heap.size]? = _ from Array.getElem?_push_size)
theorem Blk.below {W W1 : World} {b : Nat} {t : TypeId} {cs : Array Value} (h : Blk W b t cs) (hb : Below W.heap.size W W1) : Blk W1 b t cs := (hb.block b h.lt).trans h
theorem Blk.grown {W W1 : World} {b : Nat} {t : TypeId} {cs : Array Value} {row : Option Nat} (h : Blk W b t cs) (hg : W.grownBy W1 row) (hne : some b ≠ row) : Blk W1 b t cs := (hg.block b h.lt hne).trans h
theorem Blk.set {W : World} {b : Nat} {t : TypeId} {cs : Array Value} (h : Blk W b t cs) (i : Nat) (v : Value) : Blk (W.setCell ⟨b, i, none⟩ v) b t (cs.setIfInBounds i v) := by
  show (W.heap.modify b _)[b]? = _
  have hlt := h.lt
  have h2 : W.heap[b]? = some (.cells cs t (0, 0)) := h
  rw [Array.getElem?_eq_getElem hlt] at h2
  injection h2 with h2
  rw [Array.getElem?_eq_getElem (by rw [Array.size_modify]; exact hlt), Array.getElem_modify_self, h2]
  rfl
def uCells (us : List Bool) : Array Value := (us.map Value.bool).toArray
theorem uCells_get {us : List Bool} {o : Nat} (h : o < us.length) : (uCells us)[o]? = some (.bool (us.getD o false)) := by
  simp [uCells, h, List.getD_eq_getElem?_getD]
theorem uCells_set (us : List Bool) (i : Nat) (b : Bool) : (uCells us).setIfInBounds i (.bool b) = uCells (us.set i b) := by
  simp [uCells, List.map_set]
def UB (t : TypeId) (w : World) (gm : Nat) (us : List Bool) : Prop := us.length = 5 ∧ Blk w gm t (uCells us)
theorem UB.cell {t : TypeId} {w : World} {gm : Nat} {us : List Bool} (h : UB t w gm us) {x : Int} (h0 : 0 ≤ x) (h9 : x ≤ 9) : w.cell? ⟨gm, (x / 2).toNat, none⟩ = some (.bool (usedAt us x)) := by
  rw [h.2.cell, uCells_get (by have := h.1; omega)]
  rfl
theorem UB.below {t : TypeId} {w w1 : World} {gm : Nat} {us : List Bool} (h : UB t w gm us) (hb : Below w.heap.size w w1) : UB t w1 gm us := ⟨h.1, h.2.below hb⟩
theorem UB.grown {t : TypeId} {w w1 : World} {gm : Nat} {us : List Bool} {row : Option Nat} (h : UB t w gm us) (hg : w.grownBy w1 row) (hne : some gm ≠ row) : UB t w1 gm us := ⟨h.1, h.2.grown hg hne⟩

set_option maxHeartbeats 1000000 in
theorem impl_FirstFrom (l : List Int) (t : Int) (A : Option Addr) (c : Nat) (w : World) (hr : Kd.C (Kd.int .i64) w A l.length l) (hn : l.length ≤ 2097152) (hs : smallL l) (t0 : 0 ≤ t) (t9 : t ≤ 9) :
    Calls Try.prog 113 #[.slice A l.length c, .int .i64 t] w fun e w' => e = .returned (.int .i64 (firstFrom l t)) ∧ w = w' := by
  have ia : allI l.length (fun i => inside (ri l i) 0 9) = true := allI_true (fun i hi => inside_iff.2 (hs i hi))
  have it : inside t 0 9 = true := inside_iff.2 ⟨t0, t9⟩
  have HS := Lib.hid hs
  clear hs
  go_enter Try.func113, Try.ntmps113
  go_wp2_with (first | (go_at_call 62; refine (impl_areInside l 0 9 A c _ hr hn).mono ?_; rintro e w' ⟨rfl, rfl⟩) | (go_at_call 63; refine (impl_inside _ _ _ _).mono ?_; rintro e w' ⟨rfl, rfl⟩))
  go_loop [5, 18] (fun b i => ∃ k : Nat, i = .int .i64 k ∧ k ≤ l.length ∧ b = .int .i64 (firstTo l t k)) (fun _ i => l.length - (intOf i).toNat)
  case atStart => exact ⟨0, rfl, Nat.zero_le _, rfl⟩
  case round =>
    obtain ⟨k, rfl, hk, rfl⟩ := hrel
    obtain ⟨f0, f1⟩ := firstTo_range (turn := t) HS.out k hk
    by_cases hlt : k < l.length
    · obtain ⟨b, off, rfl, hb, hx⟩ := rdI_at hr k hlt
      have hxk := hx k hlt
      clear hx
      obtain ⟨x0, x9⟩ := HS.out k hlt
      have hsucc := firstTo_succ l t k hlt
      obtain ⟨x, ex⟩ : ∃ x, ri l k = x := ⟨_, rfl⟩
      obtain ⟨best, eb⟩ : ∃ b, firstTo l t k = b := ⟨_, rfl⟩
      rw [ex] at x0 x9 hxk hsucc
      rw [eb] at f0 f1 hsucc
      have HSU := Lib.hid hsucc
      clear hsucc ex
      rw [eb]
      clear eb
      by_cases hb0 : best < 0
      · have HV := Lib.hid (better_1 (turn := t) (x := x) hb0)
        go_wp2
        go_round
        case rel => exact ⟨k + 1, by go_num, by omega, by rw [HSU.out, HV.out]⟩
        case measure => simp [intOf]; omega
      · by_cases hd : (x - t + 10) % 10 < (best - t + 10) % 10
        · have HV := Lib.hid (better_2 hb0 hd)
          go_wp2
          go_round
          case rel => exact ⟨k + 1, by go_num, by omega, by rw [HSU.out, HV.out]⟩
          case measure => simp [intOf]; omega
        · have HV := Lib.hid (better_3 hb0 hd)
          go_wp2
          go_round
          case rel => exact ⟨k + 1, by go_num, by omega, by rw [HSU.out, HV.out]⟩
          case measure => simp [intOf]; omega
    · obtain rfl : k = l.length := by omega
      go_wp2
      go_ret
      exact ⟨rfl, rfl⟩
theorem impl_grants_1 (us : List Bool) (x : Int) (gm : Nat) (w : World) (hu : UB 129 w gm us) (h0 : 0 ≤ x) (h9 : x ≤ 9) :
    Calls Try.prog 112 #[.int .i64 x, .pointer (some ⟨gm, 0, none⟩)] w fun e w' => e = .returned (.bool (usedAt us x)) ∧ w = w' := by
  have hc := hu.cell h0 h9
  have hl := hu.2.lt
  have i0 : 0 ≤ x / 2 := by omega
  have i1 : x / 2 < 5 := by omega
  clear hu
  go_enter Try.func112, Try.ntmps112
  go_wp2
  go_ret
  exact ⟨rfl, rfl⟩
def IdxU (us : List Bool) (l : List Int) (r : Int) : Prop := (r = -1 ∧ ∀ j : Nat, j < l.length → usedAt us (ri l j) = false) ∨ ∃ k : Nat, r = k ∧ k < l.length ∧ usedAt us (ri l k) = true ∧ ∀ j : Nat, j < k → usedAt us (ri l j) = false
set_option maxHeartbeats 1000000 in
theorem slices_IndexFunc_I (l : List Int) (us : List Bool) (gm : Nat) (A : Option Addr) (c : Nat) (w : World) (hr : Kd.C (Kd.int .i64) w A l.length l) (hn : l.length ≤ 2097152) (hs : smallL l) (hu : UB 129 w gm us) :
    Calls Try.prog 120 #[.slice A l.length c, .func (.func 112) #[] #[.pointer (some ⟨gm, 0, none⟩)]] w fun e w' => (∃ r, e = .returned (.int .i64 r) ∧ Hid (IdxU us l r)) ∧ w = w' := by
  have HS := Lib.hid hs
  have HU := Lib.hid hu
  clear hs hu
  go_enter Try.func120, Try.ntmps120
  go_wp2
  go_loop [8] (fun i => ∃ j : Nat, i = .int .i64 j ∧ j ≤ l.length ∧ Hid (∀ q : Nat, q < j → usedAt us (ri l q) = false)) (fun i => l.length - (intOf i).toNat)
  case atStart => exact ⟨0, rfl, Nat.zero_le _, Lib.hid fun x h => absurd h (Nat.not_lt_zero _)⟩
  case round =>
    obtain ⟨j, rfl, hj, HA⟩ := hrel
    by_cases hlt : j < l.length
    · obtain ⟨b, off, rfl, hb, hx⟩ := rdI_at hr j hlt
      have hxk := hx j hlt
      clear hx
      obtain ⟨x0, x9⟩ := HS.out j hlt
      cases e : usedAt us (ri l j)
      · have E := Lib.hid e
        go_wp2_with (go_at_call 112; refine (impl_grants_1 us (ri l j) gm _ HU.out x0 x9).mono ?_; rintro e w' ⟨rfl, rfl⟩)
        go_round
        case rel => exact ⟨j + 1, by go_num, by omega, Lib.hid (upto HA.out E.out)⟩
        case measure => simp [intOf]; omega
      · have E := Lib.hid e
        go_wp2_with (go_at_call 112; refine (impl_grants_1 us (ri l j) gm _ HU.out x0 x9).mono ?_; rintro e w' ⟨rfl, rfl⟩)
        go_ret
        exact ⟨⟨_, rfl, Lib.hid (.inr ⟨j, rfl, hlt, E.out, HA.out⟩)⟩, rfl⟩
    · go_wp2
      go_ret
      exact ⟨⟨_, rfl, Lib.hid (.inl ⟨rfl, fun x hx => HA.out x (by omega)⟩)⟩, rfl⟩
theorem R_clear {e base g n cap i m : Nat} {W : World} {xs : List Int} (h : Kd.R (Kd.int .i64) e W base (fun _ => True) (.slice (some ⟨g, 0, none⟩) n cap) xs) (hi : i ≤ xs.length) (hm : i + m = xs.length) (z : Value) :
    Kd.R (Kd.int .i64) e (W.setCells g i (List.replicate m z)) base (fun _ => True) (.slice (some ⟨g, 0, none⟩) i cap) (xs.take i) ∧ W.grownBy (W.setCells g i (List.replicate m z)) (some g) := by
  obtain ⟨s1, s2, s3, s4⟩ := setCells_same g (List.replicate m z) i W
  refine ⟨?_, ⟨s1, s2, s3, by rw [s4]; exact Nat.le_refl _, fun k _ hk => setCells_far _ _ k (fun he => hk (by rw [he]))⟩⟩
  have h2 := Kd.R_take h hi
  have hcap : n ≤ cap ∧ n = xs.length := by
    have h3 := Kd.R_row h
    exact ⟨h3.2.1, h3.1⟩
  obtain ⟨h0, inner, ⟨h1, ho⟩, hr⟩ := h2
  refine ⟨fun _ _ => trivial, inner, ⟨h1, ?_⟩, hr⟩
  rcases ho with ⟨he, _⟩ | ⟨g', cap', cur, he, hb, hh, hnc, hcm, hcs, ht⟩
  · cases he
  injection he with ea _ ec
  injection ea with ea
  injection ea with eg
  subst eg
  subst ec
  have hsz : (Kd.int .i64).sz = 1 := rfl
  have hl : (xs.take i).length = i := by rw [List.length_take]; omega
  rw [hsz, Nat.mul_one] at hcs
  rw [hsz, Nat.mul_one, hl] at ht
  obtain ⟨cur', c1, c2, c3⟩ := setCells_row (List.replicate m z) i W cur hh (by rw [List.length_replicate]; omega)
  refine .inr ⟨g, cap, cur', by rw [hl], hb, c1, hnc, hcm, by rw [c2, hsz]; omega, ?_⟩
  rw [c3, ← ht, hsz, Nat.mul_one, hl]
  rw [List.append_assoc, List.take_append_of_le_length (by rw [List.length_take, Array.length_toList]; omega), List.take_take, Nat.min_self]
set_option maxHeartbeats 4000000 in
theorem slices_DeleteFunc (l : List Int) (us : List Bool) (gm : Nat) (A : Option Addr) (c base : Nat) (w : World) (HO0 : Kd.R (Kd.int .i64) 3 w base (fun _ => True) (.slice A l.length c) l) (hn : l.length ≤ 1000) (hs : smallL l) (hu : UB 129 w gm us) (hgb : gm < base) :
  Calls Try.prog 110 #[.slice A l.length c, .func (.func 112) #[] #[.pointer (some ⟨gm, 0, none⟩)]] w fun e w' => (∃ v, e = .returned v ∧ Kd.R (Kd.int .i64) 3 w' base (fun _ => True) v (l.filter (keepU us))) ∧ w.grownBy w' (Value.slice A l.length c).ownBlock := by
 have HS := Lib.hid hs
 have HU := Lib.hid hu
 have HR := Lib.hid HO0
 have hcap := (Kd.R_row HO0).2.1
 have hwi := within_R HO0
 have HW := Lib.hid hwi
 clear hs hu HO0 hwi
 go_enter Try.func110, Try.ntmps110
 go_wp2_with fail
 refine (slices_IndexFunc_I l us gm A c _ (Kd.R_row HR.out).2.2 (by omega) HS.out HU.out).mono ?_
 rintro e w' ⟨⟨r, rfl, HI⟩, rfl⟩
 rcases HI.out with ⟨rfl, hall⟩ | ⟨k, rfl, hk, hu1, hbf⟩
 ·have E : Hid (l.filter (keepU us) = l) := Lib.hid (by
   have h1 := keptTo_all (us := us) (l := l) l.length (Nat.le_refl _) hall
   unfold keptTo at h1
   rwa [List.take_length] at h1)
  clear hall
  go_wp2
  go_ret
  exact ⟨⟨_, rfl, by rw [E.out]; exact HR.out⟩, World.grownBy.refl _ _⟩
 ·obtain ⟨g, cap, hv, hbg, hgl, cells, HGC⟩ := Kd.R_form HR.out (by omega)
  injection hv with hv1 hv2 hv3
  subst hv1
  subst hv3
  have hgm : some gm ≠ some g := fun e => by injection e with e; omega
  have e1 : ((k : Int) == -1) = false := beq_eq_false_iff_ne.2 (by omega)
  have HK1 := Lib.hid (keptTo_no (us := us) k hk hu1)
  have HK2 := Lib.hid (keptTo_all (us := us) (l := l) k (by omega) hbf)
  have zv : ∀ w : World, (zeroValue 3).run Try.prog w = .ok (.int .i64 0) w := fun _ => by first | kernel_rfl | simp [zeroValue, go_sem]
  clear HGC hv2 hu1 hbf HI
  go_wp2
  go_loopw [5, 6] (fun s5 s6 wr => ∃ (i j : Nat) (dk : List Int), s5 = .int .i64 i ∧ s6 = .int .i64 j ∧ i < j ∧ j ≤ l.length ∧ Hid (i = (keptTo us l j).length) ∧ Hid (dk.length = l.length) ∧ Hid ((∀ q : Nat, q < i → ri dk q = ri (keptTo us l j) q) ∧ ∀ q : Nat, j ≤ q → ri dk q = ri l q) ∧ Kd.R (Kd.int .i64) 3 wr base (fun _ => True) (.slice (some ⟨g, 0, none⟩) l.length c) dk ∧ w.grownBy wr (some g)) (fun _ s6 _ => l.length - (intOf s6).toNat)
  case atStart => exact ⟨k, k + 1, l, rfl, by go_num, by omega, by omega, Lib.hid (by rw [HK1.out, HK2.out, List.length_take]; omega), Lib.hid rfl, Lib.hid ⟨fun q hq => by
    rw [HK1.out, HK2.out]
    have h1 : q < (l.take k).length := by rw [List.length_take]; omega
    rw [ri_get _ q h1, ri_get l q (by omega), List.getElem_take], fun _ _ => rfl⟩, HR.out, World.grownBy.refl _ _⟩
  case round =>
   obtain ⟨i, j, dk, rfl, rfl, hij, hj, HI, HL, HA, HO, HG⟩ := hrel
   have hil : i < l.length ∨ i < l.length := by omega
   have hil := hil.elim id id
   obtain ⟨hxi, hfi⟩ := rowI_cell HO i hil
   have HUR := Lib.hid (HU.out.grown HG hgm)
   by_cases hlt : j < l.length
   ·obtain ⟨hxj, hfj⟩ := rowI_cell HO j hlt
    rw [HA.out.2 j (Nat.le_refl _)] at hxj
    obtain ⟨x0, x9⟩ := HS.out j hlt
    have HOH := Lib.hid HO
    clear HO hfj
    cases e : usedAt us (ri l j)
    ·have HK := Lib.hid (keptTo_yes j hlt e)
     go_wp2_with (go_at_call 112; refine (impl_grants_1 us (ri l j) gm _ HUR.out x0 x9).mono ?_; rintro e w' ⟨rfl, rfl⟩)
     go_roundw
     case rel =>
      have hset : ∀ q : Nat, q < l.length → ri (dk.set i (ri l j)) q = if i = q then ri l j else ri dk q := fun q hq => set_get (by have := HL.out; omega) q (by have := HL.out; omega)
      refine ⟨i + 1, j + 1, dk.set i (ri l j), by go_num, by go_num, by omega, by omega, Lib.hid (by rw [HK.out, List.length_append]; have := HI.out; simp; omega), Lib.hid (by rw [List.length_set]; exact HL.out), Lib.hid ⟨fun q hq => ?_, fun q hq => ?_⟩, rowI_set HOH.out i (ri l j), grown_trans HG (rowI_grown HOH.out i _)⟩
      ·rw [hset q (by omega), HK.out]
       have hI := HI.out
       by_cases e2 : i = q
       ·subst e2
        rw [if_pos rfl, ri_get _ i (by rw [List.length_append]; simp; omega), List.getElem_append_right (by omega)]
        simp [← hI]
       ·rw [if_neg e2, HA.out.1 q (by omega), ri_get _ q (by omega), ri_get _ q (by rw [List.length_append]; omega), List.getElem_append_left (by omega)]
      ·by_cases hql : q < l.length
       ·rw [hset q hql, if_neg (by omega), HA.out.2 q (by omega)]
       ·have h1 := HL.out
        simp [ri, List.getD_eq_getElem?_getD, h1, hql]
     case measure => simp [intOf]; omega
    ·have HK := Lib.hid (keptTo_no j hlt e)
     go_wp2_with (go_at_call 112; refine (impl_grants_1 us (ri l j) gm _ HUR.out x0 x9).mono ?_; rintro e w' ⟨rfl, rfl⟩)
     go_roundw
     case rel => exact ⟨i, j + 1, dk, rfl, by go_num, by omega, by omega, Lib.hid (by rw [HK.out]; exact HI.out), HL, Lib.hid ⟨fun q hq => by rw [HK.out]; exact HA.out.1 q hq, fun q hq => HA.out.2 q (by omega)⟩, HOH.out, HG⟩
     case measure => simp [intOf]; omega
   ·obtain rfl : j = l.length := by omega
    have hci : ¬ c = i := by omega
    have hcl : ∀ ty, (Builtin.clear_ #[26] ty #[.slice (some ⟨g, i, none⟩) (l.length - i) (c - i)]).run Try.prog wr = .ok (.tuple #[]) (wr.setCells g i (List.replicate (l.length - i) (.int .i64 0))) :=
     fun ty => Lib.run_clear_slice wr 26 3 ty (.int .i64 0) Try.underlying26 zv rfl rfl g i _ _ (by omega) (fun t ht => by rw [(rowI_cell HO (i + t) (by omega)).1]; rfl) (fun t ht => (rowI_cell HO (i + t) (by omega)).2)
    have E : Hid (dk.take i = l.filter (keepU us)) := Lib.hid (by
     have h1 : keptTo us l l.length = l.filter (keepU us) := by unfold keptTo; rw [List.take_length]
     have h2 := HI.out
     have h3 := HL.out
     have h4 := keptTo_len us l l.length
     rw [← h1]
     refine same_get (by rw [List.length_take]; omega) (fun q hq => ?_)
     rw [← HA.out.1 q (by omega), ri_get _ q (by rw [List.length_take]; omega), ri_get dk q (by omega), List.getElem_take])
    have HC := Lib.hid (R_clear (i := i) (m := l.length - i) HO (by have := HL.out; omega) (by have := HL.out; omega) (.int .i64 0))
    clear HO zv
    go_wp2
    go_ret
    exact ⟨⟨_, rfl, by rw [← E.out]; exact HC.out.1⟩, grown_trans HG HC.out.2⟩
def gCells (x : Grant) : List Value := [.int .i64 x.node, .int .i64 x.port, .int .i64 x.input]
def kG : Kd Grant := Kd.flat 3 gCells (fun _ => rfl) (fun x u hu => by
  simp only [gCells, List.mem_cons, List.not_mem_nil, or_false] at hu
  rcases hu with rfl | rfl | rfl <;> rfl)
def zg : Grant := ⟨0, 0, 0⟩
def rg (l : List Grant) (i : Int) : Grant := l.getD i.toNat zg
theorem rdG_at {w : World} {A : Option Addr} {l : List Grant} (h : kG.C w A l.length l) (k : Nat) (hk : k < l.length) :
    ∃ b off, A = some ⟨b, off, none⟩ ∧ b < w.heap.size ∧ w.cell? ⟨b, off + k * 3, none⟩ = some (.int .i64 (rg l k).node) ∧ w.cell? ⟨b, off + k * 3 + 1, none⟩ = some (.int .i64 (rg l k).port) ∧ w.cell? ⟨b, off + k * 3 + 2, none⟩ = some (.int .i64 (rg l k).input) := by
  obtain ⟨b, off, rfl, hb, hx⟩ := rdF_at (n := 3) zg (by omega) h k hk
  exact ⟨b, off, rfl, hb, hx k hk 0 _ rfl, hx k hk 1 _ rfl, hx k hk 2 _ rfl⟩
theorem info_G : (Try.prog.info? 98).map (fun i => (i.zero, i.size, i.bytes)) = some (some (.agg #[.int .i64 0, .int .i64 0, .int .i64 0]), 3, 24) := by kernel_rfl
def GotG (w w' : World) (xs : List Grant) (e : Ending) : Prop := ∃ v, e = .returned v ∧ kG.R 98 w' w.heap.size (fun _ => True) v xs
theorem GotG.read {w w' : World} {xs : List Grant} {e : Ending} (h : GotG w w' xs e) : ∃ A c, e = .returned (.slice A xs.length c) ∧ xs.length ≤ c ∧ kG.C w' A xs.length xs := by
  obtain ⟨v, rfl, hR⟩ := h
  obtain ⟨A, c, rfl, h1, h2⟩ := Kd.R_reads hR
  exact ⟨A, c, rfl, h1, h2⟩
theorem GotG.nil (w w' : World) : GotG w w' [] (.returned (.slice none 0 0)) := ⟨_, rfl, Kd.R_nil _ _ _ _ _⟩
section
variable {ops : Array Oper} {rest : List Oper} {o : Oper} {a : Act} {Q : Exit → Act → World → Prop}
theorem app_G {W0 W : World} (hgd : o.guard = none) (s x : Operand)
    (ho : o.op = .call { callee := .builtin .append, args := #[s, x], argTypes := #[94, 94] })
    (v : Value) (xs : List Grant) (q : Grant) (hs : a.eval s = v) (hx : a.eval x = .slice (some ⟨W.heap.size, 0, none⟩) 1 1)
    (HO : kG.R 98 W W0.heap.size (fun _ => True) v xs) (HB : Below W0.heap.size W0 W) (hl : xs.length ≤ 100000000)
    (h : ∀ v1 w1, kG.R 98 w1 W0.heap.size (fun _ => True) v1 (xs ++ [q]) → Below W0.heap.size W0 w1 → W.grownBy w1 v.ownBlock → wpList Try.prog ops Q rest (a.put o.dst v1) w1) :
    wpList Try.prog ops Q (o :: rest) a (W.alloc (.cells #[.int .i64 q.node, .int .i64 q.port, .int .i64 q.input] 98)) :=
  Kd.R_append kG W0.heap.size hgd s x 94 98 (.agg #[.int .i64 0, .int .i64 0, .int .i64 0]) 24 ho Try.underlying94 info_G rfl (by decide) (by omega) v xs q (gCells q) (fun _ => True) (fun _ => False) hs hx rfl (fun _ hk => hk.elim) (fun _ _ => trivial) HO HB HB.size (by omega) (fun v1 w1 h1 h2 h3 _ => h v1 w1 h1 h2 h3)
theorem apps_G {W0 W : World} (hgd : o.guard = none) (s x : Operand)
    (ho : o.op = .call { callee := .builtin .append, args := #[s, x], argTypes := #[94, 94] })
    (v : Value) (xs ys : List Grant) (A : Option Addr) (c : Nat) (hs : a.eval s = v) (hx : a.eval x = .slice A ys.length c)
    (HO : kG.R 98 W W0.heap.size (fun _ => True) v xs) (HR : kG.C W A ys.length ys) (HB : Below W0.heap.size W0 W) (hl : xs.length + ys.length ≤ 100000000)
    (h : ∀ v1 w1, kG.R 98 w1 W0.heap.size (fun _ => True) v1 (xs ++ ys) → Below W0.heap.size W0 w1 → wpList Try.prog ops Q rest (a.put o.dst v1) w1) :
    wpList Try.prog ops Q (o :: rest) a W :=
  Kd.R_append_rows kG W0.heap.size hgd s x 94 98 (.agg #[.int .i64 0, .int .i64 0, .int .i64 0]) 24 ho Try.underlying94 info_G rfl (by decide) (by omega) v xs ys A ys.length c (fun _ => True) (fun _ => False) hs hx HO HR (fun _ _ h => h) (fun _ hk => hk.elim) (fun _ _ => trivial) HB HB.size (by omega) (fun v1 w1 h1 h2 _ _ => h v1 w1 h1 h2)
end
set_option maxHeartbeats 8000000 in
set_option maxRecDepth 100000 in
theorem impl_grants (n : Net) (q : NA) (bx : Nat) (a : Int) (w : World) (hr : NetR 102 w n q) (hx : Box w bx (netCells n q)) (ok : netOk n = true) (nd : isNode n.mesh.g a = true) :
  Calls Try.prog 97 #[.pointer (some ⟨bx, 0, none⟩), .int .i64 a] w fun e w' => GotG w w' (grantsN n a) e ∧ Below w.heap.size w w' := by
 have R := Lib.hid hr
 have X := Lib.hid hx
 have OK := Lib.hid ok
 have ND := Lib.hid nd
 obtain ⟨_, _, _, a15⟩ := node_bounds nd
 have a0 := (isNode_iff.1 nd).1
 clear ok nd
 obtain ⟨a1, a2, a3, a4, a5, a6, a7, a8, c1, c2, c3, c4, c5, c6, c7, c8⟩ := q; obtain ⟨Rbr, Rpa, Rpb, Rbu, Row, Rtu, Rso, Rar, L1, L2, L3, L4, L5, L6, L7, L8, L9, L10, L11⟩ := hr; have M9 := Lib.hid L9; have M10 := Lib.hid L10; have M11 := Lib.hid L11; clear L9 L10 L11; dsimp only [netCells] at *
 have xl := hx.lt; have x0 : w.cell? ⟨bx, 0, none⟩ = some (.int .i64 n.mesh.g.w) := hx.get 0; have x1 : w.cell? ⟨bx, 1, none⟩ = some (.int .i64 n.mesh.g.h) := hx.get 1; have x2 : w.cell? ⟨bx, 2, none⟩ = some (.slice a1 n.mesh.br.length c1) := hx.get 2; have x3 : w.cell? ⟨bx, 3, none⟩ = some (.slice a2 n.pa.length c2) := hx.get 3; have x4 : w.cell? ⟨bx, 4, none⟩ = some (.slice a3 n.pb.length c3) := hx.get 4; have x5 : w.cell? ⟨bx, 5, none⟩ = some (.slice a4 n.bufs.length c4) := hx.get 5; have x6 : w.cell? ⟨bx, 6, none⟩ = some (.slice a5 n.owners.length c5) := hx.get 6; have x7 : w.cell? ⟨bx, 7, none⟩ = some (.slice a6 n.turns.length c6) := hx.get 7; have x8 : w.cell? ⟨bx, 8, none⟩ = some (.slice a7 n.srcs.length c7) := hx.get 8; have x9 : w.cell? ⟨bx, 9, none⟩ = some (.slice a8 n.arrs.length c8) := hx.get 9; have x10 : w.cell? ⟨bx, 10, none⟩ = some (.int .i64 n.time) := hx.get 10; clear hx
 go_enter Try.func97, Try.ntmps97
 go_wp2
 go_loopw [5, 7] (fun v i wr => ∃ p : Nat, i = .int .i64 p ∧ p ≤ 5 ∧ kG.R 98 wr w.heap.size (fun _ => True) v (gst n a p).2 ∧ UB 129 wr (w.heap.size + 1) (gst n a p).1 ∧ Below w.heap.size w wr) (fun _ i _ => 5 - (intOf i).toNat)
 case atStart => exact ⟨0, rfl, Nat.zero_le _, Kd.R_below (R_empty kG 98 (W0 := w) (W := w) (Nat.le_refl _)) (bw_alloc _ (bw_refl _)), ⟨rfl, Blk.new (w.alloc (.cells #[] 98)) _ _ _ (by rw [World.size_alloc])⟩, bel⟩
 case round =>
  obtain ⟨p, rfl, hp, HO, HU, HB⟩ := hrel
  obtain ⟨Ao, co, rfl⟩ := Kd.R_slice HO
  have hlen := gst_len n a p
  have husl := gst_us n a p
  obtain ⟨hcr, hfr, hzr⟩ := bcell HB
  have hul := HU.2.lt
  by_cases hlt : p < 5
  ·have p0 : (p : Int) ≤ 4 := by omega
   obtain ⟨t0, t1, t2, t3⟩ := turn_range OK.out ND.out p hlt
   obtain ⟨b6, o6, rfl, hb6, r6⟩ := rdI_int Rtu (5 * a + (p : Int)) t0 t1
   obtain ⟨us, eus⟩ : ∃ us, (gst n a p).1 = us := ⟨_, rfl⟩
   obtain ⟨k0, k1⟩ := pick_range n a p us
   have hsm := left_small n a p us
   have hll := left_len n a p us
   obtain ⟨k, hk⟩ : ∃ k, pick n a p us = k := ⟨_, rfl⟩
   rw [hk] at k0 k1
   rw [eus] at HU husl
   have HK := Lib.hid hk
   have HE := Lib.hid (show pick n a p (gst n a p).1 = k by rw [eus]; exact hk)
   have EUS := Lib.hid eus
   have HSM := Lib.hid hsm
   have HUH := Lib.hid HU
   have HUSL := Lib.hid husl
   clear hk eus HU hsm husl
   have HWo := within_R HO
   go_wp2_with fail
   refine (impl_requests n _ bx a p _ (R.out.below bel) (X.out.below bel) OK.out ND.out).mono ?_
   rintro e w1 ⟨hg1, hb1⟩
   obtain ⟨v1, rfl, HO1⟩ := hg1
   obtain ⟨A1, d1, rfl⟩ := Kd.R_slice HO1
   have HU1 := HUH.out.below hb1
   have HOA := Kd.R_below HO hb1
   have HB1 := bw_then HB hb1
   have s1 := bw_size hb1
   have HO1H := Lib.hid HO1
   have w1w := within_R HO1
   have HAP := apart_lt HWo w1w (Nat.le_refl _)
   have HOH := Lib.hid HOA
   have HUH1 := Lib.hid HU1
   clear HUH HO HOA hb1 HO1 hcr hfr hzr HU1
   go_wp2_with fail
   refine (slices_DeleteFunc (requestsN n a p) us (w.heap.size + 1) A1 d1 wr.heap.size _ HO1H.out (Nat.le_trans (requestsTo_len n a p 10) (by decide)) (smallL_mem (requests_small n a p)) HUH1.out (by omega)).mono ?_
   rintro e w2 ⟨⟨v2, rfl, HO2⟩, hg2⟩
   obtain ⟨A2, d2, rfl⟩ := Kd.R_slice HO2
   have s2 := hg2.size
   have HB2 : Below w.heap.size w w2 := HB1.grown hg2 (bw_size HB1) (fun k hk => by have := w1w k hk; have := bw_size HB; omega)
   have HU2 := HUH1.out.grown hg2 (fun e => by have := w1w _ e.symm; omega)
   have HOA2 := R_grownF HOH.out hg2 HAP
   have HC2 := Lib.hid (Kd.R_row HO2).2.2
   have HU2H := Lib.hid HU2
   have HO2H := Lib.hid HOA2
   obtain ⟨hc2, hf2, hz2⟩ := bcell HB2
   clear HUH1 HOH HO1H HAP HWo w1w hg2 HO2 HU2 HOA2
   go_wp2_with fail
   refine (impl_FirstFrom ((requestsN n a p).filter (keepU us)) (ri n.turns (5 * a + (p : Int))) A2 d2 _ HC2.out (Nat.le_trans (left_len n a p us) (by decide)) (smallL_mem HSM.out) t2 t3).mono ?_
   rintro e w' ⟨he, rfl⟩
   rw [show firstFrom ((requestsN n a p).filter (keepU us)) (ri n.turns (5 * a + (p : Int))) = k from HK.out] at he
   subst he
   by_cases hk0 : 0 ≤ k
   ·have HS := Lib.hid (gst_yes HE.out hk0)
    have j0 : 0 ≤ k / 2 := by omega
    have j1 : k / 2 < 5 := by omega
    have c9 := HU2H.out.cell hk0 k1
    have f9 := HU2H.out.2.frozen (k / 2).toNat
    have HRS := Lib.hid (Kd.R_set HO2H.out HU2H.out.2 (by decide) (k / 2).toNat (.bool true))
    have HUS : Hid (UB 129 (w2.setCell ⟨w.heap.size + 1, (k / 2).toNat, none⟩ (.bool true)) (w.heap.size + 1) (us.set (k / 2).toNat true)) := Lib.hid ⟨by rw [List.length_set]; exact HUSL.out, by have h := HU2H.out.2.set (k / 2).toNat (.bool true); rwa [uCells_set] at h⟩
    have HBS : Below w.heap.size w (w2.setCell ⟨w.heap.size + 1, (k / 2).toNat, none⟩ (.bool true)) := bw_set _ HB2 (by omega)
    go_wp2_with (at_builtin; refine app_G (W0 := w) rfl (.tmp 39) (.tmp 44) rfl _ (gst n a p).2 ⟨a, p, k⟩ rfl (by first | rfl | exact congrArg (fun z => Value.slice (some ⟨z, 0, none⟩) 1 1) (by simp only [szs])) HRS.out HBS (by omega) ?_; intro v3 w3 HO3 HB3 hg3)
    go_roundw
    case rel => exact ⟨p + 1, by go_num, by omega, by rw [HS.out]; exact HO3, by rw [HS.out, EUS.out]; exact HUS.out.grown hg3 (Kd.R_ne HRS.out HUS.out.2 (by decide)), HB3⟩
    case measure => simp [intOf]; omega
   ·have HS := Lib.hid (gst_no HE.out (by omega))
    go_wp2
    go_roundw
    case rel => exact ⟨p + 1, by go_num, by omega, by rw [HS.out]; exact HO2H.out, by rw [HS.out, EUS.out]; exact HU2H.out, HB2⟩
    case measure => simp [intOf]; omega
  ·have p0 : ¬ (p : Int) ≤ 4 := by omega
   obtain rfl : p = 5 := by omega
   go_wp2
   go_ret
   exact ⟨⟨_, rfl, HO⟩, HB⟩
set_option maxHeartbeats 4000000 in
theorem impl_allGrants (n : Net) (q : NA) (bx : Nat) (w : World) (hr : NetR 102 w n q) (hx : Box w bx (netCells n q)) (ok : netOk n = true) :
    Calls Try.prog 65 #[.pointer (some ⟨bx, 0, none⟩)] w fun e w' => GotG w w' (allGrants n) e ∧ Below w.heap.size w w' := by
  have R := Lib.hid hr
  have X := Lib.hid hx
  have OK := Lib.hid ok
  obtain ⟨s16, sn⟩ := srcs_len ok
  have HN : Hid (allGrants n = allTo n n.srcs.length) := Lib.hid (by rw [allGrants, ← sn]; rfl)
  have HND : Hid (∀ k : Nat, k < n.srcs.length → isNode n.mesh.g k = true) := Lib.hid (fun k hk => (src_buf OK.out k hk).1)
  clear ok sn
  obtain ⟨a1, a2, a3, a4, a5, a6, a7, a8, c1, c2, c3, c4, c5, c6, c7, c8⟩ := q; obtain ⟨Rbr, Rpa, Rpb, Rbu, Row, Rtu, Rso, Rar, L1, L2, L3, L4, L5, L6, L7, L8, L9, L10, L11⟩ := hr; have M9 := Lib.hid L9; have M10 := Lib.hid L10; have M11 := Lib.hid L11; clear L9 L10 L11; dsimp only [netCells] at *
  have xl := hx.lt; have x0 : w.cell? ⟨bx, 0, none⟩ = some (.int .i64 n.mesh.g.w) := hx.get 0; have x1 : w.cell? ⟨bx, 1, none⟩ = some (.int .i64 n.mesh.g.h) := hx.get 1; have x2 : w.cell? ⟨bx, 2, none⟩ = some (.slice a1 n.mesh.br.length c1) := hx.get 2; have x3 : w.cell? ⟨bx, 3, none⟩ = some (.slice a2 n.pa.length c2) := hx.get 3; have x4 : w.cell? ⟨bx, 4, none⟩ = some (.slice a3 n.pb.length c3) := hx.get 4; have x5 : w.cell? ⟨bx, 5, none⟩ = some (.slice a4 n.bufs.length c4) := hx.get 5; have x6 : w.cell? ⟨bx, 6, none⟩ = some (.slice a5 n.owners.length c5) := hx.get 6; have x7 : w.cell? ⟨bx, 7, none⟩ = some (.slice a6 n.turns.length c6) := hx.get 7; have x8 : w.cell? ⟨bx, 8, none⟩ = some (.slice a7 n.srcs.length c7) := hx.get 8; have x9 : w.cell? ⟨bx, 9, none⟩ = some (.slice a8 n.arrs.length c8) := hx.get 9; have x10 : w.cell? ⟨bx, 10, none⟩ = some (.int .i64 n.time) := hx.get 10; clear hx
  go_enter Try.func65, Try.ntmps65
  go_wp2
  go_loopw [3, 11] (fun v i wr => ∃ k : Nat, i = .int .i64 k ∧ k ≤ n.srcs.length ∧ kG.R 98 wr w.heap.size (fun _ => True) v (allTo n k) ∧ Below w.heap.size w wr) (fun _ i _ => n.srcs.length - (intOf i).toNat)
  case atStart => exact ⟨0, rfl, Nat.zero_le _, R_empty (W0 := w) _ _ (bw_size bel), bel⟩
  case round =>
    obtain ⟨k, rfl, hk, HO, HB⟩ := hrel
    obtain ⟨Ao, co, rfl⟩ := Kd.R_slice HO
    have hlen := allTo_len n k
    obtain ⟨hcr, hfr, hzr⟩ := bcell HB
    by_cases hlt : k < n.srcs.length
    · have i0 : (k : Int) < (n.srcs.length : Int) := by omega
      have HS := Lib.hid (allTo_succ n k)
      have gl := gst_len n k 5
      go_wp2_with (first | (go_at_call 97; refine (impl_grants n _ bx k _ (R.out.below bel) (X.out.below bel) OK.out (HND.out k hlt)).mono ?_; rintro e w1 ⟨hg1, hb1⟩; obtain ⟨A1, d1, rfl, hk1, hC1⟩ := hg1.read; obtain ⟨hc1, hf1, hz1⟩ := bcell hb1; (try simp only [szs] at hz1); have hb2 := far2; obtain ⟨hc2, hf2, hz2⟩ := bcell hb2; (try simp only [szs] at hz2); try (first | obtain ⟨hy1, hy2, hy3, hy4⟩ := lts4 hz2 | obtain ⟨hy1, hy2, hy3⟩ := lts3 hz2 | obtain ⟨hy1, hy2⟩ := lts2 hz2 | have hy1 := lts1 hz2); have hb9 := hb1) | (at_builtin; refine apps_G (W0 := w) rfl (.tmp 14) (.tmp 17) rfl _ (allTo n k) (grantsN n k) A1 d1 rfl rfl (by exact Kd.R_below HO bel) hC1 bel (by unfold grantsN; omega) ?_; intro v2 w2 HO2 HB2))
      go_roundw
      case rel => exact ⟨k + 1, by go_num, by omega, by rw [HS.out]; exact HO2, HB2⟩
      case measure => simp [intOf]; omega
    · have i0 : ¬ (k : Int) < (n.srcs.length : Int) := by omega
      obtain rfl : k = n.srcs.length := by omega
      go_wp2
      go_ret
      exact ⟨by rw [HN.out]; exact ⟨_, rfl, HO⟩, HB⟩
structure SV where
  q : NA
  v4 : List Value
  v7 : List Value
  v8 : List Value
  vg : Value
  vt : Value
  ve : Value
  vm : Value
  gs : List Grant
  ts : List Int
  es : List Int
  ms : List Flit
def allV (s : SV) : List Value := s.v4 ++ (s.v7 ++ s.v8)
def allR (x : Net) : List (List Flit) := x.bufs ++ (x.srcs ++ x.arrs)
structure ST (w0 : World) (lo bx : Nat) (n0 : Net) (s : SV) (x : Net) (w : World) : Prop where
  nx : NX w lo x s.q s.v4 s.v7 s.v8
  bt : BT w bx n0 s.q
  g : kG.R 98 w w0.heap.size (fun _ => True) s.vg s.gs
  t : Kd.R (Kd.int .i64) 3 w w0.heap.size (fun _ => True) s.vt s.ts
  e : Kd.R (Kd.int .i64) 3 w w0.heap.size (fun _ => True) s.ve s.es
  m : kF.R 102 w w0.heap.size (fun _ => True) s.vm s.ms
  ma : ∀ i : Nat, i < (allR x).length → Apart (vr (allV s) i) s.vm
  blw : Below lo w0 w
  low : lo ≤ w0.heap.size
  box : lo ≤ bx ∧ bx < w0.heap.size
  top : ∀ g, (s.q.a4 = some ⟨g, 0, none⟩ ∨ s.q.a5 = some ⟨g, 0, none⟩ ∨ s.q.a6 = some ⟨g, 0, none⟩ ∨ s.q.a7 = some ⟨g, 0, none⟩ ∨ s.q.a8 = some ⟨g, 0, none⟩) → lo ≤ g ∧ g < w0.heap.size
section
variable {w0 w w1 : World} {lo bx : Nat} {n0 : Net} {s : SV} {x : Net}
theorem ST.size (h : ST w0 lo bx n0 s x w) : w0.heap.size ≤ w.heap.size := h.blw.size
theorem ST.below (h : ST w0 lo bx n0 s x w) (hb : Below w.heap.size w w1) : ST w0 lo bx n0 s x w1 :=
  ⟨h.nx.below hb, h.bt.below hb, Kd.R_below h.g hb, Kd.R_below h.t hb, Kd.R_below h.e hb, Kd.R_below h.m hb, h.ma, below_then h.blw (Nat.le_trans h.low h.size) hb, h.low, h.box, h.top⟩
theorem Below.cut {B C : Nat} {w w1 : World} (h : Below C w w1) (hB : B ≤ C) : Below B w w1 := ⟨h.os, h.tape, h.output, h.size, fun i hi => h.block i (by omega)⟩
theorem Below.grownRow {B : Nat} {w w1 w2 : World} {v : Value} (h : Below B w w1) (hg : w1.grownBy w2 v.ownBlock) (hB : B ≤ w1.heap.size) (hv : ∀ k, v.ownBlock = some k → B ≤ k) : Below B w w2 := h.grown hg hB hv
theorem below_setc {B : Nat} {w w1 : World} (h : Below B w w1) {g : Nat} (hg : B ≤ g) (o : Nat) (u : Value) : Below B w (w1.setCell ⟨g, o, none⟩ u) := h.setCell hg _
theorem RI_grownF {w w1 : World} {e1 b1 b2 : Nat} {α : Type} {d : Kd α} {v u : Value} {xs : List α} {ys : List Flit} (h : d.R e1 w b1 (fun _ => True) v xs) (hu : kF.R 102 w b2 (fun _ => True) u ys) (hne : e1 ≠ 102) (hE : d.E = []) (hg : w.grownBy w1 u.ownBlock) : d.R e1 w1 b1 (fun _ => True) v xs := by
  obtain ⟨i2, hi2⟩ := Kd.R_own hu
  have hb := Kd.R_bound h
  refine Kd.R_mono (Kd.R_move hb (fun k hk => ?_)) (fun _ _ => trivial)
  obtain ⟨_, h1, h2, q, hq, cells, hc⟩ := hk
  rw [hE] at hq
  have eq : q = e1 := by simpa using hq
  subst eq
  refine hg.block k h2 (fun e => ?_)
  obtain ⟨cells2, hc2⟩ := own_typed hi2 k e.symm
  rw [hc] at hc2
  have := (Obj.cells.inj (Option.some.inj hc2)).2.1
  exact hne this
theorem ST.grownF (h : ST w0 lo bx n0 s x w) {k : Nat} (hk : k < (allR x).length) (hg : w.grownBy w1 (vr (allV s) k).ownBlock) :
    BT w1 bx n0 s.q ∧ kG.R 98 w1 w0.heap.size (fun _ => True) s.vg s.gs ∧ Kd.R (Kd.int .i64) 3 w1 w0.heap.size (fun _ => True) s.vt s.ts ∧ Kd.R (Kd.int .i64) 3 w1 w0.heap.size (fun _ => True) s.ve s.es ∧ kF.R 102 w1 w0.heap.size (fun _ => True) s.vm s.ms ∧ Below lo w0 w1 := by
  have hr := h.nx.rows.row k hk
  exact ⟨h.bt.grown hg hr, RI_grownF h.g hr (by decide) rfl hg, RI_grownF h.t hr (by decide) rfl hg, RI_grownF h.e hr (by decide) rfl hg, R_grownF h.m hg (apart_comm (h.ma k hk)), Below.grownRow h.blw hg (Nat.le_trans h.low h.size) (fun j hj => Kd.R_base hr j hj)⟩
theorem G_off {α : Type} {d : Kd α} {e base : Nat} {w : World} {v : Value} {xs : List α} {g : Nat} (h : d.R e w base (fun _ => True) v xs) (hg : g < base) (j : Nat) (u : Value) : d.R e (w.setCell ⟨g, j, none⟩ u) base (fun _ => True) v xs := R_off h hg j u
theorem apart_new {w1 : World} {e base : Nat} {u v vm : Value} {xs : List Flit} (ha : Apart v vm) (hat : Anew w u v) (hm : kF.R 102 w base (fun _ => True) vm xs) : Apart u vm := by
  rcases hat with h | h | ⟨b, h, hb⟩
  · exact .inl h
  · unfold Apart at ha ⊢
    rwa [h]
  · right
    rw [h]
    intro e
    have := Kd.R_lt hm b e.symm
    omega
theorem ma_set {s : SV} {L k : Nat} {vm u : Value} {vs : List Value} (hl : vs.length = L) (hk : k < L) (h : ∀ i : Nat, i < L → Apart (vr vs i) vm) (hu : Apart u vm) : ∀ i : Nat, i < L → Apart (vr (vs.set k u) i) vm := by
  intro i hi
  rw [vr_set (by omega)]
  split
  · exact hu
  · exact h i hi
theorem ST.setBuf {g k : Nat} {u : Value} {y : List Flit} (h : ST w0 lo bx n0 s x w) (ea : s.q.a4 = some ⟨g, 0, none⟩) (hk : k < x.bufs.length) (hg : w.grownBy w1 (vr s.v4 k).ownBlock) (hu : kF.R 102 w1 lo (fun _ => True) u y) (hat : Anew w u (vr s.v4 k)) :
    ST w0 lo bx n0 { s with v4 := s.v4.set k u } { x with bufs := x.bufs.set k y } (w1.setCell ⟨g, k, none⟩ u) := by
  have e1 : vr (allV s) k = vr s.v4 k := vr_left (by rw [h.nx.l4]; exact hk)
  have hk2 : k < (allR x).length := by simp [allR]; omega
  obtain ⟨b, p1, p2, p3, p4, p5⟩ := h.grownF hk2 (by rw [e1]; exact hg)
  obtain ⟨g1, g2⟩ := h.top g (.inl ea)
  have hbl : BlkT w1 g 87 := by
    obtain ⟨_, _, _, _, _, o4, _⟩ := h.nx.kept (k := k) hk2 (by show w.grownBy w1 (vr (allV s) k).ownBlock; rw [e1]; exact hg)
    exact own_typed o4 g (by rw [ea]; rfl)
  refine ⟨h.nx.setBuf ea k hk hg hu hat, b.far hbl (by decide) _ _, G_off p1 g2 _ _, G_off p2 g2 _ _, G_off p3 g2 _ _, G_off p4 g2 _ _, ?_, below_setc p5 g1 _ _, h.low, h.box, h.top⟩
  have e2 : allV { s with v4 := s.v4.set k u } = (allV s).set k u := by
    unfold allV
    rw [List.set_append_left _ _ (by rw [h.nx.l4]; exact hk)]
  have e3 : (allR { x with bufs := x.bufs.set k y }).length = (allR x).length := by simp [allR]
  rw [e2, e3]
  exact ma_set (s := s) (by unfold allV allR; simp [h.nx.l4, h.nx.l7, h.nx.l8]) hk2 h.ma (apart_new (w1 := w1) (e := 0) (by rw [← e1]; exact h.ma k hk2) hat h.m)
theorem ST.setSrc {g k : Nat} {u : Value} {y : List Flit} (h : ST w0 lo bx n0 s x w) (ea : s.q.a7 = some ⟨g, 0, none⟩) (hk : k < x.srcs.length) (hg : w.grownBy w1 (vr s.v7 k).ownBlock) (hu : kF.R 102 w1 lo (fun _ => True) u y) (hat : Anew w u (vr s.v7 k)) :
    ST w0 lo bx n0 { s with v7 := s.v7.set k u } { x with srcs := x.srcs.set k y } (w1.setCell ⟨g, k, none⟩ u) := by
  have e1 : vr (allV s) (x.bufs.length + k) = vr s.v7 k := by unfold allV; rw [← h.nx.l4, vr_right, vr_left (by rw [h.nx.l7]; exact hk)]
  have hk2 : x.bufs.length + k < (allR x).length := by simp [allR]; omega
  obtain ⟨b, p1, p2, p3, p4, p5⟩ := h.grownF hk2 (by rw [e1]; exact hg)
  obtain ⟨g1, g2⟩ := h.top g (.inr (.inr (.inr (.inl ea))))
  have hbl : BlkT w1 g 87 := by
    obtain ⟨_, _, _, _, _, _, o7, _⟩ := h.nx.kept (k := x.bufs.length + k) hk2 (by show w.grownBy w1 (vr (allV s) (x.bufs.length + k)).ownBlock; rw [e1]; exact hg)
    exact own_typed o7 g (by rw [ea]; rfl)
  refine ⟨h.nx.setSrc ea k hk hg hu hat, b.far hbl (by decide) _ _, G_off p1 g2 _ _, G_off p2 g2 _ _, G_off p3 g2 _ _, G_off p4 g2 _ _, ?_, below_setc p5 g1 _ _, h.low, h.box, h.top⟩
  have e2 : allV { s with v7 := s.v7.set k u } = (allV s).set (x.bufs.length + k) u := by
    unfold allV
    rw [← h.nx.l4]
    exact (set_mid s.v4 s.v7 s.v8 k u (by rw [h.nx.l7]; exact hk)).symm
  have e3 : (allR { x with srcs := x.srcs.set k y }).length = (allR x).length := by simp [allR]
  rw [e2, e3]
  exact ma_set (s := s) (by unfold allV allR; simp [h.nx.l4, h.nx.l7, h.nx.l8]) hk2 h.ma (apart_new (w1 := w1) (e := 0) (by rw [← e1]; exact h.ma _ hk2) hat h.m)
theorem ST.setArr {g k : Nat} {u : Value} {y : List Flit} (h : ST w0 lo bx n0 s x w) (ea : s.q.a8 = some ⟨g, 0, none⟩) (hk : k < x.arrs.length) (hg : w.grownBy w1 (vr s.v8 k).ownBlock) (hu : kF.R 102 w1 lo (fun _ => True) u y) (hat : Anew w u (vr s.v8 k)) :
    ST w0 lo bx n0 { s with v8 := s.v8.set k u } { x with arrs := x.arrs.set k y } (w1.setCell ⟨g, k, none⟩ u) := by
  have e1 : vr (allV s) (x.bufs.length + (x.srcs.length + k)) = vr s.v8 k := by unfold allV; rw [← h.nx.l4, vr_right, ← h.nx.l7, vr_right]
  have hk2 : x.bufs.length + (x.srcs.length + k) < (allR x).length := by simp [allR]; omega
  obtain ⟨b, p1, p2, p3, p4, p5⟩ := h.grownF hk2 (by rw [e1]; exact hg)
  obtain ⟨g1, g2⟩ := h.top g (.inr (.inr (.inr (.inr ea))))
  have hbl : BlkT w1 g 87 := by
    obtain ⟨_, _, _, _, _, _, _, o8⟩ := h.nx.kept (k := x.bufs.length + (x.srcs.length + k)) hk2 (by show w.grownBy w1 (vr (allV s) (x.bufs.length + (x.srcs.length + k))).ownBlock; rw [e1]; exact hg)
    exact own_typed o8 g (by rw [ea]; rfl)
  refine ⟨h.nx.setArr ea k hk hg hu hat, b.far hbl (by decide) _ _, G_off p1 g2 _ _, G_off p2 g2 _ _, G_off p3 g2 _ _, G_off p4 g2 _ _, ?_, below_setc p5 g1 _ _, h.low, h.box, h.top⟩
  have e2 : allV { s with v8 := s.v8.set k u } = (allV s).set (x.bufs.length + (x.srcs.length + k)) u := by
    unfold allV
    rw [← h.nx.l4, ← h.nx.l7]
    exact (set_end s.v4 s.v7 s.v8 k u).symm
  have e3 : (allR { x with arrs := x.arrs.set k y }).length = (allR x).length := by simp [allR]
  rw [e2, e3]
  exact ma_set (s := s) (by unfold allV allR; simp [h.nx.l4, h.nx.l7, h.nx.l8]) hk2 h.ma (apart_new (w1 := w1) (e := 0) (by rw [← e1]; exact h.ma _ hk2) hat h.m)
theorem ST.setOwner {g k : Nat} (h : ST w0 lo bx n0 s x w) (ea : s.q.a5 = some ⟨g, 0, none⟩) (hk : k < x.owners.length) (v : Int) : ST w0 lo bx n0 s { x with owners := x.owners.set k v } (w.setCell ⟨g, k, none⟩ (.int .i64 v)) := by
  obtain ⟨g1, g2⟩ := h.top g (.inr (.inl ea))
  have hbl : BlkT w g 3 := by
    have ho := h.nx.owners
    obtain ⟨i, hin⟩ := Kd.R_own ho
    exact own_typed hin g (by rw [ea]; rfl)
  exact ⟨h.nx.setOwner ea k hk v, h.bt.far hbl (by decide) _ _, G_off h.g g2 _ _, G_off h.t g2 _ _, G_off h.e g2 _ _, G_off h.m g2 _ _, h.ma, below_setc h.blw g1 _ _, h.low, h.box, h.top⟩
theorem ST.setTurn {g k : Nat} (h : ST w0 lo bx n0 s x w) (ea : s.q.a6 = some ⟨g, 0, none⟩) (hk : k < x.turns.length) (v : Int) : ST w0 lo bx n0 s { x with turns := x.turns.set k v } (w.setCell ⟨g, k, none⟩ (.int .i64 v)) := by
  obtain ⟨g1, g2⟩ := h.top g (.inr (.inr (.inl ea)))
  have hbl : BlkT w g 3 := by
    have ho := h.nx.turns
    obtain ⟨i, hin⟩ := Kd.R_own ho
    exact own_typed hin g (by rw [ea]; rfl)
  exact ⟨h.nx.setTurn ea k hk v, h.bt.far hbl (by decide) _ _, G_off h.g g2 _ _, G_off h.t g2 _ _, G_off h.e g2 _ _, G_off h.m g2 _ _, h.ma, below_setc h.blw g1 _ _, h.low, h.box, h.top⟩
theorem ST.moved {vm : Value} {ms : List Flit} (h : ST w0 lo bx n0 s x w) (hg : w.grownBy w1 s.vm.ownBlock) (hm : kF.R 102 w1 w0.heap.size (fun _ => True) vm ms) (hat : Anew w vm s.vm) : ST w0 lo bx n0 { s with vm := vm, ms := ms } x w1 := by
  have own : ∀ {e n : Nat} {v : Value} {xs : List Value} {b : Nat}, w.ownsRow b e 1 v n xs → e ≠ 102 → w1.ownsRow b e 1 v n xs := fun ho hne => by
    obtain ⟨i, hin⟩ := Kd.R_own h.m
    exact own_other ho hg (own_type_ne ho hin hne)
  refine ⟨⟨RI_grownF h.nx.br h.m (by decide) rfl hg, RI_grownF h.nx.pa h.m (by decide) rfl hg, RI_grownF h.nx.pb h.m (by decide) rfl hg, RI_grownF h.nx.owners h.m (by decide) rfl hg, RI_grownF h.nx.turns h.m (by decide) rfl hg, own h.nx.bufs (by decide), own h.nx.srcs (by decide), own h.nx.arrs (by decide), ⟨h.nx.rows.len, fun i hi => R_grownF (h.nx.rows.row i hi) hg (h.ma i hi), h.nx.rows.ap⟩, h.nx.apI, h.nx.apO⟩, h.bt.grown hg h.m, RI_grownF h.g h.m (by decide) rfl hg, RI_grownF h.t h.m (by decide) rfl hg, RI_grownF h.e h.m (by decide) rfl hg, hm, fun i hi => ?_, ?_, h.low, h.box, h.top⟩
  · exact apart_comm (apart_new (w1 := w1) (e := 0) (apart_comm (h.ma i hi)) hat (h.nx.rows.row i hi))
  · exact Below.grownRow h.blw hg (Nat.le_trans h.low h.size) (fun j hj => Nat.le_trans h.low (Kd.R_base h.m j hj))
end
theorem kb_alloc {w w1 : World} {g : Nat} {r : Option Nat} (o : Obj) (h : KeepBut w w1 g r) : KeepBut w (w1.alloc o) g r := ⟨by rw [World.size_alloc]; exact Nat.le_succ_of_le h.1, fun i hi h1 h2 => ((bw_alloc o (bw_refl w1)).block i (Nat.lt_of_lt_of_le hi h.1)).trans (h.2 i hi h1 h2)⟩
theorem kb_drew {w w1 : World} {g : Nat} {r : Option Nat} (h : KeepBut w w1 g r) : KeepBut w w1.drew g r := h
theorem kb_below {w w1 w2 : World} {g : Nat} {r : Option Nat} (h : KeepBut w w1 g r) (hb : Below w1.heap.size w1 w2) : KeepBut w w2 g r := ⟨Nat.le_trans h.1 hb.size, fun i hi h1 h2 => (hb.block i (Nat.lt_of_lt_of_le hi h.1)).trans (h.2 i hi h1 h2)⟩
theorem kb_grown {w w1 w2 : World} {g : Nat} {r : Option Nat} (h : KeepBut w w1 g r) (hb : w1.grownBy w2 r) : KeepBut w w2 g r := ⟨Nat.le_trans h.1 hb.size, fun i hi h1 h2 => (hb.block i (Nat.lt_of_lt_of_le hi h.1) h2).trans (h.2 i hi h1 h2)⟩
theorem kb_of {W w : World} {g : Nat} {r : Option Nat} (h : KeepBut W w g r) : KeepBut W w g r ∧ ∀ b o, b < W.heap.size → b ≠ g → some b ≠ r → w.cell? ⟨b, o, none⟩ = W.cell? ⟨b, o, none⟩ :=
  ⟨h, fun b o h1 h2 h3 => World.cell?_of_block (a := ⟨b, o, none⟩) (h.2 b h1 h2 h3)⟩
theorem enters_0 {n : Net} {a : Nat} (h : ¬ 0 < (rl n.srcs a).length) : enters n a = false := by simp only [enters, decide_eq_false h, Bool.false_and]
theorem enters_1 {n : Net} {a : Nat} {t : Int} (h : 0 < (rl n.srcs a).length) (ht : 10 * (a : Int) + 8 + (rf (rl n.srcs a) 0).cls = t) : enters n a = decide ((rl n.bufs t).length < 3) := by simp only [enters, decide_eq_true h, Bool.true_and, ht]
set_option maxHeartbeats 8000000 in
set_option maxRecDepth 100000 in
theorem impl_entering (n : Net) (q : NA) (bx : Nat) (w : World) (hr : NetR 102 w n q) (hx : Box w bx (netCells n q)) (ok : netOk n = true) :
  Calls Try.prog 66 #[.pointer (some ⟨bx, 0, none⟩)] w fun e w' => GotI w w' (enteringN n) e ∧ Below w.heap.size w w' := by
 have OK := Lib.hid ok
 have s16 := (srcs_len ok).1
 clear ok
 obtain ⟨a1, a2, a3, a4, a5, a6, a7, a8, c1, c2, c3, c4, c5, c6, c7, c8⟩ := q; obtain ⟨Rbr, Rpa, Rpb, Rbu, Row, Rtu, Rso, Rar, L1, L2, L3, L4, L5, L6, L7, L8, L9, L10, L11⟩ := hr; have M9 := Lib.hid L9; have M10 := Lib.hid L10; have M11 := Lib.hid L11; clear L9 L10 L11; dsimp only [netCells] at *
 have xl := hx.lt; have x0 : w.cell? ⟨bx, 0, none⟩ = some (.int .i64 n.mesh.g.w) := hx.get 0; have x1 : w.cell? ⟨bx, 1, none⟩ = some (.int .i64 n.mesh.g.h) := hx.get 1; have x2 : w.cell? ⟨bx, 2, none⟩ = some (.slice a1 n.mesh.br.length c1) := hx.get 2; have x3 : w.cell? ⟨bx, 3, none⟩ = some (.slice a2 n.pa.length c2) := hx.get 3; have x4 : w.cell? ⟨bx, 4, none⟩ = some (.slice a3 n.pb.length c3) := hx.get 4; have x5 : w.cell? ⟨bx, 5, none⟩ = some (.slice a4 n.bufs.length c4) := hx.get 5; have x6 : w.cell? ⟨bx, 6, none⟩ = some (.slice a5 n.owners.length c5) := hx.get 6; have x7 : w.cell? ⟨bx, 7, none⟩ = some (.slice a6 n.turns.length c6) := hx.get 7; have x8 : w.cell? ⟨bx, 8, none⟩ = some (.slice a7 n.srcs.length c7) := hx.get 8; have x9 : w.cell? ⟨bx, 9, none⟩ = some (.slice a8 n.arrs.length c8) := hx.get 9; have x10 : w.cell? ⟨bx, 10, none⟩ = some (.int .i64 n.time) := hx.get 10; clear hx
 go_enter Try.func66, Try.ntmps66
 go_wp2
 go_loopw [3, 12] (fun v i wr => ∃ k : Nat, i = .int .i64 k ∧ k ≤ n.srcs.length ∧ Kd.R (Kd.int .i64) 3 wr w.heap.size (fun _ => True) v (enterTo n k) ∧ Below w.heap.size w wr) (fun _ i _ => n.srcs.length - (intOf i).toNat)
 case atStart => exact ⟨0, rfl, Nat.zero_le _, R_empty (W0 := w) _ _ (bw_size bel), bel⟩
 case round =>
  obtain ⟨k, rfl, hk, HO, HB⟩ := hrel
  obtain ⟨Ao, co, rfl⟩ := Kd.R_slice HO
  have hlen := enterTo_len n k
  obtain ⟨hcr, hfr, hzr⟩ := bcell HB
  by_cases hlt : k < n.srcs.length
  ·have i0 : (k : Int) < (n.srcs.length : Int) := by omega
   obtain ⟨b7, o7, rfl, hb7, Ai, ci, p0, hle, hCi⟩ := rdB_at Rso k hlt
   obtain ⟨hnd, h15, h60, hcl⟩ := src_buf OK.out k hlt
   clear hnd
   have yx : bx < wr.heap.size := by omega
   have y7 : b7 < wr.heap.size := by omega
   by_cases hl0 : 0 < (rl n.srcs k).length
   ·obtain ⟨d0, d1, d2⟩ := hcl hl0
    obtain ⟨b1, o1, rfl, hb1, q0, q1, q2, q3, q4⟩ := rdFl_0 hCi hl0
    have hl1 : (0 : Int) < ((rl n.srcs k).length : Int) := by omega
    have HE := Lib.hid (fun t => enters_1 (n := n) (a := k) (t := t) hl0)
    obtain ⟨d, hd⟩ : ∃ d, (rf (rl n.srcs k) 0).cls = d := ⟨_, rfl⟩
    rw [hd] at HE d0 d1 d2 q2
    obtain ⟨t, ht⟩ : ∃ t, 10 * (k : Int) + 8 + d = t := ⟨_, rfl⟩
    have HV := Lib.hid (HE.out t ht)
    have t0 : 0 ≤ t := by omega
    have t1 : t < (n.bufs.length : Int) := by omega
    have HT : Hid (10 * (k : Int) + 2 * 4 + d = t) := Lib.hid (by omega)
    obtain ⟨b4, o4, rfl, hb4, Bi, di, r0, hlf, hDi⟩ := rdB_int Rbu t t0 t1
    have y1 : b1 < wr.heap.size := by omega
    have y4 : b4 < wr.heap.size := by omega
    clear hd ht hcl HE
    by_cases h3 : (rl n.bufs t).length < 3
    ·have f3 : ((rl n.bufs t).length : Int) < 3 := by omega
     have HS := Lib.hid (enterTo_yes (n := n) (k := k) (by rw [HV.out]; exact decide_eq_true h3))
     go_wp2_with fail
     refine wp_region_far (wr) (by kernel_rfl) (by kernel_rfl) bel ?_
     have hqc := far_cell (wr)
     have hqf := far_frozen (wr)
     repeat (first | go_big_quiet_step ((go_at_call 68; exact far_same (Calls.says (impl_BufferAt k 4 d _ (by omega) (by omega) (by omega) (by omega) d0 d1) (congrArg (Value.int .i64) HT.out)))) | quiet_step ((go_at_call 68; exact far_same (Calls.says (impl_BufferAt k 4 d _ (by omega) (by omega) (by omega) (by omega) d0 d1) (congrArg (Value.int .i64) HT.out)))))
     refine wpQuiet_nil ?_
     intro wq hbq
     clear hqc hqf
     obtain ⟨hcq, hfq, hzq⟩ := bcell hbq
     try simp only [szs] at hzq
     go_wp2_with (at_builtin; refine app_int (W0 := w) rfl (.tmp 36) (.tmp 38) 26 3 rfl Try.underlying26 info_int _ (enterTo n k) _ rfl (by first | rfl | exact congrArg (fun z => Value.slice (some ⟨z, 0, none⟩) 1 1) (World.size_alloc _ _).symm) (by exact Kd.R_below HO bel) bel (by omega) ?_; intro v1 w1 HO1 HB1; obtain ⟨hc1, hf1, hz1⟩ := bcell HB1; (try simp only [szs] at hz1); have hb2 := HB1; have hb9 := HB1)
     go_roundw
     case rel => exact ⟨k + 1, by go_num, by omega, by rw [HS.out]; exact (by exact Kd.R_below HO1 bel), bel⟩
     case measure => simp [intOf]; omega
    ·have f3 : ¬ ((rl n.bufs t).length : Int) < 3 := by omega
     have HS := Lib.hid (enterTo_no (n := n) (k := k) (by rw [HV.out]; exact decide_eq_false h3))
     go_wp2_with fail
     refine wp_region_far (wr) (by kernel_rfl) (by kernel_rfl) bel ?_
     have hqc := far_cell (wr)
     have hqf := far_frozen (wr)
     repeat (first | go_big_quiet_step ((go_at_call 68; exact far_same (Calls.says (impl_BufferAt k 4 d _ (by omega) (by omega) (by omega) (by omega) d0 d1) (congrArg (Value.int .i64) HT.out)))) | quiet_step ((go_at_call 68; exact far_same (Calls.says (impl_BufferAt k 4 d _ (by omega) (by omega) (by omega) (by omega) d0 d1) (congrArg (Value.int .i64) HT.out)))))
     refine wpQuiet_nil ?_
     intro wq hbq
     clear hqc hqf
     obtain ⟨hcq, hfq, hzq⟩ := bcell hbq
     try simp only [szs] at hzq
     go_wp2
     go_roundw
     case rel => exact ⟨k + 1, by go_num, by omega, by rw [HS.out]; exact (by exact Kd.R_below HO bel), bel⟩
     case measure => simp [intOf]; omega
   ·have hl1 : ¬ (0 : Int) < ((rl n.srcs k).length : Int) := by omega
    have HS := Lib.hid (enterTo_no (enters_0 hl0))
    go_wp2_with fail
    refine wp_region_far (wr) (by kernel_rfl) (by kernel_rfl) bel ?_
    have hqc := far_cell (wr)
    have hqf := far_frozen (wr)
    repeat (first | go_big_quiet_step (fail) | quiet_step (fail))
    refine wpQuiet_nil ?_
    intro wq hbq
    clear hqc hqf
    obtain ⟨hcq, hfq, hzq⟩ := bcell hbq
    try simp only [szs] at hzq
    go_wp2
    go_roundw
    case rel => exact ⟨k + 1, by go_num, by omega, by rw [HS.out]; exact (by exact Kd.R_below HO bel), bel⟩
    case measure => simp [intOf]; omega
  ·have i0 : ¬ (k : Int) < (n.srcs.length : Int) := by omega
   obtain rfl : k = n.srcs.length := by omega
   go_wp2
   go_ret
   exact ⟨⟨_, rfl, HO⟩, HB⟩
theorem moves_wrap {n : Net} (ok : netOk n = true) : IntKind.i64.wrap (((allGrants n).length : Int) + ((enteringN n).length : Int)) = ((allGrants n).length : Int) + ((enteringN n).length : Int) ∧ wrap64 (((allGrants n).length : Int) + ((enteringN n).length : Int)) = ((allGrants n).length : Int) + ((enteringN n).length : Int) := by
  have h1 := allTo_len n (nodeCount n.mesh.g).toNat
  have h2 := count_le n.mesh.g
  have g1 : (allGrants n).length ≤ 80 := by unfold allGrants; omega
  have g2 : (enteringN n).length ≤ 16 := Nat.le_trans (enterTo_len n n.srcs.length) (srcs_len ok).1
  exact ⟨IntWalk.i64_in _ (by omega), by unfold wrap64; omega⟩
theorem allGrants_len (n : Net) : (allGrants n).length ≤ 80 := by
  have h1 := allTo_len n (nodeCount n.mesh.g).toNat
  have h2 := count_le n.mesh.g
  unfold allGrants
  omega
set_option maxHeartbeats 2000000 in
theorem impl_moves (n : Net) (q : NA) (bx : Nat) (w : World) (hr : NetR 102 w n q) (hx : Box w bx (netCells n q)) (ok : netOk n = true) :
    Calls Try.prog 90 #[.pointer (some ⟨bx, 0, none⟩)] w fun e w' => e = .returned (.int .i64 (((allGrants n).length : Int) + ((enteringN n).length : Int))) ∧ Below w.heap.size w w' := by
  have R := Lib.hid hr
  have X := Lib.hid hx
  have OK := Lib.hid ok
  have HW := Lib.hid (moves_wrap ok)
  clear hr hx ok
  go_enter Try.func90, Try.ntmps90
  go_wp2_with (first | (go_at_call 65; refine (impl_allGrants n q bx _ (R.out.below bel) (X.out.below bel) OK.out).mono ?_; rintro e w1 ⟨hg1, hb1⟩; obtain ⟨A1, d1, rfl, hk1, hC1⟩ := hg1.read; obtain ⟨hc1, hf1, hz1⟩ := bcell hb1; (try simp only [szs] at hz1); have hb2 := far2; obtain ⟨hc2, hf2, hz2⟩ := bcell hb2; (try simp only [szs] at hz2); try (first | obtain ⟨hy1, hy2, hy3, hy4⟩ := lts4 hz2 | obtain ⟨hy1, hy2, hy3⟩ := lts3 hz2 | obtain ⟨hy1, hy2⟩ := lts2 hz2 | have hy1 := lts1 hz2); have hb9 := hb1) | (go_at_call 66; refine (impl_entering n q bx _ (R.out.below bel) (X.out.below bel) OK.out).mono ?_; rintro e w1 ⟨hg1, hb1⟩; obtain ⟨A1, c1, rfl, hk1, hr1⟩ := hg1.read; obtain ⟨hc1, hf1, hz1⟩ := bcell hb1; (try simp only [szs] at hz1); have hb2 := far2; obtain ⟨hc2, hf2, hz2⟩ := bcell hb2; (try simp only [szs] at hz2); try (first | obtain ⟨hy1, hy2, hy3, hy4⟩ := lts4 hz2 | obtain ⟨hy1, hy2, hy3⟩ := lts3 hz2 | obtain ⟨hy1, hy2⟩ := lts2 hz2 | have hy1 := lts1 hz2); have hb9 := hb1))
  go_ret
  exact ⟨ret_int (by first | rfl | exact HW.out.1 | exact HW.out.2), bel⟩
theorem cut_fromF (A : Option Addr) (n c : Nat) (h1 : 1 ≤ n) (W : World) : (Instr.slice 87 (.slice A n c) (some (.int .i64 1)) none none).run Try.prog W = .ok (.slice (if c = 1 then A else A.map (·.add 5)) (n - 1) (c - 1)) W := by
  obtain ⟨i, hi', hs⟩ := Option.map_eq_some_iff.1 info_F
  exact cut_from (P := Try.prog) 87 102 .i64 Try.underlying87 hi' 5 (congrArg (fun z => z.2.1) hs) A n c 1 (by omega) (by omega) W
section
variable {ops : Array Oper} {rest : List Oper} {o : Oper} {a : Act} {Q : Exit → Act → World → Prop}
theorem app_Fg {B : Nat} {W : World} (hgd : o.guard = none) (s x : Operand)
    (ho : o.op = .call { callee := .builtin .append, args := #[s, x], argTypes := #[87, 87] })
    (v : Value) (xs : List Flit) (q : Flit) (hs : a.eval s = v) (hx : a.eval x = .slice (some ⟨W.heap.size, 0, none⟩) 1 1)
    (HO : kF.R 102 W B (fun _ => True) v xs) (hB : B ≤ W.heap.size) (hl : xs.length ≤ 100000000)
    (h : ∀ v1 w1, kF.R 102 w1 B (fun _ => True) v1 (xs ++ [q]) → W.grownBy w1 v.ownBlock → Anew W v1 v → wpList Try.prog ops Q rest (a.put o.dst v1) w1) :
    wpList Try.prog ops Q (o :: rest) a (W.alloc (.cells #[.int .i64 q.pk, .int .i64 q.dst, .int .i64 q.cls, .bool q.head, .bool q.tail] 102)) :=
  Kd.R_append (P := Try.prog) kF (w0 := W) B hgd s x 87 102 (.agg #[.int .i64 0, .int .i64 0, .int .i64 0, .bool false, .bool false]) 32 ho Try.underlying87 info_F rfl (by decide) (by omega) v xs q (fCells q) (fun _ => True) (fun _ => False) hs hx rfl (fun _ h => h.elim) (fun _ _ => trivial) HO (Below.refl _ _) hB (by omega) (fun v1 w1 h1 _ h3 h4 => h v1 w1 h1 h3 (.inr h4))
end
def stTs (n : Net) : List Int := (allGrants n).map (fun g => behindN n g.node g.port (g.input % 2))
def stMs (n : Net) : List Flit := (allGrants n).map (mvF n)
theorem rg_mem {l : List Grant} {k : Nat} (h : k < l.length) : rg l k ∈ l := by
  have : rg l (k : Int) = l[k] := by simp [rg, List.getD_eq_getElem?_getD, h]
  rw [this]
  exact List.getElem_mem h
theorem rg_get {l : List Grant} {k : Nat} (h : k < l.length) : rg l (k : Int) = l[k] := by simp [rg, List.getD_eq_getElem?_getD, h]
theorem stTs_take (n : Net) (k : Nat) (h : k < (allGrants n).length) : (stTs n).take (k + 1) = (stTs n).take k ++ [behindN n (rg (allGrants n) k).node (rg (allGrants n) k).port ((rg (allGrants n) k).input % 2)] := by
  have h2 : k < (stTs n).length := by simp [stTs, h]
  rw [List.take_succ_eq_append_getElem h2, rg_get h]
  simp [stTs]
theorem stMs_take (n : Net) (k : Nat) (h : k < (allGrants n).length) : (stMs n).take (k + 1) = (stMs n).take k ++ [mvF n (rg (allGrants n) k)] := by
  have h2 : k < (stMs n).length := by simp [stMs, h]
  rw [List.take_succ_eq_append_getElem h2, rg_get h]
  simp [stMs]
theorem gs_take (n : Net) (k : Nat) (h : k < (allGrants n).length) : (allGrants n).take (k + 1) = (allGrants n).take k ++ [rg (allGrants n) k] := by
  rw [List.take_succ_eq_append_getElem h, rg_get h]
theorem nodup_take {n : Net} (ok : netOk n = true) {k : Nat} (h : k < (allGrants n).length) : ∀ g ∈ (allGrants n).take k, gIdx g ≠ gIdx (rg (allGrants n) k) := by
  intro g hg e
  have hn := (grants_GsOk ok).nodup
  obtain ⟨j, hj, rfl⟩ := List.getElem_of_mem hg
  rw [List.length_take] at hj
  rw [List.getElem_take, rg_get h] at e
  have := (List.pairwise_iff_getElem.1 hn) j k (by simp; omega) (by simp; omega) (by omega)
  simp only [List.getElem_map] at this
  exact this e
theorem pop_k {n : Net} (ok : netOk n = true) {k : Nat} (h : k < (allGrants n).length) : rl (popL n.bufs ((allGrants n).take k)) (gIdx (rg (allGrants n) k)) = rl n.bufs (gIdx (rg (allGrants n) k)) := by
  have hG := grants_GsOk ok
  exact popL_other _ _ _ (hG.range _ (rg_mem h)).1 (fun g hg => hG.range g (List.mem_of_mem_take hg)) (nodup_take ok h)
theorem pop_next {n : Net} (ok : netOk n = true) {k : Nat} (h : k < (allGrants n).length) : popL n.bufs ((allGrants n).take (k + 1)) = (popL n.bufs ((allGrants n).take k)).set (gIdx (rg (allGrants n) k)).toNat ((rl n.bufs (gIdx (rg (allGrants n) k))).drop 1) := by
  rw [gs_take n k h, popL_snoc, popB, pop_k ok h]
structure Lens (n x : Net) : Prop where
  b : x.bufs.length = n.bufs.length
  o : x.owners.length = n.owners.length
  t : x.turns.length = n.turns.length
  s : x.srcs.length = n.srcs.length
  a : x.arrs.length = n.arrs.length
theorem Lens.push {n x : Net} (h : Lens n x) (m : Net) (g : Grant) : Lens n (pushG m x g) := by
  unfold pushG
  split <;> exact ⟨by simp [h.b], by simp [h.o], by simp [h.t], by simp [h.s], by simp [h.a]⟩
theorem Lens.pushL {n m : Net} : ∀ (gs : List Grant) (x : Net), Lens n x → Lens n (pushL m x gs) := by
  intro gs
  induction gs with
  | nil => intro x h; exact h
  | cons g gs ih => intro x h; exact ih _ (h.push m g)
theorem Lens.pop (n : Net) : Lens n (afterPop n) := ⟨popL_len _ _, rfl, rfl, rfl, rfl⟩
theorem pushL_next (n x : Net) (k : Nat) (h : k < (allGrants n).length) : pushL n x ((allGrants n).take (k + 1)) = pushG n (pushL n x ((allGrants n).take k)) (rg (allGrants n) k) := by
  rw [gs_take n k h]
  simp [pushL]
theorem stTs_get (n : Net) (k : Nat) (h : k < (allGrants n).length) : ri (stTs n) k = behindN n (rg (allGrants n) k).node (rg (allGrants n) k).port ((rg (allGrants n) k).input % 2) := by
  rw [ri_get _ k (by simp [stTs, h]), rg_get h]
  simp [stTs]
theorem stMs_get (n : Net) (k : Nat) (h : k < (allGrants n).length) : rf (stMs n) k = mvF n (rg (allGrants n) k) := by
  rw [rf_get _ k (by simp [stMs, h]), rg_get h]
  simp [stMs]
def GB (w : World) (b : Nat) (g : Grant) : Prop := w.heap[b]? = some (.cells #[.int .i64 g.node, .int .i64 g.port, .int .i64 g.input] 98 (0, 0))
theorem GB.below {w w1 : World} {b : Nat} {g : Grant} (h : GB w b g) (hb : Below w.heap.size w w1) : GB w1 b g := blk_below h hb
theorem GB.far {w : World} {b c t : Nat} {g : Grant} (h : GB w b g) (hb : BlkT w c t) (ht : 98 ≠ t) (j : Nat) (u : Value) : GB (w.setCell ⟨c, j, none⟩ u) b g := by
  obtain ⟨cs, hc⟩ := hb
  exact blk_far (p := ⟨c, j, none⟩) h (blk_ne h hc ht) u
theorem GB.grown {w w1 : World} {b lo : Nat} {g : Grant} {v : Value} {y : List Flit} (h : GB w b g) (hg : w.grownBy w1 v.ownBlock) (hr : kF.R 102 w lo (fun _ => True) v y) : GB w1 b g := by
  obtain ⟨inner, hin⟩ := Kd.R_own hr
  exact blk_grown h hg (own_ne hin h (by decide))
theorem GB.cells {w : World} {b : Nat} {g : Grant} (h : GB w b g) : w.cell? ⟨b, 0, none⟩ = some (.int .i64 g.node) ∧ w.cell? ⟨b, 1, none⟩ = some (.int .i64 g.port) ∧ w.cell? ⟨b, 2, none⟩ = some (.int .i64 g.input) ∧ b < w.heap.size := ⟨blk_cell h 0, blk_cell h 1, blk_cell h 2, blk_lt h⟩
theorem BlkT.grown {w w1 : World} {g lo : Nat} {v : Value} {y : List Flit} (h : BlkT w g 87) (hg : w.grownBy w1 v.ownBlock) (hr : kF.R 102 w lo (fun _ => True) v y) : BlkT w1 g 87 := by
  obtain ⟨cs, hc⟩ := h
  obtain ⟨inner, hin⟩ := Kd.R_own hr
  exact ⟨cs, blk_grown hc hg (own_ne hin hc (by decide))⟩
theorem flC {w : World} {b off : Nat} {l : List Flit} (h : kF.C w (some ⟨b, off, none⟩) l.length l) (k : Nat) (hk : k < l.length) : b < w.heap.size ∧ w.cell? ⟨b, off + k * 5, none⟩ = some (.int .i64 (rf l k).pk) ∧ w.cell? ⟨b, off + k * 5 + 1, none⟩ = some (.int .i64 (rf l k).dst) ∧ w.cell? ⟨b, off + k * 5 + 2, none⟩ = some (.int .i64 (rf l k).cls) ∧ w.cell? ⟨b, off + k * 5 + 3, none⟩ = some (.bool (rf l k).head) ∧ w.cell? ⟨b, off + k * 5 + 4, none⟩ = some (.bool (rf l k).tail) := by
  obtain ⟨b', off', e, h1, h2⟩ := rdFl_at h k hk
  have e2 := Option.some.inj e
  injection e2 with e3 e4 e5
  subst e3 e4
  exact ⟨h1, h2⟩
section
variable {ops : Array Oper} {o : Oper} {a : Act} {Kc : Act → World → Prop} {Q' : Exit → Act → World → Prop}
theorem app_FgS {B : Nat} {W : World} (hw : Region.wanted o (yielded ops a.tmps) = true) (s x : Operand)
    (ho : o.op = .call { callee := .builtin .append, args := #[s, x], argTypes := #[87, 87] })
    (v : Value) (xs : List Flit) (q : Flit) (hs : a.eval s = v) (hx : a.eval x = .slice (some ⟨W.heap.size, 0, none⟩) 1 1)
    (HO : kF.R 102 W B (fun _ => True) v xs) (hB : B ≤ W.heap.size) (hl : xs.length ≤ 100000000)
    (h : ∀ v1 w1, kF.R 102 w1 B (fun _ => True) v1 (xs ++ [q]) → W.grownBy w1 v.ownBlock → Anew W v1 v → Kc (a.put o.dst v1) w1) :
    if Region.wanted o (yielded ops a.tmps) = true then Oper.wp Try.prog o a (W.alloc (.cells #[.int .i64 q.pk, .int .i64 q.dst, .int .i64 q.cls, .bool q.head, .bool q.tail] 102)) Kc Q' else Kc (a.put o.dst undef) (W.alloc (.cells #[.int .i64 q.pk, .int .i64 q.dst, .int .i64 q.cls, .bool q.head, .bool q.tail] 102)) :=
  Kd.R_append_step (P := Try.prog) kF (w0 := W) B hw s x 87 102 (.agg #[.int .i64 0, .int .i64 0, .int .i64 0, .bool false, .bool false]) 32 ho Try.underlying87 info_F rfl (by decide) (by omega) v xs q (fCells q) (fun _ => True) (fun _ => False) hs hx rfl (fun _ h => h.elim) (fun _ _ => trivial) HO (Below.refl _ _) hB (by omega) (fun v1 w1 h1 _ h3 h4 => h v1 w1 h1 h3 (.inr h4))
end
theorem rl_bound {l : List (List Flit)} (h : ∀ x ∈ l, x.length ≤ 2097152) (t : Nat) : (rl l (t : Int)).length ≤ 2097152 := by
  by_cases e : t < l.length
  · exact h _ (rl_mem e)
  · have : rl l (t : Int) = [] := by simp [rl, List.getD_eq_getElem?_getD, e]
    rw [this]
    simp
theorem all4 {w : World} {lo : Nat} {x : Net} {s : SV} (h : NX w lo x s.q s.v4 s.v7 s.v8) {t : Nat} (ht : t < x.bufs.length) : vr (allV s) t = vr s.v4 t := by
  unfold allV
  exact vr_left (by rw [h.l4]; exact ht)
theorem all8 {w : World} {lo : Nat} {x : Net} {s : SV} (h : NX w lo x s.q s.v4 s.v7 s.v8) {t : Nat} : vr (allV s) (x.bufs.length + (x.srcs.length + t)) = vr s.v8 t := by
  unfold allV
  rw [← h.l4, vr_right, ← h.l7, vr_right]
theorem ownI5 {w : World} {lo g k : Nat} {x : Net} {q : NA} {v4 v7 v8 : List Value} (h : NX w lo x q v4 v7 v8) (ea : q.a5 = some ⟨g, 0, none⟩) (hk : k < x.owners.length) : w.cell? ⟨g, k, none⟩ = some (.int .i64 (ri x.owners k)) ∧ w.frozen? ⟨g, k, none⟩ = false := by
  have h4 := h.owners
  rw [ea] at h4
  exact rowI_cell h4 k hk
theorem ownI6 {w : World} {lo g k : Nat} {x : Net} {q : NA} {v4 v7 v8 : List Value} (h : NX w lo x q v4 v7 v8) (ea : q.a6 = some ⟨g, 0, none⟩) (hk : k < x.turns.length) : w.cell? ⟨g, k, none⟩ = some (.int .i64 (ri x.turns k)) ∧ w.frozen? ⟨g, k, none⟩ = false := by
  have h4 := h.turns
  rw [ea] at h4
  exact rowI_cell h4 k hk
theorem blkI5 {w : World} {lo g : Nat} {x : Net} {q : NA} {v4 v7 v8 : List Value} (h : NX w lo x q v4 v7 v8) (ea : q.a5 = some ⟨g, 0, none⟩) (hp : 0 < x.owners.length) : BlkT w g 3 := by
  obtain ⟨i, hin⟩ := Kd.R_own h.owners
  exact own_typed hin g (by rw [ea]; rfl)
theorem blkI6 {w : World} {lo g : Nat} {x : Net} {q : NA} {v4 v7 v8 : List Value} (h : NX w lo x q v4 v7 v8) (ea : q.a6 = some ⟨g, 0, none⟩) (hp : 0 < x.turns.length) : BlkT w g 3 := by
  obtain ⟨i, hin⟩ := Kd.R_own h.turns
  exact own_typed hin g (by rw [ea]; rfl)
theorem bm_ne5 {w0 w : World} {lo bx g b off m c : Nat} {n0 x : Net} {s : SV} (h : ST w0 lo bx n0 s x w) (ea : s.q.a5 = some ⟨g, 0, none⟩) (em : s.vm = .slice (some ⟨b, off, none⟩) m c) (hp : 0 < x.owners.length) : ¬ b = g := by
  intro e
  obtain ⟨cs, hc⟩ := blkI5 h.nx ea hp
  obtain ⟨i, hin⟩ := Kd.R_own h.m
  exact own_ne hin hc (by decide) (by rw [em, ← e]; rfl)
theorem bx_ne6 {w0 w : World} {lo bx g : Nat} {n0 x : Net} {s : SV} (h : ST w0 lo bx n0 s x w) (ea : s.q.a6 = some ⟨g, 0, none⟩) (hp : 0 < x.turns.length) : ¬ bx = g := by
  obtain ⟨cs, hc⟩ := blkI6 h.nx ea hp
  exact blk_ne h.bt hc (by decide)
theorem own_twice {w0 w : World} {lo bx g k : Nat} {n0 x : Net} {s : SV} (h : ST w0 lo bx n0 s x w) (ea : s.q.a5 = some ⟨g, 0, none⟩) (hk : k < x.owners.length) (a b : Int) : ST w0 lo bx n0 s { x with owners := x.owners.set k b } ((w.setCell ⟨g, k, none⟩ (.int .i64 a)).setCell ⟨g, k, none⟩ (.int .i64 b)) := by
  have h2 := (h.setOwner ea hk a).setOwner (k := k) ea (by simpa using hk) b
  simp only [List.set_set] at h2
  exact h2
theorem own_t {n : Net} {g : Grant} {F0 : Flit} (hF : mvF n g = F0) (h : F0.tail = true) : gOwn n g = -1 := by rw [gOwn, hF, if_pos h]
theorem own_f {n : Net} {g : Grant} {F0 : Flit} (hF : mvF n g = F0) (h : F0.tail = false) : gOwn n g = g.input / 2 := by rw [gOwn, hF, if_neg (by simp [h])]
theorem push_eq4 {n x : Net} {g : Grant} {t at_ tn : Nat} {F0 : Flit} {R : List Flit} {v : Int} (h4 : g.port = 4) (ht : (t : Int) = g.node) (ha : 10 * g.node + 2 * g.port + g.input % 2 = (at_ : Int)) (hn : (tn : Int) = 5 * g.node + g.port) (hF : mvF n g = F0) (hR : rl x.arrs (t : Int) = R) (hv : gOwn n g = v) :
    pushG n x g = { x with arrs := x.arrs.set t (R ++ [F0]), owners := x.owners.set at_ v, turns := x.turns.set tn ((g.input + 1) % 10) } := by
  unfold pushG
  rw [if_pos h4, hv, hF, show (gAt g).toNat = at_ by unfold gAt; omega, show (gTurn g).toNat = tn by unfold gTurn; omega, show g.node.toNat = t by omega, ← ht, hR]
theorem push_eq {n x : Net} {g : Grant} {t at_ tn : Nat} {F0 : Flit} {R : List Flit} {v : Int} (h4 : ¬ g.port = 4) (ht : (t : Int) = gTo n g) (ha : 10 * g.node + 2 * g.port + g.input % 2 = (at_ : Int)) (hn : (tn : Int) = 5 * g.node + g.port) (hF : mvF n g = F0) (hR : rl x.bufs (t : Int) = R) (hv : gOwn n g = v) :
    pushG n x g = { x with bufs := x.bufs.set t (R ++ [F0]), owners := x.owners.set at_ v, turns := x.turns.set tn ((g.input + 1) % 10) } := by
  unfold pushG
  rw [if_neg h4, hv, hF, show (gAt g).toNat = at_ by unfold gAt; omega, show (gTurn g).toNat = tn by unfold gTurn; omega, show (gTo n g).toNat = t by omega, ← ht, hR]
theorem Lens.enter {n m : Net} : ∀ (ks : List Int) (x : Net), Lens n x → Lens n (enterL m x ks) := by
  intro ks
  induction ks with
  | nil => intro x h; exact h
  | cons a ks ih => intro x h; exact ih _ ⟨by simp [enterB, h.b], h.o, h.t, by simp [enterB, h.s], h.a⟩
theorem own_facts7 {w : World} {lo g j c len : Nat} {x : Net} {q : NA} {v4 u7 v8 : List Value} {A : Option Addr} (h : NX w lo x q v4 u7 v8) (ea : q.a7 = some ⟨g, 0, none⟩) (hj : j < x.srcs.length) (hv : vr u7 j = .slice A len c) : w.cell? ⟨g, j, none⟩ = some (.slice A len c) ∧ w.frozen? ⟨g, j, none⟩ = false := by
  have h4 := h.srcs
  rw [ea] at h4
  have := own_cell h4 hj
  rw [hv] at this
  exact this
theorem row_read7 {w : World} {lo j c : Nat} {x : Net} {q : NA} {v4 u7 v8 : List Value} {A : Option Addr} {xs : List Flit} (h : NX w lo x q v4 u7 v8) (hj : j < x.srcs.length) (hv : vr u7 j = .slice A xs.length c) (he : rl x.srcs j = xs) : kF.C w A xs.length xs := by
  have := h.row7 j hj
  rw [hv, he] at this
  exact (Kd.R_rowX this).2.2
theorem anew_ge {w : World} {u v : Value} {g lo hi : Nat} (h1 : w.heap.size ≤ g) (h2 : w.heap.size ≤ lo) (h : At2 g lo hi u) : Anew w u v := by
  cases e : u.ownBlock with
  | none => exact .inl e
  | some b =>
    refine .inr (.inr ⟨b, e, ?_⟩)
    have := h b e
    omega
theorem time_ok {n : Net} (ok : netOk n = true) : 0 ≤ n.time ∧ n.time ≤ 1000000 := by
  obtain ⟨_, _, _, _, _, _, _, _, _, _, h⟩ := netOk_parts ok
  exact inside_iff.1 h
theorem step_same (n : Net) : (stepN n).mesh = n.mesh ∧ (stepN n).pa = n.pa ∧ (stepN n).pb = n.pb := by
  have h1 := enterL_time n (enteringN n) (afterPush n)
  have h2 := pushL_same n (allGrants n) (afterPop n)
  exact ⟨h1.2.1.trans h2.2.1, h1.2.2.1.trans h2.2.2.1, h1.2.2.2.1.trans h2.2.2.2⟩
theorem step_lens (n : Net) : Lens n (stepN n) := by
  have := Lens.enter (enteringN n) _ ((Lens.pop n).pushL (allGrants n) (m := n)) (m := n)
  exact ⟨this.b, this.o, this.t, this.s, this.a⟩
theorem netCells_step (n : Net) (q : NA) : (netCells n q).setIfInBounds 10 (.int .i64 (n.time + 1)) = netCells (stepN n) q := by
  obtain ⟨h1, h2, h3⟩ := step_same n
  obtain ⟨l1, l2, l3, l4, l5⟩ := step_lens n
  unfold netCells
  rw [h1, h2, h3, l1, l2, l3, l4, l5]
  rfl
theorem own_facts8 {w : World} {lo g j c len : Nat} {x : Net} {q : NA} {v4 v7 u8 : List Value} {A : Option Addr} (h : NX w lo x q v4 v7 u8) (ea : q.a8 = some ⟨g, 0, none⟩) (hj : j < x.arrs.length) (hv : vr u8 j = .slice A len c) : w.cell? ⟨g, j, none⟩ = some (.slice A len c) ∧ w.frozen? ⟨g, j, none⟩ = false := by
  have h4 := h.arrs
  rw [ea] at h4
  have := own_cell h4 hj
  rw [hv] at this
  exact this
theorem own_facts {w : World} {lo g j c len : Nat} {x : Net} {q : NA} {u4 v7 v8 : List Value} {A : Option Addr} (h : NX w lo x q u4 v7 v8) (ea : q.a4 = some ⟨g, 0, none⟩) (hj : j < x.bufs.length) (hv : vr u4 j = .slice A len c) : w.cell? ⟨g, j, none⟩ = some (.slice A len c) ∧ w.frozen? ⟨g, j, none⟩ = false := by
  have h4 := h.bufs
  rw [ea] at h4
  have := own_cell h4 hj
  rw [hv] at this
  exact this
theorem anew_lit {w : World} {u v : Value} {hi : Nat} (h : At2 w.heap.size (w.heap.size + 1) hi u) : Anew w u v := by
  cases e : u.ownBlock with
  | none => exact .inl e
  | some b =>
    refine .inr (.inr ⟨b, e, ?_⟩)
    have := h b e
    omega
theorem row_read {w : World} {lo j c : Nat} {x : Net} {q : NA} {u4 v7 v8 : List Value} {A : Option Addr} {xs : List Flit} (h : NX w lo x q u4 v7 v8) (hj : j < x.bufs.length) (hv : vr u4 j = .slice A xs.length c) (he : rl x.bufs j = xs) : kF.C w A xs.length xs := by
  have := h.row4 j hj
  rw [hv, he] at this
  exact (Kd.R_rowX this).2.2
theorem lens_ok {n : Net} (ok : netOk n = true) : 0 < n.bufs.length ∧ 0 < n.owners.length ∧ 0 < n.turns.length ∧ 0 < n.srcs.length ∧ 0 < n.arrs.length := by
  obtain ⟨h0, h1, h2, h3, h4, h5, _⟩ := netOk_parts ok
  have := sized_count (classesOk_sized h0).1
  omega
end Go.Proofs.Ytodbglncccgdbaa
