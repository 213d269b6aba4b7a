/- The draws' cursor: what it answers and what it leaves; for all bytes. -/
import Derived.Test.YtglajejmnhmcfaaM5
import Derived.Test.YtglajejmnhmcfaaMark
import Derived.Laws.Closers25b
import Derived.RangeFuncBox
import Derived.IntWalk
import Derived.RegionTactic
import Derived.BigRegion
import Derived.Laws.BitsAllLaws
set_option linter.unusedVariables false
set_option linter.unusedSimpArgs false
namespace Go.Proofs.Ytglajejmnhmcfaa
open Go.RowKit Go.Proofs.YtglajejmnhmcfaaW.PrintWords
open NoC

theorem and255 (x : Int) : 0 ≤ bits .and .i64 x 255 ∧ bits .and .i64 x 255 ≤ 255 := by
  have h255 : (BitVec.ofInt 64 255).toNat = 2 ^ 8 - 1 := by decide
  have key : (BitVec.ofInt 64 x &&& BitVec.ofInt 64 255).toNat = (x % ((2 ^ 64 : Nat) : Int)).toNat % 2 ^ 8 := by
    rw [BitVec.toNat_and, BitVec.toNat_ofInt, h255, Nat.and_two_pow_sub_one_eq_mod]
  show 0 ≤ IntKind.i64.wrap ((BitVec.ofInt 64 x &&& BitVec.ofInt 64 255).toNat : Nat) ∧ IntKind.i64.wrap ((BitVec.ofInt 64 x &&& BitVec.ofInt 64 255).toNat : Nat) ≤ 255
  rw [key, IntKind.wrap_i64]
  omega
theorem grown_cell (W : World) (b k : Nat) (v : Value) : W.grownBy (W.setCell ⟨b, k, none⟩ v) (some b) :=
  ⟨rfl, rfl, rfl, (KeepsWalks.setCell W _ v).size, fun j _ hj => Below.heap_setCell _ _ _ j (fun e => hj (by rw [e]))⟩
theorem grown_drew (W : World) (r : Option Nat) : W.grownBy W.drew r := ⟨rfl, rfl, rfl, Nat.le_refl _, fun _ _ _ => rfl⟩
theorem rdU_at {w : World} {A : Option Addr} {l : List Int} (h : Kd.C (Kd.int .u8) w A l.length l) (k : Nat) (hk : k < l.length) :
    ∃ b off, A = some ⟨b, off, none⟩ ∧ b < w.heap.size ∧ ∀ j, j < l.length → w.cell? ⟨b, off + j, none⟩ = some (.int .u8 (NoC.ri l j)) := by
  have key : ∀ j, j < l.length → ∃ ad, A = some ad ∧ w.cell? (ad.add j) = some (.int .u8 (NoC.ri l j)) := by
    intro j hj
    obtain ⟨ad, cs, e, _, hK, hc⟩ := Kd.C_get h 0 (j : Int) (by omega) (by omega)
    have hK' : cs = [.int .u8 (l.getD (j : Int).toNat 0)] := hK
    subst hK'
    have := hc 0 _ rfl
    refine ⟨ad, e, ?_⟩
    have e2 : (j : Int).toNat * (Kd.int .u8).sz + 0 = j := by show (j : Int).toNat * 1 + 0 = j; omega
    rw [e2] at this
    exact this
  obtain ⟨ad, rfl, h0⟩ := key 0 (by omega)
  have hs : ad.spot = none := by
    cases hsp : ad.spot with
    | none => rfl
    | some s =>
      have : ad.add 0 = ad := by simp [Addr.add]
      rw [this] at h0
      unfold World.cell? at h0
      split at h0
      · simp [hsp] at h0
      · simp at h0
  obtain ⟨b, off, sp⟩ := ad
  simp only at hs
  subst hs
  refine ⟨b, off, rfl, World.block_lt_of_cell? w _ h0, fun j hj => ?_⟩
  obtain ⟨ad, e, h1⟩ := key j hj
  obtain rfl := Option.some.inj e
  rwa [show (⟨b, off, none⟩ : Addr).add j = ⟨b, off + j, none⟩ by unfold Addr.add; split <;> simp_all] at h1
/-- A cursor at block b, over bytes that lie below B0. -/
def Cur (w : World) (b B0 : Nat) : Prop := B0 ≤ b ∧ ∃ A N c i h, Arr w b 80 #[.slice A N c, .int .i64 i, .int .i64 h] ∧ 0 ≤ i ∧ N ≤ 140737488355328 ∧ ∀ n : Nat, n < N → ∃ B off u, A = some ⟨B, off, none⟩ ∧ B < B0 ∧ w.cell? ⟨B, off + n, none⟩ = some (.int .u8 u)
theorem Cur.lt {w : World} {b B0 : Nat} (h : Cur w b B0) : b < w.heap.size := by
  obtain ⟨_, A, N, c, i, x, ha, _⟩ := h
  exact ha.lt
theorem Cur.grown {w w1 : World} {b B0 : Nat} {row : Option Nat} (h : Cur w b B0) (hg : w.grownBy w1 row) (hr : ∀ k, row = some k → B0 ≤ k ∧ k ≠ b) : Cur w1 b B0 := by
  have hlt := h.lt
  obtain ⟨h0, A, N, c, i, x, ha, hi, hN, hk⟩ := h
  refine ⟨h0, A, N, c, i, x, (hg.block b hlt (fun e => (hr b e.symm).2 rfl)).trans ha, hi, hN, fun n hn => ?_⟩
  obtain ⟨B, off, u, e, hB, hc⟩ := hk n hn
  refine ⟨B, off, u, e, hB, ?_⟩
  rw [← hc]
  have := hg.block B (by omega) (fun e => by have := (hr B e.symm).1; omega)
  unfold World.cell?
  rw [this]
theorem Cur.below {w w1 : World} {b B0 : Nat} (h : Cur w b B0) (hg : Below w.heap.size w w1) : Cur w1 b B0 := h.grown (grown_below none hg) (fun k e => by cases e)
theorem Cur.set {w : World} {b B0 : Nat} {A : Option Addr} {N c : Nat} {i h : Int} (h0 : B0 ≤ b) (ha : Arr w b 80 #[.slice A N c, .int .i64 i, .int .i64 h]) (hN : N ≤ 140737488355328)
    (hk : ∀ n : Nat, n < N → ∃ B off u, A = some ⟨B, off, none⟩ ∧ B < B0 ∧ w.cell? ⟨B, off + n, none⟩ = some (.int .u8 u)) {w1 : World} (hg : w.grownBy w1 (some b)) {i1 h1 : Int} (hi : 0 ≤ i1) (h1a : Arr w1 b 80 #[.slice A N c, .int .i64 i1, .int .i64 h1]) : Cur w1 b B0 := by
  have hlt := ha.lt
  refine ⟨h0, A, N, c, i1, h1, h1a, hi, hN, fun n hn => ?_⟩
  obtain ⟨B, off, u, e, hB, hc⟩ := hk n hn
  refine ⟨B, off, u, e, hB, ?_⟩
  rw [← hc]
  have := hg.block B (by omega) (fun e => by injection e with e; omega)
  unfold World.cell?
  rw [this]
theorem gt_drew {w W : World} {r : Option Nat} (h : w.grownBy W r) : w.grownBy W.drew r := grown_trans h (grown_drew W r)
theorem gt_cell {w W : World} {b : Nat} (k : Nat) (v : Value) (h : w.grownBy W (some b)) : w.grownBy (W.setCell ⟨b, k, none⟩ v) (some b) := grown_trans h (grown_cell W b k v)
set_option maxHeartbeats 1000000 in
theorem spec_l01Byte (b B0 : Nat) (w : World) (HC : Cur w b B0) : Calls Try.prog 64 #[.pointer (some ⟨b, 0, none⟩)] w fun e w' => ∃ x : Int, e = .returned (.int .i64 x) ∧ 0 ≤ x ∧ x ≤ 255 ∧ Cur w' b B0 ∧ w.grownBy w' (some b) := by
  obtain ⟨h0, A, N, c, i, h, ha, hi, hN, hk⟩ := HC
  have hlt := ha.lt
  have c0 : w.cell? ⟨b, 0, none⟩ = some (.slice A N c) := ha.cell 0
  have c1 : w.cell? ⟨b, 1, none⟩ = some (.int .i64 i) := ha.cell 1
  have c2 : w.cell? ⟨b, 2, none⟩ = some (.int .i64 h) := ha.cell 2
  have f1 := ha.frozen 1
  have f2 := ha.frozen 2
  have HK := Lib.hid hk
  have HA := Lib.hid ha
  clear hk ha
  by_cases hl : i < N
  · obtain ⟨n, rfl⟩ : ∃ n : Nat, i = n := ⟨i.toNat, by omega⟩
    obtain ⟨B, off, u, rfl, hB, hx⟩ := HK.out n (by omega)
    have hne : B ≠ b := by omega
    go_enter Try.func64, Try.ntmps64
    go_wp2
    go_region
    go_wp2
    go_region
    go_wp2
    go_region
    go_wp2
    go_ret
    refine ⟨_, rfl, (and255 _).1, (and255 _).2, Cur.set h0 HA.out hN HK.out (i1 := (n : Int) + 1) ?_ (by omega) (by exact ((HA.out).set 2 _).set 1 _), ?_⟩
    all_goals (with_reducible repeat (first | exact World.grownBy.refl _ _ | apply gt_cell | apply gt_drew))
  · go_enter Try.func64, Try.ntmps64
    go_wp2
    go_region
    go_wp2
    go_region
    go_wp2
    go_ret
    refine ⟨_, rfl, (and255 _).1, (and255 _).2, Cur.set h0 HA.out hN HK.out (i1 := i) ?_ (by omega) (by exact (HA.out).set 2 _), ?_⟩
    all_goals (with_reducible repeat (first | exact World.grownBy.refl _ _ | apply gt_cell | apply gt_drew))
set_option maxHeartbeats 1000000 in
theorem spec_l01Below (b B0 : Nat) (n : Int) (w : World) (HC : Cur w b B0) (n0 : 0 < n) (n1 : n ≤ 1000000000) : Calls Try.prog 47 #[.pointer (some ⟨b, 0, none⟩), .int .i64 n] w fun e w' => ∃ x : Int, e = .returned (.int .i64 x) ∧ 0 ≤ x ∧ x < n ∧ Cur w' b B0 ∧ w.grownBy w' (some b) := by
  have HG : w.grownBy w (some b) := World.grownBy.refl _ _
  by_cases hl : n ≤ 256
  · go_enter Try.func47, Try.ntmps47
    go_wp2_with (go_at_call 64; refine (spec_l01Byte b B0 _ HC).mono ?_; rintro e w1 ⟨x, rfl, x0, x1, HC1, hg1⟩)
    go_ret
    exact ⟨_, rfl, Int.emod_nonneg _ (by omega), Int.emod_lt_of_pos _ n0, HC1, hg1⟩
  · go_enter Try.func47, Try.ntmps47
    go_wp2_with (go_at_call 64; refine (spec_l01Byte b B0 _ HC).mono ?_; rintro e w1 ⟨x, rfl, x0, x1, HC1, hg1⟩; replace HG := grown_trans HG hg1; replace HC := HC1)
    go_ret
    exact ⟨_, rfl, Int.emod_nonneg _ (by omega), Int.emod_lt_of_pos _ n0, HC, HG⟩
set_option maxHeartbeats 1000000 in
theorem spec_l01PickInt (b B0 g cap : Nat) (xs : List Int) (w : World) (HC : Cur w b B0) (hg : g ≠ b) (hlt : g < w.heap.size) (hx : ∀ k : Nat, k < xs.length → w.cell? ⟨g, k, none⟩ = some (.int .i64 (ri xs k))) (h0 : 0 < xs.length) (h1 : xs.length ≤ 1000) (hcap : xs.length ≤ cap) :
    Calls Try.prog 63 #[.pointer (some ⟨b, 0, none⟩), .slice (some ⟨g, 0, none⟩) xs.length cap] w fun e w' => ∃ j : Nat, j < xs.length ∧ e = .returned (.int .i64 (ri xs j)) ∧ Cur w' b B0 ∧ w.grownBy w' (some b) := by
  go_enter Try.func63, Try.ntmps63
  go_wp2_with (go_at_call 47; refine (spec_l01Below b B0 _ _ HC (by omega) (by omega)).mono ?_; rintro e w1 ⟨x, rfl, x0, x1, HC1, hg1⟩; obtain ⟨j, rfl⟩ : ∃ j : Nat, x = j := ⟨x.toNat, by omega⟩; have hxj := hg1.cell (hx j (by omega)) (by intro e; injection e with e; exact hg e))
  go_ret
  exact ⟨j, by omega, rfl, HC1, hg1⟩
theorem gt_alloc {w W : World} {r : Option Nat} (o : Obj) (h : w.grownBy W r) : w.grownBy (W.alloc o) r := grown_trans h (World.grownBy_alloc W o r)
theorem gt_own {w W : World} {r : Option Nat} {g : Nat} (k : Nat) (v : Value) (h : w.grownBy W r) (hg : w.heap.size ≤ g) : w.grownBy (W.setCell ⟨g, k, none⟩ v) r :=
  ⟨h.os, h.tape, h.output, Nat.le_trans h.size (KeepsWalks.setCell W _ v).size, fun j hj hne => (Below.heap_setCell W ⟨g, k, none⟩ v j (by show j ≠ g; omega)).trans (h.block j hj hne)⟩
theorem Cur.far {w : World} {b B0 g : Nat} (k : Nat) (v : Value) (h : Cur w b B0) (hg : b < g) : Cur (w.setCell ⟨g, k, none⟩ v) b B0 :=
  h.grown (grown_cell w g k v) (fun j e => by injection e with e; have := h.1; omega)
theorem ri_pick (j : Nat) (h : j < 6) : 1 ≤ ri [1, 2, 2, 3, 3, 4] j ∧ ri [1, 2, 2, 3, 3, 4] j ≤ 4 := by
  rcases (by omega : j = 0 ∨ j = 1 ∨ j = 2 ∨ j = 3 ∨ j = 4 ∨ j = 5) with rfl | rfl | rfl | rfl | rfl | rfl <;> decide
theorem cells_pick (W : World) (g : Nat) (hg : g = W.heap.size) (k : Nat) (h : k < 6) : (W.alloc (.cells #[.int .i64 1, .int .i64 2, .int .i64 2, .int .i64 3, .int .i64 3, .int .i64 4] 3)).cell? ⟨g, k, none⟩ = some (.int .i64 (ri [1, 2, 2, 3, 3, 4] k)) := by
  rw [(Box.new W g _ 3 hg).get k]
  rcases (by omega : k = 0 ∨ k = 1 ∨ k = 2 ∨ k = 3 ∨ k = 4 ∨ k = 5) with rfl | rfl | rfl | rfl | rfl | rfl <;> rfl
set_option maxHeartbeats 1000000 in
theorem spec_l02Grid (b B0 : Nat) (w : World) (HC : Cur w b B0) : Calls Try.prog 45 #[.pointer (some ⟨b, 0, none⟩)] w fun e w' => ∃ g : Grid, e = .returned (.agg #[.int .i64 g.w, .int .i64 g.h]) ∧ 1 ≤ g.w ∧ g.w ≤ 4 ∧ 1 ≤ g.h ∧ g.h ≤ 4 ∧ Cur w' b B0 ∧ w.grownBy w' (some b) := by
  have hb := HC.lt
  go_enter Try.func45, Try.ntmps45
  go_wp2_with (first
    | (go_at_call 63; have HR2 := HR1; refine (spec_l01PickInt b B0 _ 6 [1, 2, 2, 3, 3, 4] _ (HC.below (by with_reducible repeat (first | assumption | exact bw_refl _ | apply bw_alloc | apply bw_drew | apply bw_drewN | refine bw_set _ ?_ (by omega) | refine bw_then ?_ (by assumption)))) (by omega) (by simp only [World.size_alloc, World.size_setCell, World.size_drew, sz_drewN]; omega) (fun k h => cells_pick _ _ (by simp only [World.size_alloc, World.size_setCell, World.size_drew, sz_drewN]) k h) (by decide) (by decide) (by decide)).mono ?_; rintro e w2 ⟨j2, hj2, rfl, HC2, hg2⟩; obtain ⟨p3, p4⟩ := ri_pick j2 hj2; have hz2 := hg2.size; simp only [World.size_alloc, World.size_setCell, World.size_drew, sz_drewN] at hz2; have HR3 : Arr w2 w.heap.size 25 #[.int .i64 0, .int .i64 0] := (hg2.block _ (by simp only [World.size_alloc, World.size_setCell, World.size_drew, sz_drewN]; omega) (by intro e; injection e with e; omega)).trans (HR2.below (bw_alloc _ (bw_refl _))); have x0 : w2.cell? ⟨w.heap.size, 0, none⟩ = some (.int .i64 0) := HR3.cell 0; have x1 : w2.cell? ⟨w.heap.size, 1, none⟩ = some (.int .i64 0) := HR3.cell 1; have x2 := HR3.frozen 0; have x3 := HR3.frozen 1)
    | (go_at_call 63; refine (spec_l01PickInt b B0 _ 6 [1, 2, 2, 3, 3, 4] _ (HC.below (by with_reducible repeat (first | assumption | exact bw_refl _ | apply bw_alloc | apply bw_drew | apply bw_drewN | refine bw_set _ ?_ (by omega) | refine bw_then ?_ (by assumption)))) (by omega) (by simp only [World.size_alloc, World.size_setCell, World.size_drew, sz_drewN]; omega) (fun k h => cells_pick _ _ (by simp only [World.size_alloc, World.size_setCell, World.size_drew, sz_drewN]) k h) (by decide) (by decide) (by decide)).mono ?_; rintro e w1 ⟨j1, hj1, rfl, HC1, hg1⟩; obtain ⟨p1, p2⟩ := ri_pick j1 hj1; have hz1 := hg1.size; simp only [World.size_alloc, World.size_setCell, World.size_drew, sz_drewN] at hz1; have HR1 : Arr w1 w.heap.size 25 #[.int .i64 0, .int .i64 0] := (hg1.block _ (by simp only [World.size_alloc, World.size_setCell, World.size_drew, sz_drewN]; omega) (by intro e; injection e with e; omega)).trans ((Arr.new w w.heap.size 25 #[.int .i64 0, .int .i64 0] rfl).below (bw_alloc _ (bw_refl _))); replace HC := HC1))
  have e1 : w.grownBy w2 (some b) := grown_trans (grown_trans (gt_alloc _ (gt_alloc _ (World.grownBy.refl _ _))) hg1) (grown_trans (gt_alloc _ (World.grownBy.refl _ _)) hg2)
  refine bodyPost_ret (v := .agg #[.int .i64 (ri [1, 2, 2, 3, 3, 4] j1), .int .i64 (ri [1, 2, 2, 3, 3, 4] j2)]) (by simp [results, Try.results45, go_sem, *]) rfl ?_
  refine ⟨⟨_, _⟩, rfl, p1, p2, p3, p4, Cur.far _ _ (Cur.far _ _ HC2 hb) hb, gt_own _ _ (gt_own _ _ e1 (Nat.le_refl _)) (Nat.le_refl _)⟩
/-- Bytes that lie in a world. -/
def Byt (w : World) (A : Option Addr) (N : Nat) : Prop := N ≤ 140737488355328 ∧ ∀ n : Nat, n < N → ∃ B off u, A = some ⟨B, off, none⟩ ∧ B < w.heap.size ∧ w.cell? ⟨B, off + n, none⟩ = some (.int .u8 u)
theorem Byt.below {w w1 : World} {A : Option Addr} {N : Nat} (h : Byt w A N) (hb : Below w.heap.size w w1) : Byt w1 A N :=
  ⟨h.1, fun n hn => by
    obtain ⟨B, off, u, e, hB, hc⟩ := h.2 n hn
    exact ⟨B, off, u, e, Nat.lt_of_lt_of_le hB hb.size, ((bcell hb).1 B _ hB).trans hc⟩⟩
theorem cur_new {w : World} {A : Option Addr} {N : Nat} (c : Nat) (x : Int) (h : Byt w A N) : Cur (w.alloc (.cells #[.slice A N c, .int .i64 0, .int .i64 x] 80)) w.heap.size w.heap.size :=
  ⟨Nat.le_refl _, A, N, c, 0, x, Arr.new w _ _ _ rfl, by omega, h.1, fun n hn => by
    obtain ⟨B, off, u, e, hB, hc⟩ := h.2 n hn
    exact ⟨B, off, u, e, hB, ((bcell (bw_alloc _ (bw_refl w))).1 B _ hB).trans hc⟩⟩
set_option maxHeartbeats 1000000 in
theorem spec_l01New (A : Option Addr) (N c : Nat) (w : World) (HX : Byt w A N) : Calls Try.prog 46 #[.slice A N c] w fun e w' => ∃ b, e = .returned (.pointer (some ⟨b, 0, none⟩)) ∧ w.heap.size ≤ b ∧ Cur w' b w.heap.size ∧ Below w.heap.size w w' := by
  have hN := HX.1
  go_enter Try.func46, Try.ntmps46
  go_wp2
  go_loop [3, 4] (fun h i => ∃ (k : Nat) (x : Int), i = .int .i64 k ∧ h = .int .i64 x ∧ k ≤ N) (fun _ i => N - (intOf i).toNat)
  case atStart => exact ⟨0, _, rfl, rfl, Nat.zero_le _⟩
  case round =>
    obtain ⟨k, x, rfl, rfl, hk⟩ := hrel
    by_cases hlt : k < N
    · obtain ⟨B, off, u, rfl, hB, hc⟩ := HX.2 k hlt
      have i0 : (k : Int) < (N : Int) := by omega
      by_cases h4 : (k : Int) < 4000
      · go_wp2
        go_round
        case rel => exact ⟨k + 1, _, by go_num, rfl, by omega⟩
        case measure => simp [intOf]; omega
      · go_wp2
        go_ret
        exact ⟨_, rfl, Nat.le_refl _, cur_new _ _ HX, (by with_reducible repeat (first | assumption | exact bw_refl _ | apply bw_alloc | apply bw_drew | apply bw_drewN | refine bw_set _ ?_ (by omega) | refine bw_then ?_ (by assumption)))⟩
    · go_wp2
      go_ret
      exact ⟨_, rfl, Nat.le_refl _, cur_new _ _ HX, (by with_reducible repeat (first | assumption | exact bw_refl _ | apply bw_alloc | apply bw_drew | apply bw_drewN | refine bw_set _ ?_ (by omega) | refine bw_then ?_ (by assumption)))⟩
theorem bw_cur {w W W1 : World} {b : Nat} (h : Below w.heap.size w W) (hg : W.grownBy W1 (some b)) (hb : w.heap.size ≤ b) : Below w.heap.size w W1 :=
  h.grown hg h.size (fun k hk => by injection hk with hk; omega)
set_option maxHeartbeats 1000000 in
theorem spec_DrawGrid (A : Option Addr) (N c : Nat) (w : World) (HX : Byt w A N) : Calls Try.prog 18 #[.slice A N c] w fun e w' => ∃ g : Grid, e = .returned (.agg #[.int .i64 g.w, .int .i64 g.h]) ∧ 1 ≤ g.w ∧ g.w ≤ 4 ∧ 1 ≤ g.h ∧ g.h ≤ 4 ∧ Below w.heap.size w w' := by
  go_enter Try.func18, Try.ntmps18
  go_wp2_with (first
    | (go_at_call 46; refine (spec_l01New A N c _ (HX.below (by with_reducible repeat (first | assumption | exact bw_refl _ | apply bw_alloc | apply bw_drew | apply bw_drewN | refine bw_set _ ?_ (by omega) | refine bw_then ?_ (by assumption))))).mono ?_; rintro e w1 ⟨b, rfl, hb, HC1, hb1⟩; have hz1 := hb1.size; simp only [World.size_alloc, World.size_setCell, World.size_drew, sz_drewN] at hz1 hb; have HR1 : Arr w1 w.heap.size 25 #[.int .i64 0, .int .i64 0] := (Arr.new w w.heap.size 25 #[.int .i64 0, .int .i64 0] rfl).below hb1)
    | (go_at_call 45; refine (spec_l02Grid b _ _ HC1).mono ?_; rintro e w2 ⟨g, rfl, p1, p2, p3, p4, HC2, hg2⟩; have hz2 := hg2.size; have HR2 : Arr w2 w.heap.size 25 #[.int .i64 0, .int .i64 0] := (hg2.block _ (by omega) (by intro e; injection e with e; omega)).trans HR1; have x0 : w2.cell? ⟨w.heap.size, 0, none⟩ = some (.int .i64 0) := HR2.cell 0; have x1 : w2.cell? ⟨w.heap.size, 1, none⟩ = some (.int .i64 0) := HR2.cell 1; have x2 := HR2.frozen 0; have x3 := HR2.frozen 1))
  have e1 : Below w.heap.size w w2 := bw_cur (bw_then (bw_alloc _ (bw_refl w)) hb1) hg2 (by omega)
  refine bodyPost_ret (v := .agg #[.int .i64 g.w, .int .i64 g.h]) (by simp [results, Try.results18, go_sem, *]) rfl ?_
  exact ⟨g, rfl, p1, p2, p3, p4, bw_set _ (bw_set _ e1 (Nat.le_refl _)) (Nat.le_refl _)⟩
end Go.Proofs.Ytglajejmnhmcfaa
