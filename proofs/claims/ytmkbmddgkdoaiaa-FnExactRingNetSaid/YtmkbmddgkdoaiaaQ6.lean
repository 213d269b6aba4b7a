/- Lemmas for laws of this seat, for all inputs: CpN MR MG St StG NetOkI ReqI ReqJ. -/
import Derived.Test.YtmkbmddgkdoaiaaQ5
import Derived.Test.YtmkbmddgkdoaiaaQ3
import Derived.Test.YtmkbmddgkdoaiaaQ4
import Derived.IntWalk
set_option linter.unusedVariables false
set_option linter.unusedSimpArgs false
namespace Go.Proofs.Ytmkbmddgkdoaiaa
open Go.RowKit Go.Proofs.YtmkbmddgkdoaiaaW.PrintWords
open NoC
def GotNX (w w' : World) (n : Net) (e : Ending) : Prop := ∃ q v4 v7 v8, e = .returned (.agg (netCells n q)) ∧ NX w' w.heap.size n q v4 v7 v8
theorem own_within {w : World} {base e sz n : Nat} {v : Value} {xs : List Value} (h : w.ownsRow base e sz v n xs) : Within v base w.heap.size := fun k hk => ⟨own_base h k hk, own_lt h k hk⟩
theorem FR.append {w : World} {lo : Nat} {vs us : List Value} {l m : List (List Flit)} (h : FR w lo vs l) (k : FR w lo us m) (ha : ∀ i j : Nat, i < l.length → j < m.length → Apart (vr vs i) (vr us j)) : FR w lo (vs ++ us) (l ++ m) := by
  have hl := h.len
  have e1 : ∀ i : Nat, i < l.length → vr (vs ++ us) i = vr vs i := fun i hi => vr_left (by omega)
  have e2 : ∀ i : Nat, vr (vs ++ us) (l.length + i) = vr us i := fun i => by rw [← hl]; exact vr_right
  refine ⟨by simp [hl, k.len], fun i hi => ?_, fun i j hij hj => ?_⟩
  · rw [List.length_append] at hi
    by_cases e : i < l.length
    · rw [e1 i e, rl_left e]
      exact h.row i e
    · obtain ⟨d, rfl⟩ : ∃ d, i = l.length + d := ⟨i - l.length, by omega⟩
      rw [e2, rl_right]
      exact k.row d (by omega)
  · rw [List.length_append] at hj
    by_cases e : j < l.length
    · rw [e1 i (by omega), e1 j e]
      exact h.ap i j hij e
    · obtain ⟨d, rfl⟩ : ∃ d, j = l.length + d := ⟨j - l.length, by omega⟩
      rw [e2]
      by_cases e3 : i < l.length
      · rw [e1 i e3]
        exact ha i d e3 (by omega)
      · obtain ⟨c, rfl⟩ : ∃ c, i = l.length + c := ⟨i - l.length, by omega⟩
        rw [e2]
        exact k.ap c d (by omega) (by omega)
theorem FR.set {w : World} {lo : Nat} {vs : List Value} {l : List (List Flit)} (h : FR w lo vs l) {g : Nat} (hg : g < lo) (j : Nat) (u : Value) : FR (w.setCell ⟨g, j, none⟩ u) lo vs l :=
  ⟨h.len, fun i hi => R_off (h.row i hi) hg j u, h.ap⟩
theorem all5 {v0 v1 v2 v3 v4 : Value} (h01 : Ap0 v0 v1) (h02 : Ap0 v0 v2) (h03 : Ap0 v0 v3) (h04 : Ap0 v0 v4) (h12 : Ap0 v1 v2) (h13 : Ap0 v1 v3) (h14 : Ap0 v1 v4) (h23 : Ap0 v2 v3) (h24 : Ap0 v2 v4) (h34 : Ap0 v3 v4) : AllAp0 5 [v0, v1, v2, v3, v4] := by
  intro i j hij hj
  rcases (by omega : j = 1 ∨ j = 2 ∨ j = 3 ∨ j = 4) with rfl | rfl | rfl | rfl
  · obtain rfl : i = 0 := by omega
    exact h01
  · rcases (by omega : i = 0 ∨ i = 1) with rfl | rfl
    · exact h02
    · exact h12
  · rcases (by omega : i = 0 ∨ i = 1 ∨ i = 2) with rfl | rfl | rfl
    · exact h03
    · exact h13
    · exact h23
  · rcases (by omega : i = 0 ∨ i = 1 ∨ i = 2 ∨ i = 3) with rfl | rfl | rfl | rfl
    · exact h04
    · exact h14
    · exact h24
    · exact h34
theorem all3 {v0 v1 v2 : Value} (h01 : Apart v0 v1) (h02 : Apart v0 v2) (h12 : Apart v1 v2) : AllAp 3 [v0, v1, v2] := by
  intro i j hij hj
  rcases (by omega : j = 1 ∨ j = 2) with rfl | rfl
  · obtain rfl : i = 0 := by omega
    exact h01
  · rcases (by omega : i = 0 ∨ i = 1) with rfl | rfl
    · exact h02
    · exact h12
theorem NX.off {w : World} {lo : Nat} {n : Net} {q : NA} {v4 v7 v8 : List Value} (h : NX w lo n q v4 v7 v8) {g : Nat} (hg : g < lo) (j : Nat) (u : Value) : NX (w.setCell ⟨g, j, none⟩ u) lo n q v4 v7 v8 := by
  have ne : ∀ {e m : Nat} {v : Value} {xs : List Value}, w.ownsRow lo e 1 v m xs → some g ≠ v.ownBlock := fun ho e => by
    have := own_base ho g e.symm
    omega
  exact ⟨R_off h.br hg j u, R_off h.pa hg j u, R_off h.pb hg j u, R_off h.owners hg j u, R_off h.turns hg j u, own_setCell h.bufs (p := ⟨g, j, none⟩) (ne h.bufs) u, own_setCell h.srcs (p := ⟨g, j, none⟩) (ne h.srcs) u, own_setCell h.arrs (p := ⟨g, j, none⟩) (ne h.arrs) u, h.rows.set hg j u, h.apI, h.apO⟩
structure OXU (w : World) (lo hi : Nat) (v : Value) (l : List (List Flit)) (vs : List Value) : Prop where
  own : w.ownsRow lo 67 1 v l.length vs
  top : Within v lo hi
  rows : FR w lo vs l
  wit : ∀ i : Nat, i < l.length → Within (vr vs i) lo hi
theorem OXU.stp {w w1 : World} {lo hi : Nat} {v : Value} {l : List (List Flit)} {vs : List Value} (h : OXU w lo hi v l vs) (hs : Stp w w1) : OXU w1 lo hi v l vs := ⟨pw_own_below h.own hs.h, h.top, h.rows.below hs.h, h.wit⟩
structure PX where
  A : Option Addr
  c : Nat
  A2 : Option Addr
  c2 : Nat
  vs : List Value
  lo : Nat
  hi : Nat
def PX.mk0 (A : Option Addr) (c lo hi : Nat) : PX := ⟨A, c, none, 0, [], lo, hi⟩
def gI (p : Nat) (y : PX) (xs : List Int) (w : World) : Prop := p ≤ y.lo ∧ y.lo ≤ y.hi ∧ y.hi ≤ w.heap.size ∧ RU (Kd.int .i64) 3 w y.lo y.hi (.slice y.A xs.length y.c) xs
def gC (p : Nat) (y : PX) (xs ys : List Int) (w : World) : Prop := p ≤ y.lo ∧ y.lo ≤ y.hi ∧ y.hi ≤ w.heap.size ∧ RU (Kd.int .i64) 3 w y.lo y.hi (.slice y.A xs.length y.c) xs ∧ RU (Kd.int .i64) 3 w y.lo y.hi (.slice y.A2 ys.length y.c2) ys ∧ Apart (.slice y.A xs.length y.c) (.slice y.A2 ys.length y.c2)
def gL (p : Nat) (y : PX) (l : List (List Flit)) (w : World) : Prop := p ≤ y.lo ∧ y.lo ≤ y.hi ∧ y.hi ≤ w.heap.size ∧ OXU w y.lo y.hi (.slice y.A l.length y.c) l y.vs
def gA (B p : Nat) (y : PX) (xs : List Int) (w : World) : Prop := p ≤ y.lo ∧ y.lo ≤ y.hi ∧ y.hi ≤ w.heap.size ∧ Kd.R (Kd.int .i64) 3 w B (fun _ => True) (.slice y.A xs.length y.c) xs ∧ (xs.length = 0 ∨ Within (.slice y.A xs.length y.c) y.lo y.hi)
theorem gI.stp {p : Nat} {y : PX} {xs : List Int} {w w1 : World} (h : gI p y xs w) (hs : Stp w w1) : gI p y xs w1 := ⟨h.1, h.2.1, Nat.le_trans h.2.2.1 hs.h.size, h.2.2.2.below hs.h⟩
theorem gC.stp {p : Nat} {y : PX} {xs ys : List Int} {w w1 : World} (h : gC p y xs ys w) (hs : Stp w w1) : gC p y xs ys w1 := ⟨h.1, h.2.1, Nat.le_trans h.2.2.1 hs.h.size, h.2.2.2.1.below hs.h, h.2.2.2.2.1.below hs.h, h.2.2.2.2.2⟩
theorem gL.stp {p : Nat} {y : PX} {l : List (List Flit)} {w w1 : World} (h : gL p y l w) (hs : Stp w w1) : gL p y l w1 := ⟨h.1, h.2.1, Nat.le_trans h.2.2.1 hs.h.size, h.2.2.2.stp hs⟩
theorem gA.stp {B p : Nat} {y : PX} {xs : List Int} {w w1 : World} (h : gA B p y xs w) (hs : Stp w w1) : gA B p y xs w1 := ⟨h.1, h.2.1, Nat.le_trans h.2.2.1 hs.h.size, Kd.R_below h.2.2.2.1 hs.h, h.2.2.2.2⟩
theorem ap0_of {u v : Value} (h : Apart u v) : Ap0 u v := .inr (.inr h)
theorem NX.parts {w : World} {B : Nat} {n : Net} {ym yc yb yo yt ys ya : PX} (hm : gI B ym n.mesh.br w) (hc : gC ym.hi yc n.pa n.pb w) (hb : gL yc.hi yb n.bufs w) (ho : gA B yb.hi yo n.owners w) (ht : gA B yo.hi yt n.turns w) (hs : gL yt.hi ys n.srcs w) (ha : gL ys.hi ya n.arrs w) :
    NX w B n ⟨ym.A, yc.A, yc.A2, yb.A, yo.A, yt.A, ys.A, ya.A, ym.c, yc.c, yc.c2, yb.c, yo.c, yt.c, ys.c, ya.c⟩ yb.vs ys.vs ya.vs := by
  obtain ⟨m1, m2, m3, m4⟩ := hm
  obtain ⟨c1, c2, c3, c4, c5, c6⟩ := hc
  obtain ⟨b1, b2, b3, b4⟩ := hb
  obtain ⟨o1, o2, o3, o4, o5⟩ := ho
  obtain ⟨t1, t2, t3, t4, t5⟩ := ht
  obtain ⟨s1, s2, s3, s4⟩ := hs
  obtain ⟨a1, a2, a3, a4⟩ := ha
  have hW : ∀ {v : Value} {p q r s : Nat} {u : Value} {k : Nat}, Within u p q → (k = 0 ∨ Within v r s) → q ≤ r → vlen v = k → Ap0 u v := fun h1 h2 h3 h4 => by
    rcases h2 with h2 | h2
    · exact .inr (.inl (h4.trans h2))
    · exact .inr (.inr (apart_lt h1 h2 h3))
  refine ⟨Kd.R_lower m4.row m1, Kd.R_lower c4.row (by omega), Kd.R_lower c5.row (by omega), o4, t4, own_weaken b4.own (by omega), own_weaken s4.own (by omega), own_weaken a4.own (by omega), ?_, ?_, ?_⟩
  · refine (b4.rows.lower (by omega)).append ((s4.rows.lower (by omega)).append (a4.rows.lower (by omega)) (fun i j hi hj => apart_lt (s4.wit i hi) (a4.wit j hj) a1)) (fun i j hi hj => ?_)
    rw [List.length_append] at hj
    by_cases e : j < n.srcs.length
    · rw [vr_left (by rw [s4.rows.len]; exact e)]
      exact apart_lt (b4.wit i hi) (s4.wit j e) (by omega)
    · obtain ⟨d, rfl⟩ : ∃ d, j = n.srcs.length + d := ⟨j - n.srcs.length, by omega⟩
      rw [← s4.rows.len, vr_right]
      exact apart_lt (b4.wit i hi) (a4.wit d (by omega)) (by omega)
  · refine all5 (ap0_of (apart_lt m4.within c4.within c1)) (ap0_of (apart_lt m4.within c5.within c1)) (hW m4.within o5 (by omega) rfl) (hW m4.within t5 (by omega) rfl) (ap0_of c6) (hW c4.within o5 (by omega) rfl) (hW c4.within t5 (by omega) rfl) (hW c5.within o5 (by omega) rfl) (hW c5.within t5 (by omega) rfl) ?_
    rcases o5 with o5 | o5
    · exact .inl o5
    · exact hW o5 t5 (by omega) rfl
  · exact all3 (apart_lt b4.top s4.top (by omega)) (apart_lt b4.top a4.top (by omega)) (apart_lt s4.top a4.top (by omega))
theorem gA.of {B p g : Nat} {w w1 : World} {v1 : Value} {A : Option Addr} {c : Nat} {xs : List Int} (hp : p ≤ w.heap.size) (hr : Kd.R (Kd.int .i64) 3 w1 B (fun _ => True) v1 xs) (hv : v1 = .slice A xs.length c) (hb : Below w.heap.size w w1) (ha : At2 g w.heap.size w1.heap.size v1) (hg : g < w.heap.size) (hL : Lit 3 w g) : gA B p (PX.mk0 A c w.heap.size w1.heap.size) xs w1 := by
  subst hv
  refine ⟨hp, hb.size, Nat.le_refl _, hr, ?_⟩
  by_cases h0 : xs.length = 0
  · exact .inl h0
  · right
    intro k hk
    rcases ha k hk with e | e
    · exfalso
      subst e
      obtain ⟨inner, hin⟩ := Kd.R_own hr
      obtain ⟨g', cap, e1, h1, h2⟩ := hin.form (by omega)
      have hk2 : (Value.slice A xs.length c).ownBlock = some k := hk
      rw [e1] at hk2
      have e2 : g' = k := Option.some.inj hk2
      subst e2
      rcases hin.2 with ⟨_, e3⟩ | ⟨g'', cap', cur, e3, h4, h5, h6, h7, h8, h9⟩
      · omega
      · rw [e1] at e3
        injection e3 with e4 e5 e6
        injection e4 with e4
        injection e4 with e4
        subst e4
        have hc2 := hb.block g' hg
        rw [h5] at hc2
        unfold Lit at hL
        rw [hL] at hc2
        have hc3 := Obj.cells.inj (Option.some.inj hc2)
        rw [hc3.1] at h8
        have h11 : (0 : Nat) = cap' * 1 := h8
        omega
    · exact e
set_option maxHeartbeats 8000000 in
set_option maxRecDepth 100000 in
theorem impl_copyNet (n : Net) (q : NA) (w : World) (hr : NetR 77 w n q) : Calls Try.prog 39 #[.agg (netCells n q)] w fun e w' => GotNX w w' n e ∧ Below w.heap.size w w' := by
 have R := Lib.hid hr
 clear hr
 obtain ⟨a1, a2, a3, a4, a5, a6, a7, a8, c1, c2, c3, c4, c5, c6, c7, c8⟩ := q
 dsimp only [netCells]
 have hX : ∀ W, Stp ((w.alloc (.cells #[.int .i64 n.mesh.g.w, .int .i64 n.mesh.g.h, .slice a1 n.mesh.br.length c1, .slice a2 n.pa.length c2, .slice a3 n.pb.length c3, .slice a4 n.bufs.length c4, .slice a5 n.owners.length c5, .slice a6 n.turns.length c6, .slice a7 n.srcs.length c7, .slice a8 n.arrs.length c8, .int .i64 n.time] 33)).alloc (.cells #[.int .i64 0, .int .i64 0, .slice none 0 0, .slice none 0 0, .slice none 0 0, .slice none 0 0, .slice none 0 0, .slice none 0 0, .slice none 0 0, .slice none 0 0, .int .i64 0] 33)) W → W.cell? ⟨w.heap.size, 0, none⟩ = some (.int .i64 n.mesh.g.w) ∧ W.cell? ⟨w.heap.size, 1, none⟩ = some (.int .i64 n.mesh.g.h) ∧ W.cell? ⟨w.heap.size, 2, none⟩ = some (.slice a1 n.mesh.br.length c1) ∧ W.cell? ⟨w.heap.size, 3, none⟩ = some (.slice a2 n.pa.length c2) ∧ W.cell? ⟨w.heap.size, 4, none⟩ = some (.slice a3 n.pb.length c3) ∧ W.cell? ⟨w.heap.size, 5, none⟩ = some (.slice a4 n.bufs.length c4) ∧ W.cell? ⟨w.heap.size, 6, none⟩ = some (.slice a5 n.owners.length c5) ∧ W.cell? ⟨w.heap.size, 7, none⟩ = some (.slice a6 n.turns.length c6) ∧ W.cell? ⟨w.heap.size, 8, none⟩ = some (.slice a7 n.srcs.length c7) ∧ W.cell? ⟨w.heap.size, 9, none⟩ = some (.slice a8 n.arrs.length c8) ∧ W.cell? ⟨w.heap.size, 10, none⟩ = some (.int .i64 n.time) := by
  intro W hW
  have hb := ((Box.new w w.heap.size #[.int .i64 n.mesh.g.w, .int .i64 n.mesh.g.h, .slice a1 n.mesh.br.length c1, .slice a2 n.pa.length c2, .slice a3 n.pb.length c3, .slice a4 n.bufs.length c4, .slice a5 n.owners.length c5, .slice a6 n.turns.length c6, .slice a7 n.srcs.length c7, .slice a8 n.arrs.length c8, .int .i64 n.time] 33 rfl).alloc (.cells #[.int .i64 0, .int .i64 0, .slice none 0 0, .slice none 0 0, .slice none 0 0, .slice none 0 0, .slice none 0 0, .slice none 0 0, .slice none 0 0, .slice none 0 0, .int .i64 0] 33)).below hW.h
  exact ⟨hb.get 0, hb.get 1, hb.get 2, hb.get 3, hb.get 4, hb.get 5, hb.get 6, hb.get 7, hb.get 8, hb.get 9, hb.get 10⟩
 have hRW : ∀ W, Stp ((w.alloc (.cells #[.int .i64 n.mesh.g.w, .int .i64 n.mesh.g.h, .slice a1 n.mesh.br.length c1, .slice a2 n.pa.length c2, .slice a3 n.pb.length c3, .slice a4 n.bufs.length c4, .slice a5 n.owners.length c5, .slice a6 n.turns.length c6, .slice a7 n.srcs.length c7, .slice a8 n.arrs.length c8, .int .i64 n.time] 33)).alloc (.cells #[.int .i64 0, .int .i64 0, .slice none 0 0, .slice none 0 0, .slice none 0 0, .slice none 0 0, .slice none 0 0, .slice none 0 0, .slice none 0 0, .slice none 0 0, .int .i64 0] 33)) W → NetR 77 W n ⟨a1, a2, a3, a4, a5, a6, a7, a8, c1, c2, c3, c4, c5, c6, c7, c8⟩ := fun W hW => R.out.below (bw_then (bw_alloc _ (bw_alloc _ (bw_refl w))) hW.h)
 have HX := Lib.hid hX
 have HR := Lib.hid hRW
 clear hX hRW
 go_enter Try.func39, Try.ntmps39
 go_wp2_with fail
 refine wp_region_lo (((w.alloc (.cells #[.int .i64 n.mesh.g.w, .int .i64 n.mesh.g.h, .slice a1 n.mesh.br.length c1, .slice a2 n.pa.length c2, .slice a3 n.pb.length c3, .slice a4 n.bufs.length c4, .slice a5 n.owners.length c5, .slice a6 n.turns.length c6, .slice a7 n.srcs.length c7, .slice a8 n.arrs.length c8, .int .i64 n.time] 33)).alloc (.cells #[.int .i64 0, .int .i64 0, .slice none 0 0, .slice none 0 0, .slice none 0 0, .slice none 0 0, .slice none 0 0, .slice none 0 0, .slice none 0 0, .slice none 0 0, .int .i64 0] 33))).heap.size (Stp (((w.alloc (.cells #[.int .i64 n.mesh.g.w, .int .i64 n.mesh.g.h, .slice a1 n.mesh.br.length c1, .slice a2 n.pa.length c2, .slice a3 n.pb.length c3, .slice a4 n.bufs.length c4, .slice a5 n.owners.length c5, .slice a6 n.turns.length c6, .slice a7 n.srcs.length c7, .slice a8 n.arrs.length c8, .int .i64 n.time] 33)).alloc (.cells #[.int .i64 0, .int .i64 0, .slice none 0 0, .slice none 0 0, .slice none 0 0, .slice none 0 0, .slice none 0 0, .slice none 0 0, .slice none 0 0, .slice none 0 0, .int .i64 0] 33)))) (fun _ => 3) (fun i => [.pointer (some ⟨w.heap.size, 0, none⟩), .agg #[.int .i64 n.mesh.g.w, .int .i64 n.mesh.g.h, .slice a1 n.mesh.br.length c1], .int .i64 0, .pointer (some ⟨w.heap.size, 3, none⟩), .agg #[.slice a2 n.pa.length c2, .slice a3 n.pb.length c3], .int .i64 0, .pointer (some ⟨w.heap.size, 5, none⟩), .slice a4 n.bufs.length c4, .int .i64 0, .int .i64 0, .pointer (some ⟨w.heap.size, 6, none⟩), .slice a5 n.owners.length c5, .int .i64 0, .int .i64 0, .pointer (some ⟨w.heap.size, 7, none⟩), .slice a6 n.turns.length c6, .int .i64 0, .pointer (some ⟨w.heap.size, 8, none⟩), .slice a7 n.srcs.length c7, .int .i64 0, .pointer (some ⟨w.heap.size, 9, none⟩), .slice a8 n.arrs.length c8, .int .i64 0, .pointer (some ⟨w.heap.size, 10, none⟩), .int .i64 n.time, .int .i64 0].getD i undef) 26 [(0, .quiet), (1, .quiet), (2, .chain), (3, .quiet), (4, .quiet), (5, .chain), (6, .quiet), (7, .quiet), (8, .chain), (9, .lit), (10, .quiet), (11, .quiet), (12, .chain), (13, .lit), (14, .quiet), (15, .quiet), (16, .chain), (17, .quiet), (18, .quiet), (19, .chain), (20, .quiet), (21, .quiet), (22, .chain), (23, .quiet), (24, .quiet), (25, .chain)] (by kernel_rfl) (by kernel_rfl) (by kernel_rfl) (by kernel_rfl) (by kernel_rfl) (by kernel_rfl) (by kernel_rfl) (by kernel_rfl) (fun W h => h.h.size) (fun W W' h h' => stp_then h h') (stp_drew (stp_refl _)) ?_
 refine wpLo_q (some 3) rfl rfl (by rfl) (fun W hC => ?_) ?_
 ·obtain ⟨x0, x1, x2, x3, x4, x5, x6, x7, x8, x9, x10⟩ := HX.out W hC
  go_simp
  try rfl
 try simp only [Act.put, nms]
 refine wpLo_q (some 4) rfl rfl (by rfl) (fun W hC => ?_) ?_
 ·obtain ⟨x0, x1, x2, x3, x4, x5, x6, x7, x8, x9, x10⟩ := HX.out W hC
  go_simp
  try rfl
 try simp only [Act.put, nms]
 refine wpLo_c (some 5) rfl rfl (by rfl) (PX.mk0 none 0 0 0) (fun y => .agg #[.int .i64 n.mesh.g.w, .int .i64 n.mesh.g.h, .slice y.A n.mesh.br.length y.c]) (fun y W => gI (((w.alloc (.cells #[.int .i64 n.mesh.g.w, .int .i64 n.mesh.g.h, .slice a1 n.mesh.br.length c1, .slice a2 n.pa.length c2, .slice a3 n.pb.length c3, .slice a4 n.bufs.length c4, .slice a5 n.owners.length c5, .slice a6 n.turns.length c6, .slice a7 n.srcs.length c7, .slice a8 n.arrs.length c8, .int .i64 n.time] 33)).alloc (.cells #[.int .i64 0, .int .i64 0, .slice none 0 0, .slice none 0 0, .slice none 0 0, .slice none 0 0, .slice none 0 0, .slice none 0 0, .slice none 0 0, .slice none 0 0, .int .i64 0] 33))).heap.size y n.mesh.br W) (fun y W W' h h' => h.stp h') (fun W hF hC => ?_) (fun ym => ?_)
 ·refine LoOp.enter (by go_simp; first | done | exact ⟨rfl, rfl⟩ | rfl) ?_
  refine (impl_copyMesh n.mesh a1 c1 W (HR.out W hC).br (HR.out W hC).h1).mono ?_
  rintro e W1 ⟨hg1, hb1⟩
  obtain ⟨v, rfl, hO⟩ := hg1
  obtain ⟨A, c, rfl⟩ := Kd.R_slice hO
  exact ⟨_, rfl, PX.mk0 A c W.heap.size W1.heap.size, rfl, ⟨hb1⟩, hC.h.size, hb1.size, Nat.le_refl _, RU.of hO (Nat.le_refl _) (Nat.le_refl _)⟩
 try simp only [Act.put, nms]
 refine wpLo_q (some 6) rfl rfl (by rfl) (fun W hC => ?_) ?_
 ·obtain ⟨x0, x1, x2, x3, x4, x5, x6, x7, x8, x9, x10⟩ := HX.out W hC
  go_simp
  try rfl
 try simp only [Act.put, nms]
 refine wpLo_q (some 7) rfl rfl (by rfl) (fun W hC => ?_) ?_
 ·obtain ⟨x0, x1, x2, x3, x4, x5, x6, x7, x8, x9, x10⟩ := HX.out W hC
  go_simp
  try rfl
 try simp only [Act.put, nms]
 refine wpLo_c (some 8) rfl rfl (by rfl) (PX.mk0 none 0 0 0) (fun y => .agg #[.slice y.A n.pa.length y.c, .slice y.A2 n.pb.length y.c2]) (fun y W => gC ym.hi y n.pa n.pb W) (fun y W W' h h' => h.stp h') (fun W hF hC => ?_) (fun yc => ?_)
 ·refine LoOp.enter (by go_simp; first | done | exact ⟨rfl, rfl⟩ | rfl) ?_
  refine (impl_copyClasses n.pa n.pb a2 a3 c2 c3 W (HR.out W hC).pa (HR.out W hC).h2 (HR.out W hC).pb (HR.out W hC).h3).mono ?_
  rintro e W1 ⟨hg1, hb1⟩
  obtain ⟨va, vb, rfl, hO, hP, hap⟩ := hg1
  obtain ⟨A, c, rfl⟩ := Kd.R_slice hO
  obtain ⟨A2, c2, rfl⟩ := Kd.R_slice hP
  exact ⟨_, rfl, ⟨A, c, A2, c2, [], W.heap.size, W1.heap.size⟩, rfl, ⟨hb1⟩, hF.2.2.2.1, hb1.size, Nat.le_refl _, RU.of hO (Nat.le_refl _) (Nat.le_refl _), RU.of hP (Nat.le_refl _) (Nat.le_refl _), hap⟩
 try simp only [Act.put, nms]
 refine wpLo_q (some 9) rfl rfl (by rfl) (fun W hC => ?_) ?_
 ·obtain ⟨x0, x1, x2, x3, x4, x5, x6, x7, x8, x9, x10⟩ := HX.out W hC
  go_simp
  try rfl
 try simp only [Act.put, nms]
 refine wpLo_q (some 10) rfl rfl (by rfl) (fun W hC => ?_) ?_
 ·obtain ⟨x0, x1, x2, x3, x4, x5, x6, x7, x8, x9, x10⟩ := HX.out W hC
  go_simp
  try rfl
 try simp only [Act.put, nms]
 refine wpLo_c (some 11) rfl rfl (by rfl) (PX.mk0 none 0 0 0) (fun y => .slice y.A n.bufs.length y.c) (fun y W => gL yc.hi y n.bufs W) (fun y W W' h h' => h.stp h') (fun W hF hC => ?_) (fun yb => ?_)
 ·refine LoOp.enter (by go_simp; first | done | exact ⟨rfl, rfl⟩ | rfl) ?_
  refine (impl_copyLists n.bufs a4 c4 W (HR.out W hC).bufs (HR.out W hC).h4 (Lib.hid (HR.out W hC).h9)).mono ?_
  rintro e W1 ⟨hg1, hb1⟩
  obtain ⟨A, c, vs, rfl, hO, hP⟩ := hg1
  exact ⟨_, rfl, ⟨A, c, none, 0, vs, W.heap.size, W1.heap.size⟩, rfl, ⟨hb1⟩, hF.2.2.2.1, hb1.size, Nat.le_refl _, hO, own_within hO, hP, fun i hi => within_R (hP.row i hi)⟩
 try simp only [Act.put, nms]
 refine wpLo_l (some 12) rfl rfl (by rfl) (fun W => (by go_simp; first | done | rfl)) (fun g9 hg9 => ?_)
 try simp only [Act.put, nms]
 refine wpLo_q (some 13) rfl rfl (by rfl) (fun W hC => ?_) ?_
 ·obtain ⟨x0, x1, x2, x3, x4, x5, x6, x7, x8, x9, x10⟩ := HX.out W hC
  go_simp
  try rfl
 try simp only [Act.put, nms]
 refine wpLo_q (some 14) rfl rfl (by rfl) (fun W hC => ?_) ?_
 ·obtain ⟨x0, x1, x2, x3, x4, x5, x6, x7, x8, x9, x10⟩ := HX.out W hC
  go_simp
  try rfl
 try simp only [Act.put, nms]
 refine wpLo_c (some 15) rfl rfl (by rfl) (PX.mk0 none 0 0 0) (fun y => .slice y.A n.owners.length y.c) (fun y W => gA (((w.alloc (.cells #[.int .i64 n.mesh.g.w, .int .i64 n.mesh.g.h, .slice a1 n.mesh.br.length c1, .slice a2 n.pa.length c2, .slice a3 n.pb.length c3, .slice a4 n.bufs.length c4, .slice a5 n.owners.length c5, .slice a6 n.turns.length c6, .slice a7 n.srcs.length c7, .slice a8 n.arrs.length c8, .int .i64 n.time] 33)).alloc (.cells #[.int .i64 0, .int .i64 0, .slice none 0 0, .slice none 0 0, .slice none 0 0, .slice none 0 0, .slice none 0 0, .slice none 0 0, .slice none 0 0, .slice none 0 0, .int .i64 0] 33))).heap.size yb.hi y n.owners W) (fun y W W' h h' => h.stp h') (fun W hF hC => ?_) (fun yo => ?_)
 ·have hL := hF.2
  have hgW : g9 < W.heap.size := blk_lt hL
  obtain ⟨v1, W1, hr1, hR1, hb1, ha1⟩ := run_copy (Kd.int .i64) 24 24 3 (.int .i64 0) 8 Try.underlying24 info_int rfl (by decide) (by omega) KM_int K1_int g9 n.owners a5 n.owners.length c5 hL hg9 (HR.out W hC).owners hC.h.size (by have := (HR.out W hC).h5; omega)
  obtain ⟨A, c, rfl⟩ := Kd.R_slice hR1
  refine LoOp.val (v := .slice A n.owners.length c) (w1 := W1) (run_append_op rfl rfl rfl hr1) ?_
  exact ⟨PX.mk0 A c W.heap.size W1.heap.size, rfl, ⟨hb1⟩, gA.of hF.1.2.2.2.1 hR1 rfl hb1 ha1 hgW hL⟩
 try simp only [Act.put, nms]
 refine wpLo_l (some 16) rfl rfl (by rfl) (fun W => (by go_simp; first | done | rfl)) (fun g13 hg13 => ?_)
 try simp only [Act.put, nms]
 refine wpLo_q (some 17) rfl rfl (by rfl) (fun W hC => ?_) ?_
 ·obtain ⟨x0, x1, x2, x3, x4, x5, x6, x7, x8, x9, x10⟩ := HX.out W hC
  go_simp
  try rfl
 try simp only [Act.put, nms]
 refine wpLo_q (some 18) rfl rfl (by rfl) (fun W hC => ?_) ?_
 ·obtain ⟨x0, x1, x2, x3, x4, x5, x6, x7, x8, x9, x10⟩ := HX.out W hC
  go_simp
  try rfl
 try simp only [Act.put, nms]
 refine wpLo_c (some 19) rfl rfl (by rfl) (PX.mk0 none 0 0 0) (fun y => .slice y.A n.turns.length y.c) (fun y W => gA (((w.alloc (.cells #[.int .i64 n.mesh.g.w, .int .i64 n.mesh.g.h, .slice a1 n.mesh.br.length c1, .slice a2 n.pa.length c2, .slice a3 n.pb.length c3, .slice a4 n.bufs.length c4, .slice a5 n.owners.length c5, .slice a6 n.turns.length c6, .slice a7 n.srcs.length c7, .slice a8 n.arrs.length c8, .int .i64 n.time] 33)).alloc (.cells #[.int .i64 0, .int .i64 0, .slice none 0 0, .slice none 0 0, .slice none 0 0, .slice none 0 0, .slice none 0 0, .slice none 0 0, .slice none 0 0, .slice none 0 0, .int .i64 0] 33))).heap.size yo.hi y n.turns W) (fun y W W' h h' => h.stp h') (fun W hF hC => ?_) (fun yt => ?_)
 ·have hL := hF.2
  have hgW : g13 < W.heap.size := blk_lt hL
  obtain ⟨v1, W1, hr1, hR1, hb1, ha1⟩ := run_copy (Kd.int .i64) 24 24 3 (.int .i64 0) 8 Try.underlying24 info_int rfl (by decide) (by omega) KM_int K1_int g13 n.turns a6 n.turns.length c6 hL hg13 (HR.out W hC).turns hC.h.size (by have := (HR.out W hC).h6; omega)
  obtain ⟨A, c, rfl⟩ := Kd.R_slice hR1
  refine LoOp.val (v := .slice A n.turns.length c) (w1 := W1) (run_append_op rfl rfl rfl hr1) ?_
  exact ⟨PX.mk0 A c W.heap.size W1.heap.size, rfl, ⟨hb1⟩, gA.of hF.1.2.2.2.1 hR1 rfl hb1 ha1 hgW hL⟩
 try simp only [Act.put, nms]
 refine wpLo_q (some 20) rfl rfl (by rfl) (fun W hC => ?_) ?_
 ·obtain ⟨x0, x1, x2, x3, x4, x5, x6, x7, x8, x9, x10⟩ := HX.out W hC
  go_simp
  try rfl
 try simp only [Act.put, nms]
 refine wpLo_q (some 21) rfl rfl (by rfl) (fun W hC => ?_) ?_
 ·obtain ⟨x0, x1, x2, x3, x4, x5, x6, x7, x8, x9, x10⟩ := HX.out W hC
  go_simp
  try rfl
 try simp only [Act.put, nms]
 refine wpLo_c (some 22) rfl rfl (by rfl) (PX.mk0 none 0 0 0) (fun y => .slice y.A n.srcs.length y.c) (fun y W => gL yt.hi y n.srcs W) (fun y W W' h h' => h.stp h') (fun W hF hC => ?_) (fun ys => ?_)
 ·refine LoOp.enter (by go_simp; first | done | exact ⟨rfl, rfl⟩ | rfl) ?_
  refine (impl_copyLists n.srcs a7 c7 W (HR.out W hC).srcs (HR.out W hC).h7 (Lib.hid (HR.out W hC).h10)).mono ?_
  rintro e W1 ⟨hg1, hb1⟩
  obtain ⟨A, c, vs, rfl, hO, hP⟩ := hg1
  exact ⟨_, rfl, ⟨A, c, none, 0, vs, W.heap.size, W1.heap.size⟩, rfl, ⟨hb1⟩, hF.2.2.2.1, hb1.size, Nat.le_refl _, hO, own_within hO, hP, fun i hi => within_R (hP.row i hi)⟩
 try simp only [Act.put, nms]
 refine wpLo_q (some 23) rfl rfl (by rfl) (fun W hC => ?_) ?_
 ·obtain ⟨x0, x1, x2, x3, x4, x5, x6, x7, x8, x9, x10⟩ := HX.out W hC
  go_simp
  try rfl
 try simp only [Act.put, nms]
 refine wpLo_q (some 24) rfl rfl (by rfl) (fun W hC => ?_) ?_
 ·obtain ⟨x0, x1, x2, x3, x4, x5, x6, x7, x8, x9, x10⟩ := HX.out W hC
  go_simp
  try rfl
 try simp only [Act.put, nms]
 refine wpLo_c (some 25) rfl rfl (by rfl) (PX.mk0 none 0 0 0) (fun y => .slice y.A n.arrs.length y.c) (fun y W => gL ys.hi y n.arrs W) (fun y W W' h h' => h.stp h') (fun W hF hC => ?_) (fun ya => ?_)
 ·refine LoOp.enter (by go_simp; first | done | exact ⟨rfl, rfl⟩ | rfl) ?_
  refine (impl_copyLists n.arrs a8 c8 W (HR.out W hC).arrs (HR.out W hC).h8 (Lib.hid (HR.out W hC).h11)).mono ?_
  rintro e W1 ⟨hg1, hb1⟩
  obtain ⟨A, c, vs, rfl, hO, hP⟩ := hg1
  exact ⟨_, rfl, ⟨A, c, none, 0, vs, W.heap.size, W1.heap.size⟩, rfl, ⟨hb1⟩, hF.2.2.2.1, hb1.size, Nat.le_refl _, hO, own_within hO, hP, fun i hi => within_R (hP.row i hi)⟩
 try simp only [Act.put, nms]
 refine wpLo_q (some 26) rfl rfl (by rfl) (fun W hC => ?_) ?_
 ·obtain ⟨x0, x1, x2, x3, x4, x5, x6, x7, x8, x9, x10⟩ := HX.out W hC
  go_simp
  try rfl
 try simp only [Act.put, nms]
 refine wpLo_q (some 27) rfl rfl (by rfl) (fun W hC => ?_) ?_
 ·obtain ⟨x0, x1, x2, x3, x4, x5, x6, x7, x8, x9, x10⟩ := HX.out W hC
  go_simp
  try rfl
 try simp only [Act.put, nms]
 refine wpLo_c (some 28) rfl rfl (by rfl) () (fun _ => .agg (netCells n ⟨ym.A, yc.A, yc.A2, yb.A, yo.A, yt.A, ys.A, ya.A, ym.c, yc.c, yc.c2, yb.c, yo.c, yt.c, ys.c, ya.c⟩)) (fun _ _ => True) (fun _ _ _ _ _ => trivial) (fun W hF hC => LoOp.val (w1 := W) (by go_simp; try rfl) ⟨(), rfl, stp_refl _, trivial⟩) (fun _ => ?_)
 try simp only [Act.put, nms]
 refine wpLo_z ?_
 intro W hF hC
 obtain ⟨⟨⟨⟨⟨⟨⟨⟨⟨⟨_, hm⟩, hc⟩, hb⟩, _⟩, ho⟩, _⟩, ht⟩, hs⟩, ha⟩, _⟩ := hF
 have hN := Lib.hid (NX.parts hm hc hb ho ht hs ha)
 clear hm hc hb ho ht hs ha
 have hb1 := hC.h
 have hb2 : W.heap[w.heap.size + 1]? = some (.cells #[.int .i64 0, .int .i64 0, .slice none 0 0, .slice none 0 0, .slice none 0 0, .slice none 0 0, .slice none 0 0, .slice none 0 0, .slice none 0 0, .slice none 0 0, .int .i64 0] 33 (0, 0)) := by
  have h1 := blk_new (w.alloc (.cells #[.int .i64 n.mesh.g.w, .int .i64 n.mesh.g.h, .slice a1 n.mesh.br.length c1, .slice a2 n.pa.length c2, .slice a3 n.pb.length c3, .slice a4 n.bufs.length c4, .slice a5 n.owners.length c5, .slice a6 n.turns.length c6, .slice a7 n.srcs.length c7, .slice a8 n.arrs.length c8, .int .i64 n.time] 33)) (.cells #[.int .i64 0, .int .i64 0, .slice none 0 0, .slice none 0 0, .slice none 0 0, .slice none 0 0, .slice none 0 0, .slice none 0 0, .slice none 0 0, .slice none 0 0, .int .i64 0] 33)
  rw [World.size_alloc] at h1
  exact blk_below h1 hC.h
 have y0 : W.cell? ⟨w.heap.size + 1, 0, none⟩ = some (.int .i64 0) := blk_cell hb2 0
 have f0 : W.frozen? ⟨w.heap.size + 1, 0, none⟩ = false := blk_frozen hb2 0
 have y1 : W.cell? ⟨w.heap.size + 1, 1, none⟩ = some (.int .i64 0) := blk_cell hb2 1
 have f1 : W.frozen? ⟨w.heap.size + 1, 1, none⟩ = false := blk_frozen hb2 1
 have y2 : W.cell? ⟨w.heap.size + 1, 2, none⟩ = some (.slice none 0 0) := blk_cell hb2 2
 have f2 : W.frozen? ⟨w.heap.size + 1, 2, none⟩ = false := blk_frozen hb2 2
 have y3 : W.cell? ⟨w.heap.size + 1, 3, none⟩ = some (.slice none 0 0) := blk_cell hb2 3
 have f3 : W.frozen? ⟨w.heap.size + 1, 3, none⟩ = false := blk_frozen hb2 3
 have y4 : W.cell? ⟨w.heap.size + 1, 4, none⟩ = some (.slice none 0 0) := blk_cell hb2 4
 have f4 : W.frozen? ⟨w.heap.size + 1, 4, none⟩ = false := blk_frozen hb2 4
 have y5 : W.cell? ⟨w.heap.size + 1, 5, none⟩ = some (.slice none 0 0) := blk_cell hb2 5
 have f5 : W.frozen? ⟨w.heap.size + 1, 5, none⟩ = false := blk_frozen hb2 5
 have y6 : W.cell? ⟨w.heap.size + 1, 6, none⟩ = some (.slice none 0 0) := blk_cell hb2 6
 have f6 : W.frozen? ⟨w.heap.size + 1, 6, none⟩ = false := blk_frozen hb2 6
 have y7 : W.cell? ⟨w.heap.size + 1, 7, none⟩ = some (.slice none 0 0) := blk_cell hb2 7
 have f7 : W.frozen? ⟨w.heap.size + 1, 7, none⟩ = false := blk_frozen hb2 7
 have y8 : W.cell? ⟨w.heap.size + 1, 8, none⟩ = some (.slice none 0 0) := blk_cell hb2 8
 have f8 : W.frozen? ⟨w.heap.size + 1, 8, none⟩ = false := blk_frozen hb2 8
 have y9 : W.cell? ⟨w.heap.size + 1, 9, none⟩ = some (.slice none 0 0) := blk_cell hb2 9
 have f9 : W.frozen? ⟨w.heap.size + 1, 9, none⟩ = false := blk_frozen hb2 9
 have y10 : W.cell? ⟨w.heap.size + 1, 10, none⟩ = some (.int .i64 0) := blk_cell hb2 10
 have f10 : W.frozen? ⟨w.heap.size + 1, 10, none⟩ = false := blk_frozen hb2 10
 clear hb2
 have hz1 := bw_size hb1
 simp only [szs] at hz1
 refine ⟨_, rfl, by rfl, ?_⟩
 dsimp only [netCells]
 go_simp
 go_wp2
 exact bodyPost_ret (v := .agg (netCells n ⟨ym.A, yc.A, yc.A2, yb.A, yo.A, yt.A, ys.A, ya.A, ym.c, yc.c, yc.c2, yb.c, yo.c, yt.c, ys.c, ya.c⟩)) (by simp [results, Try.results39, go_sem, netCells, *]) rfl ⟨⟨_, yb.vs, ys.vs, ya.vs, rfl, (by refine NX.lower (lo := (((w.alloc (.cells #[.int .i64 n.mesh.g.w, .int .i64 n.mesh.g.h, .slice a1 n.mesh.br.length c1, .slice a2 n.pa.length c2, .slice a3 n.pb.length c3, .slice a4 n.bufs.length c4, .slice a5 n.owners.length c5, .slice a6 n.turns.length c6, .slice a7 n.srcs.length c7, .slice a8 n.arrs.length c8, .int .i64 n.time] 33)).alloc (.cells #[.int .i64 0, .int .i64 0, .slice none 0 0, .slice none 0 0, .slice none 0 0, .slice none 0 0, .slice none 0 0, .slice none 0 0, .slice none 0 0, .slice none 0 0, .int .i64 0] 33))).heap.size) ?_ (by simp only [szs]; omega); (repeat (refine NX.off ?_ (by simp only [szs]; omega) _ _)); exact hN.out)⟩, bel⟩
set_option maxHeartbeats 8000000 in
set_option maxRecDepth 100000 in
theorem spec_l15Copy (n : Net) (q : NA) (w : World) (hr : NetR 77 w n q) : Calls Try.prog 31 #[.agg (netCells n q)] w fun e w' => GotNX w w' n e ∧ Below w.heap.size w w' := by
 have R := Lib.hid hr
 clear hr
 obtain ⟨a1, a2, a3, a4, a5, a6, a7, a8, c1, c2, c3, c4, c5, c6, c7, c8⟩ := q
 dsimp only [netCells]
 have hX : ∀ W, Stp ((w.alloc (.cells #[.int .i64 n.mesh.g.w, .int .i64 n.mesh.g.h, .slice a1 n.mesh.br.length c1, .slice a2 n.pa.length c2, .slice a3 n.pb.length c3, .slice a4 n.bufs.length c4, .slice a5 n.owners.length c5, .slice a6 n.turns.length c6, .slice a7 n.srcs.length c7, .slice a8 n.arrs.length c8, .int .i64 n.time] 33)).alloc (.cells #[.int .i64 0, .int .i64 0, .slice none 0 0, .slice none 0 0, .slice none 0 0, .slice none 0 0, .slice none 0 0, .slice none 0 0, .slice none 0 0, .slice none 0 0, .int .i64 0] 33)) W → W.cell? ⟨w.heap.size, 0, none⟩ = some (.int .i64 n.mesh.g.w) ∧ W.cell? ⟨w.heap.size, 1, none⟩ = some (.int .i64 n.mesh.g.h) ∧ W.cell? ⟨w.heap.size, 2, none⟩ = some (.slice a1 n.mesh.br.length c1) ∧ W.cell? ⟨w.heap.size, 3, none⟩ = some (.slice a2 n.pa.length c2) ∧ W.cell? ⟨w.heap.size, 4, none⟩ = some (.slice a3 n.pb.length c3) ∧ W.cell? ⟨w.heap.size, 5, none⟩ = some (.slice a4 n.bufs.length c4) ∧ W.cell? ⟨w.heap.size, 6, none⟩ = some (.slice a5 n.owners.length c5) ∧ W.cell? ⟨w.heap.size, 7, none⟩ = some (.slice a6 n.turns.length c6) ∧ W.cell? ⟨w.heap.size, 8, none⟩ = some (.slice a7 n.srcs.length c7) ∧ W.cell? ⟨w.heap.size, 9, none⟩ = some (.slice a8 n.arrs.length c8) ∧ W.cell? ⟨w.heap.size, 10, none⟩ = some (.int .i64 n.time) := by
  intro W hW
  have hb := ((Box.new w w.heap.size #[.int .i64 n.mesh.g.w, .int .i64 n.mesh.g.h, .slice a1 n.mesh.br.length c1, .slice a2 n.pa.length c2, .slice a3 n.pb.length c3, .slice a4 n.bufs.length c4, .slice a5 n.owners.length c5, .slice a6 n.turns.length c6, .slice a7 n.srcs.length c7, .slice a8 n.arrs.length c8, .int .i64 n.time] 33 rfl).alloc (.cells #[.int .i64 0, .int .i64 0, .slice none 0 0, .slice none 0 0, .slice none 0 0, .slice none 0 0, .slice none 0 0, .slice none 0 0, .slice none 0 0, .slice none 0 0, .int .i64 0] 33)).below hW.h
  exact ⟨hb.get 0, hb.get 1, hb.get 2, hb.get 3, hb.get 4, hb.get 5, hb.get 6, hb.get 7, hb.get 8, hb.get 9, hb.get 10⟩
 have hRW : ∀ W, Stp ((w.alloc (.cells #[.int .i64 n.mesh.g.w, .int .i64 n.mesh.g.h, .slice a1 n.mesh.br.length c1, .slice a2 n.pa.length c2, .slice a3 n.pb.length c3, .slice a4 n.bufs.length c4, .slice a5 n.owners.length c5, .slice a6 n.turns.length c6, .slice a7 n.srcs.length c7, .slice a8 n.arrs.length c8, .int .i64 n.time] 33)).alloc (.cells #[.int .i64 0, .int .i64 0, .slice none 0 0, .slice none 0 0, .slice none 0 0, .slice none 0 0, .slice none 0 0, .slice none 0 0, .slice none 0 0, .slice none 0 0, .int .i64 0] 33)) W → NetR 77 W n ⟨a1, a2, a3, a4, a5, a6, a7, a8, c1, c2, c3, c4, c5, c6, c7, c8⟩ := fun W hW => R.out.below (bw_then (bw_alloc _ (bw_alloc _ (bw_refl w))) hW.h)
 have HX := Lib.hid hX
 have HR := Lib.hid hRW
 clear hX hRW
 go_enter Try.func31, Try.ntmps31
 go_wp2_with fail
 refine wp_region_lo (((w.alloc (.cells #[.int .i64 n.mesh.g.w, .int .i64 n.mesh.g.h, .slice a1 n.mesh.br.length c1, .slice a2 n.pa.length c2, .slice a3 n.pb.length c3, .slice a4 n.bufs.length c4, .slice a5 n.owners.length c5, .slice a6 n.turns.length c6, .slice a7 n.srcs.length c7, .slice a8 n.arrs.length c8, .int .i64 n.time] 33)).alloc (.cells #[.int .i64 0, .int .i64 0, .slice none 0 0, .slice none 0 0, .slice none 0 0, .slice none 0 0, .slice none 0 0, .slice none 0 0, .slice none 0 0, .slice none 0 0, .int .i64 0] 33))).heap.size (Stp (((w.alloc (.cells #[.int .i64 n.mesh.g.w, .int .i64 n.mesh.g.h, .slice a1 n.mesh.br.length c1, .slice a2 n.pa.length c2, .slice a3 n.pb.length c3, .slice a4 n.bufs.length c4, .slice a5 n.owners.length c5, .slice a6 n.turns.length c6, .slice a7 n.srcs.length c7, .slice a8 n.arrs.length c8, .int .i64 n.time] 33)).alloc (.cells #[.int .i64 0, .int .i64 0, .slice none 0 0, .slice none 0 0, .slice none 0 0, .slice none 0 0, .slice none 0 0, .slice none 0 0, .slice none 0 0, .slice none 0 0, .int .i64 0] 33)))) (fun _ => 3) (fun i => [.pointer (some ⟨w.heap.size, 0, none⟩), .agg #[.int .i64 n.mesh.g.w, .int .i64 n.mesh.g.h, .slice a1 n.mesh.br.length c1], .int .i64 0, .pointer (some ⟨w.heap.size, 3, none⟩), .agg #[.slice a2 n.pa.length c2, .slice a3 n.pb.length c3], .int .i64 0, .pointer (some ⟨w.heap.size, 5, none⟩), .slice a4 n.bufs.length c4, .int .i64 0, .int .i64 0, .pointer (some ⟨w.heap.size, 6, none⟩), .slice a5 n.owners.length c5, .int .i64 0, .int .i64 0, .pointer (some ⟨w.heap.size, 7, none⟩), .slice a6 n.turns.length c6, .int .i64 0, .pointer (some ⟨w.heap.size, 8, none⟩), .slice a7 n.srcs.length c7, .int .i64 0, .pointer (some ⟨w.heap.size, 9, none⟩), .slice a8 n.arrs.length c8, .int .i64 0, .pointer (some ⟨w.heap.size, 10, none⟩), .int .i64 n.time, .int .i64 0].getD i undef) 26 [(0, .quiet), (1, .quiet), (2, .chain), (3, .quiet), (4, .quiet), (5, .chain), (6, .quiet), (7, .quiet), (8, .chain), (9, .lit), (10, .quiet), (11, .quiet), (12, .chain), (13, .lit), (14, .quiet), (15, .quiet), (16, .chain), (17, .quiet), (18, .quiet), (19, .chain), (20, .quiet), (21, .quiet), (22, .chain), (23, .quiet), (24, .quiet), (25, .chain)] (by kernel_rfl) (by kernel_rfl) (by kernel_rfl) (by kernel_rfl) (by kernel_rfl) (by kernel_rfl) (by kernel_rfl) (by kernel_rfl) (fun W h => h.h.size) (fun W W' h h' => stp_then h h') (stp_drew (stp_refl _)) ?_
 refine wpLo_q (some 3) rfl rfl (by rfl) (fun W hC => ?_) ?_
 ·obtain ⟨x0, x1, x2, x3, x4, x5, x6, x7, x8, x9, x10⟩ := HX.out W hC
  go_simp
  try rfl
 try simp only [Act.put, nms]
 refine wpLo_q (some 4) rfl rfl (by rfl) (fun W hC => ?_) ?_
 ·obtain ⟨x0, x1, x2, x3, x4, x5, x6, x7, x8, x9, x10⟩ := HX.out W hC
  go_simp
  try rfl
 try simp only [Act.put, nms]
 refine wpLo_c (some 5) rfl rfl (by rfl) (PX.mk0 none 0 0 0) (fun y => .agg #[.int .i64 n.mesh.g.w, .int .i64 n.mesh.g.h, .slice y.A n.mesh.br.length y.c]) (fun y W => gI (((w.alloc (.cells #[.int .i64 n.mesh.g.w, .int .i64 n.mesh.g.h, .slice a1 n.mesh.br.length c1, .slice a2 n.pa.length c2, .slice a3 n.pb.length c3, .slice a4 n.bufs.length c4, .slice a5 n.owners.length c5, .slice a6 n.turns.length c6, .slice a7 n.srcs.length c7, .slice a8 n.arrs.length c8, .int .i64 n.time] 33)).alloc (.cells #[.int .i64 0, .int .i64 0, .slice none 0 0, .slice none 0 0, .slice none 0 0, .slice none 0 0, .slice none 0 0, .slice none 0 0, .slice none 0 0, .slice none 0 0, .int .i64 0] 33))).heap.size y n.mesh.br W) (fun y W W' h h' => h.stp h') (fun W hF hC => ?_) (fun ym => ?_)
 ·refine LoOp.enter (by go_simp; first | done | exact ⟨rfl, rfl⟩ | rfl) ?_
  refine (spec_l15Mesh n.mesh a1 c1 W (HR.out W hC).br (HR.out W hC).h1).mono ?_
  rintro e W1 ⟨hg1, hb1⟩
  obtain ⟨v, rfl, hO⟩ := hg1
  obtain ⟨A, c, rfl⟩ := Kd.R_slice hO
  exact ⟨_, rfl, PX.mk0 A c W.heap.size W1.heap.size, rfl, ⟨hb1⟩, hC.h.size, hb1.size, Nat.le_refl _, RU.of hO (Nat.le_refl _) (Nat.le_refl _)⟩
 try simp only [Act.put, nms]
 refine wpLo_q (some 6) rfl rfl (by rfl) (fun W hC => ?_) ?_
 ·obtain ⟨x0, x1, x2, x3, x4, x5, x6, x7, x8, x9, x10⟩ := HX.out W hC
  go_simp
  try rfl
 try simp only [Act.put, nms]
 refine wpLo_q (some 7) rfl rfl (by rfl) (fun W hC => ?_) ?_
 ·obtain ⟨x0, x1, x2, x3, x4, x5, x6, x7, x8, x9, x10⟩ := HX.out W hC
  go_simp
  try rfl
 try simp only [Act.put, nms]
 refine wpLo_c (some 8) rfl rfl (by rfl) (PX.mk0 none 0 0 0) (fun y => .agg #[.slice y.A n.pa.length y.c, .slice y.A2 n.pb.length y.c2]) (fun y W => gC ym.hi y n.pa n.pb W) (fun y W W' h h' => h.stp h') (fun W hF hC => ?_) (fun yc => ?_)
 ·refine LoOp.enter (by go_simp; first | done | exact ⟨rfl, rfl⟩ | rfl) ?_
  refine (spec_l15Classes n.pa n.pb a2 a3 c2 c3 W (HR.out W hC).pa (HR.out W hC).h2 (HR.out W hC).pb (HR.out W hC).h3).mono ?_
  rintro e W1 ⟨hg1, hb1⟩
  obtain ⟨va, vb, rfl, hO, hP, hap⟩ := hg1
  obtain ⟨A, c, rfl⟩ := Kd.R_slice hO
  obtain ⟨A2, c2, rfl⟩ := Kd.R_slice hP
  exact ⟨_, rfl, ⟨A, c, A2, c2, [], W.heap.size, W1.heap.size⟩, rfl, ⟨hb1⟩, hF.2.2.2.1, hb1.size, Nat.le_refl _, RU.of hO (Nat.le_refl _) (Nat.le_refl _), RU.of hP (Nat.le_refl _) (Nat.le_refl _), hap⟩
 try simp only [Act.put, nms]
 refine wpLo_q (some 9) rfl rfl (by rfl) (fun W hC => ?_) ?_
 ·obtain ⟨x0, x1, x2, x3, x4, x5, x6, x7, x8, x9, x10⟩ := HX.out W hC
  go_simp
  try rfl
 try simp only [Act.put, nms]
 refine wpLo_q (some 10) rfl rfl (by rfl) (fun W hC => ?_) ?_
 ·obtain ⟨x0, x1, x2, x3, x4, x5, x6, x7, x8, x9, x10⟩ := HX.out W hC
  go_simp
  try rfl
 try simp only [Act.put, nms]
 refine wpLo_c (some 11) rfl rfl (by rfl) (PX.mk0 none 0 0 0) (fun y => .slice y.A n.bufs.length y.c) (fun y W => gL yc.hi y n.bufs W) (fun y W W' h h' => h.stp h') (fun W hF hC => ?_) (fun yb => ?_)
 ·refine LoOp.enter (by go_simp; first | done | exact ⟨rfl, rfl⟩ | rfl) ?_
  refine (spec_l15Lists n.bufs a4 c4 W (HR.out W hC).bufs (HR.out W hC).h4 (Lib.hid (HR.out W hC).h9)).mono ?_
  rintro e W1 ⟨hg1, hb1⟩
  obtain ⟨A, c, vs, rfl, hO, hP⟩ := hg1
  exact ⟨_, rfl, ⟨A, c, none, 0, vs, W.heap.size, W1.heap.size⟩, rfl, ⟨hb1⟩, hF.2.2.2.1, hb1.size, Nat.le_refl _, hO, own_within hO, hP, fun i hi => within_R (hP.row i hi)⟩
 try simp only [Act.put, nms]
 refine wpLo_l (some 12) rfl rfl (by rfl) (fun W => (by go_simp; first | done | rfl)) (fun g9 hg9 => ?_)
 try simp only [Act.put, nms]
 refine wpLo_q (some 13) rfl rfl (by rfl) (fun W hC => ?_) ?_
 ·obtain ⟨x0, x1, x2, x3, x4, x5, x6, x7, x8, x9, x10⟩ := HX.out W hC
  go_simp
  try rfl
 try simp only [Act.put, nms]
 refine wpLo_q (some 14) rfl rfl (by rfl) (fun W hC => ?_) ?_
 ·obtain ⟨x0, x1, x2, x3, x4, x5, x6, x7, x8, x9, x10⟩ := HX.out W hC
  go_simp
  try rfl
 try simp only [Act.put, nms]
 refine wpLo_c (some 15) rfl rfl (by rfl) (PX.mk0 none 0 0 0) (fun y => .slice y.A n.owners.length y.c) (fun y W => gA (((w.alloc (.cells #[.int .i64 n.mesh.g.w, .int .i64 n.mesh.g.h, .slice a1 n.mesh.br.length c1, .slice a2 n.pa.length c2, .slice a3 n.pb.length c3, .slice a4 n.bufs.length c4, .slice a5 n.owners.length c5, .slice a6 n.turns.length c6, .slice a7 n.srcs.length c7, .slice a8 n.arrs.length c8, .int .i64 n.time] 33)).alloc (.cells #[.int .i64 0, .int .i64 0, .slice none 0 0, .slice none 0 0, .slice none 0 0, .slice none 0 0, .slice none 0 0, .slice none 0 0, .slice none 0 0, .slice none 0 0, .int .i64 0] 33))).heap.size yb.hi y n.owners W) (fun y W W' h h' => h.stp h') (fun W hF hC => ?_) (fun yo => ?_)
 ·have hL := hF.2
  have hgW : g9 < W.heap.size := blk_lt hL
  obtain ⟨v1, W1, hr1, hR1, hb1, ha1⟩ := run_copy (Kd.int .i64) 24 24 3 (.int .i64 0) 8 Try.underlying24 info_int rfl (by decide) (by omega) KM_int K1_int g9 n.owners a5 n.owners.length c5 hL hg9 (HR.out W hC).owners hC.h.size (by have := (HR.out W hC).h5; omega)
  obtain ⟨A, c, rfl⟩ := Kd.R_slice hR1
  refine LoOp.val (v := .slice A n.owners.length c) (w1 := W1) (run_append_op rfl rfl rfl hr1) ?_
  exact ⟨PX.mk0 A c W.heap.size W1.heap.size, rfl, ⟨hb1⟩, gA.of hF.1.2.2.2.1 hR1 rfl hb1 ha1 hgW hL⟩
 try simp only [Act.put, nms]
 refine wpLo_l (some 16) rfl rfl (by rfl) (fun W => (by go_simp; first | done | rfl)) (fun g13 hg13 => ?_)
 try simp only [Act.put, nms]
 refine wpLo_q (some 17) rfl rfl (by rfl) (fun W hC => ?_) ?_
 ·obtain ⟨x0, x1, x2, x3, x4, x5, x6, x7, x8, x9, x10⟩ := HX.out W hC
  go_simp
  try rfl
 try simp only [Act.put, nms]
 refine wpLo_q (some 18) rfl rfl (by rfl) (fun W hC => ?_) ?_
 ·obtain ⟨x0, x1, x2, x3, x4, x5, x6, x7, x8, x9, x10⟩ := HX.out W hC
  go_simp
  try rfl
 try simp only [Act.put, nms]
 refine wpLo_c (some 19) rfl rfl (by rfl) (PX.mk0 none 0 0 0) (fun y => .slice y.A n.turns.length y.c) (fun y W => gA (((w.alloc (.cells #[.int .i64 n.mesh.g.w, .int .i64 n.mesh.g.h, .slice a1 n.mesh.br.length c1, .slice a2 n.pa.length c2, .slice a3 n.pb.length c3, .slice a4 n.bufs.length c4, .slice a5 n.owners.length c5, .slice a6 n.turns.length c6, .slice a7 n.srcs.length c7, .slice a8 n.arrs.length c8, .int .i64 n.time] 33)).alloc (.cells #[.int .i64 0, .int .i64 0, .slice none 0 0, .slice none 0 0, .slice none 0 0, .slice none 0 0, .slice none 0 0, .slice none 0 0, .slice none 0 0, .slice none 0 0, .int .i64 0] 33))).heap.size yo.hi y n.turns W) (fun y W W' h h' => h.stp h') (fun W hF hC => ?_) (fun yt => ?_)
 ·have hL := hF.2
  have hgW : g13 < W.heap.size := blk_lt hL
  obtain ⟨v1, W1, hr1, hR1, hb1, ha1⟩ := run_copy (Kd.int .i64) 24 24 3 (.int .i64 0) 8 Try.underlying24 info_int rfl (by decide) (by omega) KM_int K1_int g13 n.turns a6 n.turns.length c6 hL hg13 (HR.out W hC).turns hC.h.size (by have := (HR.out W hC).h6; omega)
  obtain ⟨A, c, rfl⟩ := Kd.R_slice hR1
  refine LoOp.val (v := .slice A n.turns.length c) (w1 := W1) (run_append_op rfl rfl rfl hr1) ?_
  exact ⟨PX.mk0 A c W.heap.size W1.heap.size, rfl, ⟨hb1⟩, gA.of hF.1.2.2.2.1 hR1 rfl hb1 ha1 hgW hL⟩
 try simp only [Act.put, nms]
 refine wpLo_q (some 20) rfl rfl (by rfl) (fun W hC => ?_) ?_
 ·obtain ⟨x0, x1, x2, x3, x4, x5, x6, x7, x8, x9, x10⟩ := HX.out W hC
  go_simp
  try rfl
 try simp only [Act.put, nms]
 refine wpLo_q (some 21) rfl rfl (by rfl) (fun W hC => ?_) ?_
 ·obtain ⟨x0, x1, x2, x3, x4, x5, x6, x7, x8, x9, x10⟩ := HX.out W hC
  go_simp
  try rfl
 try simp only [Act.put, nms]
 refine wpLo_c (some 22) rfl rfl (by rfl) (PX.mk0 none 0 0 0) (fun y => .slice y.A n.srcs.length y.c) (fun y W => gL yt.hi y n.srcs W) (fun y W W' h h' => h.stp h') (fun W hF hC => ?_) (fun ys => ?_)
 ·refine LoOp.enter (by go_simp; first | done | exact ⟨rfl, rfl⟩ | rfl) ?_
  refine (spec_l15Lists n.srcs a7 c7 W (HR.out W hC).srcs (HR.out W hC).h7 (Lib.hid (HR.out W hC).h10)).mono ?_
  rintro e W1 ⟨hg1, hb1⟩
  obtain ⟨A, c, vs, rfl, hO, hP⟩ := hg1
  exact ⟨_, rfl, ⟨A, c, none, 0, vs, W.heap.size, W1.heap.size⟩, rfl, ⟨hb1⟩, hF.2.2.2.1, hb1.size, Nat.le_refl _, hO, own_within hO, hP, fun i hi => within_R (hP.row i hi)⟩
 try simp only [Act.put, nms]
 refine wpLo_q (some 23) rfl rfl (by rfl) (fun W hC => ?_) ?_
 ·obtain ⟨x0, x1, x2, x3, x4, x5, x6, x7, x8, x9, x10⟩ := HX.out W hC
  go_simp
  try rfl
 try simp only [Act.put, nms]
 refine wpLo_q (some 24) rfl rfl (by rfl) (fun W hC => ?_) ?_
 ·obtain ⟨x0, x1, x2, x3, x4, x5, x6, x7, x8, x9, x10⟩ := HX.out W hC
  go_simp
  try rfl
 try simp only [Act.put, nms]
 refine wpLo_c (some 25) rfl rfl (by rfl) (PX.mk0 none 0 0 0) (fun y => .slice y.A n.arrs.length y.c) (fun y W => gL ys.hi y n.arrs W) (fun y W W' h h' => h.stp h') (fun W hF hC => ?_) (fun ya => ?_)
 ·refine LoOp.enter (by go_simp; first | done | exact ⟨rfl, rfl⟩ | rfl) ?_
  refine (spec_l15Lists n.arrs a8 c8 W (HR.out W hC).arrs (HR.out W hC).h8 (Lib.hid (HR.out W hC).h11)).mono ?_
  rintro e W1 ⟨hg1, hb1⟩
  obtain ⟨A, c, vs, rfl, hO, hP⟩ := hg1
  exact ⟨_, rfl, ⟨A, c, none, 0, vs, W.heap.size, W1.heap.size⟩, rfl, ⟨hb1⟩, hF.2.2.2.1, hb1.size, Nat.le_refl _, hO, own_within hO, hP, fun i hi => within_R (hP.row i hi)⟩
 try simp only [Act.put, nms]
 refine wpLo_q (some 26) rfl rfl (by rfl) (fun W hC => ?_) ?_
 ·obtain ⟨x0, x1, x2, x3, x4, x5, x6, x7, x8, x9, x10⟩ := HX.out W hC
  go_simp
  try rfl
 try simp only [Act.put, nms]
 refine wpLo_q (some 27) rfl rfl (by rfl) (fun W hC => ?_) ?_
 ·obtain ⟨x0, x1, x2, x3, x4, x5, x6, x7, x8, x9, x10⟩ := HX.out W hC
  go_simp
  try rfl
 try simp only [Act.put, nms]
 refine wpLo_c (some 28) rfl rfl (by rfl) () (fun _ => .agg (netCells n ⟨ym.A, yc.A, yc.A2, yb.A, yo.A, yt.A, ys.A, ya.A, ym.c, yc.c, yc.c2, yb.c, yo.c, yt.c, ys.c, ya.c⟩)) (fun _ _ => True) (fun _ _ _ _ _ => trivial) (fun W hF hC => LoOp.val (w1 := W) (by go_simp; try rfl) ⟨(), rfl, stp_refl _, trivial⟩) (fun _ => ?_)
 try simp only [Act.put, nms]
 refine wpLo_z ?_
 intro W hF hC
 obtain ⟨⟨⟨⟨⟨⟨⟨⟨⟨⟨_, hm⟩, hc⟩, hb⟩, _⟩, ho⟩, _⟩, ht⟩, hs⟩, ha⟩, _⟩ := hF
 have hN := Lib.hid (NX.parts hm hc hb ho ht hs ha)
 clear hm hc hb ho ht hs ha
 have hb1 := hC.h
 have hb2 : W.heap[w.heap.size + 1]? = some (.cells #[.int .i64 0, .int .i64 0, .slice none 0 0, .slice none 0 0, .slice none 0 0, .slice none 0 0, .slice none 0 0, .slice none 0 0, .slice none 0 0, .slice none 0 0, .int .i64 0] 33 (0, 0)) := by
  have h1 := blk_new (w.alloc (.cells #[.int .i64 n.mesh.g.w, .int .i64 n.mesh.g.h, .slice a1 n.mesh.br.length c1, .slice a2 n.pa.length c2, .slice a3 n.pb.length c3, .slice a4 n.bufs.length c4, .slice a5 n.owners.length c5, .slice a6 n.turns.length c6, .slice a7 n.srcs.length c7, .slice a8 n.arrs.length c8, .int .i64 n.time] 33)) (.cells #[.int .i64 0, .int .i64 0, .slice none 0 0, .slice none 0 0, .slice none 0 0, .slice none 0 0, .slice none 0 0, .slice none 0 0, .slice none 0 0, .slice none 0 0, .int .i64 0] 33)
  rw [World.size_alloc] at h1
  exact blk_below h1 hC.h
 have y0 : W.cell? ⟨w.heap.size + 1, 0, none⟩ = some (.int .i64 0) := blk_cell hb2 0
 have f0 : W.frozen? ⟨w.heap.size + 1, 0, none⟩ = false := blk_frozen hb2 0
 have y1 : W.cell? ⟨w.heap.size + 1, 1, none⟩ = some (.int .i64 0) := blk_cell hb2 1
 have f1 : W.frozen? ⟨w.heap.size + 1, 1, none⟩ = false := blk_frozen hb2 1
 have y2 : W.cell? ⟨w.heap.size + 1, 2, none⟩ = some (.slice none 0 0) := blk_cell hb2 2
 have f2 : W.frozen? ⟨w.heap.size + 1, 2, none⟩ = false := blk_frozen hb2 2
 have y3 : W.cell? ⟨w.heap.size + 1, 3, none⟩ = some (.slice none 0 0) := blk_cell hb2 3
 have f3 : W.frozen? ⟨w.heap.size + 1, 3, none⟩ = false := blk_frozen hb2 3
 have y4 : W.cell? ⟨w.heap.size + 1, 4, none⟩ = some (.slice none 0 0) := blk_cell hb2 4
 have f4 : W.frozen? ⟨w.heap.size + 1, 4, none⟩ = false := blk_frozen hb2 4
 have y5 : W.cell? ⟨w.heap.size + 1, 5, none⟩ = some (.slice none 0 0) := blk_cell hb2 5
 have f5 : W.frozen? ⟨w.heap.size + 1, 5, none⟩ = false := blk_frozen hb2 5
 have y6 : W.cell? ⟨w.heap.size + 1, 6, none⟩ = some (.slice none 0 0) := blk_cell hb2 6
 have f6 : W.frozen? ⟨w.heap.size + 1, 6, none⟩ = false := blk_frozen hb2 6
 have y7 : W.cell? ⟨w.heap.size + 1, 7, none⟩ = some (.slice none 0 0) := blk_cell hb2 7
 have f7 : W.frozen? ⟨w.heap.size + 1, 7, none⟩ = false := blk_frozen hb2 7
 have y8 : W.cell? ⟨w.heap.size + 1, 8, none⟩ = some (.slice none 0 0) := blk_cell hb2 8
 have f8 : W.frozen? ⟨w.heap.size + 1, 8, none⟩ = false := blk_frozen hb2 8
 have y9 : W.cell? ⟨w.heap.size + 1, 9, none⟩ = some (.slice none 0 0) := blk_cell hb2 9
 have f9 : W.frozen? ⟨w.heap.size + 1, 9, none⟩ = false := blk_frozen hb2 9
 have y10 : W.cell? ⟨w.heap.size + 1, 10, none⟩ = some (.int .i64 0) := blk_cell hb2 10
 have f10 : W.frozen? ⟨w.heap.size + 1, 10, none⟩ = false := blk_frozen hb2 10
 clear hb2
 have hz1 := bw_size hb1
 simp only [szs] at hz1
 refine ⟨_, rfl, by rfl, ?_⟩
 dsimp only [netCells]
 go_simp
 go_wp2
 exact bodyPost_ret (v := .agg (netCells n ⟨ym.A, yc.A, yc.A2, yb.A, yo.A, yt.A, ys.A, ya.A, ym.c, yc.c, yc.c2, yb.c, yo.c, yt.c, ys.c, ya.c⟩)) (by simp [results, Try.results31, go_sem, netCells, *]) rfl ⟨⟨_, yb.vs, ys.vs, ya.vs, rfl, (by refine NX.lower (lo := (((w.alloc (.cells #[.int .i64 n.mesh.g.w, .int .i64 n.mesh.g.h, .slice a1 n.mesh.br.length c1, .slice a2 n.pa.length c2, .slice a3 n.pb.length c3, .slice a4 n.bufs.length c4, .slice a5 n.owners.length c5, .slice a6 n.turns.length c6, .slice a7 n.srcs.length c7, .slice a8 n.arrs.length c8, .int .i64 n.time] 33)).alloc (.cells #[.int .i64 0, .int .i64 0, .slice none 0 0, .slice none 0 0, .slice none 0 0, .slice none 0 0, .slice none 0 0, .slice none 0 0, .slice none 0 0, .slice none 0 0, .int .i64 0] 33))).heap.size) ?_ (by simp only [szs]; omega); (repeat (refine NX.off ?_ (by simp only [szs]; omega) _ _)); exact hN.out)⟩, bel⟩
end Go.Proofs.Ytmkbmddgkdoaiaa
namespace NoC
def bufOf (n : Net) (a i : Int) : List Flit := rl n.bufs (10 * a + i)
def ownAt (n : Net) (a p c : Int) : Int := ri n.owners (10 * a + 2 * p + c)
def ownPort (n : Net) (a i : Int) : Int :=
  if ownAt n a 0 (i % 2) = i / 2 then 0 else if ownAt n a 1 (i % 2) = i / 2 then 1 else if ownAt n a 2 (i % 2) = i / 2 then 2 else if ownAt n a 3 (i % 2) = i / 2 then 3 else if ownAt n a 4 (i % 2) = i / 2 then 4 else -1
def wantedN (n : Net) (a i : Int) : Int :=
  if (bufOf n a i).length = 0 then -1 else if (rf (bufOf n a i) 0).head = true then entry n.mesh (tabOf n.pa n.pb (i % 2)) a (rf (bufOf n a i) 0).dst else ownPort n a i
def behindI (n : Net) (a p c : Int) : Int := 10 * nextNode n.mesh.g a p + 2 * opposite p + c
def roomN (n : Net) (a p c : Int) : Bool := if p = 4 then true else live n.mesh (4 * a + p) && decide ((rl n.bufs (behindI n a p c)).length < 3)
def requestN (n : Net) (a i p : Int) : Bool :=
  (wantedN n a i == p) && roomN n a p (i % 2) && (if (rf (bufOf n a i) 0).head = true then ownAt n a p (i % 2) == -1 else ownAt n a p (i % 2) == i / 2)
structure At (n : Net) (a i : Int) : Prop where
  ok : netOk n = true
  nd : isNode n.mesh.g a = true
  i0 : 0 ≤ i
  i9 : i ≤ 9
theorem ok_classes {n : Net} (h : netOk n = true) : classesOk n.mesh n.pa n.pb = true := (netOk_parts h).1
theorem ok_tab {n : Net} (h : netOk n = true) (c : Int) : tableOk n.mesh (tabOf n.pa n.pb c) = true := by
  have := ok_classes h
  simp only [classesOk, Bool.and_eq_true] at this
  unfold tabOf
  split
  · exact this.2
  · exact this.1
theorem walkF_first {m : Mesh} {t : List Int} {b a : Int} {k : Nat} (h : walkF m t b (k + 1) a [] ≠ []) : ¬ entry m t a b = 4 → inside (entry m t a b) 0 3 = true := by
  intro h4
  unfold walkF at h
  rw [if_neg h4] at h
  cases hi : inside (entry m t a b) 0 3
  · simp [hi] at h
  · rfl
theorem entry_in {m : Mesh} {t : List Int} {a b : Int} (h : tableOk m t = true) (ha : isNode m.g a = true) (hb : isNode m.g b = true) : sized m t = true ∧ inside (entry m t a b) 0 4 = true := by
  simp only [tableOk, Bool.and_eq_true] at h
  refine ⟨h.1, ?_⟩
  have ha' := isNode_iff.1 ha
  have hb' := isNode_iff.1 hb
  have h2 := allI_iff.1 (allI_iff.1 h.2 a.toNat (by omega)) b.toNat (by omega)
  rw [Int.toNat_of_nonneg ha'.1, Int.toNat_of_nonneg hb'.1] at h2
  by_cases e : a = b
  · subst e
    rw [if_pos rfl] at h2
    rw [beq_iff_eq] at h2
    rw [h2]
    rfl
  · rw [if_neg (by omega), decide_eq_true_eq] at h2
    by_cases h4 : entry m t a b = 4
    · rw [h4]; rfl
    · have h5 := walkF_first (m := m) (t := t) (a := a) (b := b) (k := (nodeCount m.g).toNat) (fun e => by unfold walk at h2; rw [e] at h2; simp at h2) h4
      rw [inside_iff] at h5 ⊢
      omega
theorem At.idx {n : Net} {a i : Int} (h : At n a i) : 0 ≤ a ∧ a ≤ 15 ∧ 0 ≤ 10 * a + i ∧ 10 * a + i < (n.bufs.length : Int) ∧ 10 * a + 10 ≤ (n.owners.length : Int) ∧ 5 * a + 5 ≤ (n.turns.length : Int) ∧ a < (n.srcs.length : Int) ∧ a < (n.arrs.length : Int) := by
  obtain ⟨_, h1, h2, h3, h4, h5, _⟩ := netOk_parts h.ok
  have := isNode_iff.1 h.nd
  have := count_le n.mesh.g
  have := h.i0
  have := h.i9
  omega
theorem areFl_get {g : Grid} {l : List Flit} (h : areFl g l = true) (k : Nat) (hk : k < l.length) : isNode g (rf l k).dst = true ∧ inside (rf l k).cls 0 1 = true := by
  unfold areFl at h
  rw [List.all_eq_true] at h
  have := h _ (List.getElem_mem hk)
  rw [rf_get l k hk]
  simpa [flitOk] using this
theorem At.buf {n : Net} {a i : Int} (h : At n a i) : (bufOf n a i).length ≤ 3 ∧ ∀ k : Nat, k < (bufOf n a i).length → isNode n.mesh.g (rf (bufOf n a i) k).dst = true ∧ (rf (bufOf n a i) k).cls = i % 2 := by
  obtain ⟨_, h1, h2, h3, h4, h5, hb, _⟩ := netOk_parts h.ok
  obtain ⟨_, _, x0, x1, _⟩ := h.idx
  have hk := hb (10 * a + i).toNat (by omega)
  rw [Int.toNat_of_nonneg x0] at hk
  simp only [bufOk, Bool.and_eq_true, decide_eq_true_eq] at hk
  refine ⟨hk.1.1, fun k hlt => ⟨(areFl_get hk.2 k hlt).1, ?_⟩⟩
  have := List.all_eq_true.1 hk.1.2 _ (List.getElem_mem hlt)
  rw [rf_get _ k hlt]
  rw [beq_iff_eq] at this
  rw [this]
  omega
theorem At.buf0 {n : Net} {a i : Int} (h : At n a i) (h0 : 0 < (bufOf n a i).length) : isNode n.mesh.g (rf (bufOf n a i) 0).dst = true ∧ (rf (bufOf n a i) 0).cls = i % 2 := h.buf.2 0 h0
theorem ownPort_range (n : Net) (a i : Int) : -1 ≤ ownPort n a i ∧ ownPort n a i ≤ 4 := by
  unfold ownPort
  split
  · omega
  · split
    · omega
    · split
      · omega
      · split
        · omega
        · split <;> omega
theorem wanted_1 {n : Net} {a i : Int} (h : (bufOf n a i).length = 0) : wantedN n a i = -1 := by rw [wantedN, if_pos h]
theorem wanted_2 {n : Net} {a i : Int} (h : 0 < (bufOf n a i).length) (hh : (rf (bufOf n a i) 0).head = true) : wantedN n a i = entry n.mesh (tabOf n.pa n.pb (i % 2)) a (rf (bufOf n a i) 0).dst := by rw [wantedN, if_neg (by omega), if_pos hh]
theorem wanted_3 {n : Net} {a i : Int} (h : 0 < (bufOf n a i).length) (hh : (rf (bufOf n a i) 0).head = false) : wantedN n a i = ownPort n a i := by rw [wantedN, if_neg (by omega), if_neg (by simp [hh])]
theorem At.wanted {n : Net} {a i : Int} (h : At n a i) : -1 ≤ wantedN n a i ∧ wantedN n a i ≤ 4 := by
  by_cases h0 : (bufOf n a i).length = 0
  · rw [wanted_1 h0]; omega
  · cases hh : (rf (bufOf n a i) 0).head
    · rw [wanted_3 (by omega) hh]; exact ownPort_range n a i
    · rw [wanted_2 (by omega) hh]
      have := (entry_in (ok_tab h.ok (i % 2)) h.nd (h.buf0 (by omega)).1).2
      rw [inside_iff] at this
      exact ⟨by have := this.1; omega, this.2⟩
def usedAt (us : List Bool) (i : Int) : Bool := us.getD (i / 2).toNat false
theorem srcs_len {n : Net} (ok : netOk n = true) : n.srcs.length ≤ 16 ∧ (n.srcs.length : Int) = nodeCount n.mesh.g := by
  obtain ⟨_, h1, h2, h3, h4, h5, _⟩ := netOk_parts ok
  have := count_le n.mesh.g
  omega
def gIdx (g : Grant) : Int := 10 * g.node + g.input
def mvF (n : Net) (g : Grant) : Flit := rf (rl n.bufs (gIdx g)) 0
def gAt (g : Grant) : Int := 10 * g.node + 2 * g.port + g.input % 2
def gTurn (g : Grant) : Int := 5 * g.node + g.port
def gOwn (n : Net) (g : Grant) : Int := if (mvF n g).tail = true then -1 else g.input / 2
def gTo (n : Net) (g : Grant) : Int := behindI n g.node g.port (g.input % 2)
def pushG (n : Net) (x : Net) (g : Grant) : Net :=
  if g.port = 4 then { x with arrs := x.arrs.set g.node.toNat (rl x.arrs g.node ++ [mvF n g]), owners := x.owners.set (gAt g).toNat (gOwn n g), turns := x.turns.set (gTurn g).toNat ((g.input + 1) % 10) }
  else { x with bufs := x.bufs.set (gTo n g).toNat (rl x.bufs (gTo n g) ++ [mvF n g]), owners := x.owners.set (gAt g).toNat (gOwn n g), turns := x.turns.set (gTurn g).toNat ((g.input + 1) % 10) }
def eTo (n : Net) (k : Int) : Int := 10 * k + 8 + (rf (rl n.srcs k) 0).cls
def enterB (n x : Net) (k : Int) : Net := { x with bufs := x.bufs.set (eTo n k).toNat (rl x.bufs (eTo n k) ++ [rf (rl n.srcs k) 0]), srcs := x.srcs.set k.toNat ((rl x.srcs k).drop 1) }
def enterL (n x : Net) (ks : List Int) : Net := ks.foldl (enterB n) x
structure GOne (n : Net) (g : Grant) : Prop where
  nd : isNode n.mesh.g g.node = true
  p0 : 0 ≤ g.port
  p4 : g.port ≤ 4
  i0 : 0 ≤ g.input
  i9 : g.input ≤ 9
  req : requestN n g.node g.input g.port = true
theorem count_nat (g : Grid) : (((nodeCount g).toNat : Nat) : Int) = nodeCount g := by
  have := count_le g
  omega
theorem GOne.at {n : Net} {g : Grant} (h : GOne n g) (ok : netOk n = true) : At n g.node g.input := ⟨ok, h.nd, h.i0, h.i9⟩
theorem GOne.wants {n : Net} {g : Grant} (h : GOne n g) : wantedN n g.node g.input = g.port ∧ roomN n g.node g.port (g.input % 2) = true := by
  have := h.req
  unfold requestN at this
  rw [Bool.and_eq_true, Bool.and_eq_true, beq_iff_eq] at this
  exact ⟨this.1.1, this.1.2⟩
theorem GOne.live {n : Net} {g : Grant} (h : GOne n g) (h4 : ¬ g.port = 4) : NoC.live n.mesh (4 * g.node + g.port) = true ∧ (rl n.bufs (gTo n g)).length < 3 := by
  have h1 := h.wants.2
  unfold roomN at h1
  rw [if_neg h4, Bool.and_eq_true, decide_eq_true_eq] at h1
  exact h1
end NoC
namespace Go.Proofs.Ytmkbmddgkdoaiaa
open Go.RowKit Go.Proofs.YtmkbmddgkdoaiaaW.PrintWords
open NoC
theorem bufOk_1 {g : Grid} {i : Nat} {l : List Flit} (h : 3 < l.length) : bufOk g i l = false := by
  simp [bufOk]; omega
theorem bufOk_2 {g : Grid} {i : Nat} {l : List Flit} (h : ¬ (clsOnly l ((i % 2 : Nat) : Int)).length = l.length) : bufOk g i l = false := by
  have h2 := clsOnly_len l ((i % 2 : Nat) : Int)
  rw [beq_eq_false_iff_ne.2 h] at h2
  simp only [bufOk, ← h2, Bool.and_false, Bool.false_and]
theorem bufOk_3 {g : Grid} {i : Nat} {l : List Flit} (h : areFl g l = false) : bufOk g i l = false := by simp [bufOk, h]
theorem bufOk_4 {g : Grid} {i : Nat} {l : List Flit} (h1 : ¬ 3 < l.length) (h2 : (clsOnly l ((i % 2 : Nat) : Int)).length = l.length) (h3 : areFl g l = true) : bufOk g i l = true := by
  have h4 := clsOnly_len l ((i % 2 : Nat) : Int)
  rw [beq_iff_eq.2 h2] at h4
  simp only [bufOk, ← h4, h3, Bool.and_true, decide_eq_true_eq]
  omega
theorem srcOk_1 {g : Grid} {l : List Flit} (h : 60 < l.length) : srcOk g l = false := by
  simp [srcOk]; omega
theorem srcOk_2 {g : Grid} {l : List Flit} (h : areFl g l = false) : srcOk g l = false := by simp [srcOk, h]
theorem srcOk_3 {g : Grid} {l : List Flit} (h1 : ¬ 60 < l.length) (h : areFl g l = true) : srcOk g l = true := by
  simp only [srcOk, h, Bool.and_true, decide_eq_true_eq]
  omega
theorem mod2 (k : Nat) : ((k : Int) % 2) = ((k % 2 : Nat) : Int) := by omega
theorem netOk_eq {n : Net} (hc : classesOk n.mesh n.pa n.pb = true) (hs : shapeOk n = true) (hb : ∀ j : Nat, j < n.bufs.length → bufOk n.mesh.g j (rl n.bufs j) = true) (hr : ∀ j : Nat, j < n.srcs.length → srcOk n.mesh.g (rl n.srcs j) = true) :
    netOk n = (allI n.owners.length (fun i => inside (ri n.owners i) (-1) 4) && allI n.turns.length (fun i => inside (ri n.turns i) 0 9) && inside n.time 0 1000000) := by
  simp only [netOk, hc, hs, allI_true hb, allI_true hr, Bool.true_and]
theorem shape_mk {n : Net} (s1 : (n.bufs.length : Int) = 10 * nodeCount n.mesh.g) (s2 : (n.owners.length : Int) = 10 * nodeCount n.mesh.g) (s3 : (n.turns.length : Int) = 5 * nodeCount n.mesh.g) (s4 : (n.srcs.length : Int) = nodeCount n.mesh.g) (s5 : (n.arrs.length : Int) = nodeCount n.mesh.g) : shapeOk n = true := by
  simp only [shapeOk, s1, s2, s3, s4, s5, decide_true, Bool.and_true]
theorem netOk_no1 {n : Net} (h : classesOk n.mesh n.pa n.pb = false) : netOk n = false := by simp [netOk, h]
theorem netOk_no2 {n : Net} (h : shapeOk n = false) : netOk n = false := by simp [netOk, h]
theorem netOk_no3 {n : Net} (k : Nat) (hk : k < n.bufs.length) (h : bufOk n.mesh.g k (rl n.bufs k) = false) : netOk n = false := by simp [netOk, allI_false (p := fun (i : Nat) => bufOk n.mesh.g i (rl n.bufs i)) k hk h]
theorem netOk_no4 {n : Net} (k : Nat) (hk : k < n.srcs.length) (h : srcOk n.mesh.g (rl n.srcs k) = false) : netOk n = false := by simp [netOk, allI_false (p := fun (i : Nat) => srcOk n.mesh.g (rl n.srcs i)) k hk h]
theorem shape_no1 {n : Net} (h : ¬ (n.bufs.length : Int) = 10 * nodeCount n.mesh.g) : shapeOk n = false := by simp [shapeOk, h]
theorem shape_no2 {n : Net} (h : ¬ (n.owners.length : Int) = 10 * nodeCount n.mesh.g) : shapeOk n = false := by simp [shapeOk, h]
theorem shape_no3 {n : Net} (h : ¬ (n.turns.length : Int) = 5 * nodeCount n.mesh.g) : shapeOk n = false := by simp [shapeOk, h]
theorem shape_no4 {n : Net} (h : ¬ (n.srcs.length : Int) = nodeCount n.mesh.g) : shapeOk n = false := by simp [shapeOk, h]
theorem shape_no5 {n : Net} (h : ¬ (n.arrs.length : Int) = nodeCount n.mesh.g) : shapeOk n = false := by simp [shapeOk, h]

set_option maxHeartbeats 8000000 in
set_option maxRecDepth 100000 in
theorem impl_NetOk (n : Net) (q : NA) (w : World) (hr : NetR 77 w n q) : Calls Try.prog 40 #[.agg (netCells n q)] w fun e w' => e = .returned (.bool (netOk n)) ∧ Below w.heap.size w w' := by
 obtain ⟨a1, a2, a3, a4, a5, a6, a7, a8, c1, c2, c3, c4, c5, c6, c7, c8⟩ := q; obtain ⟨Rbr, Rpa, Rpb, Rbu, Row, Rtu, Rso, Rar, L1, L2, L3, L4, L5, L6, L7, L8, L9, L10, L11⟩ := hr; have M9 := Lib.hid L9; have M10 := Lib.hid L10; have M11 := Lib.hid L11; clear L9 L10 L11; dsimp only [netCells] at *
 obtain ⟨n0, n1⟩ := count_le n.mesh.g
 cases hc : classesOk n.mesh n.pa n.pb
 ·have HC := Lib.hid hc
  go_enter Try.func40, Try.ntmps40
  go_wp2_with (first | (go_at_call 36; refine (impl_NodeCount n.mesh.g _).mono ?_; rintro e w1 ⟨rfl, hb1⟩; obtain ⟨hc1, hf1, hz1⟩ := bcell hb1; (try simp only [szs] at hz1); have hb2 := far2; obtain ⟨hc2, hf2, hz2⟩ := bcell hb2; (try simp only [szs] at hz2); try (first | obtain ⟨hy1, hy2, hy3, hy4⟩ := lts4 hz2 | obtain ⟨hy1, hy2, hy3⟩ := lts3 hz2 | obtain ⟨hy1, hy2⟩ := lts2 hz2 | have hy1 := lts1 hz2); have hb9 := hb1) | (go_at_call 35; refine (impl_ClassesOk n.mesh n.pa n.pb a1 a2 a3 _ _ _ _ (by exact Kd.C_below Rbr bel) L1 (by exact Kd.C_below Rpa bel) L2 (by exact Kd.C_below Rpb bel) L3).mono ?_; rintro e w1 ⟨rfl, hb1⟩; obtain ⟨hc1, hf1, hz1⟩ := bcell hb1; (try simp only [szs] at hz1); have hb2 := far2; obtain ⟨hc2, hf2, hz2⟩ := bcell hb2; (try simp only [szs] at hz2); try (first | obtain ⟨hy1, hy2, hy3, hy4⟩ := lts4 hz2 | obtain ⟨hy1, hy2, hy3⟩ := lts3 hz2 | obtain ⟨hy1, hy2⟩ := lts2 hz2 | have hy1 := lts1 hz2); have hb9 := hb1))
  go_ret
  exact ⟨ret_bool (netOk_no1 HC.out).symm, bel⟩
 by_cases s0 : (n.bufs.length : Int) = 10 * nodeCount n.mesh.g
 case neg =>
  have e0 : ((n.bufs.length : Int) != 10 * nodeCount n.mesh.g) = true := bne_iff_ne.2 s0
  have S0 := Lib.hid s0
  clear s0
  go_enter Try.func40, Try.ntmps40
  go_wp2_with (first | (go_at_call 36; refine (impl_NodeCount n.mesh.g _).mono ?_; rintro e w1 ⟨rfl, hb1⟩; obtain ⟨hc1, hf1, hz1⟩ := bcell hb1; (try simp only [szs] at hz1); have hb2 := far2; obtain ⟨hc2, hf2, hz2⟩ := bcell hb2; (try simp only [szs] at hz2); try (first | obtain ⟨hy1, hy2, hy3, hy4⟩ := lts4 hz2 | obtain ⟨hy1, hy2, hy3⟩ := lts3 hz2 | obtain ⟨hy1, hy2⟩ := lts2 hz2 | have hy1 := lts1 hz2); have hb9 := hb1) | (go_at_call 35; refine (impl_ClassesOk n.mesh n.pa n.pb a1 a2 a3 _ _ _ _ (by exact Kd.C_below Rbr bel) L1 (by exact Kd.C_below Rpa bel) L2 (by exact Kd.C_below Rpb bel) L3).mono ?_; rintro e w1 ⟨rfl, hb1⟩; obtain ⟨hc1, hf1, hz1⟩ := bcell hb1; (try simp only [szs] at hz1); have hb2 := far2; obtain ⟨hc2, hf2, hz2⟩ := bcell hb2; (try simp only [szs] at hz2); try (first | obtain ⟨hy1, hy2, hy3, hy4⟩ := lts4 hz2 | obtain ⟨hy1, hy2, hy3⟩ := lts3 hz2 | obtain ⟨hy1, hy2⟩ := lts2 hz2 | have hy1 := lts1 hz2); have hb9 := hb1))
  go_ret
  exact ⟨ret_bool (netOk_no2 (shape_no1 S0.out)).symm, bel⟩
 have e0 : ((n.bufs.length : Int) != 10 * nodeCount n.mesh.g) = false := bne_eq_false_iff_eq.2 s0
 have S0 := Lib.hid s0
 have u0 : (n.bufs.length : Int) ≤ 10 * nodeCount n.mesh.g := by omega
 have v0 : 10 * nodeCount n.mesh.g ≤ (n.bufs.length : Int) := by omega
 clear s0
 by_cases s1 : (n.owners.length : Int) = 10 * nodeCount n.mesh.g
 case neg =>
  have e1 : ((n.owners.length : Int) != 10 * nodeCount n.mesh.g) = true := bne_iff_ne.2 s1
  have S1 := Lib.hid s1
  clear s1
  go_enter Try.func40, Try.ntmps40
  go_wp2_with (first | (go_at_call 36; refine (impl_NodeCount n.mesh.g _).mono ?_; rintro e w1 ⟨rfl, hb1⟩; obtain ⟨hc1, hf1, hz1⟩ := bcell hb1; (try simp only [szs] at hz1); have hb2 := far2; obtain ⟨hc2, hf2, hz2⟩ := bcell hb2; (try simp only [szs] at hz2); try (first | obtain ⟨hy1, hy2, hy3, hy4⟩ := lts4 hz2 | obtain ⟨hy1, hy2, hy3⟩ := lts3 hz2 | obtain ⟨hy1, hy2⟩ := lts2 hz2 | have hy1 := lts1 hz2); have hb9 := hb1) | (go_at_call 35; refine (impl_ClassesOk n.mesh n.pa n.pb a1 a2 a3 _ _ _ _ (by exact Kd.C_below Rbr bel) L1 (by exact Kd.C_below Rpa bel) L2 (by exact Kd.C_below Rpb bel) L3).mono ?_; rintro e w1 ⟨rfl, hb1⟩; obtain ⟨hc1, hf1, hz1⟩ := bcell hb1; (try simp only [szs] at hz1); have hb2 := far2; obtain ⟨hc2, hf2, hz2⟩ := bcell hb2; (try simp only [szs] at hz2); try (first | obtain ⟨hy1, hy2, hy3, hy4⟩ := lts4 hz2 | obtain ⟨hy1, hy2, hy3⟩ := lts3 hz2 | obtain ⟨hy1, hy2⟩ := lts2 hz2 | have hy1 := lts1 hz2); have hb9 := hb1))
  go_ret
  exact ⟨ret_bool (netOk_no2 (shape_no2 S1.out)).symm, bel⟩
 have e1 : ((n.owners.length : Int) != 10 * nodeCount n.mesh.g) = false := bne_eq_false_iff_eq.2 s1
 have S1 := Lib.hid s1
 have u1 : (n.owners.length : Int) ≤ 10 * nodeCount n.mesh.g := by omega
 have v1 : 10 * nodeCount n.mesh.g ≤ (n.owners.length : Int) := by omega
 clear s1
 by_cases s2 : (n.turns.length : Int) = 5 * nodeCount n.mesh.g
 case neg =>
  have e2 : ((n.turns.length : Int) != 5 * nodeCount n.mesh.g) = true := bne_iff_ne.2 s2
  have S2 := Lib.hid s2
  clear s2
  go_enter Try.func40, Try.ntmps40
  go_wp2_with (first | (go_at_call 36; refine (impl_NodeCount n.mesh.g _).mono ?_; rintro e w1 ⟨rfl, hb1⟩; obtain ⟨hc1, hf1, hz1⟩ := bcell hb1; (try simp only [szs] at hz1); have hb2 := far2; obtain ⟨hc2, hf2, hz2⟩ := bcell hb2; (try simp only [szs] at hz2); try (first | obtain ⟨hy1, hy2, hy3, hy4⟩ := lts4 hz2 | obtain ⟨hy1, hy2, hy3⟩ := lts3 hz2 | obtain ⟨hy1, hy2⟩ := lts2 hz2 | have hy1 := lts1 hz2); have hb9 := hb1) | (go_at_call 35; refine (impl_ClassesOk n.mesh n.pa n.pb a1 a2 a3 _ _ _ _ (by exact Kd.C_below Rbr bel) L1 (by exact Kd.C_below Rpa bel) L2 (by exact Kd.C_below Rpb bel) L3).mono ?_; rintro e w1 ⟨rfl, hb1⟩; obtain ⟨hc1, hf1, hz1⟩ := bcell hb1; (try simp only [szs] at hz1); have hb2 := far2; obtain ⟨hc2, hf2, hz2⟩ := bcell hb2; (try simp only [szs] at hz2); try (first | obtain ⟨hy1, hy2, hy3, hy4⟩ := lts4 hz2 | obtain ⟨hy1, hy2, hy3⟩ := lts3 hz2 | obtain ⟨hy1, hy2⟩ := lts2 hz2 | have hy1 := lts1 hz2); have hb9 := hb1))
  go_ret
  exact ⟨ret_bool (netOk_no2 (shape_no3 S2.out)).symm, bel⟩
 have e2 : ((n.turns.length : Int) != 5 * nodeCount n.mesh.g) = false := bne_eq_false_iff_eq.2 s2
 have S2 := Lib.hid s2
 have u2 : (n.turns.length : Int) ≤ 5 * nodeCount n.mesh.g := by omega
 have v2 : 5 * nodeCount n.mesh.g ≤ (n.turns.length : Int) := by omega
 clear s2
 by_cases s3 : (n.srcs.length : Int) = nodeCount n.mesh.g
 case neg =>
  have e3 : ((n.srcs.length : Int) != nodeCount n.mesh.g) = true := bne_iff_ne.2 s3
  have S3 := Lib.hid s3
  clear s3
  go_enter Try.func40, Try.ntmps40
  go_wp2_with (first | (go_at_call 36; refine (impl_NodeCount n.mesh.g _).mono ?_; rintro e w1 ⟨rfl, hb1⟩; obtain ⟨hc1, hf1, hz1⟩ := bcell hb1; (try simp only [szs] at hz1); have hb2 := far2; obtain ⟨hc2, hf2, hz2⟩ := bcell hb2; (try simp only [szs] at hz2); try (first | obtain ⟨hy1, hy2, hy3, hy4⟩ := lts4 hz2 | obtain ⟨hy1, hy2, hy3⟩ := lts3 hz2 | obtain ⟨hy1, hy2⟩ := lts2 hz2 | have hy1 := lts1 hz2); have hb9 := hb1) | (go_at_call 35; refine (impl_ClassesOk n.mesh n.pa n.pb a1 a2 a3 _ _ _ _ (by exact Kd.C_below Rbr bel) L1 (by exact Kd.C_below Rpa bel) L2 (by exact Kd.C_below Rpb bel) L3).mono ?_; rintro e w1 ⟨rfl, hb1⟩; obtain ⟨hc1, hf1, hz1⟩ := bcell hb1; (try simp only [szs] at hz1); have hb2 := far2; obtain ⟨hc2, hf2, hz2⟩ := bcell hb2; (try simp only [szs] at hz2); try (first | obtain ⟨hy1, hy2, hy3, hy4⟩ := lts4 hz2 | obtain ⟨hy1, hy2, hy3⟩ := lts3 hz2 | obtain ⟨hy1, hy2⟩ := lts2 hz2 | have hy1 := lts1 hz2); have hb9 := hb1))
  go_ret
  exact ⟨ret_bool (netOk_no2 (shape_no4 S3.out)).symm, bel⟩
 have e3 : ((n.srcs.length : Int) != nodeCount n.mesh.g) = false := bne_eq_false_iff_eq.2 s3
 have S3 := Lib.hid s3
 have u3 : (n.srcs.length : Int) ≤ nodeCount n.mesh.g := by omega
 have v3 : nodeCount n.mesh.g ≤ (n.srcs.length : Int) := by omega
 clear s3
 by_cases s4 : (n.arrs.length : Int) = nodeCount n.mesh.g
 case neg =>
  have e4 : ((n.arrs.length : Int) != nodeCount n.mesh.g) = true := bne_iff_ne.2 s4
  have S4 := Lib.hid s4
  clear s4
  go_enter Try.func40, Try.ntmps40
  go_wp2_with (first | (go_at_call 36; refine (impl_NodeCount n.mesh.g _).mono ?_; rintro e w1 ⟨rfl, hb1⟩; obtain ⟨hc1, hf1, hz1⟩ := bcell hb1; (try simp only [szs] at hz1); have hb2 := far2; obtain ⟨hc2, hf2, hz2⟩ := bcell hb2; (try simp only [szs] at hz2); try (first | obtain ⟨hy1, hy2, hy3, hy4⟩ := lts4 hz2 | obtain ⟨hy1, hy2, hy3⟩ := lts3 hz2 | obtain ⟨hy1, hy2⟩ := lts2 hz2 | have hy1 := lts1 hz2); have hb9 := hb1) | (go_at_call 35; refine (impl_ClassesOk n.mesh n.pa n.pb a1 a2 a3 _ _ _ _ (by exact Kd.C_below Rbr bel) L1 (by exact Kd.C_below Rpa bel) L2 (by exact Kd.C_below Rpb bel) L3).mono ?_; rintro e w1 ⟨rfl, hb1⟩; obtain ⟨hc1, hf1, hz1⟩ := bcell hb1; (try simp only [szs] at hz1); have hb2 := far2; obtain ⟨hc2, hf2, hz2⟩ := bcell hb2; (try simp only [szs] at hz2); try (first | obtain ⟨hy1, hy2, hy3, hy4⟩ := lts4 hz2 | obtain ⟨hy1, hy2, hy3⟩ := lts3 hz2 | obtain ⟨hy1, hy2⟩ := lts2 hz2 | have hy1 := lts1 hz2); have hb9 := hb1))
  go_ret
  exact ⟨ret_bool (netOk_no2 (shape_no5 S4.out)).symm, bel⟩
 have e4 : ((n.arrs.length : Int) != nodeCount n.mesh.g) = false := bne_eq_false_iff_eq.2 s4
 have S4 := Lib.hid s4
 have u4 : (n.arrs.length : Int) ≤ nodeCount n.mesh.g := by omega
 have v4 : nodeCount n.mesh.g ≤ (n.arrs.length : Int) := by omega
 clear s4
 have HSH := Lib.hid (shape_mk S0.out S1.out S2.out S3.out S4.out)
 have HC := Lib.hid hc
 go_enter Try.func40, Try.ntmps40
 go_wp2_with (first | (go_at_call 36; refine (impl_NodeCount n.mesh.g _).mono ?_; rintro e w1 ⟨rfl, hb1⟩; obtain ⟨hc1, hf1, hz1⟩ := bcell hb1; (try simp only [szs] at hz1); have hb2 := far2; obtain ⟨hc2, hf2, hz2⟩ := bcell hb2; (try simp only [szs] at hz2); try (first | obtain ⟨hy1, hy2, hy3, hy4⟩ := lts4 hz2 | obtain ⟨hy1, hy2, hy3⟩ := lts3 hz2 | obtain ⟨hy1, hy2⟩ := lts2 hz2 | have hy1 := lts1 hz2); have hb9 := hb1) | (go_at_call 35; refine (impl_ClassesOk n.mesh n.pa n.pb a1 a2 a3 _ _ _ _ (by exact Kd.C_below Rbr bel) L1 (by exact Kd.C_below Rpa bel) L2 (by exact Kd.C_below Rpb bel) L3).mono ?_; rintro e w1 ⟨rfl, hb1⟩; obtain ⟨hc1, hf1, hz1⟩ := bcell hb1; (try simp only [szs] at hz1); have hb2 := far2; obtain ⟨hc2, hf2, hz2⟩ := bcell hb2; (try simp only [szs] at hz2); try (first | obtain ⟨hy1, hy2, hy3, hy4⟩ := lts4 hz2 | obtain ⟨hy1, hy2, hy3⟩ := lts3 hz2 | obtain ⟨hy1, hy2⟩ := lts2 hz2 | have hy1 := lts1 hz2); have hb9 := hb1))
 go_loopw [59] (fun i wr => ∃ k : Nat, i = .int .i64 k ∧ k ≤ n.bufs.length ∧ Hid (∀ j : Nat, j < k → bufOk n.mesh.g j (rl n.bufs j) = true) ∧ Below (w.alloc (.cells #[.int .i64 n.mesh.g.w, .int .i64 n.mesh.g.h, .slice a1 n.mesh.br.length c1, .slice a2 n.pa.length c2, .slice a3 n.pb.length c3, .slice a4 n.bufs.length c4, .slice a5 n.owners.length c5, .slice a6 n.turns.length c6, .slice a7 n.srcs.length c7, .slice a8 n.arrs.length c8, .int .i64 n.time] 33)).heap.size (w.alloc (.cells #[.int .i64 n.mesh.g.w, .int .i64 n.mesh.g.h, .slice a1 n.mesh.br.length c1, .slice a2 n.pa.length c2, .slice a3 n.pb.length c3, .slice a4 n.bufs.length c4, .slice a5 n.owners.length c5, .slice a6 n.turns.length c6, .slice a7 n.srcs.length c7, .slice a8 n.arrs.length c8, .int .i64 n.time] 33)) wr) (fun i _ => n.bufs.length - (intOf i).toNat)
 case atStart => exact ⟨0, rfl, Nat.zero_le _, Lib.hid fun j h => absurd h (Nat.not_lt_zero _), bel⟩
 case round =>
  obtain ⟨k, rfl, hk, HA, HB⟩ := hrel
  obtain ⟨hcr, hfr, hzr⟩ := bcell HB
  simp only [szs] at hzr
  have yy1 := lts1 hzr
  by_cases hlt : k < n.bufs.length
  ·obtain ⟨b, off, rfl, hb, Ai, ci, p0, hle, hCi⟩ := rdB_at Rbu k hlt
   obtain ⟨z1, z2, z3, z4, z5, z6⟩ := more hb
   have hki := M9.out _ (rl_mem hlt)
   have i0 : (k : Int) < (n.bufs.length : Int) := by omega
   by_cases g1 : 3 < (rl n.bufs k).length
   ·have g1' : (3 : Int) < ((rl n.bufs k).length : Int) := by omega
    go_wp2
    go_ret
    exact ⟨ret_bool (netOk_no3 k hlt (bufOk_1 g1)).symm, bel⟩
   have g1' : ¬ (3 : Int) < ((rl n.bufs k).length : Int) := by omega
   have hco := clsOnly_take_len (rl n.bufs k) ((k : Int) % 2) (rl n.bufs k).length
   rw [List.take_length] at hco
   by_cases g2 : (clsOnly (rl n.bufs k) ((k % 2 : Nat) : Int)).length = (rl n.bufs k).length
   case neg =>
    have G2 := Lib.hid g2
    rw [← mod2] at g2
    have f2 : (((clsOnly (rl n.bufs k) ((k : Int) % 2)).length : Int) != ((rl n.bufs k).length : Int)) = true := bne_iff_ne.2 (by omega)
    clear g2
    go_wp2_with (go_at_call 61; refine (impl_ClassOnly (rl n.bufs k) ((k : Int) % 2) Ai ci _ (by exact Kd.C_below hCi bel) hki).mono ?_; rintro e w1 ⟨hg1, hb1⟩; obtain ⟨A1, d1, rfl, hk1, hC1⟩ := hg1.read; obtain ⟨hc1, hf1, hz1⟩ := bcell hb1; (try simp only [szs] at hz1); have hb2 := far2; obtain ⟨hc2, hf2, hz2⟩ := bcell hb2; (try simp only [szs] at hz2); try (first | obtain ⟨hy1, hy2, hy3, hy4⟩ := lts4 hz2 | obtain ⟨hy1, hy2, hy3⟩ := lts3 hz2 | obtain ⟨hy1, hy2⟩ := lts2 hz2 | have hy1 := lts1 hz2); have hb9 := hb1)
    go_ret
    exact ⟨ret_bool (netOk_no3 k hlt (bufOk_2 G2.out)).symm, bel⟩
   have G2 := Lib.hid g2
   rw [← mod2] at g2
   have f2 : (((clsOnly (rl n.bufs k) ((k : Int) % 2)).length : Int) != ((rl n.bufs k).length : Int)) = false := bne_eq_false_iff_eq.2 (by omega)
   clear g2
   cases h3 : areFl n.mesh.g (rl n.bufs k)
   ·have H3 := Lib.hid h3
    go_wp2_with (first | (go_at_call 61; refine (impl_ClassOnly (rl n.bufs k) ((k : Int) % 2) Ai ci _ (by exact Kd.C_below hCi bel) hki).mono ?_; rintro e w1 ⟨hg1, hb1⟩; obtain ⟨A1, d1, rfl, hk1, hC1⟩ := hg1.read; obtain ⟨hc1, hf1, hz1⟩ := bcell hb1; (try simp only [szs] at hz1); have hb2 := far2; obtain ⟨hc2, hf2, hz2⟩ := bcell hb2; (try simp only [szs] at hz2); try (first | obtain ⟨hy1, hy2, hy3, hy4⟩ := lts4 hz2 | obtain ⟨hy1, hy2, hy3⟩ := lts3 hz2 | obtain ⟨hy1, hy2⟩ := lts2 hz2 | have hy1 := lts1 hz2); have hb9 := hb1) | (go_at_call 62; refine (impl_areFlits n.mesh.g (rl n.bufs k) Ai ci _ (by exact Kd.C_below hCi bel) hki).mono ?_; rintro e w1 ⟨rfl, hb1⟩; obtain ⟨hc1, hf1, hz1⟩ := bcell hb1; (try simp only [szs] at hz1); have hb2 := far2; obtain ⟨hc2, hf2, hz2⟩ := bcell hb2; (try simp only [szs] at hz2); try (first | obtain ⟨hy1, hy2, hy3, hy4⟩ := lts4 hz2 | obtain ⟨hy1, hy2, hy3⟩ := lts3 hz2 | obtain ⟨hy1, hy2⟩ := lts2 hz2 | have hy1 := lts1 hz2); have hb9 := hb1))
    go_ret
    exact ⟨ret_bool (netOk_no3 k hlt (bufOk_3 H3.out)).symm, bel⟩
   ·have H3 := Lib.hid h3
    go_wp2_with (first | (go_at_call 61; refine (impl_ClassOnly (rl n.bufs k) ((k : Int) % 2) Ai ci _ (by exact Kd.C_below hCi bel) hki).mono ?_; rintro e w1 ⟨hg1, hb1⟩; obtain ⟨A1, d1, rfl, hk1, hC1⟩ := hg1.read; obtain ⟨hc1, hf1, hz1⟩ := bcell hb1; (try simp only [szs] at hz1); have hb2 := far2; obtain ⟨hc2, hf2, hz2⟩ := bcell hb2; (try simp only [szs] at hz2); try (first | obtain ⟨hy1, hy2, hy3, hy4⟩ := lts4 hz2 | obtain ⟨hy1, hy2, hy3⟩ := lts3 hz2 | obtain ⟨hy1, hy2⟩ := lts2 hz2 | have hy1 := lts1 hz2); have hb9 := hb1) | (go_at_call 62; refine (impl_areFlits n.mesh.g (rl n.bufs k) Ai ci _ (by exact Kd.C_below hCi bel) hki).mono ?_; rintro e w1 ⟨rfl, hb1⟩; obtain ⟨hc1, hf1, hz1⟩ := bcell hb1; (try simp only [szs] at hz1); have hb2 := far2; obtain ⟨hc2, hf2, hz2⟩ := bcell hb2; (try simp only [szs] at hz2); try (first | obtain ⟨hy1, hy2, hy3, hy4⟩ := lts4 hz2 | obtain ⟨hy1, hy2, hy3⟩ := lts3 hz2 | obtain ⟨hy1, hy2⟩ := lts2 hz2 | have hy1 := lts1 hz2); have hb9 := hb1))
    go_roundw
    case rel => exact ⟨k + 1, by go_num, by omega, Lib.hid (upto HA.out (bufOk_4 g1 G2.out H3.out)), bel⟩
    case measure => simp [intOf]; omega
  ·have i0 : ¬ (k : Int) < (n.bufs.length : Int) := by omega
   have HBU : Hid (∀ j : Nat, j < n.bufs.length → bufOk n.mesh.g j (rl n.bufs j) = true) := Lib.hid fun j hj => HA.out j (by omega)
   go_wp2
   go_loopw [89] (fun i wr => ∃ k : Nat, i = .int .i64 k ∧ k ≤ n.srcs.length ∧ Hid (∀ j : Nat, j < k → srcOk n.mesh.g (rl n.srcs j) = true) ∧ Below (w.alloc (.cells #[.int .i64 n.mesh.g.w, .int .i64 n.mesh.g.h, .slice a1 n.mesh.br.length c1, .slice a2 n.pa.length c2, .slice a3 n.pb.length c3, .slice a4 n.bufs.length c4, .slice a5 n.owners.length c5, .slice a6 n.turns.length c6, .slice a7 n.srcs.length c7, .slice a8 n.arrs.length c8, .int .i64 n.time] 33)).heap.size (w.alloc (.cells #[.int .i64 n.mesh.g.w, .int .i64 n.mesh.g.h, .slice a1 n.mesh.br.length c1, .slice a2 n.pa.length c2, .slice a3 n.pb.length c3, .slice a4 n.bufs.length c4, .slice a5 n.owners.length c5, .slice a6 n.turns.length c6, .slice a7 n.srcs.length c7, .slice a8 n.arrs.length c8, .int .i64 n.time] 33)) wr) (fun i _ => n.srcs.length - (intOf i).toNat)
   case atStart => exact ⟨0, rfl, Nat.zero_le _, Lib.hid fun j h => absurd h (Nat.not_lt_zero _), bel⟩
   case round =>
    clear HA HB hcr hfr hzr yy1 hlt i0 hk
    obtain ⟨k, rfl, hk, HA, HB⟩ := hrel
    obtain ⟨hcr, hfr, hzr⟩ := bcell HB
    simp only [szs] at hzr
    have yy1 := lts1 hzr
    by_cases hlt : k < n.srcs.length
    ·obtain ⟨b, off, rfl, hb, Ai, ci, p0, hle, hCi⟩ := rdB_at Rso k hlt
     obtain ⟨z1, z2, z3, z4, z5, z6⟩ := more hb
     have hki := M10.out _ (rl_mem hlt)
     have i0 : (k : Int) < (n.srcs.length : Int) := by omega
     by_cases g1 : 60 < (rl n.srcs k).length
     ·have g1' : (60 : Int) < ((rl n.srcs k).length : Int) := by omega
      go_wp2
      go_ret
      exact ⟨ret_bool (netOk_no4 k hlt (srcOk_1 g1)).symm, bel⟩
     have g1' : ¬ (60 : Int) < ((rl n.srcs k).length : Int) := by omega
     cases h3 : areFl n.mesh.g (rl n.srcs k)
     ·have H3 := Lib.hid h3
      go_wp2_with (go_at_call 62; refine (impl_areFlits n.mesh.g (rl n.srcs k) Ai ci _ (by exact Kd.C_below hCi bel) hki).mono ?_; rintro e w1 ⟨rfl, hb1⟩; obtain ⟨hc1, hf1, hz1⟩ := bcell hb1; (try simp only [szs] at hz1); have hb2 := far2; obtain ⟨hc2, hf2, hz2⟩ := bcell hb2; (try simp only [szs] at hz2); try (first | obtain ⟨hy1, hy2, hy3, hy4⟩ := lts4 hz2 | obtain ⟨hy1, hy2, hy3⟩ := lts3 hz2 | obtain ⟨hy1, hy2⟩ := lts2 hz2 | have hy1 := lts1 hz2); have hb9 := hb1)
      go_ret
      exact ⟨ret_bool (netOk_no4 k hlt (srcOk_2 H3.out)).symm, bel⟩
     ·have H3 := Lib.hid h3
      go_wp2_with (go_at_call 62; refine (impl_areFlits n.mesh.g (rl n.srcs k) Ai ci _ (by exact Kd.C_below hCi bel) hki).mono ?_; rintro e w1 ⟨rfl, hb1⟩; obtain ⟨hc1, hf1, hz1⟩ := bcell hb1; (try simp only [szs] at hz1); have hb2 := far2; obtain ⟨hc2, hf2, hz2⟩ := bcell hb2; (try simp only [szs] at hz2); try (first | obtain ⟨hy1, hy2, hy3, hy4⟩ := lts4 hz2 | obtain ⟨hy1, hy2, hy3⟩ := lts3 hz2 | obtain ⟨hy1, hy2⟩ := lts2 hz2 | have hy1 := lts1 hz2); have hb9 := hb1)
      go_roundw
      case rel => exact ⟨k + 1, by go_num, by omega, Lib.hid (upto HA.out (srcOk_3 g1 H3.out)), bel⟩
      case measure => simp [intOf]; omega
    ·have i0 : ¬ (k : Int) < (n.srcs.length : Int) := by omega
     have HE := Lib.hid (netOk_eq HC.out HSH.out HBU.out (fun j hj => HA.out j (by omega)))
     cases t1 : allI n.owners.length (fun i => inside (ri n.owners i) (-1) 4)
     ·have T1 := Lib.hid t1
      go_wp2_with (go_at_call_of 63 n.owners; refine (impl_areInside n.owners (-1) 4 a5 c5 _ (by exact Kd.C_below Row bel) L5).mono ?_; rintro e w' ⟨rfl, rfl⟩)
      go_ret
      exact ⟨ret_bool (by rw [HE.out, T1.out]; rfl), bel⟩
     cases t2 : allI n.turns.length (fun i => inside (ri n.turns i) 0 9)
     ·have T1 := Lib.hid t1
      have T2 := Lib.hid t2
      go_wp2_with (first | (go_at_call_of 63 n.owners; refine (impl_areInside n.owners (-1) 4 a5 c5 _ (by exact Kd.C_below Row bel) L5).mono ?_; rintro e w' ⟨rfl, rfl⟩) | (go_at_call_of 63 n.turns; refine (impl_areInside n.turns 0 9 a6 c6 _ (by exact Kd.C_below Rtu bel) L6).mono ?_; rintro e w' ⟨rfl, rfl⟩))
      go_ret
      exact ⟨ret_bool (by rw [HE.out, T1.out, T2.out]; rfl), bel⟩
     ·have T1 := Lib.hid t1
      have T2 := Lib.hid t2
      go_wp2_with (first | (go_at_call_of 63 n.owners; refine (impl_areInside n.owners (-1) 4 a5 c5 _ (by exact Kd.C_below Row bel) L5).mono ?_; rintro e w' ⟨rfl, rfl⟩) | (go_at_call_of 63 n.turns; refine (impl_areInside n.turns 0 9 a6 c6 _ (by exact Kd.C_below Rtu bel) L6).mono ?_; rintro e w' ⟨rfl, rfl⟩) | (go_at_call 64; refine (impl_inside _ _ _ _).mono ?_; rintro e w' ⟨rfl, rfl⟩))
      go_ret
      exact ⟨ret_bool (by rw [HE.out, T1.out, T2.out]; rfl), bel⟩
theorem rdB_int {e : Nat} {w : World} {A : Option Addr} {l : List (List Flit)} (h : (kB e).C w A l.length l) (i : Int) (h0 : 0 ≤ i) (h1 : i < (l.length : Int)) :
    ∃ b off, A = some ⟨b, off, none⟩ ∧ b < w.heap.size ∧ ∃ Ai ci, w.cell? ⟨b, off + i.toNat, none⟩ = some (.slice Ai (rl l i).length ci) ∧ (rl l i).length ≤ ci ∧ kF.C w Ai (rl l i).length (rl l i) := by
  obtain ⟨b, off, e1, hb, Ai, ci, h2, h3, h4⟩ := rdB_at h i.toNat (by omega)
  rw [Int.toNat_of_nonneg h0] at h2 h3 h4
  exact ⟨b, off, e1, hb, Ai, ci, h2, h3, h4⟩
end Go.Proofs.Ytmkbmddgkdoaiaa
