/- Lemmas for laws of this seat, for all inputs: CpN RunI SndI. -/
import Derived.Test.YteeebfeljjghhaaGreatH6
import Derived.Test.YteeebfeljjghhaaGreatH7
import Derived.Test.YteeebfeljjghhaaGreatH8
/- Copies of networks: both sides; for all networks whose rows hold at most two million entries each. -/
set_option linter.unusedVariables false
set_option linter.unusedSimpArgs false
namespace Go.Proofs.YteeebfeljjghhaaGreat
open Go.RowKit Go.Proofs.YteeebfeljjghhaaGreatW.PrintWords
open NoC

def GotNX (w w' : World) (n : Net) (e : Ending) : Prop := ∃ q v4 v7 v8, e = .returned (.agg (netCells n q)) ∧ NX w' w.heap.size n q v4 v7 v8
theorem own_within {w : World} {base e sz n : Nat} {v : Value} {xs : List Value} (h : w.ownsRow base e sz v n xs) : Within v base w.heap.size := fun k hk => ⟨own_base h k hk, own_lt h k hk⟩
theorem FR.append {w : World} {lo : Nat} {vs us : List Value} {l m : List (List Flit)} (h : FR w lo vs l) (k : FR w lo us m) (ha : ∀ i j : Nat, i < l.length → j < m.length → Apart (vr vs i) (vr us j)) : FR w lo (vs ++ us) (l ++ m) := by
  have hl := h.len
  have e1 : ∀ i : Nat, i < l.length → vr (vs ++ us) i = vr vs i := fun i hi => vr_left (by omega)
  have e2 : ∀ i : Nat, vr (vs ++ us) (l.length + i) = vr us i := fun i => by rw [← hl]; exact vr_right
  refine ⟨by simp [hl, k.len], fun i hi => ?_, fun i j hij hj => ?_⟩
  · rw [List.length_append] at hi
    by_cases e : i < l.length
    · rw [e1 i e, rl_left e]
      exact h.row i e
    · obtain ⟨d, rfl⟩ : ∃ d, i = l.length + d := ⟨i - l.length, by omega⟩
      rw [e2, rl_right]
      exact k.row d (by omega)
  · rw [List.length_append] at hj
    by_cases e : j < l.length
    · rw [e1 i (by omega), e1 j e]
      exact h.ap i j hij e
    · obtain ⟨d, rfl⟩ : ∃ d, j = l.length + d := ⟨j - l.length, by omega⟩
      rw [e2]
      by_cases e3 : i < l.length
      · rw [e1 i e3]
        exact ha i d e3 (by omega)
      · obtain ⟨c, rfl⟩ : ∃ c, i = l.length + c := ⟨i - l.length, by omega⟩
        rw [e2]
        exact k.ap c d (by omega) (by omega)
theorem FR.set {w : World} {lo : Nat} {vs : List Value} {l : List (List Flit)} (h : FR w lo vs l) {g : Nat} (hg : g < lo) (j : Nat) (u : Value) : FR (w.setCell ⟨g, j, none⟩ u) lo vs l :=
  ⟨h.len, fun i hi => R_off (h.row i hi) hg j u, h.ap⟩
theorem all5 {v0 v1 v2 v3 v4 : Value} (h01 : Ap0 v0 v1) (h02 : Ap0 v0 v2) (h03 : Ap0 v0 v3) (h04 : Ap0 v0 v4) (h12 : Ap0 v1 v2) (h13 : Ap0 v1 v3) (h14 : Ap0 v1 v4) (h23 : Ap0 v2 v3) (h24 : Ap0 v2 v4) (h34 : Ap0 v3 v4) : AllAp0 5 [v0, v1, v2, v3, v4] := by
  intro i j hij hj
  rcases (by omega : j = 1 ∨ j = 2 ∨ j = 3 ∨ j = 4) with rfl | rfl | rfl | rfl
  · obtain rfl : i = 0 := by omega
    exact h01
  · rcases (by omega : i = 0 ∨ i = 1) with rfl | rfl
    · exact h02
    · exact h12
  · rcases (by omega : i = 0 ∨ i = 1 ∨ i = 2) with rfl | rfl | rfl
    · exact h03
    · exact h13
    · exact h23
  · rcases (by omega : i = 0 ∨ i = 1 ∨ i = 2 ∨ i = 3) with rfl | rfl | rfl | rfl
    · exact h04
    · exact h14
    · exact h24
    · exact h34
theorem all3 {v0 v1 v2 : Value} (h01 : Apart v0 v1) (h02 : Apart v0 v2) (h12 : Apart v1 v2) : AllAp 3 [v0, v1, v2] := by
  intro i j hij hj
  rcases (by omega : j = 1 ∨ j = 2) with rfl | rfl
  · obtain rfl : i = 0 := by omega
    exact h01
  · rcases (by omega : i = 0 ∨ i = 1) with rfl | rfl
    · exact h02
    · exact h12
theorem NX.off {w : World} {lo : Nat} {n : Net} {q : NA} {v4 v7 v8 : List Value} (h : NX w lo n q v4 v7 v8) {g : Nat} (hg : g < lo) (j : Nat) (u : Value) : NX (w.setCell ⟨g, j, none⟩ u) lo n q v4 v7 v8 := by
  have ne : ∀ {e m : Nat} {v : Value} {xs : List Value}, w.ownsRow lo e 1 v m xs → some g ≠ v.ownBlock := fun ho e => by
    have := own_base ho g e.symm
    omega
  exact ⟨R_off h.br hg j u, R_off h.pa hg j u, R_off h.pb hg j u, R_off h.owners hg j u, R_off h.turns hg j u, own_setCell h.bufs (p := ⟨g, j, none⟩) (ne h.bufs) u, own_setCell h.srcs (p := ⟨g, j, none⟩) (ne h.srcs) u, own_setCell h.arrs (p := ⟨g, j, none⟩) (ne h.arrs) u, h.rows.set hg j u, h.apI, h.apO⟩
structure OXU (w : World) (lo hi : Nat) (v : Value) (l : List (List Flit)) (vs : List Value) : Prop where
  own : w.ownsRow lo 100 1 v l.length vs
  top : Within v lo hi
  rows : FR w lo vs l
  wit : ∀ i : Nat, i < l.length → Within (vr vs i) lo hi
theorem OXU.stp {w w1 : World} {lo hi : Nat} {v : Value} {l : List (List Flit)} {vs : List Value} (h : OXU w lo hi v l vs) (hs : Stp w w1) : OXU w1 lo hi v l vs := ⟨pw_own_below h.own hs.h, h.top, h.rows.below hs.h, h.wit⟩
structure PX where
  A : Option Addr
  c : Nat
  A2 : Option Addr
  c2 : Nat
  vs : List Value
  lo : Nat
  hi : Nat
def PX.mk0 (A : Option Addr) (c lo hi : Nat) : PX := ⟨A, c, none, 0, [], lo, hi⟩
def gI (p : Nat) (y : PX) (xs : List Int) (w : World) : Prop := p ≤ y.lo ∧ y.lo ≤ y.hi ∧ y.hi ≤ w.heap.size ∧ RU (Kd.int .i64) 3 w y.lo y.hi (.slice y.A xs.length y.c) xs
def gC (p : Nat) (y : PX) (xs ys : List Int) (w : World) : Prop := p ≤ y.lo ∧ y.lo ≤ y.hi ∧ y.hi ≤ w.heap.size ∧ RU (Kd.int .i64) 3 w y.lo y.hi (.slice y.A xs.length y.c) xs ∧ RU (Kd.int .i64) 3 w y.lo y.hi (.slice y.A2 ys.length y.c2) ys ∧ Apart (.slice y.A xs.length y.c) (.slice y.A2 ys.length y.c2)
def gL (p : Nat) (y : PX) (l : List (List Flit)) (w : World) : Prop := p ≤ y.lo ∧ y.lo ≤ y.hi ∧ y.hi ≤ w.heap.size ∧ OXU w y.lo y.hi (.slice y.A l.length y.c) l y.vs
def gA (B p : Nat) (y : PX) (xs : List Int) (w : World) : Prop := p ≤ y.lo ∧ y.lo ≤ y.hi ∧ y.hi ≤ w.heap.size ∧ Kd.R (Kd.int .i64) 3 w B (fun _ => True) (.slice y.A xs.length y.c) xs ∧ (xs.length = 0 ∨ Within (.slice y.A xs.length y.c) y.lo y.hi)
theorem gI.stp {p : Nat} {y : PX} {xs : List Int} {w w1 : World} (h : gI p y xs w) (hs : Stp w w1) : gI p y xs w1 := ⟨h.1, h.2.1, Nat.le_trans h.2.2.1 hs.h.size, h.2.2.2.below hs.h⟩
theorem gC.stp {p : Nat} {y : PX} {xs ys : List Int} {w w1 : World} (h : gC p y xs ys w) (hs : Stp w w1) : gC p y xs ys w1 := ⟨h.1, h.2.1, Nat.le_trans h.2.2.1 hs.h.size, h.2.2.2.1.below hs.h, h.2.2.2.2.1.below hs.h, h.2.2.2.2.2⟩
theorem gL.stp {p : Nat} {y : PX} {l : List (List Flit)} {w w1 : World} (h : gL p y l w) (hs : Stp w w1) : gL p y l w1 := ⟨h.1, h.2.1, Nat.le_trans h.2.2.1 hs.h.size, h.2.2.2.stp hs⟩
theorem gA.stp {B p : Nat} {y : PX} {xs : List Int} {w w1 : World} (h : gA B p y xs w) (hs : Stp w w1) : gA B p y xs w1 := ⟨h.1, h.2.1, Nat.le_trans h.2.2.1 hs.h.size, Kd.R_below h.2.2.2.1 hs.h, h.2.2.2.2⟩
theorem ap0_of {u v : Value} (h : Apart u v) : Ap0 u v := .inr (.inr h)
theorem NX.parts {w : World} {B : Nat} {n : Net} {ym yc yb yo yt ys ya : PX} (hm : gI B ym n.mesh.br w) (hc : gC ym.hi yc n.pa n.pb w) (hb : gL yc.hi yb n.bufs w) (ho : gA B yb.hi yo n.owners w) (ht : gA B yo.hi yt n.turns w) (hs : gL yt.hi ys n.srcs w) (ha : gL ys.hi ya n.arrs w) :
    NX w B n ⟨ym.A, yc.A, yc.A2, yb.A, yo.A, yt.A, ys.A, ya.A, ym.c, yc.c, yc.c2, yb.c, yo.c, yt.c, ys.c, ya.c⟩ yb.vs ys.vs ya.vs := by
  obtain ⟨m1, m2, m3, m4⟩ := hm
  obtain ⟨c1, c2, c3, c4, c5, c6⟩ := hc
  obtain ⟨b1, b2, b3, b4⟩ := hb
  obtain ⟨o1, o2, o3, o4, o5⟩ := ho
  obtain ⟨t1, t2, t3, t4, t5⟩ := ht
  obtain ⟨s1, s2, s3, s4⟩ := hs
  obtain ⟨a1, a2, a3, a4⟩ := ha
  have hW : ∀ {v : Value} {p q r s : Nat} {u : Value} {k : Nat}, Within u p q → (k = 0 ∨ Within v r s) → q ≤ r → vlen v = k → Ap0 u v := fun h1 h2 h3 h4 => by
    rcases h2 with h2 | h2
    · exact .inr (.inl (h4.trans h2))
    · exact .inr (.inr (apart_lt h1 h2 h3))
  refine ⟨Kd.R_lower m4.row m1, Kd.R_lower c4.row (by omega), Kd.R_lower c5.row (by omega), o4, t4, own_weaken b4.own (by omega), own_weaken s4.own (by omega), own_weaken a4.own (by omega), ?_, ?_, ?_⟩
  · refine (b4.rows.lower (by omega)).append ((s4.rows.lower (by omega)).append (a4.rows.lower (by omega)) (fun i j hi hj => apart_lt (s4.wit i hi) (a4.wit j hj) a1)) (fun i j hi hj => ?_)
    rw [List.length_append] at hj
    by_cases e : j < n.srcs.length
    · rw [vr_left (by rw [s4.rows.len]; exact e)]
      exact apart_lt (b4.wit i hi) (s4.wit j e) (by omega)
    · obtain ⟨d, rfl⟩ : ∃ d, j = n.srcs.length + d := ⟨j - n.srcs.length, by omega⟩
      rw [← s4.rows.len, vr_right]
      exact apart_lt (b4.wit i hi) (a4.wit d (by omega)) (by omega)
  · refine all5 (ap0_of (apart_lt m4.within c4.within c1)) (ap0_of (apart_lt m4.within c5.within c1)) (hW m4.within o5 (by omega) rfl) (hW m4.within t5 (by omega) rfl) (ap0_of c6) (hW c4.within o5 (by omega) rfl) (hW c4.within t5 (by omega) rfl) (hW c5.within o5 (by omega) rfl) (hW c5.within t5 (by omega) rfl) ?_
    rcases o5 with o5 | o5
    · exact .inl o5
    · exact hW o5 t5 (by omega) rfl
  · exact all3 (apart_lt b4.top s4.top (by omega)) (apart_lt b4.top a4.top (by omega)) (apart_lt s4.top a4.top (by omega))
theorem gA.of {B p g : Nat} {w w1 : World} {v1 : Value} {A : Option Addr} {c : Nat} {xs : List Int} (hp : p ≤ w.heap.size) (hr : Kd.R (Kd.int .i64) 3 w1 B (fun _ => True) v1 xs) (hv : v1 = .slice A xs.length c) (hb : Below w.heap.size w w1) (ha : At2 g w.heap.size w1.heap.size v1) (hg : g < w.heap.size) (hL : Lit 3 w g) : gA B p (PX.mk0 A c w.heap.size w1.heap.size) xs w1 := by
  subst hv
  refine ⟨hp, hb.size, Nat.le_refl _, hr, ?_⟩
  by_cases h0 : xs.length = 0
  · exact .inl h0
  · right
    intro k hk
    rcases ha k hk with e | e
    · exfalso
      subst e
      obtain ⟨inner, hin⟩ := Kd.R_own hr
      obtain ⟨g', cap, e1, h1, h2⟩ := hin.form (by omega)
      have hk2 : (Value.slice A xs.length c).ownBlock = some k := hk
      rw [e1] at hk2
      have e2 : g' = k := Option.some.inj hk2
      subst e2
      rcases hin.2 with ⟨_, e3⟩ | ⟨g'', cap', cur, e3, h4, h5, h6, h7, h8, h9⟩
      · omega
      · rw [e1] at e3
        injection e3 with e4 e5 e6
        injection e4 with e4
        injection e4 with e4
        subst e4
        have hc2 := hb.block g' hg
        rw [h5] at hc2
        unfold Lit at hL
        rw [hL] at hc2
        have hc3 := Obj.cells.inj (Option.some.inj hc2)
        rw [hc3.1] at h8
        have h11 : (0 : Nat) = cap' * 1 := h8
        omega
    · exact e
set_option maxHeartbeats 8000000 in
set_option maxRecDepth 100000 in
theorem impl_copyNet (n : Net) (q : NA) (w : World) (hr : NetR 103 w n q) : Calls Tryz.prog 44 #[.agg (netCells n q)] w fun e w' => GotNX w w' n e ∧ Below w.heap.size w w' := by
 have R := Lib.hid hr
 clear hr
 obtain ⟨a1, a2, a3, a4, a5, a6, a7, a8, c1, c2, c3, c4, c5, c6, c7, c8⟩ := q
 dsimp only [netCells]
 have hX : ∀ W, Stp ((w.alloc (.cells #[.int .i64 n.mesh.g.w, .int .i64 n.mesh.g.h, .slice a1 n.mesh.br.length c1, .slice a2 n.pa.length c2, .slice a3 n.pb.length c3, .slice a4 n.bufs.length c4, .slice a5 n.owners.length c5, .slice a6 n.turns.length c6, .slice a7 n.srcs.length c7, .slice a8 n.arrs.length c8, .int .i64 n.time] 43)).alloc (.cells #[.int .i64 0, .int .i64 0, .slice none 0 0, .slice none 0 0, .slice none 0 0, .slice none 0 0, .slice none 0 0, .slice none 0 0, .slice none 0 0, .slice none 0 0, .int .i64 0] 43)) W → W.cell? ⟨w.heap.size, 0, none⟩ = some (.int .i64 n.mesh.g.w) ∧ W.cell? ⟨w.heap.size, 1, none⟩ = some (.int .i64 n.mesh.g.h) ∧ W.cell? ⟨w.heap.size, 2, none⟩ = some (.slice a1 n.mesh.br.length c1) ∧ W.cell? ⟨w.heap.size, 3, none⟩ = some (.slice a2 n.pa.length c2) ∧ W.cell? ⟨w.heap.size, 4, none⟩ = some (.slice a3 n.pb.length c3) ∧ W.cell? ⟨w.heap.size, 5, none⟩ = some (.slice a4 n.bufs.length c4) ∧ W.cell? ⟨w.heap.size, 6, none⟩ = some (.slice a5 n.owners.length c5) ∧ W.cell? ⟨w.heap.size, 7, none⟩ = some (.slice a6 n.turns.length c6) ∧ W.cell? ⟨w.heap.size, 8, none⟩ = some (.slice a7 n.srcs.length c7) ∧ W.cell? ⟨w.heap.size, 9, none⟩ = some (.slice a8 n.arrs.length c8) ∧ W.cell? ⟨w.heap.size, 10, none⟩ = some (.int .i64 n.time) := by
  intro W hW
  have hb := ((Box.new w w.heap.size #[.int .i64 n.mesh.g.w, .int .i64 n.mesh.g.h, .slice a1 n.mesh.br.length c1, .slice a2 n.pa.length c2, .slice a3 n.pb.length c3, .slice a4 n.bufs.length c4, .slice a5 n.owners.length c5, .slice a6 n.turns.length c6, .slice a7 n.srcs.length c7, .slice a8 n.arrs.length c8, .int .i64 n.time] 43 rfl).alloc (.cells #[.int .i64 0, .int .i64 0, .slice none 0 0, .slice none 0 0, .slice none 0 0, .slice none 0 0, .slice none 0 0, .slice none 0 0, .slice none 0 0, .slice none 0 0, .int .i64 0] 43)).below hW.h
  exact ⟨hb.get 0, hb.get 1, hb.get 2, hb.get 3, hb.get 4, hb.get 5, hb.get 6, hb.get 7, hb.get 8, hb.get 9, hb.get 10⟩
 have hRW : ∀ W, Stp ((w.alloc (.cells #[.int .i64 n.mesh.g.w, .int .i64 n.mesh.g.h, .slice a1 n.mesh.br.length c1, .slice a2 n.pa.length c2, .slice a3 n.pb.length c3, .slice a4 n.bufs.length c4, .slice a5 n.owners.length c5, .slice a6 n.turns.length c6, .slice a7 n.srcs.length c7, .slice a8 n.arrs.length c8, .int .i64 n.time] 43)).alloc (.cells #[.int .i64 0, .int .i64 0, .slice none 0 0, .slice none 0 0, .slice none 0 0, .slice none 0 0, .slice none 0 0, .slice none 0 0, .slice none 0 0, .slice none 0 0, .int .i64 0] 43)) W → NetR 103 W n ⟨a1, a2, a3, a4, a5, a6, a7, a8, c1, c2, c3, c4, c5, c6, c7, c8⟩ := fun W hW => R.out.below (bw_then (bw_alloc _ (bw_alloc _ (bw_refl w))) hW.h)
 have HX := Lib.hid hX
 have HR := Lib.hid hRW
 clear hX hRW
 go_enter Tryz.func44, Tryz.ntmps44
 go_wp2_with fail
 refine wp_region_lo (((w.alloc (.cells #[.int .i64 n.mesh.g.w, .int .i64 n.mesh.g.h, .slice a1 n.mesh.br.length c1, .slice a2 n.pa.length c2, .slice a3 n.pb.length c3, .slice a4 n.bufs.length c4, .slice a5 n.owners.length c5, .slice a6 n.turns.length c6, .slice a7 n.srcs.length c7, .slice a8 n.arrs.length c8, .int .i64 n.time] 43)).alloc (.cells #[.int .i64 0, .int .i64 0, .slice none 0 0, .slice none 0 0, .slice none 0 0, .slice none 0 0, .slice none 0 0, .slice none 0 0, .slice none 0 0, .slice none 0 0, .int .i64 0] 43))).heap.size (Stp (((w.alloc (.cells #[.int .i64 n.mesh.g.w, .int .i64 n.mesh.g.h, .slice a1 n.mesh.br.length c1, .slice a2 n.pa.length c2, .slice a3 n.pb.length c3, .slice a4 n.bufs.length c4, .slice a5 n.owners.length c5, .slice a6 n.turns.length c6, .slice a7 n.srcs.length c7, .slice a8 n.arrs.length c8, .int .i64 n.time] 43)).alloc (.cells #[.int .i64 0, .int .i64 0, .slice none 0 0, .slice none 0 0, .slice none 0 0, .slice none 0 0, .slice none 0 0, .slice none 0 0, .slice none 0 0, .slice none 0 0, .int .i64 0] 43)))) (fun _ => 3) (fun i => [.pointer (some ⟨w.heap.size, 0, none⟩), .agg #[.int .i64 n.mesh.g.w, .int .i64 n.mesh.g.h, .slice a1 n.mesh.br.length c1], .int .i64 0, .pointer (some ⟨w.heap.size, 3, none⟩), .agg #[.slice a2 n.pa.length c2, .slice a3 n.pb.length c3], .int .i64 0, .pointer (some ⟨w.heap.size, 5, none⟩), .slice a4 n.bufs.length c4, .int .i64 0, .int .i64 0, .pointer (some ⟨w.heap.size, 6, none⟩), .slice a5 n.owners.length c5, .int .i64 0, .int .i64 0, .pointer (some ⟨w.heap.size, 7, none⟩), .slice a6 n.turns.length c6, .int .i64 0, .pointer (some ⟨w.heap.size, 8, none⟩), .slice a7 n.srcs.length c7, .int .i64 0, .pointer (some ⟨w.heap.size, 9, none⟩), .slice a8 n.arrs.length c8, .int .i64 0, .pointer (some ⟨w.heap.size, 10, none⟩), .int .i64 n.time, .int .i64 0].getD i undef) 26 [(0, .quiet), (1, .quiet), (2, .chain), (3, .quiet), (4, .quiet), (5, .chain), (6, .quiet), (7, .quiet), (8, .chain), (9, .lit), (10, .quiet), (11, .quiet), (12, .chain), (13, .lit), (14, .quiet), (15, .quiet), (16, .chain), (17, .quiet), (18, .quiet), (19, .chain), (20, .quiet), (21, .quiet), (22, .chain), (23, .quiet), (24, .quiet), (25, .chain)] (by kernel_rfl) (by kernel_rfl) (by kernel_rfl) (by kernel_rfl) (by kernel_rfl) (by kernel_rfl) (by kernel_rfl) (by kernel_rfl) (fun W h => h.h.size) (fun W W' h h' => stp_then h h') (stp_drew (stp_refl _)) ?_
 refine wpLo_q (some 3) rfl rfl (by rfl) (fun W hC => ?_) ?_
 ·obtain ⟨x0, x1, x2, x3, x4, x5, x6, x7, x8, x9, x10⟩ := HX.out W hC
  go_simp
  try rfl
 try simp only [Act.put, nms]
 refine wpLo_q (some 4) rfl rfl (by rfl) (fun W hC => ?_) ?_
 ·obtain ⟨x0, x1, x2, x3, x4, x5, x6, x7, x8, x9, x10⟩ := HX.out W hC
  go_simp
  try rfl
 try simp only [Act.put, nms]
 refine wpLo_c (some 5) rfl rfl (by rfl) (PX.mk0 none 0 0 0) (fun y => .agg #[.int .i64 n.mesh.g.w, .int .i64 n.mesh.g.h, .slice y.A n.mesh.br.length y.c]) (fun y W => gI (((w.alloc (.cells #[.int .i64 n.mesh.g.w, .int .i64 n.mesh.g.h, .slice a1 n.mesh.br.length c1, .slice a2 n.pa.length c2, .slice a3 n.pb.length c3, .slice a4 n.bufs.length c4, .slice a5 n.owners.length c5, .slice a6 n.turns.length c6, .slice a7 n.srcs.length c7, .slice a8 n.arrs.length c8, .int .i64 n.time] 43)).alloc (.cells #[.int .i64 0, .int .i64 0, .slice none 0 0, .slice none 0 0, .slice none 0 0, .slice none 0 0, .slice none 0 0, .slice none 0 0, .slice none 0 0, .slice none 0 0, .int .i64 0] 43))).heap.size y n.mesh.br W) (fun y W W' h h' => h.stp h') (fun W hF hC => ?_) (fun ym => ?_)
 ·refine LoOp.enter (by go_simp; first | done | exact ⟨rfl, rfl⟩ | rfl) ?_
  refine (impl_copyMesh n.mesh a1 c1 W (HR.out W hC).br (HR.out W hC).h1).mono ?_
  rintro e W1 ⟨hg1, hb1⟩
  obtain ⟨v, rfl, hO⟩ := hg1
  obtain ⟨A, c, rfl⟩ := Kd.R_slice hO
  exact ⟨_, rfl, PX.mk0 A c W.heap.size W1.heap.size, rfl, ⟨hb1⟩, hC.h.size, hb1.size, Nat.le_refl _, RU.of hO (Nat.le_refl _) (Nat.le_refl _)⟩
 try simp only [Act.put, nms]
 refine wpLo_q (some 6) rfl rfl (by rfl) (fun W hC => ?_) ?_
 ·obtain ⟨x0, x1, x2, x3, x4, x5, x6, x7, x8, x9, x10⟩ := HX.out W hC
  go_simp
  try rfl
 try simp only [Act.put, nms]
 refine wpLo_q (some 7) rfl rfl (by rfl) (fun W hC => ?_) ?_
 ·obtain ⟨x0, x1, x2, x3, x4, x5, x6, x7, x8, x9, x10⟩ := HX.out W hC
  go_simp
  try rfl
 try simp only [Act.put, nms]
 refine wpLo_c (some 8) rfl rfl (by rfl) (PX.mk0 none 0 0 0) (fun y => .agg #[.slice y.A n.pa.length y.c, .slice y.A2 n.pb.length y.c2]) (fun y W => gC ym.hi y n.pa n.pb W) (fun y W W' h h' => h.stp h') (fun W hF hC => ?_) (fun yc => ?_)
 ·refine LoOp.enter (by go_simp; first | done | exact ⟨rfl, rfl⟩ | rfl) ?_
  refine (impl_copyClasses n.pa n.pb a2 a3 c2 c3 W (HR.out W hC).pa (HR.out W hC).h2 (HR.out W hC).pb (HR.out W hC).h3).mono ?_
  rintro e W1 ⟨hg1, hb1⟩
  obtain ⟨va, vb, rfl, hO, hP, hap⟩ := hg1
  obtain ⟨A, c, rfl⟩ := Kd.R_slice hO
  obtain ⟨A2, c2, rfl⟩ := Kd.R_slice hP
  exact ⟨_, rfl, ⟨A, c, A2, c2, [], W.heap.size, W1.heap.size⟩, rfl, ⟨hb1⟩, hF.2.2.2.1, hb1.size, Nat.le_refl _, RU.of hO (Nat.le_refl _) (Nat.le_refl _), RU.of hP (Nat.le_refl _) (Nat.le_refl _), hap⟩
 try simp only [Act.put, nms]
 refine wpLo_q (some 9) rfl rfl (by rfl) (fun W hC => ?_) ?_
 ·obtain ⟨x0, x1, x2, x3, x4, x5, x6, x7, x8, x9, x10⟩ := HX.out W hC
  go_simp
  try rfl
 try simp only [Act.put, nms]
 refine wpLo_q (some 10) rfl rfl (by rfl) (fun W hC => ?_) ?_
 ·obtain ⟨x0, x1, x2, x3, x4, x5, x6, x7, x8, x9, x10⟩ := HX.out W hC
  go_simp
  try rfl
 try simp only [Act.put, nms]
 refine wpLo_c (some 11) rfl rfl (by rfl) (PX.mk0 none 0 0 0) (fun y => .slice y.A n.bufs.length y.c) (fun y W => gL yc.hi y n.bufs W) (fun y W W' h h' => h.stp h') (fun W hF hC => ?_) (fun yb => ?_)
 ·refine LoOp.enter (by go_simp; first | done | exact ⟨rfl, rfl⟩ | rfl) ?_
  refine (impl_copyLists n.bufs a4 c4 W (HR.out W hC).bufs (HR.out W hC).h4 (Lib.hid (HR.out W hC).h9)).mono ?_
  rintro e W1 ⟨hg1, hb1⟩
  obtain ⟨A, c, vs, rfl, hO, hP⟩ := hg1
  exact ⟨_, rfl, ⟨A, c, none, 0, vs, W.heap.size, W1.heap.size⟩, rfl, ⟨hb1⟩, hF.2.2.2.1, hb1.size, Nat.le_refl _, hO, own_within hO, hP, fun i hi => within_R (hP.row i hi)⟩
 try simp only [Act.put, nms]
 refine wpLo_l (some 12) rfl rfl (by rfl) (fun W => (by go_simp; first | done | rfl)) (fun g9 hg9 => ?_)
 try simp only [Act.put, nms]
 refine wpLo_q (some 13) rfl rfl (by rfl) (fun W hC => ?_) ?_
 ·obtain ⟨x0, x1, x2, x3, x4, x5, x6, x7, x8, x9, x10⟩ := HX.out W hC
  go_simp
  try rfl
 try simp only [Act.put, nms]
 refine wpLo_q (some 14) rfl rfl (by rfl) (fun W hC => ?_) ?_
 ·obtain ⟨x0, x1, x2, x3, x4, x5, x6, x7, x8, x9, x10⟩ := HX.out W hC
  go_simp
  try rfl
 try simp only [Act.put, nms]
 refine wpLo_c (some 15) rfl rfl (by rfl) (PX.mk0 none 0 0 0) (fun y => .slice y.A n.owners.length y.c) (fun y W => gA (((w.alloc (.cells #[.int .i64 n.mesh.g.w, .int .i64 n.mesh.g.h, .slice a1 n.mesh.br.length c1, .slice a2 n.pa.length c2, .slice a3 n.pb.length c3, .slice a4 n.bufs.length c4, .slice a5 n.owners.length c5, .slice a6 n.turns.length c6, .slice a7 n.srcs.length c7, .slice a8 n.arrs.length c8, .int .i64 n.time] 43)).alloc (.cells #[.int .i64 0, .int .i64 0, .slice none 0 0, .slice none 0 0, .slice none 0 0, .slice none 0 0, .slice none 0 0, .slice none 0 0, .slice none 0 0, .slice none 0 0, .int .i64 0] 43))).heap.size yb.hi y n.owners W) (fun y W W' h h' => h.stp h') (fun W hF hC => ?_) (fun yo => ?_)
 ·have hL := hF.2
  have hgW : g9 < W.heap.size := blk_lt hL
  obtain ⟨v1, W1, hr1, hR1, hb1, ha1⟩ := run_copy (Kd.int .i64) 24 24 3 (.int .i64 0) 8 Tryz.underlying24 info_int rfl (by decide) (by omega) KM_int K1_int g9 n.owners a5 n.owners.length c5 hL hg9 (HR.out W hC).owners hC.h.size (by have := (HR.out W hC).h5; omega)
  obtain ⟨A, c, rfl⟩ := Kd.R_slice hR1
  refine LoOp.val (v := .slice A n.owners.length c) (w1 := W1) (run_append_op rfl rfl rfl hr1) ?_
  exact ⟨PX.mk0 A c W.heap.size W1.heap.size, rfl, ⟨hb1⟩, gA.of hF.1.2.2.2.1 hR1 rfl hb1 ha1 hgW hL⟩
 try simp only [Act.put, nms]
 refine wpLo_l (some 16) rfl rfl (by rfl) (fun W => (by go_simp; first | done | rfl)) (fun g13 hg13 => ?_)
 try simp only [Act.put, nms]
 refine wpLo_q (some 17) rfl rfl (by rfl) (fun W hC => ?_) ?_
 ·obtain ⟨x0, x1, x2, x3, x4, x5, x6, x7, x8, x9, x10⟩ := HX.out W hC
  go_simp
  try rfl
 try simp only [Act.put, nms]
 refine wpLo_q (some 18) rfl rfl (by rfl) (fun W hC => ?_) ?_
 ·obtain ⟨x0, x1, x2, x3, x4, x5, x6, x7, x8, x9, x10⟩ := HX.out W hC
  go_simp
  try rfl
 try simp only [Act.put, nms]
 refine wpLo_c (some 19) rfl rfl (by rfl) (PX.mk0 none 0 0 0) (fun y => .slice y.A n.turns.length y.c) (fun y W => gA (((w.alloc (.cells #[.int .i64 n.mesh.g.w, .int .i64 n.mesh.g.h, .slice a1 n.mesh.br.length c1, .slice a2 n.pa.length c2, .slice a3 n.pb.length c3, .slice a4 n.bufs.length c4, .slice a5 n.owners.length c5, .slice a6 n.turns.length c6, .slice a7 n.srcs.length c7, .slice a8 n.arrs.length c8, .int .i64 n.time] 43)).alloc (.cells #[.int .i64 0, .int .i64 0, .slice none 0 0, .slice none 0 0, .slice none 0 0, .slice none 0 0, .slice none 0 0, .slice none 0 0, .slice none 0 0, .slice none 0 0, .int .i64 0] 43))).heap.size yo.hi y n.turns W) (fun y W W' h h' => h.stp h') (fun W hF hC => ?_) (fun yt => ?_)
 ·have hL := hF.2
  have hgW : g13 < W.heap.size := blk_lt hL
  obtain ⟨v1, W1, hr1, hR1, hb1, ha1⟩ := run_copy (Kd.int .i64) 24 24 3 (.int .i64 0) 8 Tryz.underlying24 info_int rfl (by decide) (by omega) KM_int K1_int g13 n.turns a6 n.turns.length c6 hL hg13 (HR.out W hC).turns hC.h.size (by have := (HR.out W hC).h6; omega)
  obtain ⟨A, c, rfl⟩ := Kd.R_slice hR1
  refine LoOp.val (v := .slice A n.turns.length c) (w1 := W1) (run_append_op rfl rfl rfl hr1) ?_
  exact ⟨PX.mk0 A c W.heap.size W1.heap.size, rfl, ⟨hb1⟩, gA.of hF.1.2.2.2.1 hR1 rfl hb1 ha1 hgW hL⟩
 try simp only [Act.put, nms]
 refine wpLo_q (some 20) rfl rfl (by rfl) (fun W hC => ?_) ?_
 ·obtain ⟨x0, x1, x2, x3, x4, x5, x6, x7, x8, x9, x10⟩ := HX.out W hC
  go_simp
  try rfl
 try simp only [Act.put, nms]
 refine wpLo_q (some 21) rfl rfl (by rfl) (fun W hC => ?_) ?_
 ·obtain ⟨x0, x1, x2, x3, x4, x5, x6, x7, x8, x9, x10⟩ := HX.out W hC
  go_simp
  try rfl
 try simp only [Act.put, nms]
 refine wpLo_c (some 22) rfl rfl (by rfl) (PX.mk0 none 0 0 0) (fun y => .slice y.A n.srcs.length y.c) (fun y W => gL yt.hi y n.srcs W) (fun y W W' h h' => h.stp h') (fun W hF hC => ?_) (fun ys => ?_)
 ·refine LoOp.enter (by go_simp; first | done | exact ⟨rfl, rfl⟩ | rfl) ?_
  refine (impl_copyLists n.srcs a7 c7 W (HR.out W hC).srcs (HR.out W hC).h7 (Lib.hid (HR.out W hC).h10)).mono ?_
  rintro e W1 ⟨hg1, hb1⟩
  obtain ⟨A, c, vs, rfl, hO, hP⟩ := hg1
  exact ⟨_, rfl, ⟨A, c, none, 0, vs, W.heap.size, W1.heap.size⟩, rfl, ⟨hb1⟩, hF.2.2.2.1, hb1.size, Nat.le_refl _, hO, own_within hO, hP, fun i hi => within_R (hP.row i hi)⟩
 try simp only [Act.put, nms]
 refine wpLo_q (some 23) rfl rfl (by rfl) (fun W hC => ?_) ?_
 ·obtain ⟨x0, x1, x2, x3, x4, x5, x6, x7, x8, x9, x10⟩ := HX.out W hC
  go_simp
  try rfl
 try simp only [Act.put, nms]
 refine wpLo_q (some 24) rfl rfl (by rfl) (fun W hC => ?_) ?_
 ·obtain ⟨x0, x1, x2, x3, x4, x5, x6, x7, x8, x9, x10⟩ := HX.out W hC
  go_simp
  try rfl
 try simp only [Act.put, nms]
 refine wpLo_c (some 25) rfl rfl (by rfl) (PX.mk0 none 0 0 0) (fun y => .slice y.A n.arrs.length y.c) (fun y W => gL ys.hi y n.arrs W) (fun y W W' h h' => h.stp h') (fun W hF hC => ?_) (fun ya => ?_)
 ·refine LoOp.enter (by go_simp; first | done | exact ⟨rfl, rfl⟩ | rfl) ?_
  refine (impl_copyLists n.arrs a8 c8 W (HR.out W hC).arrs (HR.out W hC).h8 (Lib.hid (HR.out W hC).h11)).mono ?_
  rintro e W1 ⟨hg1, hb1⟩
  obtain ⟨A, c, vs, rfl, hO, hP⟩ := hg1
  exact ⟨_, rfl, ⟨A, c, none, 0, vs, W.heap.size, W1.heap.size⟩, rfl, ⟨hb1⟩, hF.2.2.2.1, hb1.size, Nat.le_refl _, hO, own_within hO, hP, fun i hi => within_R (hP.row i hi)⟩
 try simp only [Act.put, nms]
 refine wpLo_q (some 26) rfl rfl (by rfl) (fun W hC => ?_) ?_
 ·obtain ⟨x0, x1, x2, x3, x4, x5, x6, x7, x8, x9, x10⟩ := HX.out W hC
  go_simp
  try rfl
 try simp only [Act.put, nms]
 refine wpLo_q (some 27) rfl rfl (by rfl) (fun W hC => ?_) ?_
 ·obtain ⟨x0, x1, x2, x3, x4, x5, x6, x7, x8, x9, x10⟩ := HX.out W hC
  go_simp
  try rfl
 try simp only [Act.put, nms]
 refine wpLo_c (some 28) rfl rfl (by rfl) () (fun _ => .agg (netCells n ⟨ym.A, yc.A, yc.A2, yb.A, yo.A, yt.A, ys.A, ya.A, ym.c, yc.c, yc.c2, yb.c, yo.c, yt.c, ys.c, ya.c⟩)) (fun _ _ => True) (fun _ _ _ _ _ => trivial) (fun W hF hC => LoOp.val (w1 := W) (by go_simp; try rfl) ⟨(), rfl, stp_refl _, trivial⟩) (fun _ => ?_)
 try simp only [Act.put, nms]
 refine wpLo_z ?_
 intro W hF hC
 obtain ⟨⟨⟨⟨⟨⟨⟨⟨⟨⟨_, hm⟩, hc⟩, hb⟩, _⟩, ho⟩, _⟩, ht⟩, hs⟩, ha⟩, _⟩ := hF
 have hN := Lib.hid (NX.parts hm hc hb ho ht hs ha)
 clear hm hc hb ho ht hs ha
 have hb1 := hC.h
 have hb2 : W.heap[w.heap.size + 1]? = some (.cells #[.int .i64 0, .int .i64 0, .slice none 0 0, .slice none 0 0, .slice none 0 0, .slice none 0 0, .slice none 0 0, .slice none 0 0, .slice none 0 0, .slice none 0 0, .int .i64 0] 43 (0, 0)) := by
  have h1 := blk_new (w.alloc (.cells #[.int .i64 n.mesh.g.w, .int .i64 n.mesh.g.h, .slice a1 n.mesh.br.length c1, .slice a2 n.pa.length c2, .slice a3 n.pb.length c3, .slice a4 n.bufs.length c4, .slice a5 n.owners.length c5, .slice a6 n.turns.length c6, .slice a7 n.srcs.length c7, .slice a8 n.arrs.length c8, .int .i64 n.time] 43)) (.cells #[.int .i64 0, .int .i64 0, .slice none 0 0, .slice none 0 0, .slice none 0 0, .slice none 0 0, .slice none 0 0, .slice none 0 0, .slice none 0 0, .slice none 0 0, .int .i64 0] 43)
  rw [World.size_alloc] at h1
  exact blk_below h1 hC.h
 have y0 : W.cell? ⟨w.heap.size + 1, 0, none⟩ = some (.int .i64 0) := blk_cell hb2 0
 have f0 : W.frozen? ⟨w.heap.size + 1, 0, none⟩ = false := blk_frozen hb2 0
 have y1 : W.cell? ⟨w.heap.size + 1, 1, none⟩ = some (.int .i64 0) := blk_cell hb2 1
 have f1 : W.frozen? ⟨w.heap.size + 1, 1, none⟩ = false := blk_frozen hb2 1
 have y2 : W.cell? ⟨w.heap.size + 1, 2, none⟩ = some (.slice none 0 0) := blk_cell hb2 2
 have f2 : W.frozen? ⟨w.heap.size + 1, 2, none⟩ = false := blk_frozen hb2 2
 have y3 : W.cell? ⟨w.heap.size + 1, 3, none⟩ = some (.slice none 0 0) := blk_cell hb2 3
 have f3 : W.frozen? ⟨w.heap.size + 1, 3, none⟩ = false := blk_frozen hb2 3
 have y4 : W.cell? ⟨w.heap.size + 1, 4, none⟩ = some (.slice none 0 0) := blk_cell hb2 4
 have f4 : W.frozen? ⟨w.heap.size + 1, 4, none⟩ = false := blk_frozen hb2 4
 have y5 : W.cell? ⟨w.heap.size + 1, 5, none⟩ = some (.slice none 0 0) := blk_cell hb2 5
 have f5 : W.frozen? ⟨w.heap.size + 1, 5, none⟩ = false := blk_frozen hb2 5
 have y6 : W.cell? ⟨w.heap.size + 1, 6, none⟩ = some (.slice none 0 0) := blk_cell hb2 6
 have f6 : W.frozen? ⟨w.heap.size + 1, 6, none⟩ = false := blk_frozen hb2 6
 have y7 : W.cell? ⟨w.heap.size + 1, 7, none⟩ = some (.slice none 0 0) := blk_cell hb2 7
 have f7 : W.frozen? ⟨w.heap.size + 1, 7, none⟩ = false := blk_frozen hb2 7
 have y8 : W.cell? ⟨w.heap.size + 1, 8, none⟩ = some (.slice none 0 0) := blk_cell hb2 8
 have f8 : W.frozen? ⟨w.heap.size + 1, 8, none⟩ = false := blk_frozen hb2 8
 have y9 : W.cell? ⟨w.heap.size + 1, 9, none⟩ = some (.slice none 0 0) := blk_cell hb2 9
 have f9 : W.frozen? ⟨w.heap.size + 1, 9, none⟩ = false := blk_frozen hb2 9
 have y10 : W.cell? ⟨w.heap.size + 1, 10, none⟩ = some (.int .i64 0) := blk_cell hb2 10
 have f10 : W.frozen? ⟨w.heap.size + 1, 10, none⟩ = false := blk_frozen hb2 10
 clear hb2
 have hz1 := bw_size hb1
 simp only [szs] at hz1
 refine ⟨_, rfl, by rfl, ?_⟩
 dsimp only [netCells]
 go_simp
 go_wp2
 exact bodyPost_ret (v := .agg (netCells n ⟨ym.A, yc.A, yc.A2, yb.A, yo.A, yt.A, ys.A, ya.A, ym.c, yc.c, yc.c2, yb.c, yo.c, yt.c, ys.c, ya.c⟩)) (by simp [results, Tryz.results44, go_sem, netCells, *]) rfl ⟨⟨_, yb.vs, ys.vs, ya.vs, rfl, (by refine NX.lower (lo := (((w.alloc (.cells #[.int .i64 n.mesh.g.w, .int .i64 n.mesh.g.h, .slice a1 n.mesh.br.length c1, .slice a2 n.pa.length c2, .slice a3 n.pb.length c3, .slice a4 n.bufs.length c4, .slice a5 n.owners.length c5, .slice a6 n.turns.length c6, .slice a7 n.srcs.length c7, .slice a8 n.arrs.length c8, .int .i64 n.time] 43)).alloc (.cells #[.int .i64 0, .int .i64 0, .slice none 0 0, .slice none 0 0, .slice none 0 0, .slice none 0 0, .slice none 0 0, .slice none 0 0, .slice none 0 0, .slice none 0 0, .int .i64 0] 43))).heap.size) ?_ (by simp only [szs]; omega); (repeat (refine NX.off ?_ (by simp only [szs]; omega) _ _)); exact hN.out)⟩, bel⟩
set_option maxHeartbeats 8000000 in
set_option maxRecDepth 100000 in
theorem spec_l15Copy (n : Net) (q : NA) (w : World) (hr : NetR 103 w n q) : Calls Tryz.prog 38 #[.agg (netCells n q)] w fun e w' => GotNX w w' n e ∧ Below w.heap.size w w' := by
 have R := Lib.hid hr
 clear hr
 obtain ⟨a1, a2, a3, a4, a5, a6, a7, a8, c1, c2, c3, c4, c5, c6, c7, c8⟩ := q
 dsimp only [netCells]
 have hX : ∀ W, Stp ((w.alloc (.cells #[.int .i64 n.mesh.g.w, .int .i64 n.mesh.g.h, .slice a1 n.mesh.br.length c1, .slice a2 n.pa.length c2, .slice a3 n.pb.length c3, .slice a4 n.bufs.length c4, .slice a5 n.owners.length c5, .slice a6 n.turns.length c6, .slice a7 n.srcs.length c7, .slice a8 n.arrs.length c8, .int .i64 n.time] 43)).alloc (.cells #[.int .i64 0, .int .i64 0, .slice none 0 0, .slice none 0 0, .slice none 0 0, .slice none 0 0, .slice none 0 0, .slice none 0 0, .slice none 0 0, .slice none 0 0, .int .i64 0] 43)) W → W.cell? ⟨w.heap.size, 0, none⟩ = some (.int .i64 n.mesh.g.w) ∧ W.cell? ⟨w.heap.size, 1, none⟩ = some (.int .i64 n.mesh.g.h) ∧ W.cell? ⟨w.heap.size, 2, none⟩ = some (.slice a1 n.mesh.br.length c1) ∧ W.cell? ⟨w.heap.size, 3, none⟩ = some (.slice a2 n.pa.length c2) ∧ W.cell? ⟨w.heap.size, 4, none⟩ = some (.slice a3 n.pb.length c3) ∧ W.cell? ⟨w.heap.size, 5, none⟩ = some (.slice a4 n.bufs.length c4) ∧ W.cell? ⟨w.heap.size, 6, none⟩ = some (.slice a5 n.owners.length c5) ∧ W.cell? ⟨w.heap.size, 7, none⟩ = some (.slice a6 n.turns.length c6) ∧ W.cell? ⟨w.heap.size, 8, none⟩ = some (.slice a7 n.srcs.length c7) ∧ W.cell? ⟨w.heap.size, 9, none⟩ = some (.slice a8 n.arrs.length c8) ∧ W.cell? ⟨w.heap.size, 10, none⟩ = some (.int .i64 n.time) := by
  intro W hW
  have hb := ((Box.new w w.heap.size #[.int .i64 n.mesh.g.w, .int .i64 n.mesh.g.h, .slice a1 n.mesh.br.length c1, .slice a2 n.pa.length c2, .slice a3 n.pb.length c3, .slice a4 n.bufs.length c4, .slice a5 n.owners.length c5, .slice a6 n.turns.length c6, .slice a7 n.srcs.length c7, .slice a8 n.arrs.length c8, .int .i64 n.time] 43 rfl).alloc (.cells #[.int .i64 0, .int .i64 0, .slice none 0 0, .slice none 0 0, .slice none 0 0, .slice none 0 0, .slice none 0 0, .slice none 0 0, .slice none 0 0, .slice none 0 0, .int .i64 0] 43)).below hW.h
  exact ⟨hb.get 0, hb.get 1, hb.get 2, hb.get 3, hb.get 4, hb.get 5, hb.get 6, hb.get 7, hb.get 8, hb.get 9, hb.get 10⟩
 have hRW : ∀ W, Stp ((w.alloc (.cells #[.int .i64 n.mesh.g.w, .int .i64 n.mesh.g.h, .slice a1 n.mesh.br.length c1, .slice a2 n.pa.length c2, .slice a3 n.pb.length c3, .slice a4 n.bufs.length c4, .slice a5 n.owners.length c5, .slice a6 n.turns.length c6, .slice a7 n.srcs.length c7, .slice a8 n.arrs.length c8, .int .i64 n.time] 43)).alloc (.cells #[.int .i64 0, .int .i64 0, .slice none 0 0, .slice none 0 0, .slice none 0 0, .slice none 0 0, .slice none 0 0, .slice none 0 0, .slice none 0 0, .slice none 0 0, .int .i64 0] 43)) W → NetR 103 W n ⟨a1, a2, a3, a4, a5, a6, a7, a8, c1, c2, c3, c4, c5, c6, c7, c8⟩ := fun W hW => R.out.below (bw_then (bw_alloc _ (bw_alloc _ (bw_refl w))) hW.h)
 have HX := Lib.hid hX
 have HR := Lib.hid hRW
 clear hX hRW
 go_enter Tryz.func38, Tryz.ntmps38
 go_wp2_with fail
 refine wp_region_lo (((w.alloc (.cells #[.int .i64 n.mesh.g.w, .int .i64 n.mesh.g.h, .slice a1 n.mesh.br.length c1, .slice a2 n.pa.length c2, .slice a3 n.pb.length c3, .slice a4 n.bufs.length c4, .slice a5 n.owners.length c5, .slice a6 n.turns.length c6, .slice a7 n.srcs.length c7, .slice a8 n.arrs.length c8, .int .i64 n.time] 43)).alloc (.cells #[.int .i64 0, .int .i64 0, .slice none 0 0, .slice none 0 0, .slice none 0 0, .slice none 0 0, .slice none 0 0, .slice none 0 0, .slice none 0 0, .slice none 0 0, .int .i64 0] 43))).heap.size (Stp (((w.alloc (.cells #[.int .i64 n.mesh.g.w, .int .i64 n.mesh.g.h, .slice a1 n.mesh.br.length c1, .slice a2 n.pa.length c2, .slice a3 n.pb.length c3, .slice a4 n.bufs.length c4, .slice a5 n.owners.length c5, .slice a6 n.turns.length c6, .slice a7 n.srcs.length c7, .slice a8 n.arrs.length c8, .int .i64 n.time] 43)).alloc (.cells #[.int .i64 0, .int .i64 0, .slice none 0 0, .slice none 0 0, .slice none 0 0, .slice none 0 0, .slice none 0 0, .slice none 0 0, .slice none 0 0, .slice none 0 0, .int .i64 0] 43)))) (fun _ => 3) (fun i => [.pointer (some ⟨w.heap.size, 0, none⟩), .agg #[.int .i64 n.mesh.g.w, .int .i64 n.mesh.g.h, .slice a1 n.mesh.br.length c1], .int .i64 0, .pointer (some ⟨w.heap.size, 3, none⟩), .agg #[.slice a2 n.pa.length c2, .slice a3 n.pb.length c3], .int .i64 0, .pointer (some ⟨w.heap.size, 5, none⟩), .slice a4 n.bufs.length c4, .int .i64 0, .int .i64 0, .pointer (some ⟨w.heap.size, 6, none⟩), .slice a5 n.owners.length c5, .int .i64 0, .int .i64 0, .pointer (some ⟨w.heap.size, 7, none⟩), .slice a6 n.turns.length c6, .int .i64 0, .pointer (some ⟨w.heap.size, 8, none⟩), .slice a7 n.srcs.length c7, .int .i64 0, .pointer (some ⟨w.heap.size, 9, none⟩), .slice a8 n.arrs.length c8, .int .i64 0, .pointer (some ⟨w.heap.size, 10, none⟩), .int .i64 n.time, .int .i64 0].getD i undef) 26 [(0, .quiet), (1, .quiet), (2, .chain), (3, .quiet), (4, .quiet), (5, .chain), (6, .quiet), (7, .quiet), (8, .chain), (9, .lit), (10, .quiet), (11, .quiet), (12, .chain), (13, .lit), (14, .quiet), (15, .quiet), (16, .chain), (17, .quiet), (18, .quiet), (19, .chain), (20, .quiet), (21, .quiet), (22, .chain), (23, .quiet), (24, .quiet), (25, .chain)] (by kernel_rfl) (by kernel_rfl) (by kernel_rfl) (by kernel_rfl) (by kernel_rfl) (by kernel_rfl) (by kernel_rfl) (by kernel_rfl) (fun W h => h.h.size) (fun W W' h h' => stp_then h h') (stp_drew (stp_refl _)) ?_
 refine wpLo_q (some 3) rfl rfl (by rfl) (fun W hC => ?_) ?_
 ·obtain ⟨x0, x1, x2, x3, x4, x5, x6, x7, x8, x9, x10⟩ := HX.out W hC
  go_simp
  try rfl
 try simp only [Act.put, nms]
 refine wpLo_q (some 4) rfl rfl (by rfl) (fun W hC => ?_) ?_
 ·obtain ⟨x0, x1, x2, x3, x4, x5, x6, x7, x8, x9, x10⟩ := HX.out W hC
  go_simp
  try rfl
 try simp only [Act.put, nms]
 refine wpLo_c (some 5) rfl rfl (by rfl) (PX.mk0 none 0 0 0) (fun y => .agg #[.int .i64 n.mesh.g.w, .int .i64 n.mesh.g.h, .slice y.A n.mesh.br.length y.c]) (fun y W => gI (((w.alloc (.cells #[.int .i64 n.mesh.g.w, .int .i64 n.mesh.g.h, .slice a1 n.mesh.br.length c1, .slice a2 n.pa.length c2, .slice a3 n.pb.length c3, .slice a4 n.bufs.length c4, .slice a5 n.owners.length c5, .slice a6 n.turns.length c6, .slice a7 n.srcs.length c7, .slice a8 n.arrs.length c8, .int .i64 n.time] 43)).alloc (.cells #[.int .i64 0, .int .i64 0, .slice none 0 0, .slice none 0 0, .slice none 0 0, .slice none 0 0, .slice none 0 0, .slice none 0 0, .slice none 0 0, .slice none 0 0, .int .i64 0] 43))).heap.size y n.mesh.br W) (fun y W W' h h' => h.stp h') (fun W hF hC => ?_) (fun ym => ?_)
 ·refine LoOp.enter (by go_simp; first | done | exact ⟨rfl, rfl⟩ | rfl) ?_
  refine (spec_l15Mesh n.mesh a1 c1 W (HR.out W hC).br (HR.out W hC).h1).mono ?_
  rintro e W1 ⟨hg1, hb1⟩
  obtain ⟨v, rfl, hO⟩ := hg1
  obtain ⟨A, c, rfl⟩ := Kd.R_slice hO
  exact ⟨_, rfl, PX.mk0 A c W.heap.size W1.heap.size, rfl, ⟨hb1⟩, hC.h.size, hb1.size, Nat.le_refl _, RU.of hO (Nat.le_refl _) (Nat.le_refl _)⟩
 try simp only [Act.put, nms]
 refine wpLo_q (some 6) rfl rfl (by rfl) (fun W hC => ?_) ?_
 ·obtain ⟨x0, x1, x2, x3, x4, x5, x6, x7, x8, x9, x10⟩ := HX.out W hC
  go_simp
  try rfl
 try simp only [Act.put, nms]
 refine wpLo_q (some 7) rfl rfl (by rfl) (fun W hC => ?_) ?_
 ·obtain ⟨x0, x1, x2, x3, x4, x5, x6, x7, x8, x9, x10⟩ := HX.out W hC
  go_simp
  try rfl
 try simp only [Act.put, nms]
 refine wpLo_c (some 8) rfl rfl (by rfl) (PX.mk0 none 0 0 0) (fun y => .agg #[.slice y.A n.pa.length y.c, .slice y.A2 n.pb.length y.c2]) (fun y W => gC ym.hi y n.pa n.pb W) (fun y W W' h h' => h.stp h') (fun W hF hC => ?_) (fun yc => ?_)
 ·refine LoOp.enter (by go_simp; first | done | exact ⟨rfl, rfl⟩ | rfl) ?_
  refine (spec_l15Classes n.pa n.pb a2 a3 c2 c3 W (HR.out W hC).pa (HR.out W hC).h2 (HR.out W hC).pb (HR.out W hC).h3).mono ?_
  rintro e W1 ⟨hg1, hb1⟩
  obtain ⟨va, vb, rfl, hO, hP, hap⟩ := hg1
  obtain ⟨A, c, rfl⟩ := Kd.R_slice hO
  obtain ⟨A2, c2, rfl⟩ := Kd.R_slice hP
  exact ⟨_, rfl, ⟨A, c, A2, c2, [], W.heap.size, W1.heap.size⟩, rfl, ⟨hb1⟩, hF.2.2.2.1, hb1.size, Nat.le_refl _, RU.of hO (Nat.le_refl _) (Nat.le_refl _), RU.of hP (Nat.le_refl _) (Nat.le_refl _), hap⟩
 try simp only [Act.put, nms]
 refine wpLo_q (some 9) rfl rfl (by rfl) (fun W hC => ?_) ?_
 ·obtain ⟨x0, x1, x2, x3, x4, x5, x6, x7, x8, x9, x10⟩ := HX.out W hC
  go_simp
  try rfl
 try simp only [Act.put, nms]
 refine wpLo_q (some 10) rfl rfl (by rfl) (fun W hC => ?_) ?_
 ·obtain ⟨x0, x1, x2, x3, x4, x5, x6, x7, x8, x9, x10⟩ := HX.out W hC
  go_simp
  try rfl
 try simp only [Act.put, nms]
 refine wpLo_c (some 11) rfl rfl (by rfl) (PX.mk0 none 0 0 0) (fun y => .slice y.A n.bufs.length y.c) (fun y W => gL yc.hi y n.bufs W) (fun y W W' h h' => h.stp h') (fun W hF hC => ?_) (fun yb => ?_)
 ·refine LoOp.enter (by go_simp; first | done | exact ⟨rfl, rfl⟩ | rfl) ?_
  refine (spec_l15Lists n.bufs a4 c4 W (HR.out W hC).bufs (HR.out W hC).h4 (Lib.hid (HR.out W hC).h9)).mono ?_
  rintro e W1 ⟨hg1, hb1⟩
  obtain ⟨A, c, vs, rfl, hO, hP⟩ := hg1
  exact ⟨_, rfl, ⟨A, c, none, 0, vs, W.heap.size, W1.heap.size⟩, rfl, ⟨hb1⟩, hF.2.2.2.1, hb1.size, Nat.le_refl _, hO, own_within hO, hP, fun i hi => within_R (hP.row i hi)⟩
 try simp only [Act.put, nms]
 refine wpLo_l (some 12) rfl rfl (by rfl) (fun W => (by go_simp; first | done | rfl)) (fun g9 hg9 => ?_)
 try simp only [Act.put, nms]
 refine wpLo_q (some 13) rfl rfl (by rfl) (fun W hC => ?_) ?_
 ·obtain ⟨x0, x1, x2, x3, x4, x5, x6, x7, x8, x9, x10⟩ := HX.out W hC
  go_simp
  try rfl
 try simp only [Act.put, nms]
 refine wpLo_q (some 14) rfl rfl (by rfl) (fun W hC => ?_) ?_
 ·obtain ⟨x0, x1, x2, x3, x4, x5, x6, x7, x8, x9, x10⟩ := HX.out W hC
  go_simp
  try rfl
 try simp only [Act.put, nms]
 refine wpLo_c (some 15) rfl rfl (by rfl) (PX.mk0 none 0 0 0) (fun y => .slice y.A n.owners.length y.c) (fun y W => gA (((w.alloc (.cells #[.int .i64 n.mesh.g.w, .int .i64 n.mesh.g.h, .slice a1 n.mesh.br.length c1, .slice a2 n.pa.length c2, .slice a3 n.pb.length c3, .slice a4 n.bufs.length c4, .slice a5 n.owners.length c5, .slice a6 n.turns.length c6, .slice a7 n.srcs.length c7, .slice a8 n.arrs.length c8, .int .i64 n.time] 43)).alloc (.cells #[.int .i64 0, .int .i64 0, .slice none 0 0, .slice none 0 0, .slice none 0 0, .slice none 0 0, .slice none 0 0, .slice none 0 0, .slice none 0 0, .slice none 0 0, .int .i64 0] 43))).heap.size yb.hi y n.owners W) (fun y W W' h h' => h.stp h') (fun W hF hC => ?_) (fun yo => ?_)
 ·have hL := hF.2
  have hgW : g9 < W.heap.size := blk_lt hL
  obtain ⟨v1, W1, hr1, hR1, hb1, ha1⟩ := run_copy (Kd.int .i64) 24 24 3 (.int .i64 0) 8 Tryz.underlying24 info_int rfl (by decide) (by omega) KM_int K1_int g9 n.owners a5 n.owners.length c5 hL hg9 (HR.out W hC).owners hC.h.size (by have := (HR.out W hC).h5; omega)
  obtain ⟨A, c, rfl⟩ := Kd.R_slice hR1
  refine LoOp.val (v := .slice A n.owners.length c) (w1 := W1) (run_append_op rfl rfl rfl hr1) ?_
  exact ⟨PX.mk0 A c W.heap.size W1.heap.size, rfl, ⟨hb1⟩, gA.of hF.1.2.2.2.1 hR1 rfl hb1 ha1 hgW hL⟩
 try simp only [Act.put, nms]
 refine wpLo_l (some 16) rfl rfl (by rfl) (fun W => (by go_simp; first | done | rfl)) (fun g13 hg13 => ?_)
 try simp only [Act.put, nms]
 refine wpLo_q (some 17) rfl rfl (by rfl) (fun W hC => ?_) ?_
 ·obtain ⟨x0, x1, x2, x3, x4, x5, x6, x7, x8, x9, x10⟩ := HX.out W hC
  go_simp
  try rfl
 try simp only [Act.put, nms]
 refine wpLo_q (some 18) rfl rfl (by rfl) (fun W hC => ?_) ?_
 ·obtain ⟨x0, x1, x2, x3, x4, x5, x6, x7, x8, x9, x10⟩ := HX.out W hC
  go_simp
  try rfl
 try simp only [Act.put, nms]
 refine wpLo_c (some 19) rfl rfl (by rfl) (PX.mk0 none 0 0 0) (fun y => .slice y.A n.turns.length y.c) (fun y W => gA (((w.alloc (.cells #[.int .i64 n.mesh.g.w, .int .i64 n.mesh.g.h, .slice a1 n.mesh.br.length c1, .slice a2 n.pa.length c2, .slice a3 n.pb.length c3, .slice a4 n.bufs.length c4, .slice a5 n.owners.length c5, .slice a6 n.turns.length c6, .slice a7 n.srcs.length c7, .slice a8 n.arrs.length c8, .int .i64 n.time] 43)).alloc (.cells #[.int .i64 0, .int .i64 0, .slice none 0 0, .slice none 0 0, .slice none 0 0, .slice none 0 0, .slice none 0 0, .slice none 0 0, .slice none 0 0, .slice none 0 0, .int .i64 0] 43))).heap.size yo.hi y n.turns W) (fun y W W' h h' => h.stp h') (fun W hF hC => ?_) (fun yt => ?_)
 ·have hL := hF.2
  have hgW : g13 < W.heap.size := blk_lt hL
  obtain ⟨v1, W1, hr1, hR1, hb1, ha1⟩ := run_copy (Kd.int .i64) 24 24 3 (.int .i64 0) 8 Tryz.underlying24 info_int rfl (by decide) (by omega) KM_int K1_int g13 n.turns a6 n.turns.length c6 hL hg13 (HR.out W hC).turns hC.h.size (by have := (HR.out W hC).h6; omega)
  obtain ⟨A, c, rfl⟩ := Kd.R_slice hR1
  refine LoOp.val (v := .slice A n.turns.length c) (w1 := W1) (run_append_op rfl rfl rfl hr1) ?_
  exact ⟨PX.mk0 A c W.heap.size W1.heap.size, rfl, ⟨hb1⟩, gA.of hF.1.2.2.2.1 hR1 rfl hb1 ha1 hgW hL⟩
 try simp only [Act.put, nms]
 refine wpLo_q (some 20) rfl rfl (by rfl) (fun W hC => ?_) ?_
 ·obtain ⟨x0, x1, x2, x3, x4, x5, x6, x7, x8, x9, x10⟩ := HX.out W hC
  go_simp
  try rfl
 try simp only [Act.put, nms]
 refine wpLo_q (some 21) rfl rfl (by rfl) (fun W hC => ?_) ?_
 ·obtain ⟨x0, x1, x2, x3, x4, x5, x6, x7, x8, x9, x10⟩ := HX.out W hC
  go_simp
  try rfl
 try simp only [Act.put, nms]
 refine wpLo_c (some 22) rfl rfl (by rfl) (PX.mk0 none 0 0 0) (fun y => .slice y.A n.srcs.length y.c) (fun y W => gL yt.hi y n.srcs W) (fun y W W' h h' => h.stp h') (fun W hF hC => ?_) (fun ys => ?_)
 ·refine LoOp.enter (by go_simp; first | done | exact ⟨rfl, rfl⟩ | rfl) ?_
  refine (spec_l15Lists n.srcs a7 c7 W (HR.out W hC).srcs (HR.out W hC).h7 (Lib.hid (HR.out W hC).h10)).mono ?_
  rintro e W1 ⟨hg1, hb1⟩
  obtain ⟨A, c, vs, rfl, hO, hP⟩ := hg1
  exact ⟨_, rfl, ⟨A, c, none, 0, vs, W.heap.size, W1.heap.size⟩, rfl, ⟨hb1⟩, hF.2.2.2.1, hb1.size, Nat.le_refl _, hO, own_within hO, hP, fun i hi => within_R (hP.row i hi)⟩
 try simp only [Act.put, nms]
 refine wpLo_q (some 23) rfl rfl (by rfl) (fun W hC => ?_) ?_
 ·obtain ⟨x0, x1, x2, x3, x4, x5, x6, x7, x8, x9, x10⟩ := HX.out W hC
  go_simp
  try rfl
 try simp only [Act.put, nms]
 refine wpLo_q (some 24) rfl rfl (by rfl) (fun W hC => ?_) ?_
 ·obtain ⟨x0, x1, x2, x3, x4, x5, x6, x7, x8, x9, x10⟩ := HX.out W hC
  go_simp
  try rfl
 try simp only [Act.put, nms]
 refine wpLo_c (some 25) rfl rfl (by rfl) (PX.mk0 none 0 0 0) (fun y => .slice y.A n.arrs.length y.c) (fun y W => gL ys.hi y n.arrs W) (fun y W W' h h' => h.stp h') (fun W hF hC => ?_) (fun ya => ?_)
 ·refine LoOp.enter (by go_simp; first | done | exact ⟨rfl, rfl⟩ | rfl) ?_
  refine (spec_l15Lists n.arrs a8 c8 W (HR.out W hC).arrs (HR.out W hC).h8 (Lib.hid (HR.out W hC).h11)).mono ?_
  rintro e W1 ⟨hg1, hb1⟩
  obtain ⟨A, c, vs, rfl, hO, hP⟩ := hg1
  exact ⟨_, rfl, ⟨A, c, none, 0, vs, W.heap.size, W1.heap.size⟩, rfl, ⟨hb1⟩, hF.2.2.2.1, hb1.size, Nat.le_refl _, hO, own_within hO, hP, fun i hi => within_R (hP.row i hi)⟩
 try simp only [Act.put, nms]
 refine wpLo_q (some 26) rfl rfl (by rfl) (fun W hC => ?_) ?_
 ·obtain ⟨x0, x1, x2, x3, x4, x5, x6, x7, x8, x9, x10⟩ := HX.out W hC
  go_simp
  try rfl
 try simp only [Act.put, nms]
 refine wpLo_q (some 27) rfl rfl (by rfl) (fun W hC => ?_) ?_
 ·obtain ⟨x0, x1, x2, x3, x4, x5, x6, x7, x8, x9, x10⟩ := HX.out W hC
  go_simp
  try rfl
 try simp only [Act.put, nms]
 refine wpLo_c (some 28) rfl rfl (by rfl) () (fun _ => .agg (netCells n ⟨ym.A, yc.A, yc.A2, yb.A, yo.A, yt.A, ys.A, ya.A, ym.c, yc.c, yc.c2, yb.c, yo.c, yt.c, ys.c, ya.c⟩)) (fun _ _ => True) (fun _ _ _ _ _ => trivial) (fun W hF hC => LoOp.val (w1 := W) (by go_simp; try rfl) ⟨(), rfl, stp_refl _, trivial⟩) (fun _ => ?_)
 try simp only [Act.put, nms]
 refine wpLo_z ?_
 intro W hF hC
 obtain ⟨⟨⟨⟨⟨⟨⟨⟨⟨⟨_, hm⟩, hc⟩, hb⟩, _⟩, ho⟩, _⟩, ht⟩, hs⟩, ha⟩, _⟩ := hF
 have hN := Lib.hid (NX.parts hm hc hb ho ht hs ha)
 clear hm hc hb ho ht hs ha
 have hb1 := hC.h
 have hb2 : W.heap[w.heap.size + 1]? = some (.cells #[.int .i64 0, .int .i64 0, .slice none 0 0, .slice none 0 0, .slice none 0 0, .slice none 0 0, .slice none 0 0, .slice none 0 0, .slice none 0 0, .slice none 0 0, .int .i64 0] 43 (0, 0)) := by
  have h1 := blk_new (w.alloc (.cells #[.int .i64 n.mesh.g.w, .int .i64 n.mesh.g.h, .slice a1 n.mesh.br.length c1, .slice a2 n.pa.length c2, .slice a3 n.pb.length c3, .slice a4 n.bufs.length c4, .slice a5 n.owners.length c5, .slice a6 n.turns.length c6, .slice a7 n.srcs.length c7, .slice a8 n.arrs.length c8, .int .i64 n.time] 43)) (.cells #[.int .i64 0, .int .i64 0, .slice none 0 0, .slice none 0 0, .slice none 0 0, .slice none 0 0, .slice none 0 0, .slice none 0 0, .slice none 0 0, .slice none 0 0, .int .i64 0] 43)
  rw [World.size_alloc] at h1
  exact blk_below h1 hC.h
 have y0 : W.cell? ⟨w.heap.size + 1, 0, none⟩ = some (.int .i64 0) := blk_cell hb2 0
 have f0 : W.frozen? ⟨w.heap.size + 1, 0, none⟩ = false := blk_frozen hb2 0
 have y1 : W.cell? ⟨w.heap.size + 1, 1, none⟩ = some (.int .i64 0) := blk_cell hb2 1
 have f1 : W.frozen? ⟨w.heap.size + 1, 1, none⟩ = false := blk_frozen hb2 1
 have y2 : W.cell? ⟨w.heap.size + 1, 2, none⟩ = some (.slice none 0 0) := blk_cell hb2 2
 have f2 : W.frozen? ⟨w.heap.size + 1, 2, none⟩ = false := blk_frozen hb2 2
 have y3 : W.cell? ⟨w.heap.size + 1, 3, none⟩ = some (.slice none 0 0) := blk_cell hb2 3
 have f3 : W.frozen? ⟨w.heap.size + 1, 3, none⟩ = false := blk_frozen hb2 3
 have y4 : W.cell? ⟨w.heap.size + 1, 4, none⟩ = some (.slice none 0 0) := blk_cell hb2 4
 have f4 : W.frozen? ⟨w.heap.size + 1, 4, none⟩ = false := blk_frozen hb2 4
 have y5 : W.cell? ⟨w.heap.size + 1, 5, none⟩ = some (.slice none 0 0) := blk_cell hb2 5
 have f5 : W.frozen? ⟨w.heap.size + 1, 5, none⟩ = false := blk_frozen hb2 5
 have y6 : W.cell? ⟨w.heap.size + 1, 6, none⟩ = some (.slice none 0 0) := blk_cell hb2 6
 have f6 : W.frozen? ⟨w.heap.size + 1, 6, none⟩ = false := blk_frozen hb2 6
 have y7 : W.cell? ⟨w.heap.size + 1, 7, none⟩ = some (.slice none 0 0) := blk_cell hb2 7
 have f7 : W.frozen? ⟨w.heap.size + 1, 7, none⟩ = false := blk_frozen hb2 7
 have y8 : W.cell? ⟨w.heap.size + 1, 8, none⟩ = some (.slice none 0 0) := blk_cell hb2 8
 have f8 : W.frozen? ⟨w.heap.size + 1, 8, none⟩ = false := blk_frozen hb2 8
 have y9 : W.cell? ⟨w.heap.size + 1, 9, none⟩ = some (.slice none 0 0) := blk_cell hb2 9
 have f9 : W.frozen? ⟨w.heap.size + 1, 9, none⟩ = false := blk_frozen hb2 9
 have y10 : W.cell? ⟨w.heap.size + 1, 10, none⟩ = some (.int .i64 0) := blk_cell hb2 10
 have f10 : W.frozen? ⟨w.heap.size + 1, 10, none⟩ = false := blk_frozen hb2 10
 clear hb2
 have hz1 := bw_size hb1
 simp only [szs] at hz1
 refine ⟨_, rfl, by rfl, ?_⟩
 dsimp only [netCells]
 go_simp
 go_wp2
 exact bodyPost_ret (v := .agg (netCells n ⟨ym.A, yc.A, yc.A2, yb.A, yo.A, yt.A, ys.A, ya.A, ym.c, yc.c, yc.c2, yb.c, yo.c, yt.c, ys.c, ya.c⟩)) (by simp [results, Tryz.results38, go_sem, netCells, *]) rfl ⟨⟨_, yb.vs, ys.vs, ya.vs, rfl, (by refine NX.lower (lo := (((w.alloc (.cells #[.int .i64 n.mesh.g.w, .int .i64 n.mesh.g.h, .slice a1 n.mesh.br.length c1, .slice a2 n.pa.length c2, .slice a3 n.pb.length c3, .slice a4 n.bufs.length c4, .slice a5 n.owners.length c5, .slice a6 n.turns.length c6, .slice a7 n.srcs.length c7, .slice a8 n.arrs.length c8, .int .i64 n.time] 43)).alloc (.cells #[.int .i64 0, .int .i64 0, .slice none 0 0, .slice none 0 0, .slice none 0 0, .slice none 0 0, .slice none 0 0, .slice none 0 0, .slice none 0 0, .slice none 0 0, .int .i64 0] 43))).heap.size) ?_ (by simp only [szs]; omega); (repeat (refine NX.off ?_ (by simp only [szs]; omega) _ _)); exact hN.out)⟩, bel⟩
end Go.Proofs.YteeebfeljjghhaaGreat
/- Steps and runs of a network: the program's side. -/
set_option linter.unusedVariables false
set_option linter.unusedSimpArgs false
namespace Go.Proofs.YteeebfeljjghhaaGreat
open Go.RowKit Go.Proofs.YteeebfeljjghhaaGreatW.PrintWords
open NoC

theorem results_cell_row2 {P : Program} {fn : Func} {p u : Tmp} {ty : TypeId} (h : fn.results = #[.cell p ty, .tmp u]) (tmps : Array Value) (w : World) (g : Nat) (t : TypeId) (cs : Array Value) (fr : Nat × Nat) (d : TypeDesc)
    (hp : tmps.getD p undef = .pointer (some ⟨g, 0, none⟩)) (hg : w.heap[g]? = some (.cells cs t fr))
    (hu : P.underlying ty = some d) (hd : (match d with | .struct _ | .array _ _ => true | _ => false) = true) (hi : (P.info? ty).map (·.size) = some cs.size) :
    (results fn tmps).run P w = .ok (.tuple #[.agg cs, tmps.getD u undef]) w := by
  have hp' : tmps[p]?.getD undef = .pointer (some ⟨g, 0, none⟩) := by simpa using hp
  rw [results_cell_tmp h]
  simp [hp', asAddr, Result.andThen, run_loadVar_row w g t ty cs fr d hg hu hd hi]
def GotNV (w w' : World) (n : Net) (v : Value) (e : Ending) : Prop := ∃ q v4 v7 v8, e = .returned (.tuple #[.agg (netCells n q), v]) ∧ NX w' w.heap.size n q v4 v7 v8
end Go.Proofs.YteeebfeljjghhaaGreat
/- Sends: the program's side; for all valid networks and all packets. -/
set_option linter.unusedVariables false
set_option linter.unusedSimpArgs false
namespace Go.Proofs.YteeebfeljjghhaaGreat
open Go.RowKit Go.Proofs.YteeebfeljjghhaaGreatW.PrintWords
open NoC

section
variable {ops : Array Oper} {o : Oper} {a : Act} {Kc : Act → World → Prop} {Q' : Exit → Act → World → Prop}
theorem apps_FS {B : Nat} {W : World} (hw : Region.wanted o (yielded ops a.tmps) = true) (s x : Operand)
    (ho : o.op = .call { callee := .builtin .append, args := #[s, x], argTypes := #[100, 100] })
    (v : Value) (xs ys : List Flit) (A : Option Addr) (c : Nat) (hs : a.eval s = v) (hx : a.eval x = .slice A ys.length c)
    (HO : kF.R 103 W B (fun _ => True) v xs) (HR : kF.C W A ys.length ys) (hB : B ≤ W.heap.size) (hl : xs.length + ys.length ≤ 100000000)
    (h : ∀ v1 w1, kF.R 103 w1 B (fun _ => True) v1 (xs ++ ys) → W.grownBy w1 v.ownBlock → Anew W v1 v → Kc (a.put o.dst v1) w1) :
    if Region.wanted o (yielded ops a.tmps) = true then Oper.wp Tryz.prog o a W Kc Q' else Kc (a.put o.dst undef) W :=
  Kd.R_append_rows_step kF (w0 := W) B hw s x 100 103 (.agg #[.int .i64 0, .int .i64 0, .int .i64 0, .bool false, .bool false]) 32 ho Tryz.underlying100 info_F rfl (by decide) (by omega) v xs ys A ys.length c (fun _ => True) (fun _ => False) hs hx HO HR (fun _ _ h => h) (fun _ hk => hk.elim) (fun _ _ => trivial) (Below.refl _ _) hB (by omega) (fun v1 w1 h1 _ h3 h4 => h v1 w1 h1 h3 (.inr h4))
theorem apps_FSd {B : Nat} {W : World} (hw : Region.wanted o (yielded ops a.tmps) = true) (s x : Operand)
    (ho : o.op = .call { callee := .builtin .append, args := #[s, x], argTypes := #[100, 100] })
    (v : Value) (xs ys : List Flit) (A : Option Addr) (c : Nat) (hs : a.eval s = v) (hx : a.eval x = .slice A ys.length c)
    (HO : kF.R 103 W B (fun _ => True) v xs) (HR : kF.C W A ys.length ys) (hB : B ≤ W.heap.size) (hl : xs.length + ys.length ≤ 100000000)
    (h : ∀ v1 w1, kF.R 103 w1 B (fun _ => True) v1 (xs ++ ys) → W.grownBy w1 v.ownBlock → Anew W v1 v → Kc (a.put o.dst v1) w1) :
    if Region.wanted o (yielded ops a.tmps) = true then Oper.wp Tryz.prog o a W.drew Kc Q' else Kc (a.put o.dst undef) W.drew :=
  apps_FS (W := W.drew) hw s x ho v xs ys A c hs hx (Kd.R_below HO (bw_drew (bw_refl W))) (Kd.C_below HR (bw_drew (bw_refl W))) hB hl (fun v1 w1 h1 h2 h3 => h v1 w1 h1 ⟨h2.os, h2.tape, h2.output, h2.size, h2.block⟩ h3)
end
def GotSndQ (lo bx : Nat) (w' : World) (n : Net) (q : NA) : Prop := ∃ u4 u7 u8, NX w' lo n q u4 u7 u8 ∧ BT w' bx n q
def GotSnd (lo bx : Nat) (w' : World) (n : Net) : Prop := ∃ q' u4 u7 u8, NX w' lo n q' u4 u7 u8 ∧ BT w' bx n q'
set_option maxHeartbeats 16000000 in
set_option maxRecDepth 100000 in
theorem impl_sendQ (n : Net) (p : Packet) (q : NA) (bx lo : Nat) (v4 v7 v8 : List Value) (w : World) (hN : NX w lo n q v4 v7 v8) (hB : BT w bx n q) (nb : NB n) (ok : netOk n = true) (hlo : lo ≤ bx) (hlw : lo ≤ w.heap.size) :
  Calls Tryz.prog 71 #[.pointer (some ⟨bx, 0, none⟩), .agg #[.int .i64 p.id, .int .i64 p.src, .int .i64 p.dst, .int .i64 p.cls, .int .i64 p.len]] w fun e w' => e = .returned (.bool (sendOk n p)) ∧ GotSndQ lo bx w' (sndN n p) q ∧ Below lo w w' := by
 have HN := Lib.hid hN
 have HB := Lib.hid hB
 obtain ⟨l4, l5, l6, l7, l8⟩ := lens_ok ok
 have hsb := srcs_len ok
 have HSL := Lib.hid hsb.2
 have s16 := hsb.1
 obtain ⟨a1, a2, a3, a4, a5, a6, a7, a8, c1, c2, c3, c4, c5, c6, c7, c8⟩ := q
 obtain ⟨g7, e7, t7, s7⟩ := hN.form7 l7
 dsimp only at e7
 subst e7
 have sb := hB.lt
 obtain ⟨w1, e1⟩ : ∃ z, z = w.alloc (.cells #[.int .i64 p.id, .int .i64 p.src, .int .i64 p.dst, .int .i64 p.cls, .int .i64 p.len] 89) := ⟨_, rfl⟩
 have XP : Hid (Box w1 w.heap.size #[.int .i64 p.id, .int .i64 p.src, .int .i64 p.dst, .int .i64 p.cls, .int .i64 p.len]) := Lib.hid (by rw [e1]; exact Box.new w _ _ _ rfl)
 have hb1 : Below w.heap.size w w1 := by rw [e1]; exact bw_alloc _ (bw_refl w)
 have HN1 := Lib.hid (hN.below hb1)
 have HB1 := Lib.hid (hB.below hb1)
 have HW1 : Hid (Below lo w w1) := Lib.hid (Below.cut hb1 hlw)
 have z1 := bw_size hb1
 have x0 : w1.cell? ⟨bx, 0, none⟩ = some (.int .i64 n.mesh.g.w) := HB1.out.box.get 0
 have x1 : w1.cell? ⟨bx, 1, none⟩ = some (.int .i64 n.mesh.g.h) := HB1.out.box.get 1
 have xl := HB1.out.lt
 have p0 : w1.cell? ⟨w.heap.size, 0, none⟩ = some (.int .i64 p.id) := XP.out.get 0
 have p1 : w1.cell? ⟨w.heap.size, 1, none⟩ = some (.int .i64 p.src) := XP.out.get 1
 have p2 : w1.cell? ⟨w.heap.size, 2, none⟩ = some (.int .i64 p.dst) := XP.out.get 2
 have p3 : w1.cell? ⟨w.heap.size, 3, none⟩ = some (.int .i64 p.cls) := XP.out.get 3
 have p4 : w1.cell? ⟨w.heap.size, 4, none⟩ = some (.int .i64 p.len) := XP.out.get 4
 have pl := XP.out.lt
 obtain ⟨L, hL⟩ : ∃ L, flitsOf n.mesh.g p = L := ⟨_, rfl⟩
 have HCF : Hid (∀ W : World, Calls Tryz.prog 113 #[.agg #[.int .i64 n.mesh.g.w, .int .i64 n.mesh.g.h], .agg #[.int .i64 p.id, .int .i64 p.src, .int .i64 p.dst, .int .i64 p.cls, .int .i64 p.len]] W fun e w' => GotF W w' L e ∧ Below W.heap.size W w') := Lib.hid (fun W => by rw [← hL]; exact impl_FlitsOf n.mesh.g p W)
 have HL := Lib.hid hL
 clear hN hB hb1 hsb hL
 go_enter Tryz.func71, Tryz.ntmps71
 go_wp2_with fail
 rw [← e1]
 clear e1
 go_region_held3 (fun w' => Below (w1).heap.size (w1) w' ∧ ∀ bq oq, bq < (w1).heap.size → w'.cell? ⟨bq, oq, none⟩ = (w1).cell? ⟨bq, oq, none⟩) (first | exact far_of bel) ( first | (go_at_call 113; refine (HCF.out _).mono ?_; rintro e wf ⟨hg1, hb1⟩; obtain ⟨vf, rfl, HF0⟩ := hg1; obtain ⟨Af, cf, rfl⟩ := Kd.R_slice HF0; have HFB := hb1; obtain ⟨hc1, hf1, hz1⟩ := bcell hb1; (try simp only [szs] at hz1); have hb2 := (by first | exact bw_then hb2 hb1 | exact bw_then (bw_drewN _ hb2) hb1 | exact bw_then (bw_alloc _ hb2) hb1 | exact bw_then (bw_drew hb2) hb1 | exact bw_then HB hb1 | exact bw_then (bw_drewN _ HB) hb1 | exact bw_then (bw_alloc _ HB) hb1 | exact bw_then (bw_drew HB) hb1 | exact hb1); obtain ⟨hc2, hf2, hz2⟩ := bcell hb2; (try simp only [szs] at hz2); try (first | obtain ⟨hy1, hy2, hy3, hy4⟩ := lts4 hz2 | obtain ⟨hy1, hy2, hy3⟩ := lts3 hz2 | obtain ⟨hy1, hy2⟩ := lts2 hz2 | have hy1 := lts1 hz2); have hb9 := hb1))
 have hbf : Below w1.heap.size w1 wf := by first | exact bw_then (bw_drew (bw_refl _)) hb2 | exact hb2
 have HF := Lib.hid (show kF.R 103 wf w1.heap.size (fun _ => True) (.slice Af L.length cf) L from HF0)
 repeat (first | clear hc1 | clear hf1 | clear hz1 | clear hb1 | clear hb9 | clear hc2 | clear hf2 | clear hz2 | clear hb2 | clear hy1 | clear hy2 | clear hy3 | clear hy4)
 obtain ⟨w2, rfl⟩ : ∃ z, z = wf := ⟨_, rfl⟩
 have HN2 := Lib.hid (HN1.out.below hbf)
 have HB2 := Lib.hid (HB1.out.below hbf)
 have XP2 := Lib.hid (XP.out.below hbf)
 have HW2 : Hid (Below lo w w2) := Lib.hid (below_then HW1.out (by omega) hbf)
 have z2 := bw_size hbf
 have hpl : w.heap.size < w2.heap.size := XP2.out.lt
 clear p0 p1 p2 p3 p4 pl x0 x1 xl HN1 HB1 XP HW1 HFB HF0 hbf
 cases hk : packetOk n.mesh.g p
 ·have hL0 : L = [] := by rw [← HL.out]; exact flitsOf_no hk
  have HE : Hid (sendOk n p = false ∧ sndN n p = n) := Lib.hid (by
   have h1 : sendOk n p = false := by simp [sendOk, hk]
   exact ⟨h1, by unfold sndN; rw [h1]; rfl⟩)
  have hL1 : L.length = 0 := by rw [hL0]; rfl
  clear hL0 hk
  go_wp2_with fail
  refine wp_region_far (w2) (by kernel_rfl) (by kernel_rfl) bel ?_
  have hqc := far_cell (w2)
  have hqf := far_frozen (w2)
  repeat (first | go_big_quiet_step (fail) | quiet_step (fail))
  refine wpQuiet_nil ?_
  intro wq hbq
  clear hqc hqf
  obtain ⟨hcq, hfq, hzq⟩ := bcell hbq
  try simp only [szs] at hzq
  go_wp2
  go_ret
  exact ⟨ret_bool HE.out.1.symm, by rw [HE.out.2]; exact ⟨v4, v7, v8, HN2.out.below hbq, HB2.out.below hbq⟩, below_then HW2.out (by omega) hbq⟩
 obtain ⟨nd, _, _, _, n1, n5⟩ := packet_parts hk
 have nd1 := isNode_iff.1 nd
 have hlen : (L.length : Int) = p.len := by rw [← HL.out]; exact flitsOf_len hk
 obtain ⟨k, hkk⟩ : ∃ k : Nat, p.src = (k : Int) := ⟨p.src.toNat, by omega⟩
 have hks : k < n.srcs.length := by have := HSL.out; omega
 have HKS := Lib.hid hks
 have hrow := HN2.out.row7 k hks
 try dsimp only at hrow
 obtain ⟨As, cs, hv⟩ := Kd.R_slice hrow
 rw [hv] at hrow
 obtain ⟨R, hR⟩ : ∃ R, rl n.srcs (k : Int) = R := ⟨_, rfl⟩
 rw [hR] at hrow hv
 have hRl : R.length ≤ 2097152 := by rw [← hR]; exact nb.h10 _ (rl_mem hks)
 obtain ⟨cl1, cl2⟩ := own_facts7 (x := n) HN2.out rfl hks hv
 have y1 : w2.cell? ⟨w.heap.size, 1, none⟩ = some (.int .i64 (k : Int)) := by rw [← hkk]; exact XP2.out.get 1
 have y8 : w2.cell? ⟨bx, 8, none⟩ = some (.slice (some ⟨g7, 0, none⟩) n.srcs.length c7) := HB2.out.box.get 8
 have yx := HB2.out.lt
 have i0 : (0 : Int) ≤ (k : Int) := by omega
 have i1 : (k : Int) < (n.srcs.length : Int) := by omega
 have hLp : 1 ≤ L.length := by omega
 have hL5 : L.length ≤ 5 := by omega
 have HV := Lib.hid hv
 have HRE := Lib.hid hR
 have HSO : Hid (sendOk n p = decide ((R.length : Int) + (L.length : Int) ≤ 60)) := Lib.hid (by
  unfold sendOk
  rw [hk, hkk, hR, ← hlen]
  rfl)
 have HKK := Lib.hid hkk
 have f0 : ((L.length : Int) == 0) = false := beq_eq_false_iff_ne.2 (by omega)
 have g7l : g7 < w2.heap.size := by omega
 clear hk hkk hv hR hks hlen nd nd1 n1 n5 nb
 by_cases h60 : (R.length : Int) + (L.length : Int) ≤ 60
 case neg =>
  have HE : Hid (sendOk n p = false ∧ sndN n p = n) := Lib.hid (by
   have h1 : sendOk n p = false := by rw [HSO.out]; exact decide_eq_false h60
   exact ⟨h1, by unfold sndN; rw [h1]; rfl⟩)
  have h61 : (60 : Int) < (R.length : Int) + (L.length : Int) := by omega
  clear h60 HSO
  go_wp2_with fail
  refine wp_region_far (w2) (by kernel_rfl) (by kernel_rfl) bel ?_
  have hqc := far_cell (w2)
  have hqf := far_frozen (w2)
  repeat (first | go_big_quiet_step (fail) | quiet_step (fail))
  refine wpQuiet_nil ?_
  intro wq hbq
  clear hqc hqf
  obtain ⟨hcq, hfq, hzq⟩ := bcell hbq
  try simp only [szs] at hzq
  go_wp2
  go_ret
  exact ⟨ret_bool HE.out.1.symm, by rw [HE.out.2]; exact ⟨v4, v7, v8, HN2.out.below hbq, HB2.out.below hbq⟩, below_then HW2.out (by omega) hbq⟩
 case pos =>
  have h1 : sendOk n p = true := by rw [HSO.out]; exact decide_eq_true h60
  have HE : Hid (sendOk n p = true) := Lib.hid h1
  have HE2 : Hid (sndN n p = { n with srcs := n.srcs.set k (R ++ L) }) := Lib.hid (by
   unfold sndN sendN
   rw [if_pos h1, HL.out, HKK.out, HRE.out, Int.toNat_natCast])
  clear h1 HSO
  go_wp2_with fail
  refine wp_region_far (w2) (by kernel_rfl) (by kernel_rfl) bel ?_
  have hqc := far_cell (w2)
  have hqf := far_frozen (w2)
  repeat (first | go_big_quiet_step (fail) | quiet_step (fail))
  refine wpQuiet_nil ?_
  intro wq hbq
  clear hqc hqf
  obtain ⟨hcq, hfq, hzq⟩ := bcell hbq
  try simp only [szs] at hzq
  have HN3 := Lib.hid (HN2.out.below hbq)
  have HB3 := Lib.hid (HB2.out.below hbq)
  have HW3 : Hid (Below lo w wq) := Lib.hid (below_then HW2.out (by omega) hbq)
  have HF3 := Lib.hid (Kd.R_below HF.out hbq)
  have HO3 := Lib.hid (Kd.R_below hrow hbq)
  have y1q : wq.cell? ⟨w.heap.size, 1, none⟩ = some (.int .i64 (k : Int)) := (hcq _ _ hpl).trans y1
  have y8q : wq.cell? ⟨bx, 8, none⟩ = some (.slice (some ⟨g7, 0, none⟩) n.srcs.length c7) := (hcq _ _ yx).trans y8
  have zq := bw_size hbq
  obtain ⟨d1, d2⟩ := own_facts7 (x := n) HN3.out rfl HKS.out HV.out
  have CL1 := Lib.hid d1
  have CL2 := Lib.hid d2
  clear hcq hfq hzq hbq y1 y8 HN2 HB2 HW2 HF hrow cl1 cl2 XP2
  obtain ⟨wz, rfl⟩ : ∃ z, z = wq := ⟨_, rfl⟩
  have yxz := HB3.out.lt
  have hplz : w.heap.size < wz.heap.size := by omega
  have HBO : Hid (BlkT wz g7 100) := Lib.hid (own_typed HN3.out.srcs g7 rfl)
  obtain ⟨rb, hrb⟩ : ∃ rb, (Value.slice As R.length cs).ownBlock = rb := ⟨_, rfl⟩
  have nb1 : ¬ some bx = rb := fun e => by obtain ⟨inner, hin⟩ := Kd.R_own HO3.out; exact own_ne hin HB3.out (by decide) (e.trans hrb.symm)
  have nb3 : ¬ some g7 = rb := fun e => by
   obtain ⟨inner, hin⟩ := Kd.R_own HO3.out
   obtain ⟨cc, hc⟩ := HBO.out
   exact own_ne hin hc (by decide) (e.trans hrb.symm)
  have nbp : ¬ some w.heap.size = rb := fun e => by
   have h7 := HN.out.row7 k HKS.out
   try dsimp only at h7
   rw [HV.out] at h7
   have := Kd.R_lt h7 w.heap.size (by rw [hrb]; exact e.symm)
   omega
  have nbo : ¬ bx = g7 := by
   obtain ⟨cc, hc⟩ := HBO.out
   exact blk_ne HB3.out hc (by decide)
  have npo : ¬ w.heap.size = g7 := by omega
  have HRB1 := Lib.hid hrb
  have g7z : g7 < wz.heap.size := by omega
  have lwz : lo ≤ wz.heap.size := by omega
  clear hrb
  go_wp2_with fail
  refine wp_region_tx (fun W => wz.heap.size ≤ W.heap.size ∧ W.cell? ⟨bx, 8, none⟩ = some (.slice (some ⟨g7, 0, none⟩) n.srcs.length c7) ∧ W.cell? ⟨w.heap.size, 1, none⟩ = some (.int .i64 (k : Int)) ∧ W.cell? ⟨g7, k, none⟩ = some (.slice As R.length cs) ∧ W.frozen? ⟨g7, k, none⟩ = false) (fun i => [.pointer (some ⟨bx, 0, none⟩), .pointer (some ⟨bx, 0, none⟩), .pointer (some ⟨bx, 8, none⟩), .slice (some ⟨g7, 0, none⟩) n.srcs.length c7, .pointer (some ⟨w.heap.size, 1, none⟩), .int .i64 (k : Int), .pointer (some ⟨bx, 0, none⟩), .pointer (some ⟨bx, 0, none⟩), .pointer (some ⟨bx, 8, none⟩), .slice (some ⟨g7, 0, none⟩) n.srcs.length c7, .pointer (some ⟨w.heap.size, 1, none⟩), .int .i64 (k : Int), .pointer (some ⟨g7, k, none⟩), .slice As R.length cs, .slice Af L.length cf, undef, .pointer (some ⟨g7, k, none⟩)].getD i undef) 17 [(0, .quiet), (1, .quiet), (2, .quiet), (3, .quiet), (4, .quiet), (5, .quiet), (6, .quiet), (7, .quiet), (8, .quiet), (9, .quiet), (10, .quiet), (11, .quiet), (12, .quiet), (13, .quiet), (14, .quiet), (15, .chain), (16, .quiet)] (by kernel_rfl) (by kernel_rfl) (by kernel_rfl) (by kernel_rfl) (by kernel_rfl) (by kernel_rfl) (by kernel_rfl) (by kernel_rfl) (⟨Nat.le_refl _, y8q, y1q, CL1.out, CL2.out⟩) (fun W => W = wz.drew) (rfl) ?_
  refine wpTx_q (some 31) rfl rfl (by rfl) (fun W hC => ?_) ?_
  ·obtain ⟨_, x1, x2, x3, x4⟩ := hC
   go_simp
   try rfl
  try simp only [Act.put, nms]
  refine wpTx_q (some 32) rfl rfl (by rfl) (fun W hC => ?_) ?_
  ·obtain ⟨_, x1, x2, x3, x4⟩ := hC
   go_simp
   try rfl
  try simp only [Act.put, nms]
  refine wpTx_q (some 33) rfl rfl (by rfl) (fun W hC => ?_) ?_
  ·obtain ⟨_, x1, x2, x3, x4⟩ := hC
   go_simp
   try rfl
  try simp only [Act.put, nms]
  refine wpTx_q (some 34) rfl rfl (by rfl) (fun W hC => ?_) ?_
  ·obtain ⟨_, x1, x2, x3, x4⟩ := hC
   go_simp
   try rfl
  try simp only [Act.put, nms]
  refine wpTx_q (some 35) rfl rfl (by rfl) (fun W hC => ?_) ?_
  ·obtain ⟨_, x1, x2, x3, x4⟩ := hC
   go_simp
   try rfl
  try simp only [Act.put, nms]
  refine wpTx_q (some 36) rfl rfl (by rfl) (fun W hC => ?_) ?_
  ·obtain ⟨_, x1, x2, x3, x4⟩ := hC
   go_simp
   try rfl
  try simp only [Act.put, nms]
  refine wpTx_q (some 37) rfl rfl (by rfl) (fun W hC => ?_) ?_
  ·obtain ⟨_, x1, x2, x3, x4⟩ := hC
   go_simp
   try rfl
  try simp only [Act.put, nms]
  refine wpTx_q (some 38) rfl rfl (by rfl) (fun W hC => ?_) ?_
  ·obtain ⟨_, x1, x2, x3, x4⟩ := hC
   go_simp
   try rfl
  try simp only [Act.put, nms]
  refine wpTx_q (some 39) rfl rfl (by rfl) (fun W hC => ?_) ?_
  ·obtain ⟨_, x1, x2, x3, x4⟩ := hC
   go_simp
   try rfl
  try simp only [Act.put, nms]
  refine wpTx_q (some 40) rfl rfl (by rfl) (fun W hC => ?_) ?_
  ·obtain ⟨_, x1, x2, x3, x4⟩ := hC
   go_simp
   try rfl
  try simp only [Act.put, nms]
  refine wpTx_q (some 41) rfl rfl (by rfl) (fun W hC => ?_) ?_
  ·obtain ⟨_, x1, x2, x3, x4⟩ := hC
   go_simp
   try rfl
  try simp only [Act.put, nms]
  refine wpTx_q (some 42) rfl rfl (by rfl) (fun W hC => ?_) ?_
  ·obtain ⟨_, x1, x2, x3, x4⟩ := hC
   go_simp
   try rfl
  try simp only [Act.put, nms]
  refine wpTx_q (some 43) rfl rfl (by rfl) (fun W hC => ?_) ?_
  ·obtain ⟨_, x1, x2, x3, x4⟩ := hC
   go_simp
   try rfl
  try simp only [Act.put, nms]
  refine wpTx_q (some 44) rfl rfl (by rfl) (fun W hC => ?_) ?_
  ·obtain ⟨_, x1, x2, x3, x4⟩ := hC
   go_simp
   try rfl
  try simp only [Act.put, nms]
  refine wpTx_q (some 45) rfl rfl (by rfl) (fun W hC => ?_) ?_
  ·obtain ⟨_, x1, x2, x3, x4⟩ := hC
   go_simp
   try rfl
  try simp only [Act.put, nms]
  refine wpTx_c (some 46) rfl rfl (by rfl) ((none, 0) : Option Addr × Nat) (fun y => .slice y.1 (R.length + L.length) y.2) (fun y W9 => kF.R 103 W9 lo (fun _ => True) (.slice y.1 (R ++ L).length y.2) (R ++ L) ∧ wz.grownBy W9 (Value.slice As R.length cs).ownBlock ∧ Anew wz (.slice y.1 (R ++ L).length y.2) (.slice As R.length cs)) (fun W hF hC => ?_) (fun y => ?_)
  ·subst hF
   refine LoOp.of_if (ops := #[]) rfl rfl (by simp) (by rfl) (apps_FSd (ops := #[]) (W := wz) (B := lo) (by rfl) (.tmp 44) (.tmp 45) rfl (.slice As R.length cs) R L Af cf rfl rfl HO3.out (Kd.R_rowX HF3.out).2.2 lwz (by omega) ?_)
   intro v9 w9 H9 hg9 ha9
   obtain ⟨A9, d9, rfl⟩ := Kd.R_slice H9
   have hg9r := hg9
   rw [HRB1.out] at hg9r
   refine ⟨(A9, d9), ?_, ⟨hg9r.size, (World.cell?_of_block (a := ⟨bx, 8, none⟩) (hg9r.block bx yxz nb1)).trans y8q, (World.cell?_of_block (a := ⟨w.heap.size, 1, none⟩) (hg9r.block w.heap.size hplz nbp)).trans y1q, (World.cell?_of_block (a := ⟨g7, k, none⟩) (hg9r.block g7 g7z nb3)).trans CL1.out, (World.frozen?_of_block (a := ⟨g7, k, none⟩) (hg9r.block g7 g7z nb3)).trans CL2.out⟩, H9, hg9, ha9⟩
   show Value.slice A9 (R ++ L).length d9 = .slice A9 (R.length + L.length) d9
   rw [List.length_append]
  try simp only [Act.put, nms]
  refine wpTx_q (some 47) rfl rfl (by rfl) (fun W hC => ?_) ?_
  ·obtain ⟨_, x1, x2, x3, x4⟩ := hC
   go_simp
   try rfl
  try simp only [Act.put, nms]
  refine wpTx_z (fun w9 hF hC => ?_)
  obtain ⟨A9, d9⟩ := y
  obtain ⟨H9, hg9, ha9⟩ := hF
  obtain ⟨_, x1, x2, x3, x4⟩ := hC
  dsimp only at H9
  refine ⟨_, rfl, by rfl, ?_⟩
  go_simp
  all_goals
   have hl9 : (R ++ L).length = R.length + L.length := by simp
   have hN9 : NX (w9.setCell ⟨g7, k, none⟩ (.slice A9 (R.length + L.length) d9)) lo { n with srcs := n.srcs.set k (R ++ L) } ⟨a1, a2, a3, a4, a5, a6, some ⟨g7, 0, none⟩, a8, c1, c2, c3, c4, c5, c6, c7, c8⟩ v4 (v7.set k (.slice A9 (R.length + L.length) d9)) v8 := by
    have hh := HN3.out.setSrc (g := g7) (k := k) (u := .slice A9 (R ++ L).length d9) (y := R ++ L) rfl HKS.out (by rw [show vr v7 k = .slice As R.length cs from HV.out]; exact hg9) H9 (by rw [show vr v7 k = .slice As R.length cs from HV.out]; exact ha9)
    rw [hl9] at hh
    exact hh
   have hB9 : BT (w9.setCell ⟨g7, k, none⟩ (.slice A9 (R.length + L.length) d9)) bx n ⟨a1, a2, a3, a4, a5, a6, some ⟨g7, 0, none⟩, a8, c1, c2, c3, c4, c5, c6, c7, c8⟩ := (HB3.out.grown hg9 HO3.out).far (HBO.out.grown hg9 HO3.out) (by decide) _ _
   have hW9 : Below lo w (w9.setCell ⟨g7, k, none⟩ (.slice A9 (R.length + L.length) d9)) := below_setc (Below.grownRow HW3.out hg9 lwz (fun j hj => Kd.R_base HO3.out j hj)) t7 _ _
   go_wp2
   go_ret
   refine ⟨ret_bool HE.out.symm, ?_, ?_⟩
   ·rw [HE2.out]
    first
     | exact ⟨v4, v7.set k (.slice A9 (R.length + L.length) d9), v8, hN9, hB9.eq (by simp [netCells])⟩
     | exact ⟨v4, v7.set k (.slice A9 (R.length + L.length) d9), v8, hN9.below (bw_drew (bw_refl _)), (hB9.below (bw_drew (bw_refl _))).eq (by simp [netCells])⟩
   ·first | exact hW9 | exact below_then hW9 (by have := hW9.size; omega) (bw_drew (bw_refl _))
theorem impl_send (n : Net) (p : Packet) (q : NA) (bx lo : Nat) (v4 v7 v8 : List Value) (w : World) (hN : NX w lo n q v4 v7 v8) (hB : BT w bx n q) (nb : NB n) (ok : netOk n = true) (hlo : lo ≤ bx) (hlw : lo ≤ w.heap.size) :
    Calls Tryz.prog 71 #[.pointer (some ⟨bx, 0, none⟩), .agg #[.int .i64 p.id, .int .i64 p.src, .int .i64 p.dst, .int .i64 p.cls, .int .i64 p.len]] w fun e w' => e = .returned (.bool (sendOk n p)) ∧ GotSnd lo bx w' (sndN n p) ∧ Below lo w w' :=
  (impl_sendQ n p q bx lo v4 v7 v8 w hN hB nb ok hlo hlw).mono (fun e w' h => ⟨h.1, let ⟨u4, u7, u8, h1, h2⟩ := h.2.1; ⟨q, u4, u7, u8, h1, h2⟩, h.2.2⟩)
end Go.Proofs.YteeebfeljjghhaaGreat
