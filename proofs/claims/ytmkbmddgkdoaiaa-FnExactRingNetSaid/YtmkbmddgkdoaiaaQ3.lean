/- Lemmas for laws of this seat, for all inputs: NX CpW M4 MN Scal Mesh Tab. -/
import Derived.Test.YtmkbmddgkdoaiaaQ2
import Derived.ArgAppend
import Derived.Deep.Upon
import Derived.Test.YtmkbmddgkdoaiaaProg
set_option linter.unusedVariables false
set_option linter.unusedSimpArgs false
namespace Go.Proofs.Ytmkbmddgkdoaiaa
open Go.RowKit Go.Proofs.YtmkbmddgkdoaiaaW.PrintWords
open NoC
def BlkT (w : World) (g t : Nat) : Prop := ∃ cells, w.heap[g]? = some (.cells cells t (0, 0))
theorem BlkT.below {w w1 : World} {g t : Nat} (h : BlkT w g t) (hb : Below w.heap.size w w1) : BlkT w1 g t := let ⟨c, hc⟩ := h; ⟨c, blk_below hc hb⟩
theorem BlkT.set {w : World} {g t : Nat} (h : BlkT w g t) (b o : Nat) (u : Value) : BlkT (w.setCell ⟨b, o, none⟩ u) g t := by
  obtain ⟨c, hc⟩ := h
  by_cases e : g = b
  · subst e; exact ⟨_, blk_set hc o u⟩
  · exact ⟨c, blk_far (p := ⟨b, o, none⟩) hc e u⟩
structure FR (w : World) (lo : Nat) (vs : List Value) (l : List (List Flit)) : Prop where
  len : vs.length = l.length
  row : ∀ i : Nat, i < l.length → kF.R 77 w lo (fun _ => True) (vr vs i) (rl l i)
  ap : ∀ i j : Nat, i < j → j < l.length → Apart (vr vs i) (vr vs j)
theorem FR.ap' {w : World} {lo : Nat} {vs : List Value} {l : List (List Flit)} (h : FR w lo vs l) {i j : Nat} (hne : i ≠ j) (hi : i < l.length) (hj : j < l.length) : Apart (vr vs i) (vr vs j) := by
  rcases Nat.lt_or_gt_of_ne hne with h1 | h1
  · exact h.ap i j h1 hj
  · exact apart_comm (h.ap j i h1 hi)
theorem FR.below {w w1 : World} {lo : Nat} {vs : List Value} {l : List (List Flit)} (h : FR w lo vs l) (hb : Below w.heap.size w w1) : FR w1 lo vs l := ⟨h.len, fun i hi => Kd.R_below (h.row i hi) hb, h.ap⟩
theorem FR.lower {w : World} {lo lo' : Nat} {vs : List Value} {l : List (List Flit)} (h : FR w lo vs l) (hl : lo' ≤ lo) : FR w lo' vs l := ⟨h.len, fun i hi => Kd.R_lower (h.row i hi) hl, h.ap⟩
theorem FR.typed {w : World} {lo : Nat} {vs : List Value} {l : List (List Flit)} (h : FR w lo vs l) {g t : Nat} (hb : BlkT w g t) (ht : 77 ≠ t) (j : Nat) (u : Value) : FR (w.setCell ⟨g, j, none⟩ u) lo vs l := by
  obtain ⟨c, hc⟩ := hb
  refine ⟨h.len, fun i hi => Kd.R_set (h.row i hi) hc (fun q hq => ?_) j u, h.ap⟩
  have e : q = 77 := by simpa [kF, Kd.flat] using hq
  rw [e]
  exact ht
def Anew (w : World) (u v : Value) : Prop := u.ownBlock = none ∨ u.ownBlock = v.ownBlock ∨ ∃ b, u.ownBlock = some b ∧ w.heap.size ≤ b
theorem FR.upd {w w1 : World} {lo : Nat} {vs : List Value} {l : List (List Flit)} (h : FR w lo vs l) (k : Nat) (hk : k < l.length) (hg : w.grownBy w1 (vr vs k).ownBlock) {u : Value} {y : List Flit} (hu : kF.R 77 w1 lo (fun _ => True) u y) (hat : Anew w u (vr vs k)) : FR w1 lo (vs.set k u) (l.set k y) := by
  have hl := h.len
  have other : ∀ i : Nat, i < l.length → i ≠ k → Apart (vr vs i) u := by
    intro i hi hne
    have ha := h.ap' hne hi hk
    rcases hat with h1 | h1 | ⟨b, h1, h2⟩
    · exact apart_comm (.inl h1)
    · unfold Apart at ha ⊢
      rwa [h1]
    · have hw := within_R (h.row i hi)
      cases e : (vr vs i).ownBlock with
      | none => exact .inl e
      | some g =>
        right
        rw [h1, e]
        intro e2
        have := hw g e
        have := Option.some.inj e2
        omega
  refine ⟨by rw [List.length_set, List.length_set, hl], fun i hi => ?_, fun i j hij hj => ?_⟩
  · rw [List.length_set] at hi
    rw [vr_set (by omega), set_getB hk i hi]
    by_cases e : i = k
    · subst e
      rw [if_pos rfl, if_pos rfl]
      exact hu
    · rw [if_neg e, if_neg (fun h => e h.symm)]
      exact R_grownF (h.row i hi) hg (h.ap' e hi hk)
  · rw [List.length_set] at hj
    rw [vr_set (by omega), vr_set (by omega)]
    by_cases e1 : i = k
    · rw [if_pos e1, if_neg (by omega)]
      exact apart_comm (other j hj (by omega))
    · rw [if_neg e1]
      by_cases e2 : j = k
      · rw [if_pos e2]
        exact other i (by omega) e1
      · rw [if_neg e2]
        exact h.ap i j hij hj
structure NB (n : Net) : Prop where
  h1 : n.mesh.br.length ≤ 2097152
  h2 : n.pa.length ≤ 2097152
  h3 : n.pb.length ≤ 2097152
  h4 : n.bufs.length ≤ 2097152
  h5 : n.owners.length ≤ 2097152
  h6 : n.turns.length ≤ 2097152
  h7 : n.srcs.length ≤ 2097152
  h8 : n.arrs.length ≤ 2097152
  h9 : ∀ l ∈ n.bufs, l.length ≤ 2097152
  h10 : ∀ l ∈ n.srcs, l.length ≤ 2097152
  h11 : ∀ l ∈ n.arrs, l.length ≤ 2097152
theorem NetR.nb {e : Nat} {w : World} {n : Net} {q : NA} (k : NetR e w n q) : NB n := ⟨k.h1, k.h2, k.h3, k.h4, k.h5, k.h6, k.h7, k.h8, k.h9, k.h10, k.h11⟩
def iv (n : Net) (q : NA) : List Value := [.slice q.a1 n.mesh.br.length q.c1, .slice q.a2 n.pa.length q.c2, .slice q.a3 n.pb.length q.c3, .slice q.a5 n.owners.length q.c5, .slice q.a6 n.turns.length q.c6]
def ov (n : Net) (q : NA) : List Value := [.slice q.a4 n.bufs.length q.c4, .slice q.a7 n.srcs.length q.c7, .slice q.a8 n.arrs.length q.c8]
def AllAp (m : Nat) (vs : List Value) : Prop := ∀ i j : Nat, i < j → j < m → Apart (vr vs i) (vr vs j)
theorem AllAp.of {m : Nat} {vs : List Value} (h : AllAp m vs) {i j : Nat} (hne : i ≠ j) (hi : i < m) (hj : j < m) : Apart (vr vs i) (vr vs j) := by
  rcases Nat.lt_or_gt_of_ne hne with h1 | h1
  · exact h i j h1 hj
  · exact apart_comm (h j i h1 hi)
def vlen : Value → Nat
  | .slice _ n _ => n
  | _ => 0
def Ap0 (u v : Value) : Prop := vlen u = 0 ∨ vlen v = 0 ∨ Apart u v
theorem Ap0.comm {u v : Value} (h : Ap0 u v) : Ap0 v u := by
  rcases h with h | h | h
  · exact .inr (.inl h)
  · exact .inl h
  · exact .inr (.inr (apart_comm h))
def AllAp0 (m : Nat) (vs : List Value) : Prop := ∀ i j : Nat, i < j → j < m → Ap0 (vr vs i) (vr vs j)
theorem AllAp0.of {m : Nat} {vs : List Value} (h : AllAp0 m vs) {i j : Nat} (hne : i ≠ j) (hi : i < m) (hj : j < m) : Ap0 (vr vs i) (vr vs j) := by
  rcases Nat.lt_or_gt_of_ne hne with h1 | h1
  · exact h i j h1 hj
  · exact (h j i h1 hi).comm
structure NX (w : World) (lo : Nat) (n : Net) (q : NA) (v4 v7 v8 : List Value) : Prop where
  br : Kd.R (Kd.int .i64) 3 w lo (fun _ => True) (.slice q.a1 n.mesh.br.length q.c1) n.mesh.br
  pa : Kd.R (Kd.int .i64) 3 w lo (fun _ => True) (.slice q.a2 n.pa.length q.c2) n.pa
  pb : Kd.R (Kd.int .i64) 3 w lo (fun _ => True) (.slice q.a3 n.pb.length q.c3) n.pb
  owners : Kd.R (Kd.int .i64) 3 w lo (fun _ => True) (.slice q.a5 n.owners.length q.c5) n.owners
  turns : Kd.R (Kd.int .i64) 3 w lo (fun _ => True) (.slice q.a6 n.turns.length q.c6) n.turns
  bufs : w.ownsRow lo 67 1 (.slice q.a4 n.bufs.length q.c4) n.bufs.length v4
  srcs : w.ownsRow lo 67 1 (.slice q.a7 n.srcs.length q.c7) n.srcs.length v7
  arrs : w.ownsRow lo 67 1 (.slice q.a8 n.arrs.length q.c8) n.arrs.length v8
  rows : FR w lo (v4 ++ (v7 ++ v8)) (n.bufs ++ (n.srcs ++ n.arrs))
  apI : AllAp0 5 (iv n q)
  apO : AllAp 3 (ov n q)
section
variable {w w1 : World} {lo : Nat} {n : Net} {q : NA} {v4 v7 v8 : List Value}
theorem NX.l4 (h : NX w lo n q v4 v7 v8) : v4.length = n.bufs.length := by have := h.bufs.1; omega
theorem NX.l7 (h : NX w lo n q v4 v7 v8) : v7.length = n.srcs.length := by have := h.srcs.1; omega
theorem NX.l8 (h : NX w lo n q v4 v7 v8) : v8.length = n.arrs.length := by have := h.arrs.1; omega
theorem vr_left {a b : List Value} {i : Nat} (h : i < a.length) : vr (a ++ b) i = vr a i := by simp [vr, List.getD_eq_getElem?_getD, List.getElem?_append, h]
theorem vr_right {a b : List Value} {i : Nat} : vr (a ++ b) (a.length + i) = vr b i := by
  have h : ¬ a.length + i < a.length := by omega
  simp [vr, List.getD_eq_getElem?_getD, List.getElem?_append, h]
theorem rl_left {a b : List (List Flit)} {i : Nat} (h : i < a.length) : rl (a ++ b) i = rl a i := by simp [rl, List.getD_eq_getElem?_getD, List.getElem?_append, h]
theorem rl_right {a b : List (List Flit)} {i : Nat} : rl (a ++ b) ((a.length + i : Nat) : Int) = rl b i := by
  have h : ¬ a.length + i < a.length := by omega
  simp only [rl, Int.toNat_natCast]
  simp [List.getD_eq_getElem?_getD, List.getElem?_append, h]
theorem set_mid {α : Type} (a b c : List α) (k : Nat) (u : α) (hk : k < b.length) : (a ++ (b ++ c)).set (a.length + k) u = a ++ (b.set k u ++ c) := by
  rw [List.set_append_right _ _ (by omega), Nat.add_sub_cancel_left, List.set_append_left _ _ hk]
theorem set_end {α : Type} (a b c : List α) (k : Nat) (u : α) : (a ++ (b ++ c)).set (a.length + (b.length + k)) u = a ++ (b ++ c.set k u) := by
  rw [List.set_append_right _ _ (by omega), Nat.add_sub_cancel_left, List.set_append_right _ _ (by omega), Nat.add_sub_cancel_left]
theorem NX.row4 (h : NX w lo n q v4 v7 v8) (k : Nat) (hk : k < n.bufs.length) : kF.R 77 w lo (fun _ => True) (vr v4 k) (rl n.bufs k) := by
  have := h.rows.row k (by simp; omega)
  rwa [vr_left (by rw [h.l4]; exact hk), rl_left hk] at this
theorem NX.row7 (h : NX w lo n q v4 v7 v8) (k : Nat) (hk : k < n.srcs.length) : kF.R 77 w lo (fun _ => True) (vr v7 k) (rl n.srcs k) := by
  have := h.rows.row (n.bufs.length + k) (by simp; omega)
  rw [rl_right, ← h.l4, vr_right] at this
  rwa [vr_left (by rw [h.l7]; exact hk), rl_left hk] at this
theorem NX.row8 (h : NX w lo n q v4 v7 v8) (k : Nat) (hk : k < n.arrs.length) : kF.R 77 w lo (fun _ => True) (vr v8 k) (rl n.arrs k) := by
  have := h.rows.row (n.bufs.length + (n.srcs.length + k)) (by simp; omega)
  rw [rl_right, rl_right, ← h.l4, vr_right, ← h.l7, vr_right] at this
  exact this
theorem NX.below (h : NX w lo n q v4 v7 v8) (hb : Below w.heap.size w w1) : NX w1 lo n q v4 v7 v8 :=
  ⟨Kd.R_below h.br hb, Kd.R_below h.pa hb, Kd.R_below h.pb hb, Kd.R_below h.owners hb, Kd.R_below h.turns hb, pw_own_below h.bufs hb, pw_own_below h.srcs hb, pw_own_below h.arrs hb, h.rows.below hb, h.apI, h.apO⟩
theorem NX.lower (h : NX w lo n q v4 v7 v8) {lo' : Nat} (hl : lo' ≤ lo) : NX w lo' n q v4 v7 v8 :=
  ⟨Kd.R_lower h.br hl, Kd.R_lower h.pa hl, Kd.R_lower h.pb hl, Kd.R_lower h.owners hl, Kd.R_lower h.turns hl, own_weaken h.bufs hl, own_weaken h.srcs hl, own_weaken h.arrs hl, h.rows.lower hl, h.apI, h.apO⟩
theorem NX.typed (h : NX w lo n q v4 v7 v8) {g t : Nat} (hb : BlkT w g t) (h1 : 3 ≠ t) (h2 : 67 ≠ t) (h3 : 77 ≠ t) (j : Nat) (u : Value) : NX (w.setCell ⟨g, j, none⟩ u) lo n q v4 v7 v8 := by
  have hb' := hb
  obtain ⟨c, hc⟩ := hb
  have hI : ∀ x, x ∈ 3 :: (Kd.int .i64).E → x ≠ t := fun x hx => by
    have e : x = 3 := by simpa [Kd.int, Kd.scalar] using hx
    rw [e]
    exact h1
  exact ⟨Kd.R_set h.br hc hI j u, Kd.R_set h.pa hc hI j u, Kd.R_set h.pb hc hI j u, Kd.R_set h.owners hc hI j u, Kd.R_set h.turns hc hI j u, own_setCell h.bufs (p := ⟨g, j, none⟩) (own_ne h.bufs hc h2) u, own_setCell h.srcs (p := ⟨g, j, none⟩) (own_ne h.srcs hc h2) u, own_setCell h.arrs (p := ⟨g, j, none⟩) (own_ne h.arrs hc h2) u, h.rows.typed hb' h3 j u, h.apI, h.apO⟩
theorem NX.kept (h : NX w lo n q v4 v7 v8) {k : Nat} (hk : k < (n.bufs ++ (n.srcs ++ n.arrs)).length) (hg : w.grownBy w1 (vr (v4 ++ (v7 ++ v8)) k).ownBlock) : Kd.R (Kd.int .i64) 3 w1 lo (fun _ => True) (.slice q.a1 n.mesh.br.length q.c1) n.mesh.br ∧ Kd.R (Kd.int .i64) 3 w1 lo (fun _ => True) (.slice q.a2 n.pa.length q.c2) n.pa ∧ Kd.R (Kd.int .i64) 3 w1 lo (fun _ => True) (.slice q.a3 n.pb.length q.c3) n.pb ∧ Kd.R (Kd.int .i64) 3 w1 lo (fun _ => True) (.slice q.a5 n.owners.length q.c5) n.owners ∧ Kd.R (Kd.int .i64) 3 w1 lo (fun _ => True) (.slice q.a6 n.turns.length q.c6) n.turns ∧ w1.ownsRow lo 67 1 (.slice q.a4 n.bufs.length q.c4) n.bufs.length v4 ∧ w1.ownsRow lo 67 1 (.slice q.a7 n.srcs.length q.c7) n.srcs.length v7 ∧ w1.ownsRow lo 67 1 (.slice q.a8 n.arrs.length q.c8) n.arrs.length v8 := by
  obtain ⟨inner, hin⟩ := Kd.R_own (h.rows.row k hk)
  have keepI : ∀ {v : Value} {xs : List Int}, Kd.R (Kd.int .i64) 3 w lo (fun _ => True) v xs → Kd.R (Kd.int .i64) 3 w1 lo (fun _ => True) v xs := fun hr => by
    obtain ⟨i2, hi2⟩ := Kd.R_own hr
    exact R_grownI hr hg (own_type_ne hi2 hin (by decide))
  exact ⟨keepI h.br, keepI h.pa, keepI h.pb, keepI h.owners, keepI h.turns, own_other h.bufs hg (own_type_ne h.bufs hin (by decide)), own_other h.srcs hg (own_type_ne h.srcs hin (by decide)), own_other h.arrs hg (own_type_ne h.arrs hin (by decide))⟩
theorem own_put {W : World} {base g m cap k : Nat} {vs : List Value} (h : W.ownsRow base 67 1 (.slice (some ⟨g, 0, none⟩) m cap) m vs) (u : Value) : (W.setCell ⟨g, k, none⟩ u).ownsRow base 67 1 (.slice (some ⟨g, 0, none⟩) m cap) m (vs.set k u) := (h.stored k u).1
theorem NX.setSrc {g : Nat} (h : NX w lo n q v4 v7 v8) (ea : q.a7 = some ⟨g, 0, none⟩) (k : Nat) (hk : k < n.srcs.length) (hg : w.grownBy w1 (vr v7 k).ownBlock) {u : Value} {y : List Flit} (hu : kF.R 77 w1 lo (fun _ => True) u y) (hat : Anew w u (vr v7 k)) :
    NX (w1.setCell ⟨g, k, none⟩ u) lo { n with srcs := n.srcs.set k y } q v4 (v7.set k u) v8 := by
  have e1 : vr (v4 ++ (v7 ++ v8)) (n.bufs.length + k) = vr v7 k := by rw [← h.l4, vr_right, vr_left (by rw [h.l7]; exact hk)]
  have hk2 : n.bufs.length + k < (n.bufs ++ (n.srcs ++ n.arrs)).length := by simp; omega
  obtain ⟨i1, i2, i3, i4, i5, o4, o7, o8⟩ := h.kept hk2 (by rw [e1]; exact hg)
  obtain ⟨c, hc⟩ := own_typed o7 g (by rw [ea]; rfl)
  have hI : ∀ x, x ∈ 3 :: (Kd.int .i64).E → x ≠ 67 := fun x hx => by
    have e : x = 3 := by simpa [Kd.int, Kd.scalar] using hx
    rw [e]
    decide
  have hF := h.rows.upd (n.bufs.length + k) hk2 (by rw [e1]; exact hg) hu (by rw [e1]; exact hat)
  rw [set_mid n.bufs n.srcs n.arrs k y hk, show (v4 ++ (v7 ++ v8)).set (n.bufs.length + k) u = v4 ++ (v7.set k u ++ v8) by rw [← h.l4]; exact set_mid _ _ _ _ _ (by rw [h.l7]; exact hk)] at hF
  have a4 : some g ≠ (Value.slice q.a4 n.bufs.length q.c4).ownBlock := by
    have := h.apO.of (i := 1) (j := 0) (by omega) (by omega) (by omega)
    rcases this with h0 | h0
    · rw [show vr (ov n q) 1 = .slice q.a7 n.srcs.length q.c7 from rfl, ea] at h0; cases h0
    · rw [show vr (ov n q) 1 = .slice q.a7 n.srcs.length q.c7 from rfl, ea] at h0
      exact h0
  have a8 : some g ≠ (Value.slice q.a8 n.arrs.length q.c8).ownBlock := by
    have := h.apO 1 2 (by omega) (by omega)
    rcases this with h0 | h0
    · rw [show vr (ov n q) 1 = .slice q.a7 n.srcs.length q.c7 from rfl, ea] at h0; cases h0
    · rw [show vr (ov n q) 1 = .slice q.a7 n.srcs.length q.c7 from rfl, ea] at h0
      exact h0
  refine ⟨Kd.R_set i1 hc hI k u, Kd.R_set i2 hc hI k u, Kd.R_set i3 hc hI k u, Kd.R_set i4 hc hI k u, Kd.R_set i5 hc hI k u, own_setCell o4 (p := ⟨g, k, none⟩) a4 u, ?_, own_setCell o8 (p := ⟨g, k, none⟩) a8 u, hF.typed ⟨c, hc⟩ (by decide) k u, h.apI, ?_⟩
  · rw [ea] at o7 ⊢
    simp only [List.length_set]
    exact own_put o7 u
  · have : ov { n with srcs := n.srcs.set k y } q = ov n q := by simp [ov]
    rw [this]
    exact h.apO
theorem NX.time (h : NX w lo n q v4 v7 v8) (t : Int) : NX w lo { n with time := t } q v4 v7 v8 := ⟨h.br, h.pa, h.pb, h.owners, h.turns, h.bufs, h.srcs, h.arrs, h.rows, h.apI, h.apO⟩
theorem own_readsB {w : World} {lo m c : Nat} {A : Option Addr} {vs : List Value} {l : List (List Flit)} (ho : w.ownsRow lo 67 1 (.slice A m c) l.length vs) (hr : ∀ i : Nat, i < l.length → kF.R 77 w lo (fun _ => True) (vr vs i) (rl l i)) : m = l.length ∧ m ≤ c ∧ (kB 77).C w A m l := by
  have hl := ho.1
  refine Kd.R_rowX (e := 67) (base := lo) (d := kB 77) ⟨fun _ _ => trivial, vs, ho, by show vs.length = l.length * 1; omega, fun j p hj => ?_⟩
  have hlt := (List.getElem?_eq_some_iff.1 hj).1
  have hp : rl l j = p := by simp [rl, List.getD_eq_getElem?_getD, hj]
  have hr2 := hr j hlt
  rw [hp] at hr2
  refine ⟨vr vs j, ?_, ?_⟩
  · have hjv : j < vs.length := by omega
    have e : vr vs j = vs[j] := by simp [vr, List.getD_eq_getElem?_getD, hjv]
    show (vs.drop (j * 1)).take 1 = _
    rw [e, Nat.mul_one, List.drop_eq_getElem_cons hjv]
    rfl
  · cases hv : (Value.slice A m c).ownBlock with
    | none => exact Kd.R_mono hr2 (fun k hk => ⟨hk, by simp⟩)
    | some g =>
      obtain ⟨cells, hc⟩ := own_typed ho g hv
      refine Kd.R_mono (Kd.R_types hr2 hc (by decide)) (fun k hk => ⟨hk.1, fun e => hk.2 (Option.some.inj e)⟩)
theorem NX.reads (h : NX w lo n q v4 v7 v8) (k : NB n) : NetR 77 w n q :=
  ⟨(Kd.R_rowX h.br).2.2, (Kd.R_rowX h.pa).2.2, (Kd.R_rowX h.pb).2.2, (own_readsB h.bufs h.row4).2.2, (Kd.R_rowX h.owners).2.2, (Kd.R_rowX h.turns).2.2, (own_readsB h.srcs h.row7).2.2, (own_readsB h.arrs h.row8).2.2, k.h1, k.h2, k.h3, k.h4, k.h5, k.h6, k.h7, k.h8, k.h9, k.h10, k.h11⟩
theorem own_cell {W : World} {base g m cap k : Nat} {vs : List Value} (h : W.ownsRow base 67 1 (.slice (some ⟨g, 0, none⟩) m cap) m vs) (hk : k < m) : W.cell? ⟨g, k, none⟩ = some (vr vs k) ∧ W.frozen? ⟨g, k, none⟩ = false := by
  have hl := h.1
  constructor
  · have hc := h.cells (g := g) rfl k (vr vs k) (vr_get (by omega))
    rwa [add_plain] at hc
  · obtain ⟨cells, hc⟩ := own_typed h g rfl
    exact blk_frozen hc k
theorem NX.form7 (h : NX w lo n q v4 v7 v8) (h0 : 0 < n.srcs.length) : ∃ g, q.a7 = some ⟨g, 0, none⟩ ∧ lo ≤ g ∧ g < w.heap.size := by
  obtain ⟨g, cap, e, hb, hl⟩ := h.srcs.form h0
  injection e with e1 _ _
  exact ⟨g, e1, hb, hl⟩
end
def BT (w : World) (bx : Nat) (n : Net) (q : NA) : Prop := w.heap[bx]? = some (.cells (netCells n q) 33 (0, 0))
section
variable {w w1 : World} {bx : Nat} {n : Net} {q : NA}
theorem BT.box (h : BT w bx n q) : Box w bx (netCells n q) := ⟨blk_lt h, fun o => blk_cell h o⟩
theorem BT.frozen (h : BT w bx n q) (o : Nat) : w.frozen? ⟨bx, o, none⟩ = false := blk_frozen h o
theorem BT.lt (h : BT w bx n q) : bx < w.heap.size := blk_lt h
theorem BT.blk (h : BT w bx n q) : BlkT w bx 33 := ⟨_, h⟩
theorem BT.below (h : BT w bx n q) (hb : Below w.heap.size w w1) : BT w1 bx n q := blk_below h hb
theorem BT.far {g t : Nat} (h : BT w bx n q) (hb : BlkT w g t) (ht : 33 ≠ t) (j : Nat) (u : Value) : BT (w.setCell ⟨g, j, none⟩ u) bx n q := by
  obtain ⟨c, hc⟩ := hb
  exact blk_far (p := ⟨g, j, none⟩) h (blk_ne h hc ht) u
theorem BT.grown {v : Value} {lo : Nat} {y : List Flit} (h : BT w bx n q) (hg : w.grownBy w1 v.ownBlock) (hr : kF.R 77 w lo (fun _ => True) v y) : BT w1 bx n q := by
  obtain ⟨inner, hin⟩ := Kd.R_own hr
  exact blk_grown h hg (own_ne hin h (by decide))
theorem BT.new (w : World) (n : Net) (q : NA) : BT (w.alloc (.cells (netCells n q) 33)) w.heap.size n q := blk_new w _
theorem BT.eq {m : Net} (h : BT w bx n q) (e : netCells m q = netCells n q) : BT w bx m q := by unfold BT; rw [e]; exact h
end
def Lit (e : Nat) (w : World) (g : Nat) : Prop := w.heap[g]? = some (.cells #[] e (0, 0))
theorem lit_new {e g : Nat} {w : World} (h : g = w.heap.size) : Lit e (w.alloc (.cells #[] e)) g := by subst h; exact blk_new w _
theorem lit_alloc {e g : Nat} {w : World} (o : Obj) (h : Lit e w g) : Lit e (w.alloc o) g := blk_alloc h o
theorem lit_drew {e g : Nat} {w : World} (h : Lit e w g) : Lit e w.drew g := h
structure Stp (w w1 : World) : Prop where
  h : Below w.heap.size w w1
theorem lit_stp {e g : Nat} {w w1 : World} (hs : Stp w w1) (h : Lit e w g) : Lit e w1 g := blk_below h hs.h
theorem R_lit {α : Type} (d : Kd α) {e g B : Nat} {w : World} (h : Lit e w g) (hB : B ≤ g) : d.R e w B (fun _ => True) (.slice (some ⟨g, 0, none⟩) 0 0) [] := by
  refine ⟨fun _ _ => trivial, [], ?_, Reps.none _ _⟩
  exact ⟨by simp, .inr ⟨g, 0, #[], rfl, hB, h, Nat.le_refl _, Nat.zero_le _, by simp, by simp⟩⟩
def At2 (g lo hi : Nat) (v : Value) : Prop := ∀ k, v.ownBlock = some k → k = g ∨ (lo ≤ k ∧ k < hi)
theorem apart_of {u v : Value} {p r : Nat → Prop} (hu : ∀ k, u.ownBlock = some k → p k) (hv : ∀ k, v.ownBlock = some k → r k) (h : ∀ k, p k → r k → False) : Apart u v := by
  cases e : u.ownBlock with
  | none => exact .inl e
  | some k =>
    right
    rw [e]
    intro e2
    exact h k (hu k e) (hv k e2.symm)
section
variable {ops : Array Oper} {rest : List Oper} {o : Oper} {a : Act} {Q : Exit → Act → World → Prop} {Kc : Act → World → Prop} {α : Type}
theorem run_copy (d : Kd α) {B : Nat} {W : World} (t ty e : TypeId) (z : Value) (bytes : Nat)
    (ht : Try.prog.underlying t = some (.slice e)) (hinfo : (Try.prog.info? e).map (fun i => (i.zero, i.size, i.bytes)) = some (some z, d.sz, bytes)) (hz : z.cells.size = d.sz) (hs0 : 0 < d.sz) (hb1 : bytes ≤ 1000)
    (hKM : ∀ (w1 : World) (b : Nat) (ok : Nat → Prop) x cs, d.K W x cs → d.M w1 b ok x cs) (hK1 : ∀ x cs, d.K W x cs → ∀ u ∈ cs, u.oneCell' = true)
    (g : Nat) (ys : List α) (A : Option Addr) (m c : Nat) (HL : Lit e W g) (hg : B ≤ g) (HR : d.C W A m ys) (hB : B ≤ W.heap.size) (hl : m ≤ 10000000) :
    ∃ v1 w1, (Builtin.append_ #[t, t] ty #[.slice (some ⟨g, 0, none⟩) 0 0, .slice A m c]).run Try.prog W = .ok v1 w1 ∧ d.R e w1 B (fun _ => True) v1 ys ∧ Below W.heap.size W w1 ∧ At2 g W.heap.size w1.heap.size v1 := by
  obtain ⟨i0, hi, hzz⟩ := Option.map_eq_some_iff.1 hinfo
  simp only [Prod.mk.injEq] at hzz
  obtain ⟨hz0, hz1, hz2⟩ := hzz
  have hm : ys.length = m := HR.1
  have nothing : ∀ (_ : m = 0), Src Try.prog i0.size t (.slice A m c) 0 [] W → ∃ v1 w1, (Builtin.append_ #[t, t] ty #[.slice (some ⟨g, 0, none⟩) 0 0, .slice A m c]).run Try.prog W = .ok v1 w1 ∧ d.R e w1 B (fun _ => True) v1 ys ∧ Below W.heap.size W w1 ∧ At2 g W.heap.size w1.heap.size v1 := by
    intro h0 hs
    obtain rfl : ys = [] := List.eq_nil_of_length_eq_zero (hm.trans h0)
    exact ⟨_, W, run_append_nothing W t t ty e i0 ht hi (some ⟨g, 0, none⟩) 0 0 (Nat.le_refl _) _ hs, R_lit d HL hg, Below.refl _ _, fun k hk => .inl (Option.some.inj hk).symm⟩
  rcases A with _ | ad
  · have h0 : m = 0 := by
      rcases Nat.eq_zero_or_pos m with h0 | h0
      · exact h0
      · obtain ⟨ad, h, _⟩ := HR.2.2 h0
        cases h
    subst h0
    exact nothing rfl (Src.ofNil W ht c)
  · by_cases h0 : m = 0
    · subst h0
      exact nothing rfl (Src.ofSlice W ht ad 0 c [] (by simp) (fun j u h => by simp at h) (fun u h => by cases h))
    · obtain ⟨news, hnr, hnc⟩ := ReadsRow.inner_ HR
      obtain ⟨v1, w1, hrun, hown, hgr⟩ := run_append_arg_grows (P := Try.prog) W t ty e i0 z d.sz bytes ht hi hz0 hz1 hz2 hz hs0 ⟨g, 0, none⟩ 0 0 [] (by simp) (fun j u h => by simp at h) ad m c news (by rw [hnr.1, hm]) hnc (by omega) (by simp only [maxLen]; omega) (by simp only [Nat.zero_add]; exact Nat.le_trans (Nat.mul_le_mul hl hb1) (by omega))
      have hb : Below W.heap.size W w1 := ⟨hgr.os, hgr.tape, hgr.output, hgr.size, fun i hi2 => hgr.block i hi2 (by simp)⟩
      rw [List.nil_append, Nat.zero_add] at hown
      refine ⟨v1, w1, hrun, ⟨fun _ _ => trivial, news, ?_, hnr.imp_ (fun p cs hp => hKM _ _ _ p cs hp)⟩, hb, fun k hk => .inr ⟨own_base hown k hk, own_lt hown k hk⟩⟩
      rw [hm]
      exact own_weaken hown hB
theorem copy_row (d : Kd α) {B : Nat} {W : World} (hgd : o.guard = none) (s x : Operand) (t e : TypeId) (z : Value) (bytes : Nat)
    (ho : o.op = .call { callee := .builtin .append, args := #[s, x], argTypes := #[t, t] })
    (ht : Try.prog.underlying t = some (.slice e)) (hinfo : (Try.prog.info? e).map (fun i => (i.zero, i.size, i.bytes)) = some (some z, d.sz, bytes)) (hz : z.cells.size = d.sz) (hs0 : 0 < d.sz) (hb1 : bytes ≤ 1000)
    (hKM : ∀ (w1 : World) (b : Nat) (ok : Nat → Prop) x cs, d.K W x cs → d.M w1 b ok x cs) (hK1 : ∀ x cs, d.K W x cs → ∀ u ∈ cs, u.oneCell' = true)
    (g : Nat) (ys : List α) (A : Option Addr) (m c : Nat) (hs : a.eval s = .slice (some ⟨g, 0, none⟩) 0 0) (hx : a.eval x = .slice A m c)
    (HL : Lit e W g) (hg : B ≤ g) (HR : d.C W A m ys) (hB : B ≤ W.heap.size) (hl : m ≤ 10000000)
    (h : ∀ v1 w1, d.R e w1 B (fun _ => True) v1 ys → Below W.heap.size W w1 → At2 g W.heap.size w1.heap.size v1 → wpList Try.prog ops Q rest (a.put o.dst v1) w1) : wpList Try.prog ops Q (o :: rest) a W := by
  obtain ⟨v1, w1, hr1, h1, h2, h3⟩ := run_copy d t o.type e z bytes ht hinfo hz hs0 hb1 hKM hK1 g ys A m c HL hg HR hB hl
  refine wpList_plain hgd fun K hK => ?_
  unfold Oper.wp execOp
  simp only [ho, resolve, invoke, builtin, Sem.run_bind, Sem.run_pure, Result.andThen_ok, List.map_toArray, List.map_cons, List.map_nil, hs, hx, hr1]
  exact hK _ _ (h v1 w1 h1 h2 h3)
theorem copy_row_step (d : Kd α) {B : Nat} {W : World} {Q' : Exit → Act → World → Prop} {E : Prop} (hw : Region.wanted o (yielded ops a.tmps) = true) (s x : Operand) (t e : TypeId) (z : Value) (bytes : Nat)
    (ho : o.op = .call { callee := .builtin .append, args := #[s, x], argTypes := #[t, t] })
    (ht : Try.prog.underlying t = some (.slice e)) (hinfo : (Try.prog.info? e).map (fun i => (i.zero, i.size, i.bytes)) = some (some z, d.sz, bytes)) (hz : z.cells.size = d.sz) (hs0 : 0 < d.sz) (hb1 : bytes ≤ 1000)
    (hKM : ∀ (w1 : World) (b : Nat) (ok : Nat → Prop) x cs, d.K W x cs → d.M w1 b ok x cs) (hK1 : ∀ x cs, d.K W x cs → ∀ u ∈ cs, u.oneCell' = true)
    (g : Nat) (ys : List α) (A : Option Addr) (m c : Nat) (hs : a.eval s = .slice (some ⟨g, 0, none⟩) 0 0) (hx : a.eval x = .slice A m c)
    (HL : Lit e W g) (hg : B ≤ g) (HR : d.C W A m ys) (hB : B ≤ W.heap.size) (hl : m ≤ 10000000)
    (h : ∀ v1 w1, d.R e w1 B (fun _ => True) v1 ys → Below W.heap.size W w1 → At2 g W.heap.size w1.heap.size v1 → Kc (a.put o.dst v1) w1) : if Region.wanted o (yielded ops a.tmps) = true then Oper.wp Try.prog o a W Kc Q' else E := by
  obtain ⟨v1, w1, hr1, h1, h2, h3⟩ := run_copy d t o.type e z bytes ht hinfo hz hs0 hb1 hKM hK1 g ys A m c HL hg HR hB hl
  rw [if_pos hw]
  unfold Oper.wp execOp
  simp only [ho, resolve, invoke, builtin, Sem.run_bind, Sem.run_pure, Result.andThen_ok, List.map_toArray, List.map_cons, List.map_nil, hs, hx, hr1]
  exact h v1 w1 h1 h2 h3
theorem KM_int {W : World} : ∀ (w1 : World) (b : Nat) (ok : Nat → Prop) (x : Int) cs, (Kd.int .i64).K W x cs → (Kd.int .i64).M w1 b ok x cs := fun _ _ _ _ _ h => h
theorem K1_int {W : World} : ∀ (x : Int) cs, (Kd.int .i64).K W x cs → ∀ u ∈ cs, u.oneCell' = true := fun _ _ h => (Kd.int .i64).K_one h
theorem KM_F {W : World} : ∀ (w1 : World) (b : Nat) (ok : Nat → Prop) (x : Flit) cs, kF.K W x cs → kF.M w1 b ok x cs := fun _ _ _ _ _ h => h
theorem K1_F {W : World} : ∀ (x : Flit) cs, kF.K W x cs → ∀ u ∈ cs, u.oneCell' = true := fun _ _ h => kF.K_one h
theorem copy_int {B : Nat} {W : World} (hgd : o.guard = none) (s x : Operand)
    (ho : o.op = .call { callee := .builtin .append, args := #[s, x], argTypes := #[24, 24] })
    (g : Nat) (ys : List Int) (A : Option Addr) (c : Nat) (hs : a.eval s = .slice (some ⟨g, 0, none⟩) 0 0) (hx : a.eval x = .slice A ys.length c)
    (HL : Lit 3 W g) (hg : B ≤ g) (HR : (Kd.int .i64).C W A ys.length ys) (hB : B ≤ W.heap.size) (hl : ys.length ≤ 10000000)
    (h : ∀ v1 w1, (Kd.int .i64).R 3 w1 B (fun _ => True) v1 ys → Below W.heap.size W w1 → At2 g W.heap.size w1.heap.size v1 → wpList Try.prog ops Q rest (a.put o.dst v1) w1) : wpList Try.prog ops Q (o :: rest) a W :=
  copy_row (Kd.int .i64) hgd s x 24 3 (.int .i64 0) 8 ho Try.underlying24 info_int rfl (by decide) (by omega) KM_int K1_int g ys A ys.length c hs hx HL hg HR hB hl h
theorem copyS_int {B : Nat} {W : World} {Q' : Exit → Act → World → Prop} {E : Prop} (hw : Region.wanted o (yielded ops a.tmps) = true) (s x : Operand)
    (ho : o.op = .call { callee := .builtin .append, args := #[s, x], argTypes := #[24, 24] })
    (g : Nat) (ys : List Int) (A : Option Addr) (c : Nat) (hs : a.eval s = .slice (some ⟨g, 0, none⟩) 0 0) (hx : a.eval x = .slice A ys.length c)
    (HL : Lit 3 W g) (hg : B ≤ g) (HR : (Kd.int .i64).C W A ys.length ys) (hB : B ≤ W.heap.size) (hl : ys.length ≤ 10000000)
    (h : ∀ v1 w1, (Kd.int .i64).R 3 w1 B (fun _ => True) v1 ys → Below W.heap.size W w1 → At2 g W.heap.size w1.heap.size v1 → Kc (a.put o.dst v1) w1) : if Region.wanted o (yielded ops a.tmps) = true then Oper.wp Try.prog o a W Kc Q' else E :=
  copy_row_step (Kd.int .i64) hw s x 24 3 (.int .i64 0) 8 ho Try.underlying24 info_int rfl (by decide) (by omega) KM_int K1_int g ys A ys.length c hs hx HL hg HR hB hl h
theorem copy_F {B : Nat} {W : World} (hgd : o.guard = none) (s x : Operand)
    (ho : o.op = .call { callee := .builtin .append, args := #[s, x], argTypes := #[67, 67] })
    (g : Nat) (ys : List Flit) (A : Option Addr) (c : Nat) (hs : a.eval s = .slice (some ⟨g, 0, none⟩) 0 0) (hx : a.eval x = .slice A ys.length c)
    (HL : Lit 77 W g) (hg : B ≤ g) (HR : kF.C W A ys.length ys) (hB : B ≤ W.heap.size) (hl : ys.length ≤ 10000000)
    (h : ∀ v1 w1, kF.R 77 w1 B (fun _ => True) v1 ys → Below W.heap.size W w1 → At2 g W.heap.size w1.heap.size v1 → wpList Try.prog ops Q rest (a.put o.dst v1) w1) : wpList Try.prog ops Q (o :: rest) a W :=
  copy_row kF hgd s x 67 77 (.agg #[.int .i64 0, .int .i64 0, .int .i64 0, .bool false, .bool false]) 32 ho Try.underlying67 info_F rfl (by decide) (by omega) KM_F K1_F g ys A ys.length c hs hx HL hg HR hB hl h
end
end Go.Proofs.Ytmkbmddgkdoaiaa
namespace NoC
inductive Path (m : Mesh) (t : List Int) (b : Int) : Int → List Int → Prop
  | here (h : entry m t b b = 4) : Path m t b b []
  | step {a : Int} {ws : List Int} (h4 : ¬ entry m t a b = 4) (hi : inside (entry m t a b) 0 3 = true) (hl : live m (4 * a + entry m t a b) = true) (h : Path m t b (nextNode m.g a (entry m t a b)) ws) : Path m t b a ((4 * a + entry m t a b) :: ws)
theorem Path.live {m : Mesh} {t : List Int} {b a : Int} {ws : List Int} (h : Path m t b a ws) : ∀ c ∈ ws, NoC.live m c = true := by
  induction h with
  | here h => simp
  | step h4 hi hl h ih =>
    intro c hc
    rcases List.mem_cons.1 hc with rfl | hc
    · exact hl
    · exact ih c hc
theorem sized_count {m : Mesh} {t : List Int} (h : sized m t = true) : 0 < nodeCount m.g := by
  have h1 := (sized_iff.1 h).1
  unfold meshOk at h1
  rw [Bool.and_eq_true] at h1
  have hg := h1.1
  unfold nodeCount
  rw [if_pos hg]
  simp only [gridOk, inside, Bool.and_eq_true, decide_eq_true_eq] at hg
  obtain ⟨⟨a, b⟩, c, d⟩ := hg
  have := Int.mul_le_mul a c (by omega) (by omega)
  omega
def flitOk (g : Grid) (f : Flit) : Bool := isNode g f.dst && inside f.cls 0 1
def areFl (g : Grid) (l : List Flit) : Bool := l.all (flitOk g)
def clsOnly (l : List Flit) (c : Int) : List Flit := l.filter (fun f => f.cls == c)
def bufOk (g : Grid) (i : Nat) (l : List Flit) : Bool := decide (l.length ≤ 3) && l.all (fun f => f.cls == ((i % 2 : Nat) : Int)) && areFl g l
def srcOk (g : Grid) (l : List Flit) : Bool := decide (l.length ≤ 60) && areFl g l
def shapeOk (n : Net) : Bool :=
  decide ((n.bufs.length : Int) = 10 * nodeCount n.mesh.g) && decide ((n.owners.length : Int) = 10 * nodeCount n.mesh.g) && decide ((n.turns.length : Int) = 5 * nodeCount n.mesh.g) && decide ((n.srcs.length : Int) = nodeCount n.mesh.g) && decide ((n.arrs.length : Int) = nodeCount n.mesh.g)
def netOk (n : Net) : Bool :=
  classesOk n.mesh n.pa n.pb && shapeOk n && allI n.bufs.length (fun i => bufOk n.mesh.g i (rl n.bufs i)) && allI n.srcs.length (fun i => srcOk n.mesh.g (rl n.srcs i)) && allI n.owners.length (fun i => inside (ri n.owners i) (-1) 4) && allI n.turns.length (fun i => inside (ri n.turns i) 0 9) && inside n.time 0 1000000
theorem rf_get (l : List Flit) (k : Nat) (h : k < l.length) : rf l (k : Int) = l[k] := by
  simp [rf, List.getD_eq_getElem?_getD, h]
theorem areFl_no {g : Grid} {l : List Flit} (k : Nat) (hk : k < l.length) (h : flitOk g (rf l k) = false) : areFl g l = false := by
  rw [rf_get l k hk] at h
  unfold areFl
  rw [Bool.eq_false_iff]
  intro ha
  rw [List.all_eq_true] at ha
  rw [ha _ (List.getElem_mem hk)] at h
  cases h
theorem areFl_yes {g : Grid} {l : List Flit} (h : ∀ k : Nat, k < l.length → flitOk g (rf l k) = true) : areFl g l = true := by
  unfold areFl
  rw [List.all_eq_true]
  intro p hp
  obtain ⟨k, hk, rfl⟩ := List.getElem_of_mem hp
  have := h k hk
  rwa [rf_get l k hk] at this
theorem clsOnly_len (l : List Flit) (c : Int) : ((clsOnly l c).length == l.length) = l.all (fun f => f.cls == c) := by
  rw [Bool.eq_iff_iff, beq_iff_eq, List.all_eq_true]
  unfold clsOnly
  rw [List.length_filter_eq_length_iff]
theorem clsOnly_take {l : List Flit} {c : Int} (k : Nat) (hk : k < l.length) : clsOnly (l.take (k + 1)) c = if (rf l k).cls == c then clsOnly (l.take k) c ++ [rf l k] else clsOnly (l.take k) c := by
  rw [rf_get l k hk, List.take_succ_eq_append_getElem hk]
  unfold clsOnly
  rw [List.filter_append]
  split <;> simp_all
theorem netOk_parts {n : Net} (h : netOk n = true) : classesOk n.mesh n.pa n.pb = true ∧ (n.bufs.length : Int) = 10 * nodeCount n.mesh.g ∧ (n.owners.length : Int) = 10 * nodeCount n.mesh.g ∧ (n.turns.length : Int) = 5 * nodeCount n.mesh.g ∧ (n.srcs.length : Int) = nodeCount n.mesh.g ∧ (n.arrs.length : Int) = nodeCount n.mesh.g ∧ (∀ i, i < n.bufs.length → bufOk n.mesh.g i (rl n.bufs i) = true) ∧ (∀ i, i < n.srcs.length → srcOk n.mesh.g (rl n.srcs i) = true) ∧ (∀ i : Nat, i < n.owners.length → inside (ri n.owners i) (-1) 4 = true) ∧ (∀ i : Nat, i < n.turns.length → inside (ri n.turns i) 0 9 = true) ∧ inside n.time 0 1000000 = true := by
  simp only [netOk, shapeOk, Bool.and_eq_true, decide_eq_true_eq, allI_iff] at h
  obtain ⟨⟨⟨⟨⟨⟨h1, ⟨⟨⟨⟨s1, s2⟩, s3⟩, s4⟩, s5⟩⟩, h2⟩, h3⟩, h4⟩, h5⟩, h6⟩ := h
  exact ⟨h1, s1, s2, s3, s4, s5, h2, h3, h4, h5, h6⟩
end NoC
namespace Go.Proofs.Ytmkbmddgkdoaiaa
open Go.RowKit
open NoC
theorem grid_bounds {g : Grid} (h : gridOk g = true) : 1 ≤ g.w ∧ g.w ≤ 4 ∧ 1 ≤ g.h ∧ g.h ≤ 4 ∧ 1 ≤ g.w * g.h ∧ g.w * g.h ≤ 16 := by
  simp only [gridOk, inside, Bool.and_eq_true, decide_eq_true_eq] at h
  obtain ⟨⟨a, b⟩, c, d⟩ := h
  refine ⟨a, b, c, d, ?_, ?_⟩
  · have := Int.mul_le_mul a c (by omega) (by omega); omega
  · have := Int.mul_le_mul b d (by omega) (by omega); omega
theorem count_bounds (g : Grid) : 0 ≤ nodeCount g ∧ nodeCount g ≤ 16 := by
  unfold nodeCount
  split
  · rename_i h; have := grid_bounds h; omega
  · omega
theorem node_bounds {g : Grid} {a : Int} (h : isNode g a = true) : gridOk g = true ∧ 0 ≤ a ∧ a < g.w * g.h ∧ a ≤ 15 := by
  simp only [isNode, inside, Bool.and_eq_true, decide_eq_true_eq] at h
  cases hg : gridOk g
  · simp [nodeCount, hg] at h; omega
  · have := grid_bounds hg
    simp only [nodeCount, hg, if_true] at h
    exact ⟨rfl, by omega, by omega, by omega⟩
theorem inside_bounds {n lo hi : Int} (h : inside n lo hi = true) : lo ≤ n ∧ n ≤ hi := by
  simpa [inside] using h
theorem div_bounds {g : Grid} {a : Int} (h : isNode g a = true) : 0 ≤ a / g.w ∧ a / g.w ≤ 15 ∧ 0 ≤ a % g.w ∧ a % g.w ≤ 3 := by
  obtain ⟨h1, h2, h3, h4⟩ := node_bounds h
  obtain ⟨a1, a2, a3, a4, a5, a6⟩ := grid_bounds h1
  have := Int.emod_nonneg a (show g.w ≠ 0 by omega)
  have := Int.emod_lt_of_pos a (show 0 < g.w by omega)
  have := Int.ediv_nonneg h2 (show 0 ≤ g.w by omega)
  have := Int.ediv_le_self g.w h2
  omega

theorem impl_inside (n lo hi : Int) (w : World) : Calls Try.prog 64 #[.int .i64 n, .int .i64 lo, .int .i64 hi] w fun e w' => e = .returned (.bool (inside n lo hi)) ∧ w = w' := by
  go_enter Try.func64, Try.ntmps64
  by_cases h : lo ≤ n
  · have h1 : decide (lo ≤ n) = true := decide_eq_true h
    go_wp2
    go_ret
    exact ⟨by simp [inside, h], rfl⟩
  · have h1 : decide (lo ≤ n) = false := decide_eq_false h
    go_wp2
    go_ret
    exact ⟨by simp [inside]; omega, rfl⟩
theorem spec_l01In (n lo hi : Int) (w : World) : Calls Try.prog 53 #[.int .i64 n, .int .i64 lo, .int .i64 hi] w fun e w' => e = .returned (.bool (inside n lo hi)) ∧ w = w' := by
  go_enter Try.func53, Try.ntmps53
  by_cases h : lo ≤ n
  · have h1 : decide (lo ≤ n) = true := decide_eq_true h
    go_wp2
    go_ret
    exact ⟨by simp [inside, h], rfl⟩
  · have h1 : decide (lo ≤ n) = false := decide_eq_false h
    go_wp2
    go_ret
    exact ⟨by simp [inside]; omega, rfl⟩
theorem impl_GridOk (g : Grid) (w : World) : Calls Try.prog 58 #[.agg #[.int .i64 g.w, .int .i64 g.h]] w fun e w' => e = .returned (.bool (gridOk g)) ∧ Below w.heap.size w w' := by
  go_enter Try.func58, Try.ntmps58
  cases h : inside g.w 1 4
  all_goals
    go_wp2_with (go_at_call 64; refine (impl_inside _ _ _ _).mono ?_; rintro e w' ⟨rfl, rfl⟩)
    go_ret
    exact ⟨by simp [gridOk, h], bel⟩
theorem impl_NodeCount (g : Grid) (w : World) : Calls Try.prog 36 #[.agg #[.int .i64 g.w, .int .i64 g.h]] w fun e w' => e = .returned (.int .i64 (nodeCount g)) ∧ Below w.heap.size w w' := by
  go_enter Try.func36, Try.ntmps36
  cases h : gridOk g
  · go_wp2_with (go_at_call 58; refine (impl_GridOk g _).mono ?_; rintro e w1 ⟨rfl, hb1⟩; obtain ⟨hc1, hf1, hz1⟩ := bcell hb1; (try simp only [szs] at hz1); have hb2 := far2; obtain ⟨hc2, hf2, hz2⟩ := bcell hb2; (try simp only [szs] at hz2); try (first | obtain ⟨hy1, hy2, hy3, hy4⟩ := lts4 hz2 | obtain ⟨hy1, hy2, hy3⟩ := lts3 hz2 | obtain ⟨hy1, hy2⟩ := lts2 hz2 | have hy1 := lts1 hz2); have hb9 := hb1)
    go_ret
    exact ⟨by simp [nodeCount, h], bel⟩
  · obtain ⟨a1, a2, a3, a4, a5, a6⟩ := grid_bounds h
    go_wp2_with (go_at_call 58; refine (impl_GridOk g _).mono ?_; rintro e w1 ⟨rfl, hb1⟩; obtain ⟨hc1, hf1, hz1⟩ := bcell hb1; (try simp only [szs] at hz1); have hb2 := far2; obtain ⟨hc2, hf2, hz2⟩ := bcell hb2; (try simp only [szs] at hz2); try (first | obtain ⟨hy1, hy2, hy3, hy4⟩ := lts4 hz2 | obtain ⟨hy1, hy2, hy3⟩ := lts3 hz2 | obtain ⟨hy1, hy2⟩ := lts2 hz2 | have hy1 := lts1 hz2); have hb9 := hb1)
    go_ret
    exact ⟨by simp [nodeCount, h], bel⟩
theorem impl_NodeAt (g : Grid) (x y : Int) (w : World) : Calls Try.prog 89 #[.agg #[.int .i64 g.w, .int .i64 g.h], .int .i64 x, .int .i64 y] w fun e w' => e = .returned (.int .i64 (nodeAt g x y)) ∧ Below w.heap.size w w' := by
  go_enter Try.func89, Try.ntmps89
  cases h : gridOk g
  · go_wp2_with (first | (go_at_call 58; refine (impl_GridOk g _).mono ?_; rintro e w1 ⟨rfl, hb1⟩; obtain ⟨hc1, hf1, hz1⟩ := bcell hb1; (try simp only [szs] at hz1); have hb2 := far2; obtain ⟨hc2, hf2, hz2⟩ := bcell hb2; (try simp only [szs] at hz2); try (first | obtain ⟨hy1, hy2, hy3, hy4⟩ := lts4 hz2 | obtain ⟨hy1, hy2, hy3⟩ := lts3 hz2 | obtain ⟨hy1, hy2⟩ := lts2 hz2 | have hy1 := lts1 hz2); have hb9 := hb1) | (go_at_call 64; refine (impl_inside _ _ _ _).mono ?_; rintro e w' ⟨rfl, rfl⟩))
    go_ret
    exact ⟨by simp [nodeAt, h], bel⟩
  · obtain ⟨a1, a2, a3, a4, a5, a6⟩ := grid_bounds h
    cases hx : inside x 0 (g.w - 1)
    · go_wp2_with (first | (go_at_call 58; refine (impl_GridOk g _).mono ?_; rintro e w1 ⟨rfl, hb1⟩; obtain ⟨hc1, hf1, hz1⟩ := bcell hb1; (try simp only [szs] at hz1); have hb2 := far2; obtain ⟨hc2, hf2, hz2⟩ := bcell hb2; (try simp only [szs] at hz2); try (first | obtain ⟨hy1, hy2, hy3, hy4⟩ := lts4 hz2 | obtain ⟨hy1, hy2, hy3⟩ := lts3 hz2 | obtain ⟨hy1, hy2⟩ := lts2 hz2 | have hy1 := lts1 hz2); have hb9 := hb1) | (go_at_call 64; refine (impl_inside _ _ _ _).mono ?_; rintro e w' ⟨rfl, rfl⟩))
      go_ret
      exact ⟨by simp [nodeAt, h, hx], bel⟩
    · cases hy : inside y 0 (g.h - 1)
      · go_wp2_with (first | (go_at_call 58; refine (impl_GridOk g _).mono ?_; rintro e w1 ⟨rfl, hb1⟩; obtain ⟨hc1, hf1, hz1⟩ := bcell hb1; (try simp only [szs] at hz1); have hb2 := far2; obtain ⟨hc2, hf2, hz2⟩ := bcell hb2; (try simp only [szs] at hz2); try (first | obtain ⟨hy1, hy2, hy3, hy4⟩ := lts4 hz2 | obtain ⟨hy1, hy2, hy3⟩ := lts3 hz2 | obtain ⟨hy1, hy2⟩ := lts2 hz2 | have hy1 := lts1 hz2); have hb9 := hb1) | (go_at_call 64; refine (impl_inside _ _ _ _).mono ?_; rintro e w' ⟨rfl, rfl⟩))
        go_ret
        exact ⟨by simp [nodeAt, h, hx, hy], bel⟩
      · obtain ⟨b1, b2⟩ := inside_bounds hy
        obtain ⟨b3, b4⟩ := inside_bounds hx
        have b5 : 0 ≤ y * g.w := Int.mul_nonneg b1 (by omega)
        have b6 : y * g.w ≤ 12 := by have := Int.mul_le_mul (show y ≤ 3 by omega) a2 (by omega) (by omega); omega
        go_wp2_with (first | (go_at_call 58; refine (impl_GridOk g _).mono ?_; rintro e w1 ⟨rfl, hb1⟩; obtain ⟨hc1, hf1, hz1⟩ := bcell hb1; (try simp only [szs] at hz1); have hb2 := far2; obtain ⟨hc2, hf2, hz2⟩ := bcell hb2; (try simp only [szs] at hz2); try (first | obtain ⟨hy1, hy2, hy3, hy4⟩ := lts4 hz2 | obtain ⟨hy1, hy2, hy3⟩ := lts3 hz2 | obtain ⟨hy1, hy2⟩ := lts2 hz2 | have hy1 := lts1 hz2); have hb9 := hb1) | (go_at_call 64; refine (impl_inside _ _ _ _).mono ?_; rintro e w' ⟨rfl, rfl⟩))
        go_ret
        exact ⟨by simp [nodeAt, h, hx, hy], bel⟩
theorem impl_isNode (g : Grid) (a : Int) (w : World) : Calls Try.prog 75 #[.agg #[.int .i64 g.w, .int .i64 g.h], .int .i64 a] w fun e w' => e = .returned (.bool (isNode g a)) ∧ Below w.heap.size w w' := by
  obtain ⟨a1, a2⟩ := count_bounds g
  go_enter Try.func75, Try.ntmps75
  go_wp2_with (first | (go_at_call 36; refine (impl_NodeCount g _).mono ?_; rintro e w1 ⟨rfl, hb1⟩; obtain ⟨hc1, hf1, hz1⟩ := bcell hb1; (try simp only [szs] at hz1); have hb2 := far2; obtain ⟨hc2, hf2, hz2⟩ := bcell hb2; (try simp only [szs] at hz2); try (first | obtain ⟨hy1, hy2, hy3, hy4⟩ := lts4 hz2 | obtain ⟨hy1, hy2, hy3⟩ := lts3 hz2 | obtain ⟨hy1, hy2⟩ := lts2 hz2 | have hy1 := lts1 hz2); have hb9 := hb1) | (go_at_call 64; refine (impl_inside _ _ _ _).mono ?_; rintro e w' ⟨rfl, rfl⟩))
  go_ret
  exact ⟨rfl, bel⟩
theorem impl_NextNode (g : Grid) (a p : Int) (w : World) : Calls Try.prog 87 #[.agg #[.int .i64 g.w, .int .i64 g.h], .int .i64 a, .int .i64 p] w fun e w' => e = .returned (.int .i64 (nextNode g a p)) ∧ Below w.heap.size w w' := by
  go_enter Try.func87, Try.ntmps87
  cases h : isNode g a
  · go_wp2_with (go_at_call 75; refine (impl_isNode g _ _).mono ?_; rintro e w1 ⟨rfl, hb1⟩; obtain ⟨hc1, hf1, hz1⟩ := bcell hb1; (try simp only [szs] at hz1); have hb2 := far2; obtain ⟨hc2, hf2, hz2⟩ := bcell hb2; (try simp only [szs] at hz2); try (first | obtain ⟨hy1, hy2, hy3, hy4⟩ := lts4 hz2 | obtain ⟨hy1, hy2, hy3⟩ := lts3 hz2 | obtain ⟨hy1, hy2⟩ := lts2 hz2 | have hy1 := lts1 hz2); have hb9 := hb1)
    go_ret
    exact ⟨by simp [nextNode, h], bel⟩
  · obtain ⟨c1, c2, c3, c4⟩ := node_bounds h
    obtain ⟨a1, a2, a3, a4, a5, a6⟩ := grid_bounds c1
    obtain ⟨d1, d2, d3, d4⟩ := div_bounds h
    clear c1
    have hp : p = 0 ∨ p = 1 ∨ p = 2 ∨ p = 3 ∨ p = 4 ∨ ((p == 0) = false ∧ (p == 1) = false ∧ (p == 2) = false ∧ (p == 3) = false ∧ (p == 4) = false) := by
      simp only [beq_eq_false_iff_ne]
      omega
    rcases hp with rfl | rfl | rfl | rfl | rfl | ⟨f0, f1, f2, f3, f4⟩
    all_goals
      go_wp2_with (first | (go_at_call 75; refine (impl_isNode g _ _).mono ?_; rintro e w1 ⟨rfl, hb1⟩; obtain ⟨hc1, hf1, hz1⟩ := bcell hb1; (try simp only [szs] at hz1); have hb2 := far2; obtain ⟨hc2, hf2, hz2⟩ := bcell hb2; (try simp only [szs] at hz2); try (first | obtain ⟨hy1, hy2, hy3, hy4⟩ := lts4 hz2 | obtain ⟨hy1, hy2, hy3⟩ := lts3 hz2 | obtain ⟨hy1, hy2⟩ := lts2 hz2 | have hy1 := lts1 hz2); have hb9 := hb1) | (go_at_call 89; refine (impl_NodeAt g _ _ _).mono ?_; rintro e w1 ⟨rfl, hb1⟩; obtain ⟨hc1, hf1, hz1⟩ := bcell hb1; (try simp only [szs] at hz1); have hb2 := far2; obtain ⟨hc2, hf2, hz2⟩ := bcell hb2; (try simp only [szs] at hz2); try (first | obtain ⟨hy1, hy2, hy3, hy4⟩ := lts4 hz2 | obtain ⟨hy1, hy2, hy3⟩ := lts3 hz2 | obtain ⟨hy1, hy2⟩ := lts2 hz2 | have hy1 := lts1 hz2); have hb9 := hb1))
      try (go_quiet (fail); go_wp2_with (first | (go_at_call 75; refine (impl_isNode g _ _).mono ?_; rintro e w1 ⟨rfl, hb1⟩; obtain ⟨hc1, hf1, hz1⟩ := bcell hb1; (try simp only [szs] at hz1); have hb2 := far2; obtain ⟨hc2, hf2, hz2⟩ := bcell hb2; (try simp only [szs] at hz2); try (first | obtain ⟨hy1, hy2, hy3, hy4⟩ := lts4 hz2 | obtain ⟨hy1, hy2, hy3⟩ := lts3 hz2 | obtain ⟨hy1, hy2⟩ := lts2 hz2 | have hy1 := lts1 hz2); have hb9 := hb1) | (go_at_call 89; refine (impl_NodeAt g _ _ _).mono ?_; rintro e w1 ⟨rfl, hb1⟩; obtain ⟨hc1, hf1, hz1⟩ := bcell hb1; (try simp only [szs] at hz1); have hb2 := far2; obtain ⟨hc2, hf2, hz2⟩ := bcell hb2; (try simp only [szs] at hz2); try (first | obtain ⟨hy1, hy2, hy3, hy4⟩ := lts4 hz2 | obtain ⟨hy1, hy2, hy3⟩ := lts3 hz2 | obtain ⟨hy1, hy2⟩ := lts2 hz2 | have hy1 := lts1 hz2); have hb9 := hb1)))
      go_ret
      exact ⟨by first | (simp [nextNode, h]; done) | (simp only [beq_eq_false_iff_ne] at f0 f1 f2 f3 f4; simp [nextNode, h, f0, f1, f2, f3, f4]), bel⟩
theorem spec_GridOk (g : Grid) (w : World) : Calls Try.prog 50 #[.agg #[.int .i64 g.w, .int .i64 g.h]] w fun e w' => e = .returned (.bool (gridOk g)) ∧ Below w.heap.size w w' := by
  go_enter Try.func50, Try.ntmps50
  cases h : inside g.w 1 4
  all_goals
    go_wp2_with (go_at_call 53; refine (spec_l01In _ _ _ _).mono ?_; rintro e w' ⟨rfl, rfl⟩)
    go_ret
    exact ⟨by simp [gridOk, h], bel⟩
theorem spec_NodeCount (g : Grid) (w : World) : Calls Try.prog 28 #[.agg #[.int .i64 g.w, .int .i64 g.h]] w fun e w' => e = .returned (.int .i64 (nodeCount g)) ∧ Below w.heap.size w w' := by
  go_enter Try.func28, Try.ntmps28
  cases h : gridOk g
  · go_wp2_with (go_at_call 50; refine (spec_GridOk g _).mono ?_; rintro e w1 ⟨rfl, hb1⟩; obtain ⟨hc1, hf1, hz1⟩ := bcell hb1; (try simp only [szs] at hz1); have hb2 := far2; obtain ⟨hc2, hf2, hz2⟩ := bcell hb2; (try simp only [szs] at hz2); try (first | obtain ⟨hy1, hy2, hy3, hy4⟩ := lts4 hz2 | obtain ⟨hy1, hy2, hy3⟩ := lts3 hz2 | obtain ⟨hy1, hy2⟩ := lts2 hz2 | have hy1 := lts1 hz2); have hb9 := hb1)
    go_ret
    exact ⟨by simp [nodeCount, h], bel⟩
  · obtain ⟨a1, a2, a3, a4, a5, a6⟩ := grid_bounds h
    go_wp2_with (go_at_call 50; refine (spec_GridOk g _).mono ?_; rintro e w1 ⟨rfl, hb1⟩; obtain ⟨hc1, hf1, hz1⟩ := bcell hb1; (try simp only [szs] at hz1); have hb2 := far2; obtain ⟨hc2, hf2, hz2⟩ := bcell hb2; (try simp only [szs] at hz2); try (first | obtain ⟨hy1, hy2, hy3, hy4⟩ := lts4 hz2 | obtain ⟨hy1, hy2, hy3⟩ := lts3 hz2 | obtain ⟨hy1, hy2⟩ := lts2 hz2 | have hy1 := lts1 hz2); have hb9 := hb1)
    go_ret
    exact ⟨by simp [nodeCount, h], bel⟩
theorem spec_NodeAt (g : Grid) (x y : Int) (w : World) : Calls Try.prog 86 #[.agg #[.int .i64 g.w, .int .i64 g.h], .int .i64 x, .int .i64 y] w fun e w' => e = .returned (.int .i64 (nodeAt g x y)) ∧ Below w.heap.size w w' := by
  go_enter Try.func86, Try.ntmps86
  cases h : gridOk g
  · go_wp2_with (first | (go_at_call 50; refine (spec_GridOk g _).mono ?_; rintro e w1 ⟨rfl, hb1⟩; obtain ⟨hc1, hf1, hz1⟩ := bcell hb1; (try simp only [szs] at hz1); have hb2 := far2; obtain ⟨hc2, hf2, hz2⟩ := bcell hb2; (try simp only [szs] at hz2); try (first | obtain ⟨hy1, hy2, hy3, hy4⟩ := lts4 hz2 | obtain ⟨hy1, hy2, hy3⟩ := lts3 hz2 | obtain ⟨hy1, hy2⟩ := lts2 hz2 | have hy1 := lts1 hz2); have hb9 := hb1) | (go_at_call 53; refine (spec_l01In _ _ _ _).mono ?_; rintro e w' ⟨rfl, rfl⟩))
    go_ret
    exact ⟨by simp [nodeAt, h], bel⟩
  · obtain ⟨a1, a2, a3, a4, a5, a6⟩ := grid_bounds h
    cases hx : inside x 0 (g.w - 1)
    · go_wp2_with (first | (go_at_call 50; refine (spec_GridOk g _).mono ?_; rintro e w1 ⟨rfl, hb1⟩; obtain ⟨hc1, hf1, hz1⟩ := bcell hb1; (try simp only [szs] at hz1); have hb2 := far2; obtain ⟨hc2, hf2, hz2⟩ := bcell hb2; (try simp only [szs] at hz2); try (first | obtain ⟨hy1, hy2, hy3, hy4⟩ := lts4 hz2 | obtain ⟨hy1, hy2, hy3⟩ := lts3 hz2 | obtain ⟨hy1, hy2⟩ := lts2 hz2 | have hy1 := lts1 hz2); have hb9 := hb1) | (go_at_call 53; refine (spec_l01In _ _ _ _).mono ?_; rintro e w' ⟨rfl, rfl⟩))
      go_ret
      exact ⟨by simp [nodeAt, h, hx], bel⟩
    · cases hy : inside y 0 (g.h - 1)
      · go_wp2_with (first | (go_at_call 50; refine (spec_GridOk g _).mono ?_; rintro e w1 ⟨rfl, hb1⟩; obtain ⟨hc1, hf1, hz1⟩ := bcell hb1; (try simp only [szs] at hz1); have hb2 := far2; obtain ⟨hc2, hf2, hz2⟩ := bcell hb2; (try simp only [szs] at hz2); try (first | obtain ⟨hy1, hy2, hy3, hy4⟩ := lts4 hz2 | obtain ⟨hy1, hy2, hy3⟩ := lts3 hz2 | obtain ⟨hy1, hy2⟩ := lts2 hz2 | have hy1 := lts1 hz2); have hb9 := hb1) | (go_at_call 53; refine (spec_l01In _ _ _ _).mono ?_; rintro e w' ⟨rfl, rfl⟩))
        go_ret
        exact ⟨by simp [nodeAt, h, hx, hy], bel⟩
      · obtain ⟨b1, b2⟩ := inside_bounds hy
        obtain ⟨b3, b4⟩ := inside_bounds hx
        have b5 : 0 ≤ y * g.w := Int.mul_nonneg b1 (by omega)
        have b6 : y * g.w ≤ 12 := by have := Int.mul_le_mul (show y ≤ 3 by omega) a2 (by omega) (by omega); omega
        go_wp2_with (first | (go_at_call 50; refine (spec_GridOk g _).mono ?_; rintro e w1 ⟨rfl, hb1⟩; obtain ⟨hc1, hf1, hz1⟩ := bcell hb1; (try simp only [szs] at hz1); have hb2 := far2; obtain ⟨hc2, hf2, hz2⟩ := bcell hb2; (try simp only [szs] at hz2); try (first | obtain ⟨hy1, hy2, hy3, hy4⟩ := lts4 hz2 | obtain ⟨hy1, hy2, hy3⟩ := lts3 hz2 | obtain ⟨hy1, hy2⟩ := lts2 hz2 | have hy1 := lts1 hz2); have hb9 := hb1) | (go_at_call 53; refine (spec_l01In _ _ _ _).mono ?_; rintro e w' ⟨rfl, rfl⟩))
        go_ret
        exact ⟨by simp [nodeAt, h, hx, hy], bel⟩
theorem spec_l02Has (g : Grid) (a : Int) (w : World) : Calls Try.prog 69 #[.agg #[.int .i64 g.w, .int .i64 g.h], .int .i64 a] w fun e w' => e = .returned (.bool (isNode g a)) ∧ Below w.heap.size w w' := by
  obtain ⟨a1, a2⟩ := count_bounds g
  go_enter Try.func69, Try.ntmps69
  go_wp2_with (first | (go_at_call 28; refine (spec_NodeCount g _).mono ?_; rintro e w1 ⟨rfl, hb1⟩; obtain ⟨hc1, hf1, hz1⟩ := bcell hb1; (try simp only [szs] at hz1); have hb2 := far2; obtain ⟨hc2, hf2, hz2⟩ := bcell hb2; (try simp only [szs] at hz2); try (first | obtain ⟨hy1, hy2, hy3, hy4⟩ := lts4 hz2 | obtain ⟨hy1, hy2, hy3⟩ := lts3 hz2 | obtain ⟨hy1, hy2⟩ := lts2 hz2 | have hy1 := lts1 hz2); have hb9 := hb1) | (go_at_call 53; refine (spec_l01In _ _ _ _).mono ?_; rintro e w' ⟨rfl, rfl⟩))
  go_ret
  exact ⟨rfl, bel⟩
theorem spec_NextNode (g : Grid) (a p : Int) (w : World) : Calls Try.prog 79 #[.agg #[.int .i64 g.w, .int .i64 g.h], .int .i64 a, .int .i64 p] w fun e w' => e = .returned (.int .i64 (nextNode g a p)) ∧ Below w.heap.size w w' := by
  go_enter Try.func79, Try.ntmps79
  cases h : isNode g a
  · go_wp2_with (go_at_call 69; refine (spec_l02Has g _ _).mono ?_; rintro e w1 ⟨rfl, hb1⟩; obtain ⟨hc1, hf1, hz1⟩ := bcell hb1; (try simp only [szs] at hz1); have hb2 := far2; obtain ⟨hc2, hf2, hz2⟩ := bcell hb2; (try simp only [szs] at hz2); try (first | obtain ⟨hy1, hy2, hy3, hy4⟩ := lts4 hz2 | obtain ⟨hy1, hy2, hy3⟩ := lts3 hz2 | obtain ⟨hy1, hy2⟩ := lts2 hz2 | have hy1 := lts1 hz2); have hb9 := hb1)
    go_ret
    exact ⟨by simp [nextNode, h], bel⟩
  · obtain ⟨c1, c2, c3, c4⟩ := node_bounds h
    obtain ⟨a1, a2, a3, a4, a5, a6⟩ := grid_bounds c1
    obtain ⟨d1, d2, d3, d4⟩ := div_bounds h
    clear c1
    have hp : p = 0 ∨ p = 1 ∨ p = 2 ∨ p = 3 ∨ p = 4 ∨ ((p == 0) = false ∧ (p == 1) = false ∧ (p == 2) = false ∧ (p == 3) = false ∧ (p == 4) = false) := by
      simp only [beq_eq_false_iff_ne]
      omega
    rcases hp with rfl | rfl | rfl | rfl | rfl | ⟨f0, f1, f2, f3, f4⟩
    all_goals
      go_wp2_with (first | (go_at_call 69; refine (spec_l02Has g _ _).mono ?_; rintro e w1 ⟨rfl, hb1⟩; obtain ⟨hc1, hf1, hz1⟩ := bcell hb1; (try simp only [szs] at hz1); have hb2 := far2; obtain ⟨hc2, hf2, hz2⟩ := bcell hb2; (try simp only [szs] at hz2); try (first | obtain ⟨hy1, hy2, hy3, hy4⟩ := lts4 hz2 | obtain ⟨hy1, hy2, hy3⟩ := lts3 hz2 | obtain ⟨hy1, hy2⟩ := lts2 hz2 | have hy1 := lts1 hz2); have hb9 := hb1) | (go_at_call 86; refine (spec_NodeAt g _ _ _).mono ?_; rintro e w1 ⟨rfl, hb1⟩; obtain ⟨hc1, hf1, hz1⟩ := bcell hb1; (try simp only [szs] at hz1); have hb2 := far2; obtain ⟨hc2, hf2, hz2⟩ := bcell hb2; (try simp only [szs] at hz2); try (first | obtain ⟨hy1, hy2, hy3, hy4⟩ := lts4 hz2 | obtain ⟨hy1, hy2, hy3⟩ := lts3 hz2 | obtain ⟨hy1, hy2⟩ := lts2 hz2 | have hy1 := lts1 hz2); have hb9 := hb1))
      try (go_quiet (fail); go_wp2_with (first | (go_at_call 69; refine (spec_l02Has g _ _).mono ?_; rintro e w1 ⟨rfl, hb1⟩; obtain ⟨hc1, hf1, hz1⟩ := bcell hb1; (try simp only [szs] at hz1); have hb2 := far2; obtain ⟨hc2, hf2, hz2⟩ := bcell hb2; (try simp only [szs] at hz2); try (first | obtain ⟨hy1, hy2, hy3, hy4⟩ := lts4 hz2 | obtain ⟨hy1, hy2, hy3⟩ := lts3 hz2 | obtain ⟨hy1, hy2⟩ := lts2 hz2 | have hy1 := lts1 hz2); have hb9 := hb1) | (go_at_call 86; refine (spec_NodeAt g _ _ _).mono ?_; rintro e w1 ⟨rfl, hb1⟩; obtain ⟨hc1, hf1, hz1⟩ := bcell hb1; (try simp only [szs] at hz1); have hb2 := far2; obtain ⟨hc2, hf2, hz2⟩ := bcell hb2; (try simp only [szs] at hz2); try (first | obtain ⟨hy1, hy2, hy3, hy4⟩ := lts4 hz2 | obtain ⟨hy1, hy2, hy3⟩ := lts3 hz2 | obtain ⟨hy1, hy2⟩ := lts2 hz2 | have hy1 := lts1 hz2); have hb9 := hb1)))
      go_ret
      exact ⟨by first | (simp [nextNode, h]; done) | (simp only [beq_eq_false_iff_ne] at f0 f1 f2 f3 f4; simp [nextNode, h, f0, f1, f2, f3, f4]), bel⟩
end Go.Proofs.Ytmkbmddgkdoaiaa
namespace Go.Proofs.Ytmkbmddgkdoaiaa
open Go.RowKit Go.Proofs.YtmkbmddgkdoaiaaW.PrintWords
open NoC
theorem impl_leads (g : Grid) (c : Int) (w : World) : Calls Try.prog 80 #[.agg #[.int .i64 g.w, .int .i64 g.h], .int .i64 c] w fun e w' => e = .returned (.bool (leads g c)) ∧ Below w.heap.size w w' := by
  obtain ⟨a1, a2⟩ := count_bounds g
  go_enter Try.func80, Try.ntmps80
  cases h : inside c 0 (4 * nodeCount g - 1)
  · go_wp2_with (first | (go_at_call 36; refine (impl_NodeCount g _).mono ?_; rintro e w1 ⟨rfl, hb1⟩; obtain ⟨hc1, hf1, hz1⟩ := bcell hb1; (try simp only [szs] at hz1); have hb2 := far2; obtain ⟨hc2, hf2, hz2⟩ := bcell hb2; (try simp only [szs] at hz2); try (first | obtain ⟨hy1, hy2, hy3, hy4⟩ := lts4 hz2 | obtain ⟨hy1, hy2, hy3⟩ := lts3 hz2 | obtain ⟨hy1, hy2⟩ := lts2 hz2 | have hy1 := lts1 hz2); have hb9 := hb1) | (go_at_call 64; refine (impl_inside _ _ _ _).mono ?_; rintro e w' ⟨rfl, rfl⟩))
    go_ret
    exact ⟨by simp [leads, h], bel⟩
  · obtain ⟨b1, b2⟩ := inside_bounds h
    go_wp2_with (first | (go_at_call 36; refine (impl_NodeCount g _).mono ?_; rintro e w1 ⟨rfl, hb1⟩; obtain ⟨hc1, hf1, hz1⟩ := bcell hb1; (try simp only [szs] at hz1); have hb2 := far2; obtain ⟨hc2, hf2, hz2⟩ := bcell hb2; (try simp only [szs] at hz2); try (first | obtain ⟨hy1, hy2, hy3, hy4⟩ := lts4 hz2 | obtain ⟨hy1, hy2, hy3⟩ := lts3 hz2 | obtain ⟨hy1, hy2⟩ := lts2 hz2 | have hy1 := lts1 hz2); have hb9 := hb1) | (go_at_call 64; refine (impl_inside _ _ _ _).mono ?_; rintro e w' ⟨rfl, rfl⟩) | (go_at_call 87; refine (impl_NextNode g _ _ _).mono ?_; rintro e w1 ⟨rfl, hb1⟩; obtain ⟨hc1, hf1, hz1⟩ := bcell hb1; (try simp only [szs] at hz1); have hb2 := far2; obtain ⟨hc2, hf2, hz2⟩ := bcell hb2; (try simp only [szs] at hz2); try (first | obtain ⟨hy1, hy2, hy3, hy4⟩ := lts4 hz2 | obtain ⟨hy1, hy2, hy3⟩ := lts3 hz2 | obtain ⟨hy1, hy2⟩ := lts2 hz2 | have hy1 := lts1 hz2); have hb9 := hb1))
    go_ret
    exact ⟨by simp [leads, h], bel⟩
theorem spec_l03Leads (g : Grid) (c : Int) (w : World) : Calls Try.prog 84 #[.agg #[.int .i64 g.w, .int .i64 g.h], .int .i64 c] w fun e w' => e = .returned (.bool (leads g c)) ∧ Below w.heap.size w w' := by
  obtain ⟨a1, a2⟩ := count_bounds g
  go_enter Try.func84, Try.ntmps84
  cases h : inside c 0 (4 * nodeCount g - 1)
  · go_wp2_with (first | (go_at_call 28; refine (spec_NodeCount g _).mono ?_; rintro e w1 ⟨rfl, hb1⟩; obtain ⟨hc1, hf1, hz1⟩ := bcell hb1; (try simp only [szs] at hz1); have hb2 := far2; obtain ⟨hc2, hf2, hz2⟩ := bcell hb2; (try simp only [szs] at hz2); try (first | obtain ⟨hy1, hy2, hy3, hy4⟩ := lts4 hz2 | obtain ⟨hy1, hy2, hy3⟩ := lts3 hz2 | obtain ⟨hy1, hy2⟩ := lts2 hz2 | have hy1 := lts1 hz2); have hb9 := hb1) | (go_at_call 53; refine (spec_l01In _ _ _ _).mono ?_; rintro e w' ⟨rfl, rfl⟩))
    go_ret
    exact ⟨by simp [leads, h], bel⟩
  · obtain ⟨b1, b2⟩ := inside_bounds h
    go_wp2_with (first | (go_at_call 28; refine (spec_NodeCount g _).mono ?_; rintro e w1 ⟨rfl, hb1⟩; obtain ⟨hc1, hf1, hz1⟩ := bcell hb1; (try simp only [szs] at hz1); have hb2 := far2; obtain ⟨hc2, hf2, hz2⟩ := bcell hb2; (try simp only [szs] at hz2); try (first | obtain ⟨hy1, hy2, hy3, hy4⟩ := lts4 hz2 | obtain ⟨hy1, hy2, hy3⟩ := lts3 hz2 | obtain ⟨hy1, hy2⟩ := lts2 hz2 | have hy1 := lts1 hz2); have hb9 := hb1) | (go_at_call 53; refine (spec_l01In _ _ _ _).mono ?_; rintro e w' ⟨rfl, rfl⟩) | (go_at_call 79; refine (spec_NextNode g _ _ _).mono ?_; rintro e w1 ⟨rfl, hb1⟩; obtain ⟨hc1, hf1, hz1⟩ := bcell hb1; (try simp only [szs] at hz1); have hb2 := far2; obtain ⟨hc2, hf2, hz2⟩ := bcell hb2; (try simp only [szs] at hz2); try (first | obtain ⟨hy1, hy2, hy3, hy4⟩ := lts4 hz2 | obtain ⟨hy1, hy2, hy3⟩ := lts3 hz2 | obtain ⟨hy1, hy2⟩ := lts2 hz2 | have hy1 := lts1 hz2); have hb9 := hb1))
    go_ret
    exact ⟨by simp [leads, h], bel⟩

theorem impl_MeshOk (m : Mesh) (A : Option Addr) (c : Nat) (w : World) (hr : Kd.C (Kd.int .i64) w A m.br.length m.br) (hn : m.br.length ≤ 2097152) :
    Calls Try.prog 71 #[.agg #[.int .i64 m.g.w, .int .i64 m.g.h, .slice A m.br.length c]] w fun e w' => e = .returned (.bool (meshOk m)) ∧ Below w.heap.size w w' := by
  go_enter Try.func71, Try.ntmps71
  go_wp2
  go_loopw [8] (fun i wr => ∃ k : Nat, k ≤ m.br.length ∧ i = .int .i64 k ∧ Hid (∀ j : Nat, j < k → brokenAt m j = true) ∧ Below (w.alloc (.cells #[.int .i64 m.g.w, .int .i64 m.g.h, .slice A m.br.length c] 26)).heap.size (w.alloc (.cells #[.int .i64 m.g.w, .int .i64 m.g.h, .slice A m.br.length c] 26)) wr) (fun i _ => m.br.length - (intOf i).toNat)
  case atStart => exact ⟨0, Nat.zero_le _, rfl, Lib.hid fun j h => absurd h (Nat.not_lt_zero _), Below.refl _ _⟩
  case round =>
    obtain ⟨k, hk, rfl, HA, HB⟩ := hrel
    obtain ⟨hc0, hf0, hz0⟩ := bcell HB
    simp only [szs] at hz0
    by_cases hlt : k < m.br.length
    · obtain ⟨b, off, rfl, hb, hx⟩ := rdI_at hr k hlt
      have hxk := hx k hlt
      have hx1 := hx (k - 1) (by omega)
      go_wp2_with (go_at_call 80; refine (impl_leads m.g _ _).mono ?_; rintro e w1 ⟨rfl, hb1⟩; obtain ⟨hc1, hf1, hz1⟩ := bcell hb1; (try simp only [szs] at hz1); have hb2 := far2; obtain ⟨hc2, hf2, hz2⟩ := bcell hb2; (try simp only [szs] at hz2); try (first | obtain ⟨hy1, hy2, hy3, hy4⟩ := lts4 hz2 | obtain ⟨hy1, hy2, hy3⟩ := lts3 hz2 | obtain ⟨hy1, hy2⟩ := lts2 hz2 | have hy1 := lts1 hz2); have hb9 := hb1)
      · go_ret
        exact ⟨ret_bool (meshOk_no k hlt (brokenAt_no2 (by assumption) (by assumption))).symm, bel⟩
      · go_roundw
        case rel => exact ⟨k + 1, by omega, by go_num, Lib.hid (upto HA.out (brokenAt_yes1 (by assumption) (by assumption))), bel⟩
        case measure => simp [intOf]; omega
      · go_roundw
        case rel => exact ⟨k + 1, by omega, by go_num, Lib.hid (upto HA.out (brokenAt_yes0 (by assumption) (by assumption))), bel⟩
        case measure => simp [intOf]; omega
      · go_ret
        exact ⟨ret_bool (meshOk_no k hlt (brokenAt_no1 (by assumption))).symm, bel⟩
    · go_wp2_with (go_at_call 58; refine (impl_GridOk m.g _).mono ?_; rintro e w1 ⟨rfl, hb1⟩; obtain ⟨hc1, hf1, hz1⟩ := bcell hb1; (try simp only [szs] at hz1); have hb2 := far2; obtain ⟨hc2, hf2, hz2⟩ := bcell hb2; (try simp only [szs] at hz2); try (first | obtain ⟨hy1, hy2, hy3, hy4⟩ := lts4 hz2 | obtain ⟨hy1, hy2, hy3⟩ := lts3 hz2 | obtain ⟨hy1, hy2⟩ := lts2 hz2 | have hy1 := lts1 hz2); have hb9 := hb1)
      go_ret
      exact ⟨ret_bool (meshOk_yes (fun j hj => HA.out j (by omega))).symm, bel⟩
theorem spec_MeshOk (m : Mesh) (A : Option Addr) (c : Nat) (w : World) (hr : Kd.C (Kd.int .i64) w A m.br.length m.br) (hn : m.br.length ≤ 2097152) :
  Calls Try.prog 77 #[.agg #[.int .i64 m.g.w, .int .i64 m.g.h, .slice A m.br.length c]] w fun e w' => e = .returned (.bool (meshOk m)) ∧ Below w.heap.size w w' := by
 go_enter Try.func77, Try.ntmps77
 cases hg : gridOk m.g
 ·go_wp2_with (go_at_call 50; refine (spec_GridOk m.g _).mono ?_; rintro e w1 ⟨rfl, hb1⟩; obtain ⟨hc1, hf1, hz1⟩ := bcell hb1; (try simp only [szs] at hz1); have hb2 := far2; obtain ⟨hc2, hf2, hz2⟩ := bcell hb2; (try simp only [szs] at hz2); try (first | obtain ⟨hy1, hy2, hy3, hy4⟩ := lts4 hz2 | obtain ⟨hy1, hy2, hy3⟩ := lts3 hz2 | obtain ⟨hy1, hy2⟩ := lts2 hz2 | have hy1 := lts1 hz2); have hb9 := hb1)
  go_ret
  exact ⟨ret_bool (by simp [meshOk, hg]), bel⟩
 go_wp2_with (go_at_call 50; refine (spec_GridOk m.g _).mono ?_; rintro e w1 ⟨rfl, hb1⟩; obtain ⟨hc1, hf1, hz1⟩ := bcell hb1; (try simp only [szs] at hz1); have hb2 := far2; obtain ⟨hc2, hf2, hz2⟩ := bcell hb2; (try simp only [szs] at hz2); try (first | obtain ⟨hy1, hy2, hy3, hy4⟩ := lts4 hz2 | obtain ⟨hy1, hy2, hy3⟩ := lts3 hz2 | obtain ⟨hy1, hy2⟩ := lts2 hz2 | have hy1 := lts1 hz2); have hb9 := hb1)
 go_loopw [3] (fun i wr => ∃ k : Nat, k ≤ m.br.length ∧ i = .int .i64 k ∧ Hid (∀ j : Nat, j < k → brokenAt m j = true) ∧ Below (w.alloc (.cells #[.int .i64 m.g.w, .int .i64 m.g.h, .slice A m.br.length c] 26)).heap.size (w.alloc (.cells #[.int .i64 m.g.w, .int .i64 m.g.h, .slice A m.br.length c] 26)) wr) (fun i _ => m.br.length - (intOf i).toNat)
 case atStart => exact ⟨0, Nat.zero_le _, rfl, Lib.hid fun j h => absurd h (Nat.not_lt_zero _), bel⟩
 case round =>
  obtain ⟨k, hk, rfl, HA, HB⟩ := hrel
  obtain ⟨hc0, hf0, hz0⟩ := bcell HB
  simp only [szs] at hz0
  by_cases hlt : k < m.br.length
  ·obtain ⟨b, off, rfl, hb, hx⟩ := rdI_at hr k hlt
   have hxk := hx k hlt
   have hx1 := hx (k - 1) (by omega)
   have i0 : (0 : Int) ≤ (k : Int) := by omega
   have i1 : (k : Int) < (m.br.length : Int) := by omega
   cases hl : leads m.g (ri m.br k)
   ·go_wp2_with fail
    refine wp_region_far (w.alloc (.cells #[.int .i64 m.g.w, .int .i64 m.g.h, .slice (some ⟨b, off, none⟩) m.br.length c] 26)) (by kernel_rfl) (by kernel_rfl) bel ?_
    have hqc := far_cell (w.alloc (.cells #[.int .i64 m.g.w, .int .i64 m.g.h, .slice (some ⟨b, off, none⟩) m.br.length c] 26))
    have hqf := far_frozen (w.alloc (.cells #[.int .i64 m.g.w, .int .i64 m.g.h, .slice (some ⟨b, off, none⟩) m.br.length c] 26))
    repeat (first | go_big_quiet_step ((go_at_call 84; exact far_call (Calls.says (spec_l03Leads m.g _ _) (congrArg Value.bool hl)))) | quiet_step ((go_at_call 84; exact far_call (Calls.says (spec_l03Leads m.g _ _) (congrArg Value.bool hl)))))
    refine wpQuiet_nil ?_
    intro wq hbq
    clear hqc hqf
    obtain ⟨hcq, hfq, hzq⟩ := bcell hbq
    try simp only [szs] at hzq
    go_wp2
    go_ret
    exact ⟨ret_bool (meshOk_no k hlt (brokenAt_no1 (by simp [hl]))).symm, bel⟩
   ·by_cases h0 : 0 < k
    ·have hd : decide ((0 : Int) < (k : Int)) = true := decide_eq_true (by omega)
     go_wp2_with fail
     refine wp_region_far (w.alloc (.cells #[.int .i64 m.g.w, .int .i64 m.g.h, .slice (some ⟨b, off, none⟩) m.br.length c] 26)) (by kernel_rfl) (by kernel_rfl) bel ?_
     have hqc := far_cell (w.alloc (.cells #[.int .i64 m.g.w, .int .i64 m.g.h, .slice (some ⟨b, off, none⟩) m.br.length c] 26))
     have hqf := far_frozen (w.alloc (.cells #[.int .i64 m.g.w, .int .i64 m.g.h, .slice (some ⟨b, off, none⟩) m.br.length c] 26))
     repeat (first | go_big_quiet_step ((go_at_call 84; exact far_call (Calls.says (spec_l03Leads m.g _ _) (congrArg Value.bool hl)))) | quiet_step ((go_at_call 84; exact far_call (Calls.says (spec_l03Leads m.g _ _) (congrArg Value.bool hl)))))
     refine wpQuiet_nil ?_
     intro wq hbq
     clear hqc hqf
     obtain ⟨hcq, hfq, hzq⟩ := bcell hbq
     try simp only [szs] at hzq
     go_wp2
     ·go_ret
      exact ⟨ret_bool (meshOk_no k hlt (brokenAt_no2 (by assumption) (by assumption))).symm, bel⟩
     ·go_roundw
      case rel => exact ⟨k + 1, by omega, by go_num, Lib.hid (upto HA.out (brokenAt_yes1 (by assumption) (by omega))), bel⟩
      case measure => simp [intOf]; omega
    ·have hd : decide ((0 : Int) < (k : Int)) = false := decide_eq_false (by omega)
     go_wp2_with fail
     refine wp_region_far (w.alloc (.cells #[.int .i64 m.g.w, .int .i64 m.g.h, .slice (some ⟨b, off, none⟩) m.br.length c] 26)) (by kernel_rfl) (by kernel_rfl) bel ?_
     have hqc := far_cell (w.alloc (.cells #[.int .i64 m.g.w, .int .i64 m.g.h, .slice (some ⟨b, off, none⟩) m.br.length c] 26))
     have hqf := far_frozen (w.alloc (.cells #[.int .i64 m.g.w, .int .i64 m.g.h, .slice (some ⟨b, off, none⟩) m.br.length c] 26))
     repeat (first | go_big_quiet_step ((go_at_call 84; exact far_call (Calls.says (spec_l03Leads m.g _ _) (congrArg Value.bool hl)))) | quiet_step ((go_at_call 84; exact far_call (Calls.says (spec_l03Leads m.g _ _) (congrArg Value.bool hl)))))
     refine wpQuiet_nil ?_
     intro wq hbq
     clear hqc hqf
     obtain ⟨hcq, hfq, hzq⟩ := bcell hbq
     try simp only [szs] at hzq
     go_wp2
     go_roundw
     case rel => exact ⟨k + 1, by omega, by go_num, Lib.hid (upto HA.out (brokenAt_yes0 (by assumption) (by assumption))), bel⟩
     case measure => simp [intOf]; omega
  ·go_wp2
   go_ret
   exact ⟨ret_bool (by rw [meshOk_yes (fun j hj => HA.out j (by omega)), hg]), bel⟩

theorem slices_Index_int (l : List Int) (x : Int) (A : Option Addr) (c : Nat) (w : World) (hr : Kd.C (Kd.int .i64) w A l.length l) (hn : l.length ≤ 2097152) :
    Calls Try.prog 90 #[.slice A l.length c, .int .i64 x] w fun e w' => e = .returned (.int .i64 (idx l x)) ∧ w = w' := by
  go_enter Try.func90, Try.ntmps90
  go_wp2
  go_loop [8] (fun i => ∃ k : Nat, k ≤ l.length ∧ i = .int .i64 k ∧ Hid (∀ j : Nat, j < k → ¬ ri l j = x)) (fun i => l.length - (intOf i).toNat)
  case atStart => exact ⟨0, Nat.zero_le _, rfl, Lib.hid fun j h => absurd h (Nat.not_lt_zero _)⟩
  case round =>
    obtain ⟨k, hk, rfl, HA⟩ := hrel
    by_cases hlt : k < l.length
    · obtain ⟨b, off, rfl, hb, hx⟩ := rdI_at hr k hlt
      have hxk := hx k hlt
      by_cases e : ri l k = x
      · have e1 : (x == ri l k) = true := beq_iff_eq.2 e.symm
        have HE := Lib.hid e
        clear e
        go_wp2
        go_ret
        exact ⟨ret_int (idx_yes k hlt HE.out HA.out).symm, rfl⟩
      · have e1 : (x == ri l k) = false := beq_eq_false_iff_ne.2 (Ne.symm e)
        have HE := Lib.hid e
        clear e
        go_wp2
        go_round
        case rel => exact ⟨k + 1, by omega, by go_num, Lib.hid (upto HA.out HE.out)⟩
        case measure => simp [intOf]; omega
    · go_wp2
      go_ret
      exact ⟨ret_int (idx_no (fun j hj => HA.out j (by omega))).symm, rfl⟩
theorem slices_Contains_int (l : List Int) (x : Int) (A : Option Addr) (c : Nat) (w : World) (hr : Kd.C (Kd.int .i64) w A l.length l) (hn : l.length ≤ 2097152) :
    Calls Try.prog 88 #[.slice A l.length c, .int .i64 x] w fun e w' => e = .returned (.bool (has l x)) ∧ w = w' := by
  go_enter Try.func88, Try.ntmps88
  go_wp2_with (go_at_call 90; refine (slices_Index_int _ _ _ _ _ hr hn).mono ?_; rintro e w' ⟨rfl, rfl⟩)
  go_ret
  exact ⟨ret_bool (by simpa using idx_contains l x), rfl⟩
theorem spec_l03Find (l : List Int) (x : Int) (A : Option Addr) (c : Nat) (w : World) (hr : Kd.C (Kd.int .i64) w A l.length l) (hn : l.length ≤ 2097152) :
    Calls Try.prog 85 #[.slice A l.length c, .int .i64 x] w fun e w' => e = .returned (.bool (has l x)) ∧ w = w' := by
  go_enter Try.func85, Try.ntmps85
  go_wp2
  go_loop [5] (fun i => ∃ k : Nat, k ≤ l.length ∧ i = .int .i64 k ∧ Hid (∀ j : Nat, j < k → ¬ ri l j = x)) (fun i => l.length - (intOf i).toNat)
  case atStart => exact ⟨0, Nat.zero_le _, rfl, Lib.hid fun j h => absurd h (Nat.not_lt_zero _)⟩
  case round =>
    obtain ⟨k, hk, rfl, HA⟩ := hrel
    by_cases hlt : k < l.length
    · obtain ⟨b, off, rfl, hb, hx⟩ := rdI_at hr k hlt
      have hxk := hx k hlt
      by_cases e : ri l k = x
      · have e1 : (ri l k == x) = true := beq_iff_eq.2 e
        have HE := Lib.hid e
        clear e
        go_wp2
        go_ret
        exact ⟨ret_bool (contains_yes k hlt HE.out).symm, rfl⟩
      · have e1 : (ri l k == x) = false := beq_eq_false_iff_ne.2 e
        have HE := Lib.hid e
        clear e
        go_wp2
        go_round
        case rel => exact ⟨k + 1, by omega, by go_num, Lib.hid (upto HA.out HE.out)⟩
        case measure => simp [intOf]; omega
    · go_wp2
      go_ret
      exact ⟨ret_bool (contains_no (fun j hj => HA.out j (by omega))).symm, rfl⟩
theorem impl_HasChannel (m : Mesh) (x : Int) (A : Option Addr) (c : Nat) (w : World) (hr : Kd.C (Kd.int .i64) w A m.br.length m.br) (hn : m.br.length ≤ 2097152) :
    Calls Try.prog 82 #[.agg #[.int .i64 m.g.w, .int .i64 m.g.h, .slice A m.br.length c], .int .i64 x] w fun e w' => e = .returned (.bool (hasChannel m x)) ∧ Below w.heap.size w w' := by
  go_enter Try.func82, Try.ntmps82
  cases hm : meshOk m
  · go_wp2_with (go_at_call 71; refine (impl_MeshOk m _ _ _ (by exact Kd.C_below hr bel) hn).mono ?_; rintro e w1 ⟨rfl, hb1⟩; obtain ⟨hc1, hf1, hz1⟩ := bcell hb1; (try simp only [szs] at hz1); have hb2 := far2; obtain ⟨hc2, hf2, hz2⟩ := bcell hb2; (try simp only [szs] at hz2); try (first | obtain ⟨hy1, hy2, hy3, hy4⟩ := lts4 hz2 | obtain ⟨hy1, hy2, hy3⟩ := lts3 hz2 | obtain ⟨hy1, hy2⟩ := lts2 hz2 | have hy1 := lts1 hz2); have hb9 := hb1)
    go_ret
    exact ⟨ret_bool (by simp [hasChannel, hm]), bel⟩
  cases hl : leads m.g x
  · go_wp2_with (first | (go_at_call 71; refine (impl_MeshOk m _ _ _ (by exact Kd.C_below hr bel) hn).mono ?_; rintro e w1 ⟨rfl, hb1⟩; obtain ⟨hc1, hf1, hz1⟩ := bcell hb1; (try simp only [szs] at hz1); have hb2 := far2; obtain ⟨hc2, hf2, hz2⟩ := bcell hb2; (try simp only [szs] at hz2); try (first | obtain ⟨hy1, hy2, hy3, hy4⟩ := lts4 hz2 | obtain ⟨hy1, hy2, hy3⟩ := lts3 hz2 | obtain ⟨hy1, hy2⟩ := lts2 hz2 | have hy1 := lts1 hz2); have hb9 := hb1) | (go_at_call 80; refine (impl_leads m.g _ _).mono ?_; rintro e w1 ⟨rfl, hb1⟩; obtain ⟨hc1, hf1, hz1⟩ := bcell hb1; (try simp only [szs] at hz1); have hb2 := far2; obtain ⟨hc2, hf2, hz2⟩ := bcell hb2; (try simp only [szs] at hz2); try (first | obtain ⟨hy1, hy2, hy3, hy4⟩ := lts4 hz2 | obtain ⟨hy1, hy2, hy3⟩ := lts3 hz2 | obtain ⟨hy1, hy2⟩ := lts2 hz2 | have hy1 := lts1 hz2); have hb9 := hb1))
    go_ret
    exact ⟨ret_bool (by simp [hasChannel, live, hm, hl]), bel⟩
  · go_wp2_with (first | (go_at_call 71; refine (impl_MeshOk m _ _ _ (by exact Kd.C_below hr bel) hn).mono ?_; rintro e w1 ⟨rfl, hb1⟩; obtain ⟨hc1, hf1, hz1⟩ := bcell hb1; (try simp only [szs] at hz1); have hb2 := far2; obtain ⟨hc2, hf2, hz2⟩ := bcell hb2; (try simp only [szs] at hz2); try (first | obtain ⟨hy1, hy2, hy3, hy4⟩ := lts4 hz2 | obtain ⟨hy1, hy2, hy3⟩ := lts3 hz2 | obtain ⟨hy1, hy2⟩ := lts2 hz2 | have hy1 := lts1 hz2); have hb9 := hb1) | (go_at_call 80; refine (impl_leads m.g _ _).mono ?_; rintro e w1 ⟨rfl, hb1⟩; obtain ⟨hc1, hf1, hz1⟩ := bcell hb1; (try simp only [szs] at hz1); have hb2 := far2; obtain ⟨hc2, hf2, hz2⟩ := bcell hb2; (try simp only [szs] at hz2); try (first | obtain ⟨hy1, hy2, hy3, hy4⟩ := lts4 hz2 | obtain ⟨hy1, hy2, hy3⟩ := lts3 hz2 | obtain ⟨hy1, hy2⟩ := lts2 hz2 | have hy1 := lts1 hz2); have hb9 := hb1) | (go_at_call 88; refine (slices_Contains_int m.br x _ _ _ (by exact Kd.C_below hr bel) hn).mono ?_; rintro e w' ⟨rfl, rfl⟩))
    go_ret
    exact ⟨ret_bool (by simp [hasChannel, live, hm, hl]), bel⟩
theorem spec_l03Has (m : Mesh) (x : Int) (A : Option Addr) (c : Nat) (w : World) (hr : Kd.C (Kd.int .i64) w A m.br.length m.br) (hn : m.br.length ≤ 2097152) :
    Calls Try.prog 78 #[.agg #[.int .i64 m.g.w, .int .i64 m.g.h, .slice A m.br.length c], .int .i64 x] w fun e w' => e = .returned (.bool (live m x)) ∧ Below w.heap.size w w' := by
  go_enter Try.func78, Try.ntmps78
  cases hl : leads m.g x
  · go_wp2_with (go_at_call 84; refine (spec_l03Leads m.g _ _).mono ?_; rintro e w1 ⟨rfl, hb1⟩; obtain ⟨hc1, hf1, hz1⟩ := bcell hb1; (try simp only [szs] at hz1); have hb2 := far2; obtain ⟨hc2, hf2, hz2⟩ := bcell hb2; (try simp only [szs] at hz2); try (first | obtain ⟨hy1, hy2, hy3, hy4⟩ := lts4 hz2 | obtain ⟨hy1, hy2, hy3⟩ := lts3 hz2 | obtain ⟨hy1, hy2⟩ := lts2 hz2 | have hy1 := lts1 hz2); have hb9 := hb1)
    go_ret
    exact ⟨ret_bool (by simp [live, hl]), bel⟩
  · go_wp2_with (first | (go_at_call 84; refine (spec_l03Leads m.g _ _).mono ?_; rintro e w1 ⟨rfl, hb1⟩; obtain ⟨hc1, hf1, hz1⟩ := bcell hb1; (try simp only [szs] at hz1); have hb2 := far2; obtain ⟨hc2, hf2, hz2⟩ := bcell hb2; (try simp only [szs] at hz2); try (first | obtain ⟨hy1, hy2, hy3, hy4⟩ := lts4 hz2 | obtain ⟨hy1, hy2, hy3⟩ := lts3 hz2 | obtain ⟨hy1, hy2⟩ := lts2 hz2 | have hy1 := lts1 hz2); have hb9 := hb1) | (go_at_call 85; refine (spec_l03Find m.br x _ _ _ (by exact Kd.C_below hr bel) hn).mono ?_; rintro e w' ⟨rfl, rfl⟩))
    go_ret
    exact ⟨ret_bool (by simp [live, hl]), bel⟩
theorem impl_endOf (m : Mesh) (a p : Int) (A : Option Addr) (c : Nat) (w : World) (ha : isNode m.g a = true) (h0 : 0 ≤ p) (h3 : p ≤ 3) :
    Calls Try.prog 83 #[.agg #[.int .i64 m.g.w, .int .i64 m.g.h, .slice A m.br.length c], .int .i64 (4 * a + p)] w fun e w' => e = .returned (.int .i64 (nextNode m.g a p)) ∧ Below w.heap.size w w' := by
  obtain ⟨b1, b2, b3, b4⟩ := node_bounds ha
  have hd := (chan_div (a := a) h0 h3).1
  have hm := (chan_div (a := a) h0 h3).2
  go_enter Try.func83, Try.ntmps83
  go_wp2_with (go_at_call 87; refine (impl_NextNode m.g _ _ _).mono ?_; rintro e w1 ⟨rfl, hb1⟩; obtain ⟨hc1, hf1, hz1⟩ := bcell hb1; (try simp only [szs] at hz1); have hb2 := far2; obtain ⟨hc2, hf2, hz2⟩ := bcell hb2; (try simp only [szs] at hz2); try (first | obtain ⟨hy1, hy2, hy3, hy4⟩ := lts4 hz2 | obtain ⟨hy1, hy2, hy3⟩ := lts3 hz2 | obtain ⟨hy1, hy2⟩ := lts2 hz2 | have hy1 := lts1 hz2); have hb9 := hb1)
  go_ret
  exact ⟨rfl, bel⟩

theorem impl_PortAt (m : Mesh) (t : List Int) (a b : Int) (A B : Option Addr) (c d : Nat) (w : World) (hr : Kd.C (Kd.int .i64) w A m.br.length m.br) (hn : m.br.length ≤ 2097152) (ht : Kd.C (Kd.int .i64) w B t.length t) (hk : t.length ≤ 2097152) :
    Calls Try.prog 81 #[.agg #[.int .i64 m.g.w, .int .i64 m.g.h, .slice A m.br.length c], .agg #[.slice B t.length d], .int .i64 a, .int .i64 b] w fun e w' => e = .returned (.int .i64 (portAt m t a b)) ∧ Below w.heap.size w w' := by
  obtain ⟨n0, n1⟩ := count_le m.g
  go_enter Try.func81, Try.ntmps81
  cases hm : meshOk m
  · go_wp2_with (first | (go_at_call 36; refine (impl_NodeCount m.g _).mono ?_; rintro e w1 ⟨rfl, hb1⟩; obtain ⟨hc1, hf1, hz1⟩ := bcell hb1; (try simp only [szs] at hz1); have hb2 := far2; obtain ⟨hc2, hf2, hz2⟩ := bcell hb2; (try simp only [szs] at hz2); try (first | obtain ⟨hy1, hy2, hy3, hy4⟩ := lts4 hz2 | obtain ⟨hy1, hy2, hy3⟩ := lts3 hz2 | obtain ⟨hy1, hy2⟩ := lts2 hz2 | have hy1 := lts1 hz2); have hb9 := hb1) | (go_at_call 71; refine (impl_MeshOk m _ _ _ (by exact Kd.C_below hr bel) hn).mono ?_; rintro e w1 ⟨rfl, hb1⟩; obtain ⟨hc1, hf1, hz1⟩ := bcell hb1; (try simp only [szs] at hz1); have hb2 := far2; obtain ⟨hc2, hf2, hz2⟩ := bcell hb2; (try simp only [szs] at hz2); try (first | obtain ⟨hy1, hy2, hy3, hy4⟩ := lts4 hz2 | obtain ⟨hy1, hy2, hy3⟩ := lts3 hz2 | obtain ⟨hy1, hy2⟩ := lts2 hz2 | have hy1 := lts1 hz2); have hb9 := hb1))
    go_ret
    exact ⟨ret_int (by simp [portAt, sized, hm]), bel⟩
  cases ha : inside a 0 (nodeCount m.g - 1)
  · go_wp2_with (first | (go_at_call 36; refine (impl_NodeCount m.g _).mono ?_; rintro e w1 ⟨rfl, hb1⟩; obtain ⟨hc1, hf1, hz1⟩ := bcell hb1; (try simp only [szs] at hz1); have hb2 := far2; obtain ⟨hc2, hf2, hz2⟩ := bcell hb2; (try simp only [szs] at hz2); try (first | obtain ⟨hy1, hy2, hy3, hy4⟩ := lts4 hz2 | obtain ⟨hy1, hy2, hy3⟩ := lts3 hz2 | obtain ⟨hy1, hy2⟩ := lts2 hz2 | have hy1 := lts1 hz2); have hb9 := hb1) | (go_at_call 71; refine (impl_MeshOk m _ _ _ (by exact Kd.C_below hr bel) hn).mono ?_; rintro e w1 ⟨rfl, hb1⟩; obtain ⟨hc1, hf1, hz1⟩ := bcell hb1; (try simp only [szs] at hz1); have hb2 := far2; obtain ⟨hc2, hf2, hz2⟩ := bcell hb2; (try simp only [szs] at hz2); try (first | obtain ⟨hy1, hy2, hy3, hy4⟩ := lts4 hz2 | obtain ⟨hy1, hy2, hy3⟩ := lts3 hz2 | obtain ⟨hy1, hy2⟩ := lts2 hz2 | have hy1 := lts1 hz2); have hb9 := hb1) | (go_at_call 64; refine (impl_inside _ _ _ _).mono ?_; rintro e w' ⟨rfl, rfl⟩))
    go_ret
    exact ⟨ret_int (by simp [portAt, isNode, ha]), bel⟩
  cases hb : inside b 0 (nodeCount m.g - 1)
  · go_wp2_with (first | (go_at_call 36; refine (impl_NodeCount m.g _).mono ?_; rintro e w1 ⟨rfl, hb1⟩; obtain ⟨hc1, hf1, hz1⟩ := bcell hb1; (try simp only [szs] at hz1); have hb2 := far2; obtain ⟨hc2, hf2, hz2⟩ := bcell hb2; (try simp only [szs] at hz2); try (first | obtain ⟨hy1, hy2, hy3, hy4⟩ := lts4 hz2 | obtain ⟨hy1, hy2, hy3⟩ := lts3 hz2 | obtain ⟨hy1, hy2⟩ := lts2 hz2 | have hy1 := lts1 hz2); have hb9 := hb1) | (go_at_call 71; refine (impl_MeshOk m _ _ _ (by exact Kd.C_below hr bel) hn).mono ?_; rintro e w1 ⟨rfl, hb1⟩; obtain ⟨hc1, hf1, hz1⟩ := bcell hb1; (try simp only [szs] at hz1); have hb2 := far2; obtain ⟨hc2, hf2, hz2⟩ := bcell hb2; (try simp only [szs] at hz2); try (first | obtain ⟨hy1, hy2, hy3, hy4⟩ := lts4 hz2 | obtain ⟨hy1, hy2, hy3⟩ := lts3 hz2 | obtain ⟨hy1, hy2⟩ := lts2 hz2 | have hy1 := lts1 hz2); have hb9 := hb1) | (go_at_call 64; refine (impl_inside _ _ _ _).mono ?_; rintro e w' ⟨rfl, rfl⟩))
    go_ret
    exact ⟨ret_int (by simp [portAt, isNode, hb]), bel⟩
  obtain ⟨p1, p2, p3, p4⟩ := entry_place (g := m.g) (a := a) (b := b) ha hb
  have p5 : 0 ≤ nodeCount m.g * nodeCount m.g := by omega
  have p6 : nodeCount m.g * nodeCount m.g ≤ 256 := Int.mul_le_mul n1 n1 n0 (by omega)
  by_cases hs : (t.length : Int) = nodeCount m.g * nodeCount m.g
  · have e1 : ((t.length : Int) != nodeCount m.g * nodeCount m.g) = false := bne_eq_false_iff_eq.2 hs
    have q4 : a * nodeCount m.g + b < (t.length : Int) := by omega
    have HS := Lib.hid hs
    clear hs
    obtain ⟨bb, off, rfl, hbl, hx⟩ := rdI_at ht (a * nodeCount m.g + b).toNat (by omega)
    have hxe := hx (a * nodeCount m.g + b).toNat (by omega)
    obtain ⟨z1, z2, z3, z4, z5, z6⟩ := more hbl
    clear hx
    rw [Int.toNat_of_nonneg p3] at hxe
    have hen : entry m t a b = ri t (a * nodeCount m.g + b) := rfl
    have HEN := Lib.hid hen
    clear hen
    cases hi : inside (ri t (a * nodeCount m.g + b)) 0 4
    · go_wp2_with (first | (go_at_call 36; refine (impl_NodeCount m.g _).mono ?_; rintro e w1 ⟨rfl, hb1⟩; obtain ⟨hc1, hf1, hz1⟩ := bcell hb1; (try simp only [szs] at hz1); have hb2 := far2; obtain ⟨hc2, hf2, hz2⟩ := bcell hb2; (try simp only [szs] at hz2); try (first | obtain ⟨hy1, hy2, hy3, hy4⟩ := lts4 hz2 | obtain ⟨hy1, hy2, hy3⟩ := lts3 hz2 | obtain ⟨hy1, hy2⟩ := lts2 hz2 | have hy1 := lts1 hz2); have hb9 := hb1) | (go_at_call 71; refine (impl_MeshOk m _ _ _ (by exact Kd.C_below hr bel) hn).mono ?_; rintro e w1 ⟨rfl, hb1⟩; obtain ⟨hc1, hf1, hz1⟩ := bcell hb1; (try simp only [szs] at hz1); have hb2 := far2; obtain ⟨hc2, hf2, hz2⟩ := bcell hb2; (try simp only [szs] at hz2); try (first | obtain ⟨hy1, hy2, hy3, hy4⟩ := lts4 hz2 | obtain ⟨hy1, hy2, hy3⟩ := lts3 hz2 | obtain ⟨hy1, hy2⟩ := lts2 hz2 | have hy1 := lts1 hz2); have hb9 := hb1) | (go_at_call 64; refine (impl_inside _ _ _ _).mono ?_; rintro e w' ⟨rfl, rfl⟩))
      go_ret
      exact ⟨ret_int (by simp [portAt, HEN.out, hi]), bel⟩
    · go_wp2_with (first | (go_at_call 36; refine (impl_NodeCount m.g _).mono ?_; rintro e w1 ⟨rfl, hb1⟩; obtain ⟨hc1, hf1, hz1⟩ := bcell hb1; (try simp only [szs] at hz1); have hb2 := far2; obtain ⟨hc2, hf2, hz2⟩ := bcell hb2; (try simp only [szs] at hz2); try (first | obtain ⟨hy1, hy2, hy3, hy4⟩ := lts4 hz2 | obtain ⟨hy1, hy2, hy3⟩ := lts3 hz2 | obtain ⟨hy1, hy2⟩ := lts2 hz2 | have hy1 := lts1 hz2); have hb9 := hb1) | (go_at_call 71; refine (impl_MeshOk m _ _ _ (by exact Kd.C_below hr bel) hn).mono ?_; rintro e w1 ⟨rfl, hb1⟩; obtain ⟨hc1, hf1, hz1⟩ := bcell hb1; (try simp only [szs] at hz1); have hb2 := far2; obtain ⟨hc2, hf2, hz2⟩ := bcell hb2; (try simp only [szs] at hz2); try (first | obtain ⟨hy1, hy2, hy3, hy4⟩ := lts4 hz2 | obtain ⟨hy1, hy2, hy3⟩ := lts3 hz2 | obtain ⟨hy1, hy2⟩ := lts2 hz2 | have hy1 := lts1 hz2); have hb9 := hb1) | (go_at_call 64; refine (impl_inside _ _ _ _).mono ?_; rintro e w' ⟨rfl, rfl⟩))
      go_ret
      exact ⟨ret_int (by rw [portAt_eq (sized_iff.2 ⟨hm, HS.out⟩) ha hb, HEN.out, if_pos hi]), bel⟩
  · have e1 : ((t.length : Int) != nodeCount m.g * nodeCount m.g) = true := bne_iff_ne.2 hs
    have HS := Lib.hid hs
    clear hs
    go_wp2_with (first | (go_at_call 36; refine (impl_NodeCount m.g _).mono ?_; rintro e w1 ⟨rfl, hb1⟩; obtain ⟨hc1, hf1, hz1⟩ := bcell hb1; (try simp only [szs] at hz1); have hb2 := far2; obtain ⟨hc2, hf2, hz2⟩ := bcell hb2; (try simp only [szs] at hz2); try (first | obtain ⟨hy1, hy2, hy3, hy4⟩ := lts4 hz2 | obtain ⟨hy1, hy2, hy3⟩ := lts3 hz2 | obtain ⟨hy1, hy2⟩ := lts2 hz2 | have hy1 := lts1 hz2); have hb9 := hb1) | (go_at_call 71; refine (impl_MeshOk m _ _ _ (by exact Kd.C_below hr bel) hn).mono ?_; rintro e w1 ⟨rfl, hb1⟩; obtain ⟨hc1, hf1, hz1⟩ := bcell hb1; (try simp only [szs] at hz1); have hb2 := far2; obtain ⟨hc2, hf2, hz2⟩ := bcell hb2; (try simp only [szs] at hz2); try (first | obtain ⟨hy1, hy2, hy3, hy4⟩ := lts4 hz2 | obtain ⟨hy1, hy2, hy3⟩ := lts3 hz2 | obtain ⟨hy1, hy2⟩ := lts2 hz2 | have hy1 := lts1 hz2); have hb9 := hb1) | (go_at_call 64; refine (impl_inside _ _ _ _).mono ?_; rintro e w' ⟨rfl, rfl⟩))
    go_ret
    exact ⟨ret_int (by simp [portAt, sized, HS.out]), bel⟩
end Go.Proofs.Ytmkbmddgkdoaiaa
