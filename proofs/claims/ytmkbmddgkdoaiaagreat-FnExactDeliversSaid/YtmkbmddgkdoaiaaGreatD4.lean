/- Lemmas for laws of this seat, for all inputs: NX CpW M4 MN Scal Mesh. -/
import Derived.Test.YtmkbmddgkdoaiaaGreatD3
import Derived.ArgAppend
import Derived.Deep.Upon
import Derived.Test.YtmkbmddgkdoaiaaGreatProg
set_option linter.unusedVariables false
set_option linter.unusedSimpArgs false
namespace Go.Proofs.YtmkbmddgkdoaiaaGreat
open Go.RowKit Go.Proofs.YtmkbmddgkdoaiaaGreatW.PrintWords
open NoC
def BlkT (w : World) (g t : Nat) : Prop := ∃ cells, w.heap[g]? = some (.cells cells t (0, 0))
theorem BlkT.below {w w1 : World} {g t : Nat} (h : BlkT w g t) (hb : Below w.heap.size w w1) : BlkT w1 g t := let ⟨c, hc⟩ := h; ⟨c, blk_below hc hb⟩
theorem BlkT.set {w : World} {g t : Nat} (h : BlkT w g t) (b o : Nat) (u : Value) : BlkT (w.setCell ⟨b, o, none⟩ u) g t := by
  obtain ⟨c, hc⟩ := h
  by_cases e : g = b
  · subst e; exact ⟨_, blk_set hc o u⟩
  · exact ⟨c, blk_far (p := ⟨b, o, none⟩) hc e u⟩
structure FR (w : World) (lo : Nat) (vs : List Value) (l : List (List Flit)) : Prop where
  len : vs.length = l.length
  row : ∀ i : Nat, i < l.length → kF.R 121 w lo (fun _ => True) (vr vs i) (rl l i)
  ap : ∀ i j : Nat, i < j → j < l.length → Apart (vr vs i) (vr vs j)
theorem FR.ap' {w : World} {lo : Nat} {vs : List Value} {l : List (List Flit)} (h : FR w lo vs l) {i j : Nat} (hne : i ≠ j) (hi : i < l.length) (hj : j < l.length) : Apart (vr vs i) (vr vs j) := by
  rcases Nat.lt_or_gt_of_ne hne with h1 | h1
  · exact h.ap i j h1 hj
  · exact apart_comm (h.ap j i h1 hi)
theorem FR.below {w w1 : World} {lo : Nat} {vs : List Value} {l : List (List Flit)} (h : FR w lo vs l) (hb : Below w.heap.size w w1) : FR w1 lo vs l := ⟨h.len, fun i hi => Kd.R_below (h.row i hi) hb, h.ap⟩
theorem FR.lower {w : World} {lo lo' : Nat} {vs : List Value} {l : List (List Flit)} (h : FR w lo vs l) (hl : lo' ≤ lo) : FR w lo' vs l := ⟨h.len, fun i hi => Kd.R_lower (h.row i hi) hl, h.ap⟩
theorem FR.typed {w : World} {lo : Nat} {vs : List Value} {l : List (List Flit)} (h : FR w lo vs l) {g t : Nat} (hb : BlkT w g t) (ht : 121 ≠ t) (j : Nat) (u : Value) : FR (w.setCell ⟨g, j, none⟩ u) lo vs l := by
  obtain ⟨c, hc⟩ := hb
  refine ⟨h.len, fun i hi => Kd.R_set (h.row i hi) hc (fun q hq => ?_) j u, h.ap⟩
  have e : q = 121 := by simpa [kF, Kd.flat] using hq
  rw [e]
  exact ht
def Anew (w : World) (u v : Value) : Prop := u.ownBlock = none ∨ u.ownBlock = v.ownBlock ∨ ∃ b, u.ownBlock = some b ∧ w.heap.size ≤ b
theorem FR.upd {w w1 : World} {lo : Nat} {vs : List Value} {l : List (List Flit)} (h : FR w lo vs l) (k : Nat) (hk : k < l.length) (hg : w.grownBy w1 (vr vs k).ownBlock) {u : Value} {y : List Flit} (hu : kF.R 121 w1 lo (fun _ => True) u y) (hat : Anew w u (vr vs k)) : FR w1 lo (vs.set k u) (l.set k y) := by
  have hl := h.len
  have other : ∀ i : Nat, i < l.length → i ≠ k → Apart (vr vs i) u := by
    intro i hi hne
    have ha := h.ap' hne hi hk
    rcases hat with h1 | h1 | ⟨b, h1, h2⟩
    · exact apart_comm (.inl h1)
    · unfold Apart at ha ⊢
      rwa [h1]
    · have hw := within_R (h.row i hi)
      cases e : (vr vs i).ownBlock with
      | none => exact .inl e
      | some g =>
        right
        rw [h1, e]
        intro e2
        have := hw g e
        have := Option.some.inj e2
        omega
  refine ⟨by rw [List.length_set, List.length_set, hl], fun i hi => ?_, fun i j hij hj => ?_⟩
  · rw [List.length_set] at hi
    rw [vr_set (by omega), set_getB hk i hi]
    by_cases e : i = k
    · subst e
      rw [if_pos rfl, if_pos rfl]
      exact hu
    · rw [if_neg e, if_neg (fun h => e h.symm)]
      exact R_grownF (h.row i hi) hg (h.ap' e hi hk)
  · rw [List.length_set] at hj
    rw [vr_set (by omega), vr_set (by omega)]
    by_cases e1 : i = k
    · rw [if_pos e1, if_neg (by omega)]
      exact apart_comm (other j hj (by omega))
    · rw [if_neg e1]
      by_cases e2 : j = k
      · rw [if_pos e2]
        exact other i (by omega) e1
      · rw [if_neg e2]
        exact h.ap i j hij hj
structure NB (n : Net) : Prop where
  h1 : n.mesh.br.length ≤ 2097152
  h2 : n.pa.length ≤ 2097152
  h3 : n.pb.length ≤ 2097152
  h4 : n.bufs.length ≤ 2097152
  h5 : n.owners.length ≤ 2097152
  h6 : n.turns.length ≤ 2097152
  h7 : n.srcs.length ≤ 2097152
  h8 : n.arrs.length ≤ 2097152
  h9 : ∀ l ∈ n.bufs, l.length ≤ 2097152
  h10 : ∀ l ∈ n.srcs, l.length ≤ 2097152
  h11 : ∀ l ∈ n.arrs, l.length ≤ 2097152
theorem NetR.nb {e : Nat} {w : World} {n : Net} {q : NA} (k : NetR e w n q) : NB n := ⟨k.h1, k.h2, k.h3, k.h4, k.h5, k.h6, k.h7, k.h8, k.h9, k.h10, k.h11⟩
def iv (n : Net) (q : NA) : List Value := [.slice q.a1 n.mesh.br.length q.c1, .slice q.a2 n.pa.length q.c2, .slice q.a3 n.pb.length q.c3, .slice q.a5 n.owners.length q.c5, .slice q.a6 n.turns.length q.c6]
def ov (n : Net) (q : NA) : List Value := [.slice q.a4 n.bufs.length q.c4, .slice q.a7 n.srcs.length q.c7, .slice q.a8 n.arrs.length q.c8]
def AllAp (m : Nat) (vs : List Value) : Prop := ∀ i j : Nat, i < j → j < m → Apart (vr vs i) (vr vs j)
theorem AllAp.of {m : Nat} {vs : List Value} (h : AllAp m vs) {i j : Nat} (hne : i ≠ j) (hi : i < m) (hj : j < m) : Apart (vr vs i) (vr vs j) := by
  rcases Nat.lt_or_gt_of_ne hne with h1 | h1
  · exact h i j h1 hj
  · exact apart_comm (h j i h1 hi)
def vlen : Value → Nat
  | .slice _ n _ => n
  | _ => 0
def Ap0 (u v : Value) : Prop := vlen u = 0 ∨ vlen v = 0 ∨ Apart u v
theorem Ap0.comm {u v : Value} (h : Ap0 u v) : Ap0 v u := by
  rcases h with h | h | h
  · exact .inr (.inl h)
  · exact .inl h
  · exact .inr (.inr (apart_comm h))
def AllAp0 (m : Nat) (vs : List Value) : Prop := ∀ i j : Nat, i < j → j < m → Ap0 (vr vs i) (vr vs j)
theorem AllAp0.of {m : Nat} {vs : List Value} (h : AllAp0 m vs) {i j : Nat} (hne : i ≠ j) (hi : i < m) (hj : j < m) : Ap0 (vr vs i) (vr vs j) := by
  rcases Nat.lt_or_gt_of_ne hne with h1 | h1
  · exact h i j h1 hj
  · exact (h j i h1 hi).comm
theorem R_empty_set {w : World} {lo e g k c : Nat} {A : Option Addr} (h : Kd.R (Kd.int .i64) e w lo (fun _ => True) (.slice A 0 c) []) (u : Value) : Kd.R (Kd.int .i64) e (w.setCell ⟨g, k, none⟩ u) lo (fun _ => True) (.slice A 0 c) [] := by
  obtain ⟨_, inner, ho, hr⟩ := h
  have hi : inner = [] := List.eq_nil_of_length_eq_zero (by have := ho.1; simpa using this)
  subst hi
  refine ⟨fun _ _ => trivial, [], ?_, Reps.none _ _⟩
  by_cases e2 : some g = (Value.slice A 0 c).ownBlock
  · rcases ho.2 with ⟨e3, _⟩ | ⟨g', cap, cur, e3, hb, hc, h1, h2, h3, h4⟩
    · rw [e3] at e2; simp [Value.ownBlock] at e2
    · rw [e3] at e2
      simp only [Value.ownBlock, Option.some.injEq] at e2
      subst e2
      rw [e3]
      exact ⟨by simp, .inr ⟨g, cap, cur.setIfInBounds k u, rfl, hb, blk_set hc k u, h1, h2, by simp [h3], by simp⟩⟩
  · exact own_setCell ho (p := ⟨g, k, none⟩) e2 u
structure NX (w : World) (lo : Nat) (n : Net) (q : NA) (v4 v7 v8 : List Value) : Prop where
  br : Kd.R (Kd.int .i64) 3 w lo (fun _ => True) (.slice q.a1 n.mesh.br.length q.c1) n.mesh.br
  pa : Kd.R (Kd.int .i64) 3 w lo (fun _ => True) (.slice q.a2 n.pa.length q.c2) n.pa
  pb : Kd.R (Kd.int .i64) 3 w lo (fun _ => True) (.slice q.a3 n.pb.length q.c3) n.pb
  owners : Kd.R (Kd.int .i64) 3 w lo (fun _ => True) (.slice q.a5 n.owners.length q.c5) n.owners
  turns : Kd.R (Kd.int .i64) 3 w lo (fun _ => True) (.slice q.a6 n.turns.length q.c6) n.turns
  bufs : w.ownsRow lo 108 1 (.slice q.a4 n.bufs.length q.c4) n.bufs.length v4
  srcs : w.ownsRow lo 108 1 (.slice q.a7 n.srcs.length q.c7) n.srcs.length v7
  arrs : w.ownsRow lo 108 1 (.slice q.a8 n.arrs.length q.c8) n.arrs.length v8
  rows : FR w lo (v4 ++ (v7 ++ v8)) (n.bufs ++ (n.srcs ++ n.arrs))
  apI : AllAp0 5 (iv n q)
  apO : AllAp 3 (ov n q)
section
variable {w w1 : World} {lo : Nat} {n : Net} {q : NA} {v4 v7 v8 : List Value}
theorem NX.l4 (h : NX w lo n q v4 v7 v8) : v4.length = n.bufs.length := by have := h.bufs.1; omega
theorem NX.l7 (h : NX w lo n q v4 v7 v8) : v7.length = n.srcs.length := by have := h.srcs.1; omega
theorem NX.l8 (h : NX w lo n q v4 v7 v8) : v8.length = n.arrs.length := by have := h.arrs.1; omega
theorem vr_left {a b : List Value} {i : Nat} (h : i < a.length) : vr (a ++ b) i = vr a i := by simp [vr, List.getD_eq_getElem?_getD, List.getElem?_append, h]
theorem vr_right {a b : List Value} {i : Nat} : vr (a ++ b) (a.length + i) = vr b i := by
  have h : ¬ a.length + i < a.length := by omega
  simp [vr, List.getD_eq_getElem?_getD, List.getElem?_append, h]
theorem rl_left {a b : List (List Flit)} {i : Nat} (h : i < a.length) : rl (a ++ b) i = rl a i := by simp [rl, List.getD_eq_getElem?_getD, List.getElem?_append, h]
theorem rl_right {a b : List (List Flit)} {i : Nat} : rl (a ++ b) ((a.length + i : Nat) : Int) = rl b i := by
  have h : ¬ a.length + i < a.length := by omega
  simp only [rl, Int.toNat_natCast]
  simp [List.getD_eq_getElem?_getD, List.getElem?_append, h]
theorem set_mid {α : Type} (a b c : List α) (k : Nat) (u : α) (hk : k < b.length) : (a ++ (b ++ c)).set (a.length + k) u = a ++ (b.set k u ++ c) := by
  rw [List.set_append_right _ _ (by omega), Nat.add_sub_cancel_left, List.set_append_left _ _ hk]
theorem set_end {α : Type} (a b c : List α) (k : Nat) (u : α) : (a ++ (b ++ c)).set (a.length + (b.length + k)) u = a ++ (b ++ c.set k u) := by
  rw [List.set_append_right _ _ (by omega), Nat.add_sub_cancel_left, List.set_append_right _ _ (by omega), Nat.add_sub_cancel_left]
theorem NX.row4 (h : NX w lo n q v4 v7 v8) (k : Nat) (hk : k < n.bufs.length) : kF.R 121 w lo (fun _ => True) (vr v4 k) (rl n.bufs k) := by
  have := h.rows.row k (by simp; omega)
  rwa [vr_left (by rw [h.l4]; exact hk), rl_left hk] at this
theorem NX.row7 (h : NX w lo n q v4 v7 v8) (k : Nat) (hk : k < n.srcs.length) : kF.R 121 w lo (fun _ => True) (vr v7 k) (rl n.srcs k) := by
  have := h.rows.row (n.bufs.length + k) (by simp; omega)
  rw [rl_right, ← h.l4, vr_right] at this
  rwa [vr_left (by rw [h.l7]; exact hk), rl_left hk] at this
theorem NX.row8 (h : NX w lo n q v4 v7 v8) (k : Nat) (hk : k < n.arrs.length) : kF.R 121 w lo (fun _ => True) (vr v8 k) (rl n.arrs k) := by
  have := h.rows.row (n.bufs.length + (n.srcs.length + k)) (by simp; omega)
  rw [rl_right, rl_right, ← h.l4, vr_right, ← h.l7, vr_right] at this
  exact this
theorem NX.below (h : NX w lo n q v4 v7 v8) (hb : Below w.heap.size w w1) : NX w1 lo n q v4 v7 v8 :=
  ⟨Kd.R_below h.br hb, Kd.R_below h.pa hb, Kd.R_below h.pb hb, Kd.R_below h.owners hb, Kd.R_below h.turns hb, pw_own_below h.bufs hb, pw_own_below h.srcs hb, pw_own_below h.arrs hb, h.rows.below hb, h.apI, h.apO⟩
theorem NX.lower (h : NX w lo n q v4 v7 v8) {lo' : Nat} (hl : lo' ≤ lo) : NX w lo' n q v4 v7 v8 :=
  ⟨Kd.R_lower h.br hl, Kd.R_lower h.pa hl, Kd.R_lower h.pb hl, Kd.R_lower h.owners hl, Kd.R_lower h.turns hl, own_weaken h.bufs hl, own_weaken h.srcs hl, own_weaken h.arrs hl, h.rows.lower hl, h.apI, h.apO⟩
theorem NX.typed (h : NX w lo n q v4 v7 v8) {g t : Nat} (hb : BlkT w g t) (h1 : 3 ≠ t) (h2 : 108 ≠ t) (h3 : 121 ≠ t) (j : Nat) (u : Value) : NX (w.setCell ⟨g, j, none⟩ u) lo n q v4 v7 v8 := by
  have hb' := hb
  obtain ⟨c, hc⟩ := hb
  have hI : ∀ x, x ∈ 3 :: (Kd.int .i64).E → x ≠ t := fun x hx => by
    have e : x = 3 := by simpa [Kd.int, Kd.scalar] using hx
    rw [e]
    exact h1
  exact ⟨Kd.R_set h.br hc hI j u, Kd.R_set h.pa hc hI j u, Kd.R_set h.pb hc hI j u, Kd.R_set h.owners hc hI j u, Kd.R_set h.turns hc hI j u, own_setCell h.bufs (p := ⟨g, j, none⟩) (own_ne h.bufs hc h2) u, own_setCell h.srcs (p := ⟨g, j, none⟩) (own_ne h.srcs hc h2) u, own_setCell h.arrs (p := ⟨g, j, none⟩) (own_ne h.arrs hc h2) u, h.rows.typed hb' h3 j u, h.apI, h.apO⟩
theorem NX.kept (h : NX w lo n q v4 v7 v8) {k : Nat} (hk : k < (n.bufs ++ (n.srcs ++ n.arrs)).length) (hg : w.grownBy w1 (vr (v4 ++ (v7 ++ v8)) k).ownBlock) : Kd.R (Kd.int .i64) 3 w1 lo (fun _ => True) (.slice q.a1 n.mesh.br.length q.c1) n.mesh.br ∧ Kd.R (Kd.int .i64) 3 w1 lo (fun _ => True) (.slice q.a2 n.pa.length q.c2) n.pa ∧ Kd.R (Kd.int .i64) 3 w1 lo (fun _ => True) (.slice q.a3 n.pb.length q.c3) n.pb ∧ Kd.R (Kd.int .i64) 3 w1 lo (fun _ => True) (.slice q.a5 n.owners.length q.c5) n.owners ∧ Kd.R (Kd.int .i64) 3 w1 lo (fun _ => True) (.slice q.a6 n.turns.length q.c6) n.turns ∧ w1.ownsRow lo 108 1 (.slice q.a4 n.bufs.length q.c4) n.bufs.length v4 ∧ w1.ownsRow lo 108 1 (.slice q.a7 n.srcs.length q.c7) n.srcs.length v7 ∧ w1.ownsRow lo 108 1 (.slice q.a8 n.arrs.length q.c8) n.arrs.length v8 := by
  obtain ⟨inner, hin⟩ := Kd.R_own (h.rows.row k hk)
  have keepI : ∀ {v : Value} {xs : List Int}, Kd.R (Kd.int .i64) 3 w lo (fun _ => True) v xs → Kd.R (Kd.int .i64) 3 w1 lo (fun _ => True) v xs := fun hr => by
    obtain ⟨i2, hi2⟩ := Kd.R_own hr
    exact R_grownI hr hg (own_type_ne hi2 hin (by decide))
  exact ⟨keepI h.br, keepI h.pa, keepI h.pb, keepI h.owners, keepI h.turns, own_other h.bufs hg (own_type_ne h.bufs hin (by decide)), own_other h.srcs hg (own_type_ne h.srcs hin (by decide)), own_other h.arrs hg (own_type_ne h.arrs hin (by decide))⟩
theorem own_put {W : World} {base g m cap k : Nat} {vs : List Value} (h : W.ownsRow base 108 1 (.slice (some ⟨g, 0, none⟩) m cap) m vs) (u : Value) : (W.setCell ⟨g, k, none⟩ u).ownsRow base 108 1 (.slice (some ⟨g, 0, none⟩) m cap) m (vs.set k u) := (h.stored k u).1
theorem NX.setBuf {g : Nat} (h : NX w lo n q v4 v7 v8) (ea : q.a4 = some ⟨g, 0, none⟩) (k : Nat) (hk : k < n.bufs.length) (hg : w.grownBy w1 (vr v4 k).ownBlock) {u : Value} {y : List Flit} (hu : kF.R 121 w1 lo (fun _ => True) u y) (hat : Anew w u (vr v4 k)) :
    NX (w1.setCell ⟨g, k, none⟩ u) lo { n with bufs := n.bufs.set k y } q (v4.set k u) v7 v8 := by
  have e1 : vr (v4 ++ (v7 ++ v8)) k = vr v4 k := vr_left (by rw [h.l4]; exact hk)
  have hk2 : k < (n.bufs ++ (n.srcs ++ n.arrs)).length := by simp; omega
  obtain ⟨i1, i2, i3, i4, i5, o4, o7, o8⟩ := h.kept hk2 (by rw [e1]; exact hg)
  have hb : BlkT w1 g 108 := own_typed o4 g (by rw [ea]; rfl)
  obtain ⟨c, hc⟩ := hb
  have hI : ∀ x, x ∈ 3 :: (Kd.int .i64).E → x ≠ 108 := fun x hx => by
    have e : x = 3 := by simpa [Kd.int, Kd.scalar] using hx
    rw [e]
    decide
  have hF := h.rows.upd k hk2 (by rw [e1]; exact hg) hu (by rw [e1]; exact hat)
  rw [List.set_append_left _ _ (by rw [h.l4]; exact hk), List.set_append_left _ _ hk] at hF
  have a7 : some g ≠ (Value.slice q.a7 n.srcs.length q.c7).ownBlock := by
    have := h.apO 0 1 (by omega) (by omega)
    rcases this with h0 | h0
    · rw [show vr (ov n q) 0 = .slice q.a4 n.bufs.length q.c4 from rfl, ea] at h0; cases h0
    · rw [show vr (ov n q) 0 = .slice q.a4 n.bufs.length q.c4 from rfl, ea] at h0
      exact h0
  have a8 : some g ≠ (Value.slice q.a8 n.arrs.length q.c8).ownBlock := by
    have := h.apO 0 2 (by omega) (by omega)
    rcases this with h0 | h0
    · rw [show vr (ov n q) 0 = .slice q.a4 n.bufs.length q.c4 from rfl, ea] at h0; cases h0
    · rw [show vr (ov n q) 0 = .slice q.a4 n.bufs.length q.c4 from rfl, ea] at h0
      exact h0
  refine ⟨Kd.R_set i1 hc hI k u, Kd.R_set i2 hc hI k u, Kd.R_set i3 hc hI k u, Kd.R_set i4 hc hI k u, Kd.R_set i5 hc hI k u, ?_, own_setCell o7 (p := ⟨g, k, none⟩) a7 u, own_setCell o8 (p := ⟨g, k, none⟩) a8 u, hF.typed ⟨c, hc⟩ (by decide) k u, h.apI, ?_⟩
  · rw [ea] at o4 ⊢
    simp only [List.length_set]
    exact own_put o4 u
  · have : ov { n with bufs := n.bufs.set k y } q = ov n q := by simp [ov]
    rw [this]
    exact h.apO
theorem NX.setSrc {g : Nat} (h : NX w lo n q v4 v7 v8) (ea : q.a7 = some ⟨g, 0, none⟩) (k : Nat) (hk : k < n.srcs.length) (hg : w.grownBy w1 (vr v7 k).ownBlock) {u : Value} {y : List Flit} (hu : kF.R 121 w1 lo (fun _ => True) u y) (hat : Anew w u (vr v7 k)) :
    NX (w1.setCell ⟨g, k, none⟩ u) lo { n with srcs := n.srcs.set k y } q v4 (v7.set k u) v8 := by
  have e1 : vr (v4 ++ (v7 ++ v8)) (n.bufs.length + k) = vr v7 k := by rw [← h.l4, vr_right, vr_left (by rw [h.l7]; exact hk)]
  have hk2 : n.bufs.length + k < (n.bufs ++ (n.srcs ++ n.arrs)).length := by simp; omega
  obtain ⟨i1, i2, i3, i4, i5, o4, o7, o8⟩ := h.kept hk2 (by rw [e1]; exact hg)
  obtain ⟨c, hc⟩ := own_typed o7 g (by rw [ea]; rfl)
  have hI : ∀ x, x ∈ 3 :: (Kd.int .i64).E → x ≠ 108 := fun x hx => by
    have e : x = 3 := by simpa [Kd.int, Kd.scalar] using hx
    rw [e]
    decide
  have hF := h.rows.upd (n.bufs.length + k) hk2 (by rw [e1]; exact hg) hu (by rw [e1]; exact hat)
  rw [set_mid n.bufs n.srcs n.arrs k y hk, show (v4 ++ (v7 ++ v8)).set (n.bufs.length + k) u = v4 ++ (v7.set k u ++ v8) by rw [← h.l4]; exact set_mid _ _ _ _ _ (by rw [h.l7]; exact hk)] at hF
  have a4 : some g ≠ (Value.slice q.a4 n.bufs.length q.c4).ownBlock := by
    have := h.apO.of (i := 1) (j := 0) (by omega) (by omega) (by omega)
    rcases this with h0 | h0
    · rw [show vr (ov n q) 1 = .slice q.a7 n.srcs.length q.c7 from rfl, ea] at h0; cases h0
    · rw [show vr (ov n q) 1 = .slice q.a7 n.srcs.length q.c7 from rfl, ea] at h0
      exact h0
  have a8 : some g ≠ (Value.slice q.a8 n.arrs.length q.c8).ownBlock := by
    have := h.apO 1 2 (by omega) (by omega)
    rcases this with h0 | h0
    · rw [show vr (ov n q) 1 = .slice q.a7 n.srcs.length q.c7 from rfl, ea] at h0; cases h0
    · rw [show vr (ov n q) 1 = .slice q.a7 n.srcs.length q.c7 from rfl, ea] at h0
      exact h0
  refine ⟨Kd.R_set i1 hc hI k u, Kd.R_set i2 hc hI k u, Kd.R_set i3 hc hI k u, Kd.R_set i4 hc hI k u, Kd.R_set i5 hc hI k u, own_setCell o4 (p := ⟨g, k, none⟩) a4 u, ?_, own_setCell o8 (p := ⟨g, k, none⟩) a8 u, hF.typed ⟨c, hc⟩ (by decide) k u, h.apI, ?_⟩
  · rw [ea] at o7 ⊢
    simp only [List.length_set]
    exact own_put o7 u
  · have : ov { n with srcs := n.srcs.set k y } q = ov n q := by simp [ov]
    rw [this]
    exact h.apO
theorem NX.setArr {g : Nat} (h : NX w lo n q v4 v7 v8) (ea : q.a8 = some ⟨g, 0, none⟩) (k : Nat) (hk : k < n.arrs.length) (hg : w.grownBy w1 (vr v8 k).ownBlock) {u : Value} {y : List Flit} (hu : kF.R 121 w1 lo (fun _ => True) u y) (hat : Anew w u (vr v8 k)) :
    NX (w1.setCell ⟨g, k, none⟩ u) lo { n with arrs := n.arrs.set k y } q v4 v7 (v8.set k u) := by
  have e1 : vr (v4 ++ (v7 ++ v8)) (n.bufs.length + (n.srcs.length + k)) = vr v8 k := by rw [← h.l4, vr_right, ← h.l7, vr_right]
  have hk2 : n.bufs.length + (n.srcs.length + k) < (n.bufs ++ (n.srcs ++ n.arrs)).length := by simp; omega
  obtain ⟨i1, i2, i3, i4, i5, o4, o7, o8⟩ := h.kept hk2 (by rw [e1]; exact hg)
  obtain ⟨c, hc⟩ := own_typed o8 g (by rw [ea]; rfl)
  have hI : ∀ x, x ∈ 3 :: (Kd.int .i64).E → x ≠ 108 := fun x hx => by
    have e : x = 3 := by simpa [Kd.int, Kd.scalar] using hx
    rw [e]
    decide
  have hF := h.rows.upd (n.bufs.length + (n.srcs.length + k)) hk2 (by rw [e1]; exact hg) hu (by rw [e1]; exact hat)
  rw [set_end n.bufs n.srcs n.arrs k y, show (v4 ++ (v7 ++ v8)).set (n.bufs.length + (n.srcs.length + k)) u = v4 ++ (v7 ++ v8.set k u) by rw [← h.l4, ← h.l7]; exact set_end _ _ _ _ _] at hF
  have a4 : some g ≠ (Value.slice q.a4 n.bufs.length q.c4).ownBlock := by
    have := h.apO.of (i := 2) (j := 0) (by omega) (by omega) (by omega)
    rcases this with h0 | h0
    · rw [show vr (ov n q) 2 = .slice q.a8 n.arrs.length q.c8 from rfl, ea] at h0; cases h0
    · rw [show vr (ov n q) 2 = .slice q.a8 n.arrs.length q.c8 from rfl, ea] at h0
      exact h0
  have a7 : some g ≠ (Value.slice q.a7 n.srcs.length q.c7).ownBlock := by
    have := h.apO.of (i := 2) (j := 1) (by omega) (by omega) (by omega)
    rcases this with h0 | h0
    · rw [show vr (ov n q) 2 = .slice q.a8 n.arrs.length q.c8 from rfl, ea] at h0; cases h0
    · rw [show vr (ov n q) 2 = .slice q.a8 n.arrs.length q.c8 from rfl, ea] at h0
      exact h0
  refine ⟨Kd.R_set i1 hc hI k u, Kd.R_set i2 hc hI k u, Kd.R_set i3 hc hI k u, Kd.R_set i4 hc hI k u, Kd.R_set i5 hc hI k u, own_setCell o4 (p := ⟨g, k, none⟩) a4 u, own_setCell o7 (p := ⟨g, k, none⟩) a7 u, ?_, hF.typed ⟨c, hc⟩ (by decide) k u, h.apI, ?_⟩
  · rw [ea] at o8 ⊢
    simp only [List.length_set]
    exact own_put o8 u
  · have : ov { n with arrs := n.arrs.set k y } q = ov n q := by simp [ov]
    rw [this]
    exact h.apO
theorem NX.ints (h : NX w lo n q v4 v7 v8) {g i : Nat} (hi : i < 5) (eg : (vr (iv n q) i).ownBlock = some g) (hl : vlen (vr (iv n q) i) ≠ 0) (hb : BlkT w g 3) (k : Nat) (u : Value) :
    (∀ j, j < 5 → j ≠ i → ∀ (A : Option Addr) (m c : Nat) (xs : List Int), vr (iv n q) j = .slice A m c → Kd.R (Kd.int .i64) 3 w lo (fun _ => True) (.slice A m c) xs → Kd.R (Kd.int .i64) 3 (w.setCell ⟨g, k, none⟩ u) lo (fun _ => True) (.slice A m c) xs) ∧ (w.setCell ⟨g, k, none⟩ u).ownsRow lo 108 1 (.slice q.a4 n.bufs.length q.c4) n.bufs.length v4 ∧ (w.setCell ⟨g, k, none⟩ u).ownsRow lo 108 1 (.slice q.a7 n.srcs.length q.c7) n.srcs.length v7 ∧ (w.setCell ⟨g, k, none⟩ u).ownsRow lo 108 1 (.slice q.a8 n.arrs.length q.c8) n.arrs.length v8 ∧ FR (w.setCell ⟨g, k, none⟩ u) lo (v4 ++ (v7 ++ v8)) (n.bufs ++ (n.srcs ++ n.arrs)) := by
  have hb' := hb
  obtain ⟨c, hc⟩ := hb
  refine ⟨fun j hj hne A m cc xs ev hr => ?_, own_setCell h.bufs (p := ⟨g, k, none⟩) (own_ne h.bufs hc (by decide)) u, own_setCell h.srcs (p := ⟨g, k, none⟩) (own_ne h.srcs hc (by decide)) u, own_setCell h.arrs (p := ⟨g, k, none⟩) (own_ne h.arrs hc (by decide)) u, h.rows.typed hb' (by decide) k u⟩
  have ha := h.apI.of hne hj hi
  rw [ev] at ha
  rcases ha with h0 | h0 | ha
  · have hm := (Kd.R_rowX hr).1
    have e0 : m = 0 := h0
    subst e0
    obtain rfl : xs = [] := List.eq_nil_of_length_eq_zero hm.symm
    exact R_empty_set hr u
  · exact absurd h0 hl
  · refine Kd.R_mono (Kd.R_far (p := ⟨g, k, none⟩) (ok := fun x => x ≠ g) ?_ (fun x hx => hx) u) (fun _ _ => trivial)
    obtain ⟨_, inner, ho, hrr⟩ := hr
    refine ⟨fun x hx => ?_, inner, ho, hrr⟩
    rcases ha with h0 | h0
    · rw [h0] at hx; cases hx
    · intro e
      subst e
      exact h0 (hx.trans eg.symm)
theorem NX.setOwner {g : Nat} (h : NX w lo n q v4 v7 v8) (ea : q.a5 = some ⟨g, 0, none⟩) (k : Nat) (hk : k < n.owners.length) (x : Int) : NX (w.setCell ⟨g, k, none⟩ (.int .i64 x)) lo { n with owners := n.owners.set k x } q v4 v7 v8 := by
  have ho := h.owners
  rw [ea] at ho
  have hb : BlkT w g 3 := by obtain ⟨i, hin⟩ := Kd.R_own ho; exact own_typed hin g rfl
  obtain ⟨hI, o4, o7, o8, hF⟩ := h.ints (i := 3) (by omega) (g := g) (by show (Value.slice q.a5 n.owners.length q.c5).ownBlock = some g; rw [ea]; rfl) (by show n.owners.length ≠ 0; omega) hb k (.int .i64 x)
  refine ⟨hI 0 (by omega) (by omega) _ _ _ _ rfl h.br, hI 1 (by omega) (by omega) _ _ _ _ rfl h.pa, hI 2 (by omega) (by omega) _ _ _ _ rfl h.pb, ?_, hI 4 (by omega) (by omega) _ _ _ _ rfl h.turns, o4, o7, o8, hF, ?_, h.apO⟩
  · rw [ea]
    simp only [List.length_set]
    exact rowI_set ho k x
  · have : iv { n with owners := n.owners.set k x } q = iv n q := by simp [iv]
    rw [this]
    exact h.apI
theorem NX.setTurn {g : Nat} (h : NX w lo n q v4 v7 v8) (ea : q.a6 = some ⟨g, 0, none⟩) (k : Nat) (hk : k < n.turns.length) (x : Int) : NX (w.setCell ⟨g, k, none⟩ (.int .i64 x)) lo { n with turns := n.turns.set k x } q v4 v7 v8 := by
  have ho := h.turns
  rw [ea] at ho
  have hb : BlkT w g 3 := by obtain ⟨i, hin⟩ := Kd.R_own ho; exact own_typed hin g rfl
  obtain ⟨hI, o4, o7, o8, hF⟩ := h.ints (i := 4) (by omega) (g := g) (by show (Value.slice q.a6 n.turns.length q.c6).ownBlock = some g; rw [ea]; rfl) (by show n.turns.length ≠ 0; omega) hb k (.int .i64 x)
  refine ⟨hI 0 (by omega) (by omega) _ _ _ _ rfl h.br, hI 1 (by omega) (by omega) _ _ _ _ rfl h.pa, hI 2 (by omega) (by omega) _ _ _ _ rfl h.pb, hI 3 (by omega) (by omega) _ _ _ _ rfl h.owners, ?_, o4, o7, o8, hF, ?_, h.apO⟩
  · rw [ea]
    simp only [List.length_set]
    exact rowI_set ho k x
  · have : iv { n with turns := n.turns.set k x } q = iv n q := by simp [iv]
    rw [this]
    exact h.apI
theorem NX.time (h : NX w lo n q v4 v7 v8) (t : Int) : NX w lo { n with time := t } q v4 v7 v8 := ⟨h.br, h.pa, h.pb, h.owners, h.turns, h.bufs, h.srcs, h.arrs, h.rows, h.apI, h.apO⟩
theorem own_readsB {w : World} {lo m c : Nat} {A : Option Addr} {vs : List Value} {l : List (List Flit)} (ho : w.ownsRow lo 108 1 (.slice A m c) l.length vs) (hr : ∀ i : Nat, i < l.length → kF.R 121 w lo (fun _ => True) (vr vs i) (rl l i)) : m = l.length ∧ m ≤ c ∧ (kB 121).C w A m l := by
  have hl := ho.1
  refine Kd.R_rowX (e := 108) (base := lo) (d := kB 121) ⟨fun _ _ => trivial, vs, ho, by show vs.length = l.length * 1; omega, fun j p hj => ?_⟩
  have hlt := (List.getElem?_eq_some_iff.1 hj).1
  have hp : rl l j = p := by simp [rl, List.getD_eq_getElem?_getD, hj]
  have hr2 := hr j hlt
  rw [hp] at hr2
  refine ⟨vr vs j, ?_, ?_⟩
  · have hjv : j < vs.length := by omega
    have e : vr vs j = vs[j] := by simp [vr, List.getD_eq_getElem?_getD, hjv]
    show (vs.drop (j * 1)).take 1 = _
    rw [e, Nat.mul_one, List.drop_eq_getElem_cons hjv]
    rfl
  · cases hv : (Value.slice A m c).ownBlock with
    | none => exact Kd.R_mono hr2 (fun k hk => ⟨hk, by simp⟩)
    | some g =>
      obtain ⟨cells, hc⟩ := own_typed ho g hv
      refine Kd.R_mono (Kd.R_types hr2 hc (by decide)) (fun k hk => ⟨hk.1, fun e => hk.2 (Option.some.inj e)⟩)
theorem NX.reads (h : NX w lo n q v4 v7 v8) (k : NB n) : NetR 121 w n q :=
  ⟨(Kd.R_rowX h.br).2.2, (Kd.R_rowX h.pa).2.2, (Kd.R_rowX h.pb).2.2, (own_readsB h.bufs h.row4).2.2, (Kd.R_rowX h.owners).2.2, (Kd.R_rowX h.turns).2.2, (own_readsB h.srcs h.row7).2.2, (own_readsB h.arrs h.row8).2.2, k.h1, k.h2, k.h3, k.h4, k.h5, k.h6, k.h7, k.h8, k.h9, k.h10, k.h11⟩
theorem own_cell {W : World} {base g m cap k : Nat} {vs : List Value} (h : W.ownsRow base 108 1 (.slice (some ⟨g, 0, none⟩) m cap) m vs) (hk : k < m) : W.cell? ⟨g, k, none⟩ = some (vr vs k) ∧ W.frozen? ⟨g, k, none⟩ = false := by
  have hl := h.1
  constructor
  · have hc := h.cells (g := g) rfl k (vr vs k) (vr_get (by omega))
    rwa [add_plain] at hc
  · obtain ⟨cells, hc⟩ := own_typed h g rfl
    exact blk_frozen hc k
theorem NX.form4 (h : NX w lo n q v4 v7 v8) (h0 : 0 < n.bufs.length) : ∃ g, q.a4 = some ⟨g, 0, none⟩ ∧ lo ≤ g ∧ g < w.heap.size := by
  obtain ⟨g, cap, e, hb, hl⟩ := h.bufs.form h0
  injection e with e1 _ _
  exact ⟨g, e1, hb, hl⟩
theorem NX.form7 (h : NX w lo n q v4 v7 v8) (h0 : 0 < n.srcs.length) : ∃ g, q.a7 = some ⟨g, 0, none⟩ ∧ lo ≤ g ∧ g < w.heap.size := by
  obtain ⟨g, cap, e, hb, hl⟩ := h.srcs.form h0
  injection e with e1 _ _
  exact ⟨g, e1, hb, hl⟩
theorem NX.form8 (h : NX w lo n q v4 v7 v8) (h0 : 0 < n.arrs.length) : ∃ g, q.a8 = some ⟨g, 0, none⟩ ∧ lo ≤ g ∧ g < w.heap.size := by
  obtain ⟨g, cap, e, hb, hl⟩ := h.arrs.form h0
  injection e with e1 _ _
  exact ⟨g, e1, hb, hl⟩
theorem rowI_form {W : World} {base : Nat} {A : Option Addr} {m c : Nat} {xs : List Int} (h : Kd.R (Kd.int .i64) 3 W base (fun _ => True) (.slice A m c) xs) (h0 : 0 < xs.length) : ∃ g, A = some ⟨g, 0, none⟩ ∧ base ≤ g ∧ g < W.heap.size := by
  obtain ⟨inner, hin⟩ := Kd.R_own h
  obtain ⟨g, cap, e, hb, hl⟩ := hin.form h0
  injection e with e1 _ _
  exact ⟨g, e1, hb, hl⟩
end
def BT (w : World) (bx : Nat) (n : Net) (q : NA) : Prop := w.heap[bx]? = some (.cells (netCells n q) 44 (0, 0))
section
variable {w w1 : World} {bx : Nat} {n : Net} {q : NA}
theorem BT.box (h : BT w bx n q) : Box w bx (netCells n q) := ⟨blk_lt h, fun o => blk_cell h o⟩
theorem BT.frozen (h : BT w bx n q) (o : Nat) : w.frozen? ⟨bx, o, none⟩ = false := blk_frozen h o
theorem BT.lt (h : BT w bx n q) : bx < w.heap.size := blk_lt h
theorem BT.blk (h : BT w bx n q) : BlkT w bx 44 := ⟨_, h⟩
theorem BT.below (h : BT w bx n q) (hb : Below w.heap.size w w1) : BT w1 bx n q := blk_below h hb
theorem BT.far {g t : Nat} (h : BT w bx n q) (hb : BlkT w g t) (ht : 44 ≠ t) (j : Nat) (u : Value) : BT (w.setCell ⟨g, j, none⟩ u) bx n q := by
  obtain ⟨c, hc⟩ := hb
  exact blk_far (p := ⟨g, j, none⟩) h (blk_ne h hc ht) u
theorem BT.grown {v : Value} {lo : Nat} {y : List Flit} (h : BT w bx n q) (hg : w.grownBy w1 v.ownBlock) (hr : kF.R 121 w lo (fun _ => True) v y) : BT w1 bx n q := by
  obtain ⟨inner, hin⟩ := Kd.R_own hr
  exact blk_grown h hg (own_ne hin h (by decide))
theorem BT.new (w : World) (n : Net) (q : NA) : BT (w.alloc (.cells (netCells n q) 44)) w.heap.size n q := blk_new w _
theorem BT.eq {m : Net} (h : BT w bx n q) (e : netCells m q = netCells n q) : BT w bx m q := by unfold BT; rw [e]; exact h
end
def Lit (e : Nat) (w : World) (g : Nat) : Prop := w.heap[g]? = some (.cells #[] e (0, 0))
theorem lit_new {e g : Nat} {w : World} (h : g = w.heap.size) : Lit e (w.alloc (.cells #[] e)) g := by subst h; exact blk_new w _
theorem lit_alloc {e g : Nat} {w : World} (o : Obj) (h : Lit e w g) : Lit e (w.alloc o) g := blk_alloc h o
theorem lit_drew {e g : Nat} {w : World} (h : Lit e w g) : Lit e w.drew g := h
structure Stp (w w1 : World) : Prop where
  h : Below w.heap.size w w1
theorem lit_stp {e g : Nat} {w w1 : World} (hs : Stp w w1) (h : Lit e w g) : Lit e w1 g := blk_below h hs.h
theorem R_lit {α : Type} (d : Kd α) {e g B : Nat} {w : World} (h : Lit e w g) (hB : B ≤ g) : d.R e w B (fun _ => True) (.slice (some ⟨g, 0, none⟩) 0 0) [] := by
  refine ⟨fun _ _ => trivial, [], ?_, Reps.none _ _⟩
  exact ⟨by simp, .inr ⟨g, 0, #[], rfl, hB, h, Nat.le_refl _, Nat.zero_le _, by simp, by simp⟩⟩
def At2 (g lo hi : Nat) (v : Value) : Prop := ∀ k, v.ownBlock = some k → k = g ∨ (lo ≤ k ∧ k < hi)
theorem apart_of {u v : Value} {p r : Nat → Prop} (hu : ∀ k, u.ownBlock = some k → p k) (hv : ∀ k, v.ownBlock = some k → r k) (h : ∀ k, p k → r k → False) : Apart u v := by
  cases e : u.ownBlock with
  | none => exact .inl e
  | some k =>
    right
    rw [e]
    intro e2
    exact h k (hu k e) (hv k e2.symm)
section
variable {ops : Array Oper} {rest : List Oper} {o : Oper} {a : Act} {Q : Exit → Act → World → Prop} {Kc : Act → World → Prop} {α : Type}
theorem run_copy (d : Kd α) {B : Nat} {W : World} (t ty e : TypeId) (z : Value) (bytes : Nat)
    (ht : Tryz.prog.underlying t = some (.slice e)) (hinfo : (Tryz.prog.info? e).map (fun i => (i.zero, i.size, i.bytes)) = some (some z, d.sz, bytes)) (hz : z.cells.size = d.sz) (hs0 : 0 < d.sz) (hb1 : bytes ≤ 1000)
    (hKM : ∀ (w1 : World) (b : Nat) (ok : Nat → Prop) x cs, d.K W x cs → d.M w1 b ok x cs) (hK1 : ∀ x cs, d.K W x cs → ∀ u ∈ cs, u.oneCell' = true)
    (g : Nat) (ys : List α) (A : Option Addr) (m c : Nat) (HL : Lit e W g) (hg : B ≤ g) (HR : d.C W A m ys) (hB : B ≤ W.heap.size) (hl : m ≤ 10000000) :
    ∃ v1 w1, (Builtin.append_ #[t, t] ty #[.slice (some ⟨g, 0, none⟩) 0 0, .slice A m c]).run Tryz.prog W = .ok v1 w1 ∧ d.R e w1 B (fun _ => True) v1 ys ∧ Below W.heap.size W w1 ∧ At2 g W.heap.size w1.heap.size v1 := by
  obtain ⟨i0, hi, hzz⟩ := Option.map_eq_some_iff.1 hinfo
  simp only [Prod.mk.injEq] at hzz
  obtain ⟨hz0, hz1, hz2⟩ := hzz
  have hm : ys.length = m := HR.1
  have nothing : ∀ (_ : m = 0), Src Tryz.prog i0.size t (.slice A m c) 0 [] W → ∃ v1 w1, (Builtin.append_ #[t, t] ty #[.slice (some ⟨g, 0, none⟩) 0 0, .slice A m c]).run Tryz.prog W = .ok v1 w1 ∧ d.R e w1 B (fun _ => True) v1 ys ∧ Below W.heap.size W w1 ∧ At2 g W.heap.size w1.heap.size v1 := by
    intro h0 hs
    obtain rfl : ys = [] := List.eq_nil_of_length_eq_zero (hm.trans h0)
    exact ⟨_, W, run_append_nothing W t t ty e i0 ht hi (some ⟨g, 0, none⟩) 0 0 (Nat.le_refl _) _ hs, R_lit d HL hg, Below.refl _ _, fun k hk => .inl (Option.some.inj hk).symm⟩
  rcases A with _ | ad
  · have h0 : m = 0 := by
      rcases Nat.eq_zero_or_pos m with h0 | h0
      · exact h0
      · obtain ⟨ad, h, _⟩ := HR.2.2 h0
        cases h
    subst h0
    exact nothing rfl (Src.ofNil W ht c)
  · by_cases h0 : m = 0
    · subst h0
      exact nothing rfl (Src.ofSlice W ht ad 0 c [] (by simp) (fun j u h => by simp at h) (fun u h => by cases h))
    · obtain ⟨news, hnr, hnc⟩ := ReadsRow.inner_ HR
      obtain ⟨v1, w1, hrun, hown, hgr⟩ := run_append_arg_grows (P := Tryz.prog) W t ty e i0 z d.sz bytes ht hi hz0 hz1 hz2 hz hs0 ⟨g, 0, none⟩ 0 0 [] (by simp) (fun j u h => by simp at h) ad m c news (by rw [hnr.1, hm]) hnc (by omega) (by simp only [maxLen]; omega) (by simp only [Nat.zero_add]; exact Nat.le_trans (Nat.mul_le_mul hl hb1) (by omega))
      have hb : Below W.heap.size W w1 := ⟨hgr.os, hgr.tape, hgr.output, hgr.size, fun i hi2 => hgr.block i hi2 (by simp)⟩
      rw [List.nil_append, Nat.zero_add] at hown
      refine ⟨v1, w1, hrun, ⟨fun _ _ => trivial, news, ?_, hnr.imp_ (fun p cs hp => hKM _ _ _ p cs hp)⟩, hb, fun k hk => .inr ⟨own_base hown k hk, own_lt hown k hk⟩⟩
      rw [hm]
      exact own_weaken hown hB
theorem copy_row (d : Kd α) {B : Nat} {W : World} (hgd : o.guard = none) (s x : Operand) (t e : TypeId) (z : Value) (bytes : Nat)
    (ho : o.op = .call { callee := .builtin .append, args := #[s, x], argTypes := #[t, t] })
    (ht : Tryz.prog.underlying t = some (.slice e)) (hinfo : (Tryz.prog.info? e).map (fun i => (i.zero, i.size, i.bytes)) = some (some z, d.sz, bytes)) (hz : z.cells.size = d.sz) (hs0 : 0 < d.sz) (hb1 : bytes ≤ 1000)
    (hKM : ∀ (w1 : World) (b : Nat) (ok : Nat → Prop) x cs, d.K W x cs → d.M w1 b ok x cs) (hK1 : ∀ x cs, d.K W x cs → ∀ u ∈ cs, u.oneCell' = true)
    (g : Nat) (ys : List α) (A : Option Addr) (m c : Nat) (hs : a.eval s = .slice (some ⟨g, 0, none⟩) 0 0) (hx : a.eval x = .slice A m c)
    (HL : Lit e W g) (hg : B ≤ g) (HR : d.C W A m ys) (hB : B ≤ W.heap.size) (hl : m ≤ 10000000)
    (h : ∀ v1 w1, d.R e w1 B (fun _ => True) v1 ys → Below W.heap.size W w1 → At2 g W.heap.size w1.heap.size v1 → wpList Tryz.prog ops Q rest (a.put o.dst v1) w1) : wpList Tryz.prog ops Q (o :: rest) a W := by
  obtain ⟨v1, w1, hr1, h1, h2, h3⟩ := run_copy d t o.type e z bytes ht hinfo hz hs0 hb1 hKM hK1 g ys A m c HL hg HR hB hl
  refine wpList_plain hgd fun K hK => ?_
  unfold Oper.wp execOp
  simp only [ho, resolve, invoke, builtin, Sem.run_bind, Sem.run_pure, Result.andThen_ok, List.map_toArray, List.map_cons, List.map_nil, hs, hx, hr1]
  exact hK _ _ (h v1 w1 h1 h2 h3)
theorem copy_row_step (d : Kd α) {B : Nat} {W : World} {Q' : Exit → Act → World → Prop} {E : Prop} (hw : Region.wanted o (yielded ops a.tmps) = true) (s x : Operand) (t e : TypeId) (z : Value) (bytes : Nat)
    (ho : o.op = .call { callee := .builtin .append, args := #[s, x], argTypes := #[t, t] })
    (ht : Tryz.prog.underlying t = some (.slice e)) (hinfo : (Tryz.prog.info? e).map (fun i => (i.zero, i.size, i.bytes)) = some (some z, d.sz, bytes)) (hz : z.cells.size = d.sz) (hs0 : 0 < d.sz) (hb1 : bytes ≤ 1000)
    (hKM : ∀ (w1 : World) (b : Nat) (ok : Nat → Prop) x cs, d.K W x cs → d.M w1 b ok x cs) (hK1 : ∀ x cs, d.K W x cs → ∀ u ∈ cs, u.oneCell' = true)
    (g : Nat) (ys : List α) (A : Option Addr) (m c : Nat) (hs : a.eval s = .slice (some ⟨g, 0, none⟩) 0 0) (hx : a.eval x = .slice A m c)
    (HL : Lit e W g) (hg : B ≤ g) (HR : d.C W A m ys) (hB : B ≤ W.heap.size) (hl : m ≤ 10000000)
    (h : ∀ v1 w1, d.R e w1 B (fun _ => True) v1 ys → Below W.heap.size W w1 → At2 g W.heap.size w1.heap.size v1 → Kc (a.put o.dst v1) w1) : if Region.wanted o (yielded ops a.tmps) = true then Oper.wp Tryz.prog o a W Kc Q' else E := by
  obtain ⟨v1, w1, hr1, h1, h2, h3⟩ := run_copy d t o.type e z bytes ht hinfo hz hs0 hb1 hKM hK1 g ys A m c HL hg HR hB hl
  rw [if_pos hw]
  unfold Oper.wp execOp
  simp only [ho, resolve, invoke, builtin, Sem.run_bind, Sem.run_pure, Result.andThen_ok, List.map_toArray, List.map_cons, List.map_nil, hs, hx, hr1]
  exact h v1 w1 h1 h2 h3
theorem KM_int {W : World} : ∀ (w1 : World) (b : Nat) (ok : Nat → Prop) (x : Int) cs, (Kd.int .i64).K W x cs → (Kd.int .i64).M w1 b ok x cs := fun _ _ _ _ _ h => h
theorem K1_int {W : World} : ∀ (x : Int) cs, (Kd.int .i64).K W x cs → ∀ u ∈ cs, u.oneCell' = true := fun _ _ h => (Kd.int .i64).K_one h
theorem KM_F {W : World} : ∀ (w1 : World) (b : Nat) (ok : Nat → Prop) (x : Flit) cs, kF.K W x cs → kF.M w1 b ok x cs := fun _ _ _ _ _ h => h
theorem K1_F {W : World} : ∀ (x : Flit) cs, kF.K W x cs → ∀ u ∈ cs, u.oneCell' = true := fun _ _ h => kF.K_one h
theorem copy_int {B : Nat} {W : World} (hgd : o.guard = none) (s x : Operand)
    (ho : o.op = .call { callee := .builtin .append, args := #[s, x], argTypes := #[24, 24] })
    (g : Nat) (ys : List Int) (A : Option Addr) (c : Nat) (hs : a.eval s = .slice (some ⟨g, 0, none⟩) 0 0) (hx : a.eval x = .slice A ys.length c)
    (HL : Lit 3 W g) (hg : B ≤ g) (HR : (Kd.int .i64).C W A ys.length ys) (hB : B ≤ W.heap.size) (hl : ys.length ≤ 10000000)
    (h : ∀ v1 w1, (Kd.int .i64).R 3 w1 B (fun _ => True) v1 ys → Below W.heap.size W w1 → At2 g W.heap.size w1.heap.size v1 → wpList Tryz.prog ops Q rest (a.put o.dst v1) w1) : wpList Tryz.prog ops Q (o :: rest) a W :=
  copy_row (Kd.int .i64) hgd s x 24 3 (.int .i64 0) 8 ho Tryz.underlying24 info_int rfl (by decide) (by omega) KM_int K1_int g ys A ys.length c hs hx HL hg HR hB hl h
theorem copyS_int {B : Nat} {W : World} {Q' : Exit → Act → World → Prop} {E : Prop} (hw : Region.wanted o (yielded ops a.tmps) = true) (s x : Operand)
    (ho : o.op = .call { callee := .builtin .append, args := #[s, x], argTypes := #[24, 24] })
    (g : Nat) (ys : List Int) (A : Option Addr) (c : Nat) (hs : a.eval s = .slice (some ⟨g, 0, none⟩) 0 0) (hx : a.eval x = .slice A ys.length c)
    (HL : Lit 3 W g) (hg : B ≤ g) (HR : (Kd.int .i64).C W A ys.length ys) (hB : B ≤ W.heap.size) (hl : ys.length ≤ 10000000)
    (h : ∀ v1 w1, (Kd.int .i64).R 3 w1 B (fun _ => True) v1 ys → Below W.heap.size W w1 → At2 g W.heap.size w1.heap.size v1 → Kc (a.put o.dst v1) w1) : if Region.wanted o (yielded ops a.tmps) = true then Oper.wp Tryz.prog o a W Kc Q' else E :=
  copy_row_step (Kd.int .i64) hw s x 24 3 (.int .i64 0) 8 ho Tryz.underlying24 info_int rfl (by decide) (by omega) KM_int K1_int g ys A ys.length c hs hx HL hg HR hB hl h
theorem copy_F {B : Nat} {W : World} (hgd : o.guard = none) (s x : Operand)
    (ho : o.op = .call { callee := .builtin .append, args := #[s, x], argTypes := #[108, 108] })
    (g : Nat) (ys : List Flit) (A : Option Addr) (c : Nat) (hs : a.eval s = .slice (some ⟨g, 0, none⟩) 0 0) (hx : a.eval x = .slice A ys.length c)
    (HL : Lit 121 W g) (hg : B ≤ g) (HR : kF.C W A ys.length ys) (hB : B ≤ W.heap.size) (hl : ys.length ≤ 10000000)
    (h : ∀ v1 w1, kF.R 121 w1 B (fun _ => True) v1 ys → Below W.heap.size W w1 → At2 g W.heap.size w1.heap.size v1 → wpList Tryz.prog ops Q rest (a.put o.dst v1) w1) : wpList Tryz.prog ops Q (o :: rest) a W :=
  copy_row kF hgd s x 108 121 (.agg #[.int .i64 0, .int .i64 0, .int .i64 0, .bool false, .bool false]) 32 ho Tryz.underlying108 info_F rfl (by decide) (by omega) KM_F K1_F g ys A ys.length c hs hx HL hg HR hB hl h
theorem copyS_F {B : Nat} {W : World} {Q' : Exit → Act → World → Prop} {E : Prop} (hw : Region.wanted o (yielded ops a.tmps) = true) (s x : Operand)
    (ho : o.op = .call { callee := .builtin .append, args := #[s, x], argTypes := #[108, 108] })
    (g : Nat) (ys : List Flit) (A : Option Addr) (c : Nat) (hs : a.eval s = .slice (some ⟨g, 0, none⟩) 0 0) (hx : a.eval x = .slice A ys.length c)
    (HL : Lit 121 W g) (hg : B ≤ g) (HR : kF.C W A ys.length ys) (hB : B ≤ W.heap.size) (hl : ys.length ≤ 10000000)
    (h : ∀ v1 w1, kF.R 121 w1 B (fun _ => True) v1 ys → Below W.heap.size W w1 → At2 g W.heap.size w1.heap.size v1 → Kc (a.put o.dst v1) w1) : if Region.wanted o (yielded ops a.tmps) = true then Oper.wp Tryz.prog o a W Kc Q' else E :=
  copy_row_step kF hw s x 108 121 (.agg #[.int .i64 0, .int .i64 0, .int .i64 0, .bool false, .bool false]) 32 ho Tryz.underlying108 info_F rfl (by decide) (by omega) KM_F K1_F g ys A ys.length c hs hx HL hg HR hB hl h
end
end Go.Proofs.YtmkbmddgkdoaiaaGreat
namespace NoC
theorem rp_get (l : List Packet) (k : Nat) (h : k < l.length) : rp l (k : Int) = l[k] := by
  simp [rp, List.getD_eq_getElem?_getD, h]
theorem all_no {l : List Packet} {g : Grid} (k : Nat) (hk : k < l.length) (h : packetOk g (rp l k) = false) : l.all (packetOk g) = false := by
  rw [rp_get l k hk] at h
  rw [Bool.eq_false_iff]
  intro ha
  rw [List.all_eq_true] at ha
  rw [ha _ (List.getElem_mem hk)] at h
  cases h
theorem all_yes {l : List Packet} {g : Grid} (h : ∀ k : Nat, k < l.length → packetOk g (rp l k) = true) : l.all (packetOk g) = true := by
  rw [List.all_eq_true]
  intro p hp
  obtain ⟨k, hk, rfl⟩ := List.getElem_of_mem hp
  have := h k hk
  rwa [rp_get l k hk] at this
theorem all_get {l : List Packet} {g : Grid} (h : l.all (packetOk g) = true) (k : Nat) (hk : k < l.length) : packetOk g (rp l k) = true := by
  rw [rp_get l k hk]
  exact List.all_eq_true.1 h _ (List.getElem_mem hk)
theorem sized_count {m : Mesh} {t : List Int} (h : sized m t = true) : 0 < nodeCount m.g := by
  have h1 := (sized_iff.1 h).1
  unfold meshOk at h1
  rw [Bool.and_eq_true] at h1
  have hg := h1.1
  unfold nodeCount
  rw [if_pos hg]
  simp only [gridOk, inside, Bool.and_eq_true, decide_eq_true_eq] at hg
  obtain ⟨⟨a, b⟩, c, d⟩ := hg
  have := Int.mul_le_mul a c (by omega) (by omega)
  omega
def flitOk (g : Grid) (f : Flit) : Bool := isNode g f.dst && inside f.cls 0 1
def areFl (g : Grid) (l : List Flit) : Bool := l.all (flitOk g)
def clsOnly (l : List Flit) (c : Int) : List Flit := l.filter (fun f => f.cls == c)
def bufOk (g : Grid) (i : Nat) (l : List Flit) : Bool := decide (l.length ≤ 3) && l.all (fun f => f.cls == ((i % 2 : Nat) : Int)) && areFl g l
def srcOk (g : Grid) (l : List Flit) : Bool := decide (l.length ≤ 60) && areFl g l
def shapeOk (n : Net) : Bool :=
  decide ((n.bufs.length : Int) = 10 * nodeCount n.mesh.g) && decide ((n.owners.length : Int) = 10 * nodeCount n.mesh.g) && decide ((n.turns.length : Int) = 5 * nodeCount n.mesh.g) && decide ((n.srcs.length : Int) = nodeCount n.mesh.g) && decide ((n.arrs.length : Int) = nodeCount n.mesh.g)
def netOk (n : Net) : Bool :=
  classesOk n.mesh n.pa n.pb && shapeOk n && allI n.bufs.length (fun i => bufOk n.mesh.g i (rl n.bufs i)) && allI n.srcs.length (fun i => srcOk n.mesh.g (rl n.srcs i)) && allI n.owners.length (fun i => inside (ri n.owners i) (-1) 4) && allI n.turns.length (fun i => inside (ri n.turns i) 0 9) && inside n.time 0 1000000
theorem rf_get (l : List Flit) (k : Nat) (h : k < l.length) : rf l (k : Int) = l[k] := by
  simp [rf, List.getD_eq_getElem?_getD, h]
theorem areFl_no {g : Grid} {l : List Flit} (k : Nat) (hk : k < l.length) (h : flitOk g (rf l k) = false) : areFl g l = false := by
  rw [rf_get l k hk] at h
  unfold areFl
  rw [Bool.eq_false_iff]
  intro ha
  rw [List.all_eq_true] at ha
  rw [ha _ (List.getElem_mem hk)] at h
  cases h
theorem areFl_yes {g : Grid} {l : List Flit} (h : ∀ k : Nat, k < l.length → flitOk g (rf l k) = true) : areFl g l = true := by
  unfold areFl
  rw [List.all_eq_true]
  intro p hp
  obtain ⟨k, hk, rfl⟩ := List.getElem_of_mem hp
  have := h k hk
  rwa [rf_get l k hk] at this
theorem clsOnly_len (l : List Flit) (c : Int) : ((clsOnly l c).length == l.length) = l.all (fun f => f.cls == c) := by
  rw [Bool.eq_iff_iff, beq_iff_eq, List.all_eq_true]
  unfold clsOnly
  rw [List.length_filter_eq_length_iff]
theorem clsOnly_take {l : List Flit} {c : Int} (k : Nat) (hk : k < l.length) : clsOnly (l.take (k + 1)) c = if (rf l k).cls == c then clsOnly (l.take k) c ++ [rf l k] else clsOnly (l.take k) c := by
  rw [rf_get l k hk, List.take_succ_eq_append_getElem hk]
  unfold clsOnly
  rw [List.filter_append]
  split <;> simp_all
theorem netOk_parts {n : Net} (h : netOk n = true) : classesOk n.mesh n.pa n.pb = true ∧ (n.bufs.length : Int) = 10 * nodeCount n.mesh.g ∧ (n.owners.length : Int) = 10 * nodeCount n.mesh.g ∧ (n.turns.length : Int) = 5 * nodeCount n.mesh.g ∧ (n.srcs.length : Int) = nodeCount n.mesh.g ∧ (n.arrs.length : Int) = nodeCount n.mesh.g ∧ (∀ i, i < n.bufs.length → bufOk n.mesh.g i (rl n.bufs i) = true) ∧ (∀ i, i < n.srcs.length → srcOk n.mesh.g (rl n.srcs i) = true) ∧ (∀ i : Nat, i < n.owners.length → inside (ri n.owners i) (-1) 4 = true) ∧ (∀ i : Nat, i < n.turns.length → inside (ri n.turns i) 0 9 = true) ∧ inside n.time 0 1000000 = true := by
  simp only [netOk, shapeOk, Bool.and_eq_true, decide_eq_true_eq, allI_iff] at h
  obtain ⟨⟨⟨⟨⟨⟨h1, ⟨⟨⟨⟨s1, s2⟩, s3⟩, s4⟩, s5⟩⟩, h2⟩, h3⟩, h4⟩, h5⟩, h6⟩ := h
  exact ⟨h1, s1, s2, s3, s4, s5, h2, h3, h4, h5, h6⟩
end NoC
namespace Go.Proofs.YtmkbmddgkdoaiaaGreat
open Go.RowKit
open NoC
theorem grid_bounds {g : Grid} (h : gridOk g = true) : 1 ≤ g.w ∧ g.w ≤ 4 ∧ 1 ≤ g.h ∧ g.h ≤ 4 ∧ 1 ≤ g.w * g.h ∧ g.w * g.h ≤ 16 := by
  simp only [gridOk, inside, Bool.and_eq_true, decide_eq_true_eq] at h
  obtain ⟨⟨a, b⟩, c, d⟩ := h
  refine ⟨a, b, c, d, ?_, ?_⟩
  · have := Int.mul_le_mul a c (by omega) (by omega); omega
  · have := Int.mul_le_mul b d (by omega) (by omega); omega
theorem count_bounds (g : Grid) : 0 ≤ nodeCount g ∧ nodeCount g ≤ 16 := by
  unfold nodeCount
  split
  · rename_i h; have := grid_bounds h; omega
  · omega
theorem node_bounds {g : Grid} {a : Int} (h : isNode g a = true) : gridOk g = true ∧ 0 ≤ a ∧ a < g.w * g.h ∧ a ≤ 15 := by
  simp only [isNode, inside, Bool.and_eq_true, decide_eq_true_eq] at h
  cases hg : gridOk g
  · simp [nodeCount, hg] at h; omega
  · have := grid_bounds hg
    simp only [nodeCount, hg, if_true] at h
    exact ⟨rfl, by omega, by omega, by omega⟩
theorem inside_bounds {n lo hi : Int} (h : inside n lo hi = true) : lo ≤ n ∧ n ≤ hi := by
  simpa [inside] using h
theorem div_bounds {g : Grid} {a : Int} (h : isNode g a = true) : 0 ≤ a / g.w ∧ a / g.w ≤ 15 ∧ 0 ≤ a % g.w ∧ a % g.w ≤ 3 := by
  obtain ⟨h1, h2, h3, h4⟩ := node_bounds h
  obtain ⟨a1, a2, a3, a4, a5, a6⟩ := grid_bounds h1
  have := Int.emod_nonneg a (show g.w ≠ 0 by omega)
  have := Int.emod_lt_of_pos a (show 0 < g.w by omega)
  have := Int.ediv_nonneg h2 (show 0 ≤ g.w by omega)
  have := Int.ediv_le_self g.w h2
  omega

theorem impl_inside (n lo hi : Int) (w : World) : Calls Tryz.prog 60 #[.int .i64 n, .int .i64 lo, .int .i64 hi] w fun e w' => e = .returned (.bool (inside n lo hi)) ∧ w = w' := by
  go_enter Tryz.func60, Tryz.ntmps60
  by_cases h : lo ≤ n
  · have h1 : decide (lo ≤ n) = true := decide_eq_true h
    go_wp2
    go_ret
    exact ⟨by simp [inside, h], rfl⟩
  · have h1 : decide (lo ≤ n) = false := decide_eq_false h
    go_wp2
    go_ret
    exact ⟨by simp [inside]; omega, rfl⟩
theorem spec_l01In (n lo hi : Int) (w : World) : Calls Tryz.prog 56 #[.int .i64 n, .int .i64 lo, .int .i64 hi] w fun e w' => e = .returned (.bool (inside n lo hi)) ∧ w = w' := by
  go_enter Tryz.func56, Tryz.ntmps56
  by_cases h : lo ≤ n
  · have h1 : decide (lo ≤ n) = true := decide_eq_true h
    go_wp2
    go_ret
    exact ⟨by simp [inside, h], rfl⟩
  · have h1 : decide (lo ≤ n) = false := decide_eq_false h
    go_wp2
    go_ret
    exact ⟨by simp [inside]; omega, rfl⟩
theorem impl_GridOk (g : Grid) (w : World) : Calls Tryz.prog 127 #[.agg #[.int .i64 g.w, .int .i64 g.h]] w fun e w' => e = .returned (.bool (gridOk g)) ∧ Below w.heap.size w w' := by
  go_enter Tryz.func127, Tryz.ntmps127
  cases h : inside g.w 1 4
  all_goals
    go_wp2_with (go_at_call 60; refine (impl_inside _ _ _ _).mono ?_; rintro e w' ⟨rfl, rfl⟩)
    go_ret
    exact ⟨by simp [gridOk, h], bel⟩
theorem impl_NodeCount (g : Grid) (w : World) : Calls Tryz.prog 84 #[.agg #[.int .i64 g.w, .int .i64 g.h]] w fun e w' => e = .returned (.int .i64 (nodeCount g)) ∧ Below w.heap.size w w' := by
  go_enter Tryz.func84, Tryz.ntmps84
  cases h : gridOk g
  · go_wp2_with (go_at_call 127; refine (impl_GridOk g _).mono ?_; rintro e w1 ⟨rfl, hb1⟩; obtain ⟨hc1, hf1, hz1⟩ := bcell hb1; (try simp only [szs] at hz1); have hb2 := far2; obtain ⟨hc2, hf2, hz2⟩ := bcell hb2; (try simp only [szs] at hz2); try (first | obtain ⟨hy1, hy2, hy3, hy4⟩ := lts4 hz2 | obtain ⟨hy1, hy2, hy3⟩ := lts3 hz2 | obtain ⟨hy1, hy2⟩ := lts2 hz2 | have hy1 := lts1 hz2); have hb9 := hb1)
    go_ret
    exact ⟨by simp [nodeCount, h], bel⟩
  · obtain ⟨a1, a2, a3, a4, a5, a6⟩ := grid_bounds h
    go_wp2_with (go_at_call 127; refine (impl_GridOk g _).mono ?_; rintro e w1 ⟨rfl, hb1⟩; obtain ⟨hc1, hf1, hz1⟩ := bcell hb1; (try simp only [szs] at hz1); have hb2 := far2; obtain ⟨hc2, hf2, hz2⟩ := bcell hb2; (try simp only [szs] at hz2); try (first | obtain ⟨hy1, hy2, hy3, hy4⟩ := lts4 hz2 | obtain ⟨hy1, hy2, hy3⟩ := lts3 hz2 | obtain ⟨hy1, hy2⟩ := lts2 hz2 | have hy1 := lts1 hz2); have hb9 := hb1)
    go_ret
    exact ⟨by simp [nodeCount, h], bel⟩
theorem impl_NodeAt (g : Grid) (x y : Int) (w : World) : Calls Tryz.prog 92 #[.agg #[.int .i64 g.w, .int .i64 g.h], .int .i64 x, .int .i64 y] w fun e w' => e = .returned (.int .i64 (nodeAt g x y)) ∧ Below w.heap.size w w' := by
  go_enter Tryz.func92, Tryz.ntmps92
  cases h : gridOk g
  · go_wp2_with (first | (go_at_call 127; refine (impl_GridOk g _).mono ?_; rintro e w1 ⟨rfl, hb1⟩; obtain ⟨hc1, hf1, hz1⟩ := bcell hb1; (try simp only [szs] at hz1); have hb2 := far2; obtain ⟨hc2, hf2, hz2⟩ := bcell hb2; (try simp only [szs] at hz2); try (first | obtain ⟨hy1, hy2, hy3, hy4⟩ := lts4 hz2 | obtain ⟨hy1, hy2, hy3⟩ := lts3 hz2 | obtain ⟨hy1, hy2⟩ := lts2 hz2 | have hy1 := lts1 hz2); have hb9 := hb1) | (go_at_call 60; refine (impl_inside _ _ _ _).mono ?_; rintro e w' ⟨rfl, rfl⟩))
    go_ret
    exact ⟨by simp [nodeAt, h], bel⟩
  · obtain ⟨a1, a2, a3, a4, a5, a6⟩ := grid_bounds h
    cases hx : inside x 0 (g.w - 1)
    · go_wp2_with (first | (go_at_call 127; refine (impl_GridOk g _).mono ?_; rintro e w1 ⟨rfl, hb1⟩; obtain ⟨hc1, hf1, hz1⟩ := bcell hb1; (try simp only [szs] at hz1); have hb2 := far2; obtain ⟨hc2, hf2, hz2⟩ := bcell hb2; (try simp only [szs] at hz2); try (first | obtain ⟨hy1, hy2, hy3, hy4⟩ := lts4 hz2 | obtain ⟨hy1, hy2, hy3⟩ := lts3 hz2 | obtain ⟨hy1, hy2⟩ := lts2 hz2 | have hy1 := lts1 hz2); have hb9 := hb1) | (go_at_call 60; refine (impl_inside _ _ _ _).mono ?_; rintro e w' ⟨rfl, rfl⟩))
      go_ret
      exact ⟨by simp [nodeAt, h, hx], bel⟩
    · cases hy : inside y 0 (g.h - 1)
      · go_wp2_with (first | (go_at_call 127; refine (impl_GridOk g _).mono ?_; rintro e w1 ⟨rfl, hb1⟩; obtain ⟨hc1, hf1, hz1⟩ := bcell hb1; (try simp only [szs] at hz1); have hb2 := far2; obtain ⟨hc2, hf2, hz2⟩ := bcell hb2; (try simp only [szs] at hz2); try (first | obtain ⟨hy1, hy2, hy3, hy4⟩ := lts4 hz2 | obtain ⟨hy1, hy2, hy3⟩ := lts3 hz2 | obtain ⟨hy1, hy2⟩ := lts2 hz2 | have hy1 := lts1 hz2); have hb9 := hb1) | (go_at_call 60; refine (impl_inside _ _ _ _).mono ?_; rintro e w' ⟨rfl, rfl⟩))
        go_ret
        exact ⟨by simp [nodeAt, h, hx, hy], bel⟩
      · obtain ⟨b1, b2⟩ := inside_bounds hy
        obtain ⟨b3, b4⟩ := inside_bounds hx
        have b5 : 0 ≤ y * g.w := Int.mul_nonneg b1 (by omega)
        have b6 : y * g.w ≤ 12 := by have := Int.mul_le_mul (show y ≤ 3 by omega) a2 (by omega) (by omega); omega
        go_wp2_with (first | (go_at_call 127; refine (impl_GridOk g _).mono ?_; rintro e w1 ⟨rfl, hb1⟩; obtain ⟨hc1, hf1, hz1⟩ := bcell hb1; (try simp only [szs] at hz1); have hb2 := far2; obtain ⟨hc2, hf2, hz2⟩ := bcell hb2; (try simp only [szs] at hz2); try (first | obtain ⟨hy1, hy2, hy3, hy4⟩ := lts4 hz2 | obtain ⟨hy1, hy2, hy3⟩ := lts3 hz2 | obtain ⟨hy1, hy2⟩ := lts2 hz2 | have hy1 := lts1 hz2); have hb9 := hb1) | (go_at_call 60; refine (impl_inside _ _ _ _).mono ?_; rintro e w' ⟨rfl, rfl⟩))
        go_ret
        exact ⟨by simp [nodeAt, h, hx, hy], bel⟩
theorem impl_isNode (g : Grid) (a : Int) (w : World) : Calls Tryz.prog 91 #[.agg #[.int .i64 g.w, .int .i64 g.h], .int .i64 a] w fun e w' => e = .returned (.bool (isNode g a)) ∧ Below w.heap.size w w' := by
  obtain ⟨a1, a2⟩ := count_bounds g
  go_enter Tryz.func91, Tryz.ntmps91
  go_wp2_with (first | (go_at_call 84; refine (impl_NodeCount g _).mono ?_; rintro e w1 ⟨rfl, hb1⟩; obtain ⟨hc1, hf1, hz1⟩ := bcell hb1; (try simp only [szs] at hz1); have hb2 := far2; obtain ⟨hc2, hf2, hz2⟩ := bcell hb2; (try simp only [szs] at hz2); try (first | obtain ⟨hy1, hy2, hy3, hy4⟩ := lts4 hz2 | obtain ⟨hy1, hy2, hy3⟩ := lts3 hz2 | obtain ⟨hy1, hy2⟩ := lts2 hz2 | have hy1 := lts1 hz2); have hb9 := hb1) | (go_at_call 60; refine (impl_inside _ _ _ _).mono ?_; rintro e w' ⟨rfl, rfl⟩))
  go_ret
  exact ⟨rfl, bel⟩
theorem impl_NextNode (g : Grid) (a p : Int) (w : World) : Calls Tryz.prog 50 #[.agg #[.int .i64 g.w, .int .i64 g.h], .int .i64 a, .int .i64 p] w fun e w' => e = .returned (.int .i64 (nextNode g a p)) ∧ Below w.heap.size w w' := by
  go_enter Tryz.func50, Tryz.ntmps50
  cases h : isNode g a
  · go_wp2_with (go_at_call 91; refine (impl_isNode g _ _).mono ?_; rintro e w1 ⟨rfl, hb1⟩; obtain ⟨hc1, hf1, hz1⟩ := bcell hb1; (try simp only [szs] at hz1); have hb2 := far2; obtain ⟨hc2, hf2, hz2⟩ := bcell hb2; (try simp only [szs] at hz2); try (first | obtain ⟨hy1, hy2, hy3, hy4⟩ := lts4 hz2 | obtain ⟨hy1, hy2, hy3⟩ := lts3 hz2 | obtain ⟨hy1, hy2⟩ := lts2 hz2 | have hy1 := lts1 hz2); have hb9 := hb1)
    go_ret
    exact ⟨by simp [nextNode, h], bel⟩
  · obtain ⟨c1, c2, c3, c4⟩ := node_bounds h
    obtain ⟨a1, a2, a3, a4, a5, a6⟩ := grid_bounds c1
    obtain ⟨d1, d2, d3, d4⟩ := div_bounds h
    clear c1
    have hp : p = 0 ∨ p = 1 ∨ p = 2 ∨ p = 3 ∨ p = 4 ∨ ((p == 0) = false ∧ (p == 1) = false ∧ (p == 2) = false ∧ (p == 3) = false ∧ (p == 4) = false) := by
      simp only [beq_eq_false_iff_ne]
      omega
    rcases hp with rfl | rfl | rfl | rfl | rfl | ⟨f0, f1, f2, f3, f4⟩
    all_goals
      go_wp2_with (first | (go_at_call 91; refine (impl_isNode g _ _).mono ?_; rintro e w1 ⟨rfl, hb1⟩; obtain ⟨hc1, hf1, hz1⟩ := bcell hb1; (try simp only [szs] at hz1); have hb2 := far2; obtain ⟨hc2, hf2, hz2⟩ := bcell hb2; (try simp only [szs] at hz2); try (first | obtain ⟨hy1, hy2, hy3, hy4⟩ := lts4 hz2 | obtain ⟨hy1, hy2, hy3⟩ := lts3 hz2 | obtain ⟨hy1, hy2⟩ := lts2 hz2 | have hy1 := lts1 hz2); have hb9 := hb1) | (go_at_call 92; refine (impl_NodeAt g _ _ _).mono ?_; rintro e w1 ⟨rfl, hb1⟩; obtain ⟨hc1, hf1, hz1⟩ := bcell hb1; (try simp only [szs] at hz1); have hb2 := far2; obtain ⟨hc2, hf2, hz2⟩ := bcell hb2; (try simp only [szs] at hz2); try (first | obtain ⟨hy1, hy2, hy3, hy4⟩ := lts4 hz2 | obtain ⟨hy1, hy2, hy3⟩ := lts3 hz2 | obtain ⟨hy1, hy2⟩ := lts2 hz2 | have hy1 := lts1 hz2); have hb9 := hb1))
      try (go_quiet (fail); go_wp2_with (first | (go_at_call 91; refine (impl_isNode g _ _).mono ?_; rintro e w1 ⟨rfl, hb1⟩; obtain ⟨hc1, hf1, hz1⟩ := bcell hb1; (try simp only [szs] at hz1); have hb2 := far2; obtain ⟨hc2, hf2, hz2⟩ := bcell hb2; (try simp only [szs] at hz2); try (first | obtain ⟨hy1, hy2, hy3, hy4⟩ := lts4 hz2 | obtain ⟨hy1, hy2, hy3⟩ := lts3 hz2 | obtain ⟨hy1, hy2⟩ := lts2 hz2 | have hy1 := lts1 hz2); have hb9 := hb1) | (go_at_call 92; refine (impl_NodeAt g _ _ _).mono ?_; rintro e w1 ⟨rfl, hb1⟩; obtain ⟨hc1, hf1, hz1⟩ := bcell hb1; (try simp only [szs] at hz1); have hb2 := far2; obtain ⟨hc2, hf2, hz2⟩ := bcell hb2; (try simp only [szs] at hz2); try (first | obtain ⟨hy1, hy2, hy3, hy4⟩ := lts4 hz2 | obtain ⟨hy1, hy2, hy3⟩ := lts3 hz2 | obtain ⟨hy1, hy2⟩ := lts2 hz2 | have hy1 := lts1 hz2); have hb9 := hb1)))
      go_ret
      exact ⟨by first | (simp [nextNode, h]; done) | (simp only [beq_eq_false_iff_ne] at f0 f1 f2 f3 f4; simp [nextNode, h, f0, f1, f2, f3, f4]), bel⟩
theorem impl_Opposite (p : Int) (w : World) : Calls Tryz.prog 51 #[.int .i64 p] w fun e w' => e = .returned (.int .i64 (opposite p)) ∧ Below w.heap.size w w' := by
  go_enter Tryz.func51, Tryz.ntmps51
  by_cases e4 : p = 4
  · subst e4
    go_wp2_with (go_at_call 60; refine (impl_inside _ _ _ _).mono ?_; rintro e w' ⟨rfl, rfl⟩)
    go_ret
    exact ⟨by simp [opposite], bel⟩
  · have f4 : (p == 4) = false := by simpa using e4
    cases h : inside p 0 3
    · go_wp2_with (go_at_call 60; refine (impl_inside _ _ _ _).mono ?_; rintro e w' ⟨rfl, rfl⟩)
      go_ret
      exact ⟨by simp [opposite, e4, h], bel⟩
    · obtain ⟨b1, b2⟩ := inside_bounds h
      go_wp2_with (go_at_call 60; refine (impl_inside _ _ _ _).mono ?_; rintro e w' ⟨rfl, rfl⟩)
      go_ret
      exact ⟨by simp [opposite, e4, h], bel⟩
theorem spec_GridOk (g : Grid) (w : World) : Calls Tryz.prog 123 #[.agg #[.int .i64 g.w, .int .i64 g.h]] w fun e w' => e = .returned (.bool (gridOk g)) ∧ Below w.heap.size w w' := by
  go_enter Tryz.func123, Tryz.ntmps123
  cases h : inside g.w 1 4
  all_goals
    go_wp2_with (go_at_call 56; refine (spec_l01In _ _ _ _).mono ?_; rintro e w' ⟨rfl, rfl⟩)
    go_ret
    exact ⟨by simp [gridOk, h], bel⟩
theorem spec_NodeCount (g : Grid) (w : World) : Calls Tryz.prog 78 #[.agg #[.int .i64 g.w, .int .i64 g.h]] w fun e w' => e = .returned (.int .i64 (nodeCount g)) ∧ Below w.heap.size w w' := by
  go_enter Tryz.func78, Tryz.ntmps78
  cases h : gridOk g
  · go_wp2_with (go_at_call 123; refine (spec_GridOk g _).mono ?_; rintro e w1 ⟨rfl, hb1⟩; obtain ⟨hc1, hf1, hz1⟩ := bcell hb1; (try simp only [szs] at hz1); have hb2 := far2; obtain ⟨hc2, hf2, hz2⟩ := bcell hb2; (try simp only [szs] at hz2); try (first | obtain ⟨hy1, hy2, hy3, hy4⟩ := lts4 hz2 | obtain ⟨hy1, hy2, hy3⟩ := lts3 hz2 | obtain ⟨hy1, hy2⟩ := lts2 hz2 | have hy1 := lts1 hz2); have hb9 := hb1)
    go_ret
    exact ⟨by simp [nodeCount, h], bel⟩
  · obtain ⟨a1, a2, a3, a4, a5, a6⟩ := grid_bounds h
    go_wp2_with (go_at_call 123; refine (spec_GridOk g _).mono ?_; rintro e w1 ⟨rfl, hb1⟩; obtain ⟨hc1, hf1, hz1⟩ := bcell hb1; (try simp only [szs] at hz1); have hb2 := far2; obtain ⟨hc2, hf2, hz2⟩ := bcell hb2; (try simp only [szs] at hz2); try (first | obtain ⟨hy1, hy2, hy3, hy4⟩ := lts4 hz2 | obtain ⟨hy1, hy2, hy3⟩ := lts3 hz2 | obtain ⟨hy1, hy2⟩ := lts2 hz2 | have hy1 := lts1 hz2); have hb9 := hb1)
    go_ret
    exact ⟨by simp [nodeCount, h], bel⟩
theorem spec_NodeAt (g : Grid) (x y : Int) (w : World) : Calls Tryz.prog 82 #[.agg #[.int .i64 g.w, .int .i64 g.h], .int .i64 x, .int .i64 y] w fun e w' => e = .returned (.int .i64 (nodeAt g x y)) ∧ Below w.heap.size w w' := by
  go_enter Tryz.func82, Tryz.ntmps82
  cases h : gridOk g
  · go_wp2_with (first | (go_at_call 123; refine (spec_GridOk g _).mono ?_; rintro e w1 ⟨rfl, hb1⟩; obtain ⟨hc1, hf1, hz1⟩ := bcell hb1; (try simp only [szs] at hz1); have hb2 := far2; obtain ⟨hc2, hf2, hz2⟩ := bcell hb2; (try simp only [szs] at hz2); try (first | obtain ⟨hy1, hy2, hy3, hy4⟩ := lts4 hz2 | obtain ⟨hy1, hy2, hy3⟩ := lts3 hz2 | obtain ⟨hy1, hy2⟩ := lts2 hz2 | have hy1 := lts1 hz2); have hb9 := hb1) | (go_at_call 56; refine (spec_l01In _ _ _ _).mono ?_; rintro e w' ⟨rfl, rfl⟩))
    go_ret
    exact ⟨by simp [nodeAt, h], bel⟩
  · obtain ⟨a1, a2, a3, a4, a5, a6⟩ := grid_bounds h
    cases hx : inside x 0 (g.w - 1)
    · go_wp2_with (first | (go_at_call 123; refine (spec_GridOk g _).mono ?_; rintro e w1 ⟨rfl, hb1⟩; obtain ⟨hc1, hf1, hz1⟩ := bcell hb1; (try simp only [szs] at hz1); have hb2 := far2; obtain ⟨hc2, hf2, hz2⟩ := bcell hb2; (try simp only [szs] at hz2); try (first | obtain ⟨hy1, hy2, hy3, hy4⟩ := lts4 hz2 | obtain ⟨hy1, hy2, hy3⟩ := lts3 hz2 | obtain ⟨hy1, hy2⟩ := lts2 hz2 | have hy1 := lts1 hz2); have hb9 := hb1) | (go_at_call 56; refine (spec_l01In _ _ _ _).mono ?_; rintro e w' ⟨rfl, rfl⟩))
      go_ret
      exact ⟨by simp [nodeAt, h, hx], bel⟩
    · cases hy : inside y 0 (g.h - 1)
      · go_wp2_with (first | (go_at_call 123; refine (spec_GridOk g _).mono ?_; rintro e w1 ⟨rfl, hb1⟩; obtain ⟨hc1, hf1, hz1⟩ := bcell hb1; (try simp only [szs] at hz1); have hb2 := far2; obtain ⟨hc2, hf2, hz2⟩ := bcell hb2; (try simp only [szs] at hz2); try (first | obtain ⟨hy1, hy2, hy3, hy4⟩ := lts4 hz2 | obtain ⟨hy1, hy2, hy3⟩ := lts3 hz2 | obtain ⟨hy1, hy2⟩ := lts2 hz2 | have hy1 := lts1 hz2); have hb9 := hb1) | (go_at_call 56; refine (spec_l01In _ _ _ _).mono ?_; rintro e w' ⟨rfl, rfl⟩))
        go_ret
        exact ⟨by simp [nodeAt, h, hx, hy], bel⟩
      · obtain ⟨b1, b2⟩ := inside_bounds hy
        obtain ⟨b3, b4⟩ := inside_bounds hx
        have b5 : 0 ≤ y * g.w := Int.mul_nonneg b1 (by omega)
        have b6 : y * g.w ≤ 12 := by have := Int.mul_le_mul (show y ≤ 3 by omega) a2 (by omega) (by omega); omega
        go_wp2_with (first | (go_at_call 123; refine (spec_GridOk g _).mono ?_; rintro e w1 ⟨rfl, hb1⟩; obtain ⟨hc1, hf1, hz1⟩ := bcell hb1; (try simp only [szs] at hz1); have hb2 := far2; obtain ⟨hc2, hf2, hz2⟩ := bcell hb2; (try simp only [szs] at hz2); try (first | obtain ⟨hy1, hy2, hy3, hy4⟩ := lts4 hz2 | obtain ⟨hy1, hy2, hy3⟩ := lts3 hz2 | obtain ⟨hy1, hy2⟩ := lts2 hz2 | have hy1 := lts1 hz2); have hb9 := hb1) | (go_at_call 56; refine (spec_l01In _ _ _ _).mono ?_; rintro e w' ⟨rfl, rfl⟩))
        go_ret
        exact ⟨by simp [nodeAt, h, hx, hy], bel⟩
theorem spec_l02Has (g : Grid) (a : Int) (w : World) : Calls Tryz.prog 81 #[.agg #[.int .i64 g.w, .int .i64 g.h], .int .i64 a] w fun e w' => e = .returned (.bool (isNode g a)) ∧ Below w.heap.size w w' := by
  obtain ⟨a1, a2⟩ := count_bounds g
  go_enter Tryz.func81, Tryz.ntmps81
  go_wp2_with (first | (go_at_call 78; refine (spec_NodeCount g _).mono ?_; rintro e w1 ⟨rfl, hb1⟩; obtain ⟨hc1, hf1, hz1⟩ := bcell hb1; (try simp only [szs] at hz1); have hb2 := far2; obtain ⟨hc2, hf2, hz2⟩ := bcell hb2; (try simp only [szs] at hz2); try (first | obtain ⟨hy1, hy2, hy3, hy4⟩ := lts4 hz2 | obtain ⟨hy1, hy2, hy3⟩ := lts3 hz2 | obtain ⟨hy1, hy2⟩ := lts2 hz2 | have hy1 := lts1 hz2); have hb9 := hb1) | (go_at_call 56; refine (spec_l01In _ _ _ _).mono ?_; rintro e w' ⟨rfl, rfl⟩))
  go_ret
  exact ⟨rfl, bel⟩
theorem spec_NextNode (g : Grid) (a p : Int) (w : World) : Calls Tryz.prog 42 #[.agg #[.int .i64 g.w, .int .i64 g.h], .int .i64 a, .int .i64 p] w fun e w' => e = .returned (.int .i64 (nextNode g a p)) ∧ Below w.heap.size w w' := by
  go_enter Tryz.func42, Tryz.ntmps42
  cases h : isNode g a
  · go_wp2_with (go_at_call 81; refine (spec_l02Has g _ _).mono ?_; rintro e w1 ⟨rfl, hb1⟩; obtain ⟨hc1, hf1, hz1⟩ := bcell hb1; (try simp only [szs] at hz1); have hb2 := far2; obtain ⟨hc2, hf2, hz2⟩ := bcell hb2; (try simp only [szs] at hz2); try (first | obtain ⟨hy1, hy2, hy3, hy4⟩ := lts4 hz2 | obtain ⟨hy1, hy2, hy3⟩ := lts3 hz2 | obtain ⟨hy1, hy2⟩ := lts2 hz2 | have hy1 := lts1 hz2); have hb9 := hb1)
    go_ret
    exact ⟨by simp [nextNode, h], bel⟩
  · obtain ⟨c1, c2, c3, c4⟩ := node_bounds h
    obtain ⟨a1, a2, a3, a4, a5, a6⟩ := grid_bounds c1
    obtain ⟨d1, d2, d3, d4⟩ := div_bounds h
    clear c1
    have hp : p = 0 ∨ p = 1 ∨ p = 2 ∨ p = 3 ∨ p = 4 ∨ ((p == 0) = false ∧ (p == 1) = false ∧ (p == 2) = false ∧ (p == 3) = false ∧ (p == 4) = false) := by
      simp only [beq_eq_false_iff_ne]
      omega
    rcases hp with rfl | rfl | rfl | rfl | rfl | ⟨f0, f1, f2, f3, f4⟩
    all_goals
      go_wp2_with (first | (go_at_call 81; refine (spec_l02Has g _ _).mono ?_; rintro e w1 ⟨rfl, hb1⟩; obtain ⟨hc1, hf1, hz1⟩ := bcell hb1; (try simp only [szs] at hz1); have hb2 := far2; obtain ⟨hc2, hf2, hz2⟩ := bcell hb2; (try simp only [szs] at hz2); try (first | obtain ⟨hy1, hy2, hy3, hy4⟩ := lts4 hz2 | obtain ⟨hy1, hy2, hy3⟩ := lts3 hz2 | obtain ⟨hy1, hy2⟩ := lts2 hz2 | have hy1 := lts1 hz2); have hb9 := hb1) | (go_at_call 82; refine (spec_NodeAt g _ _ _).mono ?_; rintro e w1 ⟨rfl, hb1⟩; obtain ⟨hc1, hf1, hz1⟩ := bcell hb1; (try simp only [szs] at hz1); have hb2 := far2; obtain ⟨hc2, hf2, hz2⟩ := bcell hb2; (try simp only [szs] at hz2); try (first | obtain ⟨hy1, hy2, hy3, hy4⟩ := lts4 hz2 | obtain ⟨hy1, hy2, hy3⟩ := lts3 hz2 | obtain ⟨hy1, hy2⟩ := lts2 hz2 | have hy1 := lts1 hz2); have hb9 := hb1))
      try (go_quiet (fail); go_wp2_with (first | (go_at_call 81; refine (spec_l02Has g _ _).mono ?_; rintro e w1 ⟨rfl, hb1⟩; obtain ⟨hc1, hf1, hz1⟩ := bcell hb1; (try simp only [szs] at hz1); have hb2 := far2; obtain ⟨hc2, hf2, hz2⟩ := bcell hb2; (try simp only [szs] at hz2); try (first | obtain ⟨hy1, hy2, hy3, hy4⟩ := lts4 hz2 | obtain ⟨hy1, hy2, hy3⟩ := lts3 hz2 | obtain ⟨hy1, hy2⟩ := lts2 hz2 | have hy1 := lts1 hz2); have hb9 := hb1) | (go_at_call 82; refine (spec_NodeAt g _ _ _).mono ?_; rintro e w1 ⟨rfl, hb1⟩; obtain ⟨hc1, hf1, hz1⟩ := bcell hb1; (try simp only [szs] at hz1); have hb2 := far2; obtain ⟨hc2, hf2, hz2⟩ := bcell hb2; (try simp only [szs] at hz2); try (first | obtain ⟨hy1, hy2, hy3, hy4⟩ := lts4 hz2 | obtain ⟨hy1, hy2, hy3⟩ := lts3 hz2 | obtain ⟨hy1, hy2⟩ := lts2 hz2 | have hy1 := lts1 hz2); have hb9 := hb1)))
      go_ret
      exact ⟨by first | (simp [nextNode, h]; done) | (simp only [beq_eq_false_iff_ne] at f0 f1 f2 f3 f4; simp [nextNode, h, f0, f1, f2, f3, f4]), bel⟩
theorem spec_Opposite (p : Int) (w : World) : Calls Tryz.prog 43 #[.int .i64 p] w fun e w' => e = .returned (.int .i64 (opposite p)) ∧ Below w.heap.size w w' := by
  go_enter Tryz.func43, Tryz.ntmps43
  by_cases e4 : p = 4
  · subst e4
    go_wp2_with (go_at_call 56; refine (spec_l01In _ _ _ _).mono ?_; rintro e w' ⟨rfl, rfl⟩)
    go_ret
    exact ⟨by simp [opposite], bel⟩
  · have f4 : (p == 4) = false := by simpa using e4
    cases h : inside p 0 3
    · go_wp2_with (go_at_call 56; refine (spec_l01In _ _ _ _).mono ?_; rintro e w' ⟨rfl, rfl⟩)
      go_ret
      exact ⟨by simp [opposite, e4, h], bel⟩
    · obtain ⟨b1, b2⟩ := inside_bounds h
      go_wp2_with (go_at_call 56; refine (spec_l01In _ _ _ _).mono ?_; rintro e w' ⟨rfl, rfl⟩)
      go_ret
      exact ⟨by simp [opposite, e4, h], bel⟩
end Go.Proofs.YtmkbmddgkdoaiaaGreat
namespace Go.Proofs.YtmkbmddgkdoaiaaGreat
open Go.RowKit Go.Proofs.YtmkbmddgkdoaiaaGreatW.PrintWords
open NoC
theorem impl_leads (g : Grid) (c : Int) (w : World) : Calls Tryz.prog 165 #[.agg #[.int .i64 g.w, .int .i64 g.h], .int .i64 c] w fun e w' => e = .returned (.bool (leads g c)) ∧ Below w.heap.size w w' := by
  obtain ⟨a1, a2⟩ := count_bounds g
  go_enter Tryz.func165, Tryz.ntmps165
  cases h : inside c 0 (4 * nodeCount g - 1)
  · go_wp2_with (first | (go_at_call 84; refine (impl_NodeCount g _).mono ?_; rintro e w1 ⟨rfl, hb1⟩; obtain ⟨hc1, hf1, hz1⟩ := bcell hb1; (try simp only [szs] at hz1); have hb2 := far2; obtain ⟨hc2, hf2, hz2⟩ := bcell hb2; (try simp only [szs] at hz2); try (first | obtain ⟨hy1, hy2, hy3, hy4⟩ := lts4 hz2 | obtain ⟨hy1, hy2, hy3⟩ := lts3 hz2 | obtain ⟨hy1, hy2⟩ := lts2 hz2 | have hy1 := lts1 hz2); have hb9 := hb1) | (go_at_call 60; refine (impl_inside _ _ _ _).mono ?_; rintro e w' ⟨rfl, rfl⟩))
    go_ret
    exact ⟨by simp [leads, h], bel⟩
  · obtain ⟨b1, b2⟩ := inside_bounds h
    go_wp2_with (first | (go_at_call 84; refine (impl_NodeCount g _).mono ?_; rintro e w1 ⟨rfl, hb1⟩; obtain ⟨hc1, hf1, hz1⟩ := bcell hb1; (try simp only [szs] at hz1); have hb2 := far2; obtain ⟨hc2, hf2, hz2⟩ := bcell hb2; (try simp only [szs] at hz2); try (first | obtain ⟨hy1, hy2, hy3, hy4⟩ := lts4 hz2 | obtain ⟨hy1, hy2, hy3⟩ := lts3 hz2 | obtain ⟨hy1, hy2⟩ := lts2 hz2 | have hy1 := lts1 hz2); have hb9 := hb1) | (go_at_call 60; refine (impl_inside _ _ _ _).mono ?_; rintro e w' ⟨rfl, rfl⟩) | (go_at_call 50; refine (impl_NextNode g _ _ _).mono ?_; rintro e w1 ⟨rfl, hb1⟩; obtain ⟨hc1, hf1, hz1⟩ := bcell hb1; (try simp only [szs] at hz1); have hb2 := far2; obtain ⟨hc2, hf2, hz2⟩ := bcell hb2; (try simp only [szs] at hz2); try (first | obtain ⟨hy1, hy2, hy3, hy4⟩ := lts4 hz2 | obtain ⟨hy1, hy2, hy3⟩ := lts3 hz2 | obtain ⟨hy1, hy2⟩ := lts2 hz2 | have hy1 := lts1 hz2); have hb9 := hb1))
    go_ret
    exact ⟨by simp [leads, h], bel⟩
theorem spec_l03Leads (g : Grid) (c : Int) (w : World) : Calls Tryz.prog 156 #[.agg #[.int .i64 g.w, .int .i64 g.h], .int .i64 c] w fun e w' => e = .returned (.bool (leads g c)) ∧ Below w.heap.size w w' := by
  obtain ⟨a1, a2⟩ := count_bounds g
  go_enter Tryz.func156, Tryz.ntmps156
  cases h : inside c 0 (4 * nodeCount g - 1)
  · go_wp2_with (first | (go_at_call 78; refine (spec_NodeCount g _).mono ?_; rintro e w1 ⟨rfl, hb1⟩; obtain ⟨hc1, hf1, hz1⟩ := bcell hb1; (try simp only [szs] at hz1); have hb2 := far2; obtain ⟨hc2, hf2, hz2⟩ := bcell hb2; (try simp only [szs] at hz2); try (first | obtain ⟨hy1, hy2, hy3, hy4⟩ := lts4 hz2 | obtain ⟨hy1, hy2, hy3⟩ := lts3 hz2 | obtain ⟨hy1, hy2⟩ := lts2 hz2 | have hy1 := lts1 hz2); have hb9 := hb1) | (go_at_call 56; refine (spec_l01In _ _ _ _).mono ?_; rintro e w' ⟨rfl, rfl⟩))
    go_ret
    exact ⟨by simp [leads, h], bel⟩
  · obtain ⟨b1, b2⟩ := inside_bounds h
    go_wp2_with (first | (go_at_call 78; refine (spec_NodeCount g _).mono ?_; rintro e w1 ⟨rfl, hb1⟩; obtain ⟨hc1, hf1, hz1⟩ := bcell hb1; (try simp only [szs] at hz1); have hb2 := far2; obtain ⟨hc2, hf2, hz2⟩ := bcell hb2; (try simp only [szs] at hz2); try (first | obtain ⟨hy1, hy2, hy3, hy4⟩ := lts4 hz2 | obtain ⟨hy1, hy2, hy3⟩ := lts3 hz2 | obtain ⟨hy1, hy2⟩ := lts2 hz2 | have hy1 := lts1 hz2); have hb9 := hb1) | (go_at_call 56; refine (spec_l01In _ _ _ _).mono ?_; rintro e w' ⟨rfl, rfl⟩) | (go_at_call 42; refine (spec_NextNode g _ _ _).mono ?_; rintro e w1 ⟨rfl, hb1⟩; obtain ⟨hc1, hf1, hz1⟩ := bcell hb1; (try simp only [szs] at hz1); have hb2 := far2; obtain ⟨hc2, hf2, hz2⟩ := bcell hb2; (try simp only [szs] at hz2); try (first | obtain ⟨hy1, hy2, hy3, hy4⟩ := lts4 hz2 | obtain ⟨hy1, hy2, hy3⟩ := lts3 hz2 | obtain ⟨hy1, hy2⟩ := lts2 hz2 | have hy1 := lts1 hz2); have hb9 := hb1))
    go_ret
    exact ⟨by simp [leads, h], bel⟩

theorem impl_MeshOk (m : Mesh) (A : Option Addr) (c : Nat) (w : World) (hr : Kd.C (Kd.int .i64) w A m.br.length m.br) (hn : m.br.length ≤ 2097152) :
    Calls Tryz.prog 153 #[.agg #[.int .i64 m.g.w, .int .i64 m.g.h, .slice A m.br.length c]] w fun e w' => e = .returned (.bool (meshOk m)) ∧ Below w.heap.size w w' := by
  go_enter Tryz.func153, Tryz.ntmps153
  go_wp2
  go_loopw [8] (fun i wr => ∃ k : Nat, k ≤ m.br.length ∧ i = .int .i64 k ∧ Hid (∀ j : Nat, j < k → brokenAt m j = true) ∧ Below (w.alloc (.cells #[.int .i64 m.g.w, .int .i64 m.g.h, .slice A m.br.length c] 38)).heap.size (w.alloc (.cells #[.int .i64 m.g.w, .int .i64 m.g.h, .slice A m.br.length c] 38)) wr) (fun i _ => m.br.length - (intOf i).toNat)
  case atStart => exact ⟨0, Nat.zero_le _, rfl, Lib.hid fun j h => absurd h (Nat.not_lt_zero _), Below.refl _ _⟩
  case round =>
    obtain ⟨k, hk, rfl, HA, HB⟩ := hrel
    obtain ⟨hc0, hf0, hz0⟩ := bcell HB
    simp only [szs] at hz0
    by_cases hlt : k < m.br.length
    · obtain ⟨b, off, rfl, hb, hx⟩ := rdI_at hr k hlt
      have hxk := hx k hlt
      have hx1 := hx (k - 1) (by omega)
      go_wp2_with (go_at_call 165; refine (impl_leads m.g _ _).mono ?_; rintro e w1 ⟨rfl, hb1⟩; obtain ⟨hc1, hf1, hz1⟩ := bcell hb1; (try simp only [szs] at hz1); have hb2 := far2; obtain ⟨hc2, hf2, hz2⟩ := bcell hb2; (try simp only [szs] at hz2); try (first | obtain ⟨hy1, hy2, hy3, hy4⟩ := lts4 hz2 | obtain ⟨hy1, hy2, hy3⟩ := lts3 hz2 | obtain ⟨hy1, hy2⟩ := lts2 hz2 | have hy1 := lts1 hz2); have hb9 := hb1)
      · go_ret
        exact ⟨ret_bool (meshOk_no k hlt (brokenAt_no2 (by assumption) (by assumption))).symm, bel⟩
      · go_roundw
        case rel => exact ⟨k + 1, by omega, by go_num, Lib.hid (upto HA.out (brokenAt_yes1 (by assumption) (by assumption))), bel⟩
        case measure => simp [intOf]; omega
      · go_roundw
        case rel => exact ⟨k + 1, by omega, by go_num, Lib.hid (upto HA.out (brokenAt_yes0 (by assumption) (by assumption))), bel⟩
        case measure => simp [intOf]; omega
      · go_ret
        exact ⟨ret_bool (meshOk_no k hlt (brokenAt_no1 (by assumption))).symm, bel⟩
    · go_wp2_with (go_at_call 127; refine (impl_GridOk m.g _).mono ?_; rintro e w1 ⟨rfl, hb1⟩; obtain ⟨hc1, hf1, hz1⟩ := bcell hb1; (try simp only [szs] at hz1); have hb2 := far2; obtain ⟨hc2, hf2, hz2⟩ := bcell hb2; (try simp only [szs] at hz2); try (first | obtain ⟨hy1, hy2, hy3, hy4⟩ := lts4 hz2 | obtain ⟨hy1, hy2, hy3⟩ := lts3 hz2 | obtain ⟨hy1, hy2⟩ := lts2 hz2 | have hy1 := lts1 hz2); have hb9 := hb1)
      go_ret
      exact ⟨ret_bool (meshOk_yes (fun j hj => HA.out j (by omega))).symm, bel⟩
theorem spec_MeshOk (m : Mesh) (A : Option Addr) (c : Nat) (w : World) (hr : Kd.C (Kd.int .i64) w A m.br.length m.br) (hn : m.br.length ≤ 2097152) :
  Calls Tryz.prog 176 #[.agg #[.int .i64 m.g.w, .int .i64 m.g.h, .slice A m.br.length c]] w fun e w' => e = .returned (.bool (meshOk m)) ∧ Below w.heap.size w w' := by
 go_enter Tryz.func176, Tryz.ntmps176
 cases hg : gridOk m.g
 ·go_wp2_with (go_at_call 123; refine (spec_GridOk m.g _).mono ?_; rintro e w1 ⟨rfl, hb1⟩; obtain ⟨hc1, hf1, hz1⟩ := bcell hb1; (try simp only [szs] at hz1); have hb2 := far2; obtain ⟨hc2, hf2, hz2⟩ := bcell hb2; (try simp only [szs] at hz2); try (first | obtain ⟨hy1, hy2, hy3, hy4⟩ := lts4 hz2 | obtain ⟨hy1, hy2, hy3⟩ := lts3 hz2 | obtain ⟨hy1, hy2⟩ := lts2 hz2 | have hy1 := lts1 hz2); have hb9 := hb1)
  go_ret
  exact ⟨ret_bool (by simp [meshOk, hg]), bel⟩
 go_wp2_with (go_at_call 123; refine (spec_GridOk m.g _).mono ?_; rintro e w1 ⟨rfl, hb1⟩; obtain ⟨hc1, hf1, hz1⟩ := bcell hb1; (try simp only [szs] at hz1); have hb2 := far2; obtain ⟨hc2, hf2, hz2⟩ := bcell hb2; (try simp only [szs] at hz2); try (first | obtain ⟨hy1, hy2, hy3, hy4⟩ := lts4 hz2 | obtain ⟨hy1, hy2, hy3⟩ := lts3 hz2 | obtain ⟨hy1, hy2⟩ := lts2 hz2 | have hy1 := lts1 hz2); have hb9 := hb1)
 go_loopw [3] (fun i wr => ∃ k : Nat, k ≤ m.br.length ∧ i = .int .i64 k ∧ Hid (∀ j : Nat, j < k → brokenAt m j = true) ∧ Below (w.alloc (.cells #[.int .i64 m.g.w, .int .i64 m.g.h, .slice A m.br.length c] 38)).heap.size (w.alloc (.cells #[.int .i64 m.g.w, .int .i64 m.g.h, .slice A m.br.length c] 38)) wr) (fun i _ => m.br.length - (intOf i).toNat)
 case atStart => exact ⟨0, Nat.zero_le _, rfl, Lib.hid fun j h => absurd h (Nat.not_lt_zero _), bel⟩
 case round =>
  obtain ⟨k, hk, rfl, HA, HB⟩ := hrel
  obtain ⟨hc0, hf0, hz0⟩ := bcell HB
  simp only [szs] at hz0
  by_cases hlt : k < m.br.length
  ·obtain ⟨b, off, rfl, hb, hx⟩ := rdI_at hr k hlt
   have hxk := hx k hlt
   have hx1 := hx (k - 1) (by omega)
   have i0 : (0 : Int) ≤ (k : Int) := by omega
   have i1 : (k : Int) < (m.br.length : Int) := by omega
   cases hl : leads m.g (ri m.br k)
   ·go_wp2_with fail
    refine wp_region_far (w.alloc (.cells #[.int .i64 m.g.w, .int .i64 m.g.h, .slice (some ⟨b, off, none⟩) m.br.length c] 38)) (by kernel_rfl) (by kernel_rfl) bel ?_
    have hqc := far_cell (w.alloc (.cells #[.int .i64 m.g.w, .int .i64 m.g.h, .slice (some ⟨b, off, none⟩) m.br.length c] 38))
    have hqf := far_frozen (w.alloc (.cells #[.int .i64 m.g.w, .int .i64 m.g.h, .slice (some ⟨b, off, none⟩) m.br.length c] 38))
    repeat (first | go_big_quiet_step ((go_at_call 156; exact far_call (Calls.says (spec_l03Leads m.g _ _) (congrArg Value.bool hl)))) | quiet_step ((go_at_call 156; exact far_call (Calls.says (spec_l03Leads m.g _ _) (congrArg Value.bool hl)))))
    refine wpQuiet_nil ?_
    intro wq hbq
    clear hqc hqf
    obtain ⟨hcq, hfq, hzq⟩ := bcell hbq
    try simp only [szs] at hzq
    go_wp2
    go_ret
    exact ⟨ret_bool (meshOk_no k hlt (brokenAt_no1 (by simp [hl]))).symm, bel⟩
   ·by_cases h0 : 0 < k
    ·have hd : decide ((0 : Int) < (k : Int)) = true := decide_eq_true (by omega)
     go_wp2_with fail
     refine wp_region_far (w.alloc (.cells #[.int .i64 m.g.w, .int .i64 m.g.h, .slice (some ⟨b, off, none⟩) m.br.length c] 38)) (by kernel_rfl) (by kernel_rfl) bel ?_
     have hqc := far_cell (w.alloc (.cells #[.int .i64 m.g.w, .int .i64 m.g.h, .slice (some ⟨b, off, none⟩) m.br.length c] 38))
     have hqf := far_frozen (w.alloc (.cells #[.int .i64 m.g.w, .int .i64 m.g.h, .slice (some ⟨b, off, none⟩) m.br.length c] 38))
     repeat (first | go_big_quiet_step ((go_at_call 156; exact far_call (Calls.says (spec_l03Leads m.g _ _) (congrArg Value.bool hl)))) | quiet_step ((go_at_call 156; exact far_call (Calls.says (spec_l03Leads m.g _ _) (congrArg Value.bool hl)))))
     refine wpQuiet_nil ?_
     intro wq hbq
     clear hqc hqf
     obtain ⟨hcq, hfq, hzq⟩ := bcell hbq
     try simp only [szs] at hzq
     go_wp2
     ·go_ret
      exact ⟨ret_bool (meshOk_no k hlt (brokenAt_no2 (by assumption) (by assumption))).symm, bel⟩
     ·go_roundw
      case rel => exact ⟨k + 1, by omega, by go_num, Lib.hid (upto HA.out (brokenAt_yes1 (by assumption) (by omega))), bel⟩
      case measure => simp [intOf]; omega
    ·have hd : decide ((0 : Int) < (k : Int)) = false := decide_eq_false (by omega)
     go_wp2_with fail
     refine wp_region_far (w.alloc (.cells #[.int .i64 m.g.w, .int .i64 m.g.h, .slice (some ⟨b, off, none⟩) m.br.length c] 38)) (by kernel_rfl) (by kernel_rfl) bel ?_
     have hqc := far_cell (w.alloc (.cells #[.int .i64 m.g.w, .int .i64 m.g.h, .slice (some ⟨b, off, none⟩) m.br.length c] 38))
     have hqf := far_frozen (w.alloc (.cells #[.int .i64 m.g.w, .int .i64 m.g.h, .slice (some ⟨b, off, none⟩) m.br.length c] 38))
     repeat (first | go_big_quiet_step ((go_at_call 156; exact far_call (Calls.says (spec_l03Leads m.g _ _) (congrArg Value.bool hl)))) | quiet_step ((go_at_call 156; exact far_call (Calls.says (spec_l03Leads m.g _ _) (congrArg Value.bool hl)))))
     refine wpQuiet_nil ?_
     intro wq hbq
     clear hqc hqf
     obtain ⟨hcq, hfq, hzq⟩ := bcell hbq
     try simp only [szs] at hzq
     go_wp2
     go_roundw
     case rel => exact ⟨k + 1, by omega, by go_num, Lib.hid (upto HA.out (brokenAt_yes0 (by assumption) (by assumption))), bel⟩
     case measure => simp [intOf]; omega
  ·go_wp2
   go_ret
   exact ⟨ret_bool (by rw [meshOk_yes (fun j hj => HA.out j (by omega)), hg]), bel⟩

theorem slices_Index_int (l : List Int) (x : Int) (A : Option Addr) (c : Nat) (w : World) (hr : Kd.C (Kd.int .i64) w A l.length l) (hn : l.length ≤ 2097152) :
    Calls Tryz.prog 171 #[.slice A l.length c, .int .i64 x] w fun e w' => e = .returned (.int .i64 (idx l x)) ∧ w = w' := by
  go_enter Tryz.func171, Tryz.ntmps171
  go_wp2
  go_loop [8] (fun i => ∃ k : Nat, k ≤ l.length ∧ i = .int .i64 k ∧ Hid (∀ j : Nat, j < k → ¬ ri l j = x)) (fun i => l.length - (intOf i).toNat)
  case atStart => exact ⟨0, Nat.zero_le _, rfl, Lib.hid fun j h => absurd h (Nat.not_lt_zero _)⟩
  case round =>
    obtain ⟨k, hk, rfl, HA⟩ := hrel
    by_cases hlt : k < l.length
    · obtain ⟨b, off, rfl, hb, hx⟩ := rdI_at hr k hlt
      have hxk := hx k hlt
      by_cases e : ri l k = x
      · have e1 : (x == ri l k) = true := beq_iff_eq.2 e.symm
        have HE := Lib.hid e
        clear e
        go_wp2
        go_ret
        exact ⟨ret_int (idx_yes k hlt HE.out HA.out).symm, rfl⟩
      · have e1 : (x == ri l k) = false := beq_eq_false_iff_ne.2 (Ne.symm e)
        have HE := Lib.hid e
        clear e
        go_wp2
        go_round
        case rel => exact ⟨k + 1, by omega, by go_num, Lib.hid (upto HA.out HE.out)⟩
        case measure => simp [intOf]; omega
    · go_wp2
      go_ret
      exact ⟨ret_int (idx_no (fun j hj => HA.out j (by omega))).symm, rfl⟩
theorem slices_Contains_int (l : List Int) (x : Int) (A : Option Addr) (c : Nat) (w : World) (hr : Kd.C (Kd.int .i64) w A l.length l) (hn : l.length ≤ 2097152) :
    Calls Tryz.prog 152 #[.slice A l.length c, .int .i64 x] w fun e w' => e = .returned (.bool (has l x)) ∧ w = w' := by
  go_enter Tryz.func152, Tryz.ntmps152
  go_wp2_with (go_at_call 171; refine (slices_Index_int _ _ _ _ _ hr hn).mono ?_; rintro e w' ⟨rfl, rfl⟩)
  go_ret
  exact ⟨ret_bool (by simpa using idx_contains l x), rfl⟩
theorem spec_l03Find (l : List Int) (x : Int) (A : Option Addr) (c : Nat) (w : World) (hr : Kd.C (Kd.int .i64) w A l.length l) (hn : l.length ≤ 2097152) :
    Calls Tryz.prog 114 #[.slice A l.length c, .int .i64 x] w fun e w' => e = .returned (.bool (has l x)) ∧ w = w' := by
  go_enter Tryz.func114, Tryz.ntmps114
  go_wp2
  go_loop [5] (fun i => ∃ k : Nat, k ≤ l.length ∧ i = .int .i64 k ∧ Hid (∀ j : Nat, j < k → ¬ ri l j = x)) (fun i => l.length - (intOf i).toNat)
  case atStart => exact ⟨0, Nat.zero_le _, rfl, Lib.hid fun j h => absurd h (Nat.not_lt_zero _)⟩
  case round =>
    obtain ⟨k, hk, rfl, HA⟩ := hrel
    by_cases hlt : k < l.length
    · obtain ⟨b, off, rfl, hb, hx⟩ := rdI_at hr k hlt
      have hxk := hx k hlt
      by_cases e : ri l k = x
      · have e1 : (ri l k == x) = true := beq_iff_eq.2 e
        have HE := Lib.hid e
        clear e
        go_wp2
        go_ret
        exact ⟨ret_bool (contains_yes k hlt HE.out).symm, rfl⟩
      · have e1 : (ri l k == x) = false := beq_eq_false_iff_ne.2 e
        have HE := Lib.hid e
        clear e
        go_wp2
        go_round
        case rel => exact ⟨k + 1, by omega, by go_num, Lib.hid (upto HA.out HE.out)⟩
        case measure => simp [intOf]; omega
    · go_wp2
      go_ret
      exact ⟨ret_bool (contains_no (fun j hj => HA.out j (by omega))).symm, rfl⟩
theorem impl_live (m : Mesh) (x : Int) (A : Option Addr) (c : Nat) (w : World) (hr : Kd.C (Kd.int .i64) w A m.br.length m.br) (hn : m.br.length ≤ 2097152) :
    Calls Tryz.prog 141 #[.agg #[.int .i64 m.g.w, .int .i64 m.g.h, .slice A m.br.length c], .int .i64 x] w fun e w' => e = .returned (.bool (live m x)) ∧ Below w.heap.size w w' := by
  go_enter Tryz.func141, Tryz.ntmps141
  cases hl : leads m.g x
  · go_wp2_with (go_at_call 165; refine (impl_leads m.g _ _).mono ?_; rintro e w1 ⟨rfl, hb1⟩; obtain ⟨hc1, hf1, hz1⟩ := bcell hb1; (try simp only [szs] at hz1); have hb2 := far2; obtain ⟨hc2, hf2, hz2⟩ := bcell hb2; (try simp only [szs] at hz2); try (first | obtain ⟨hy1, hy2, hy3, hy4⟩ := lts4 hz2 | obtain ⟨hy1, hy2, hy3⟩ := lts3 hz2 | obtain ⟨hy1, hy2⟩ := lts2 hz2 | have hy1 := lts1 hz2); have hb9 := hb1)
    go_ret
    exact ⟨ret_bool (by simp [live, hl]), bel⟩
  · go_wp2_with (first | (go_at_call 165; refine (impl_leads m.g _ _).mono ?_; rintro e w1 ⟨rfl, hb1⟩; obtain ⟨hc1, hf1, hz1⟩ := bcell hb1; (try simp only [szs] at hz1); have hb2 := far2; obtain ⟨hc2, hf2, hz2⟩ := bcell hb2; (try simp only [szs] at hz2); try (first | obtain ⟨hy1, hy2, hy3, hy4⟩ := lts4 hz2 | obtain ⟨hy1, hy2, hy3⟩ := lts3 hz2 | obtain ⟨hy1, hy2⟩ := lts2 hz2 | have hy1 := lts1 hz2); have hb9 := hb1) | (go_at_call 152; refine (slices_Contains_int m.br x _ _ _ (by exact Kd.C_below hr bel) hn).mono ?_; rintro e w' ⟨rfl, rfl⟩))
    go_ret
    exact ⟨ret_bool (by simp [live, hl]), bel⟩
end Go.Proofs.YtmkbmddgkdoaiaaGreat
