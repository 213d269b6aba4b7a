/- Lemmas for laws of this seat, for all inputs: Cr2 NX GrS Mv CpW Lo Tx Tz. -/
import Derived.Test.YtmkbmddgkdoaiaaGreatK1
import Derived.Test.YtmkbmddgkdoaiaaGreatK7
import Derived.Test.YtmkbmddgkdoaiaaGreatK6
import Derived.Test.YtmkbmddgkdoaiaaGreatK3
import Derived.ArgAppend
import Derived.Deep.Upon
import Derived.RegionTactic
set_option linter.unusedVariables false
set_option linter.unusedSimpArgs false
namespace Go.Proofs.YtmkbmddgkdoaiaaGreat
open NoC
def caTo (n : Net) (k : Nat) : List Int := ((allGrants n).take k).foldl (implC n) (creditsN n)
theorem rg_get (l : List Grant) (k : Nat) (h : k < l.length) : rg l (k : Int) = l[k] := by simp [rg, List.getD_eq_getElem?_getD, h]
theorem caTo_succ (n : Net) {k : Nat} (h : k < (allGrants n).length) : caTo n (k + 1) = implC n (caTo n k) (rg (allGrants n) k) := by
  unfold caTo
  rw [List.take_succ_eq_append_getElem h, List.foldl_append, rg_get _ k h]
  rfl
theorem caTo_all (n : Net) : caTo n (allGrants n).length = creditsAfterN n := by unfold caTo creditsAfterN; rw [List.take_length]
theorem foldC_len (n : Net) : ∀ (gs : List Grant) (l : List Int), (gs.foldl (implC n) l).length = l.length := by
  intro gs
  induction gs with
  | nil => intro l; rfl
  | cons g gs ih => intro l; show (gs.foldl (implC n) (implC n l g)).length = _; rw [ih, implC_len]
theorem caTo_len (n : Net) (k : Nat) : ((caTo n k).length : Int) = 8 * nodeCount n.mesh.g := by
  unfold caTo
  rw [foldC_len]
  unfold creditsN
  rw [creditsTo_len]
  have := count_nat n.mesh.g
  omega
def Bd (b : Int) (l : List Int) : Prop := ∀ j : Int, -b ≤ ri l j ∧ ri l j ≤ b
theorem ri_any (l : List Int) (k : Nat) (v : Int) (j : Int) : ri (l.set k v) j = if k = j.toNat ∧ j.toNat < l.length then v else ri l j := by
  unfold ri
  rw [List.getD_eq_getElem?_getD, List.getD_eq_getElem?_getD, List.getElem?_set]
  by_cases e : k = j.toNat
  · by_cases h : j.toNat < l.length
    · rw [if_pos e, if_pos (by omega), if_pos ⟨e, h⟩]; rfl
    · rw [if_pos e, if_neg (by omega), if_neg (fun e2 => h e2.2), List.getElem?_eq_none (by omega)]
  · rw [if_neg e, if_neg (fun e2 => e e2.1)]
theorem chgC_bd {b : Int} {l : List Int} (h : Bd b l) (h0 : 0 ≤ b) (k d : Int) (d0 : -1 ≤ d) (d1 : d ≤ 1) : Bd (b + 1) (chgC l k d) := by
  intro j
  have h1 := h j
  have h2 := h k
  unfold chgC
  split
  · omega
  · rw [ri_any]
    split <;> omega
theorem implC_bd {b : Int} {n : Net} {l : List Int} {g : Grant} (h : Bd b l) (h0 : 0 ≤ b) : Bd (b + 2) (implC n l g) := by
  have h1 : Bd (b + 1) (if g.port = 4 then l else chgC l (decK g) (-1)) := by
    split
    · intro j; have := h j; omega
    · exact chgC_bd h h0 _ _ (by omega) (by omega)
  unfold implC incC
  split
  · have := chgC_bd h1 (by omega) (incK n g) 1 (by omega) (by omega)
    intro j
    have := this j
    omega
  · intro j
    have := h1 j
    omega
theorem credits_bd {n : Net} (ok : netOk n = true) : Bd 3 (creditsN n) := by
  intro j
  by_cases hj : j.toNat < (creditsN n).length
  · have e : ri (creditsN n) j = ri (creditsN n) ((j.toNat : Nat) : Int) := by unfold ri; rw [Int.toNat_natCast]
    rw [e]
    unfold creditsN at hj ⊢
    rw [creditsTo_len] at hj
    rw [creditsTo_get n hj]
    unfold creditAt creditN
    split
    · omega
    · rename_i h
      obtain ⟨t, ht⟩ : ∃ t, behindN n ((j.toNat / 8 : Nat) : Int) ((j.toNat / 2 % 4 : Nat) : Int) ((j.toNat % 2 : Nat) : Int) = t := ⟨_, rfl⟩
      rw [ht] at h ⊢
      have hl : (rl n.bufs t).length ≤ 3 := by
        by_cases hb : t.toNat < n.bufs.length
        · obtain ⟨_, _, _, _, _, _, hbb, _⟩ := netOk_parts ok
          have := hbb t.toNat hb
          rw [Int.toNat_of_nonneg (by omega)] at this
          simp only [bufOk, Bool.and_eq_true, decide_eq_true_eq] at this
          exact this.1.1
        · have e2 : rl n.bufs t = [] := by simp [rl, List.getD_eq_getElem?_getD, hb]
          rw [e2]; simp
      omega
  · have e : ri (creditsN n) j = 0 := by simp [ri, List.getD_eq_getElem?_getD, hj]
    rw [e]
    omega
theorem caTo_bd {n : Net} (ok : netOk n = true) : ∀ k : Nat, k ≤ (allGrants n).length → Bd (3 + 2 * k) (caTo n k) := by
  intro k
  induction k with
  | zero =>
    intro _ j
    have := credits_bd ok j
    have e : caTo n 0 = creditsN n := rfl
    rw [e]
    omega
  | succ k ih =>
    intro hk
    rw [caTo_succ n (by omega)]
    intro j
    have := implC_bd (n := n) (g := rg (allGrants n) k) (ih (by omega)) (by omega) j
    push_cast
    omega
end Go.Proofs.YtmkbmddgkdoaiaaGreat
namespace Go.Proofs.YtmkbmddgkdoaiaaGreat
open Go.RowKit Go.Proofs.YtmkbmddgkdoaiaaGreatW.PrintWords
open NoC
def BlkT (w : World) (g t : Nat) : Prop := ∃ cells, w.heap[g]? = some (.cells cells t (0, 0))
theorem BlkT.below {w w1 : World} {g t : Nat} (h : BlkT w g t) (hb : Below w.heap.size w w1) : BlkT w1 g t := let ⟨c, hc⟩ := h; ⟨c, blk_below hc hb⟩
theorem BlkT.set {w : World} {g t : Nat} (h : BlkT w g t) (b o : Nat) (u : Value) : BlkT (w.setCell ⟨b, o, none⟩ u) g t := by
  obtain ⟨c, hc⟩ := h
  by_cases e : g = b
  · subst e; exact ⟨_, blk_set hc o u⟩
  · exact ⟨c, blk_far (p := ⟨b, o, none⟩) hc e u⟩
structure FR (w : World) (lo : Nat) (vs : List Value) (l : List (List Flit)) : Prop where
  len : vs.length = l.length
  row : ∀ i : Nat, i < l.length → kF.R 121 w lo (fun _ => True) (vr vs i) (rl l i)
  ap : ∀ i j : Nat, i < j → j < l.length → Apart (vr vs i) (vr vs j)
theorem FR.ap' {w : World} {lo : Nat} {vs : List Value} {l : List (List Flit)} (h : FR w lo vs l) {i j : Nat} (hne : i ≠ j) (hi : i < l.length) (hj : j < l.length) : Apart (vr vs i) (vr vs j) := by
  rcases Nat.lt_or_gt_of_ne hne with h1 | h1
  · exact h.ap i j h1 hj
  · exact apart_comm (h.ap j i h1 hi)
theorem FR.below {w w1 : World} {lo : Nat} {vs : List Value} {l : List (List Flit)} (h : FR w lo vs l) (hb : Below w.heap.size w w1) : FR w1 lo vs l := ⟨h.len, fun i hi => Kd.R_below (h.row i hi) hb, h.ap⟩
theorem FR.typed {w : World} {lo : Nat} {vs : List Value} {l : List (List Flit)} (h : FR w lo vs l) {g t : Nat} (hb : BlkT w g t) (ht : 121 ≠ t) (j : Nat) (u : Value) : FR (w.setCell ⟨g, j, none⟩ u) lo vs l := by
  obtain ⟨c, hc⟩ := hb
  refine ⟨h.len, fun i hi => Kd.R_set (h.row i hi) hc (fun q hq => ?_) j u, h.ap⟩
  have e : q = 121 := by simpa [kF, Kd.flat] using hq
  rw [e]
  exact ht
def Anew (w : World) (u v : Value) : Prop := u.ownBlock = none ∨ u.ownBlock = v.ownBlock ∨ ∃ b, u.ownBlock = some b ∧ w.heap.size ≤ b
theorem Anew.of_grown {w : World} {u v : Value} (h : u.ownBlock = v.ownBlock ∨ ∃ b, u.ownBlock = some b ∧ w.heap.size ≤ b) : Anew w u v := .inr h
theorem FR.upd {w w1 : World} {lo : Nat} {vs : List Value} {l : List (List Flit)} (h : FR w lo vs l) (k : Nat) (hk : k < l.length) (hg : w.grownBy w1 (vr vs k).ownBlock) {u : Value} {y : List Flit} (hu : kF.R 121 w1 lo (fun _ => True) u y) (hat : Anew w u (vr vs k)) : FR w1 lo (vs.set k u) (l.set k y) := by
  have hl := h.len
  have other : ∀ i : Nat, i < l.length → i ≠ k → Apart (vr vs i) u := by
    intro i hi hne
    have ha := h.ap' hne hi hk
    rcases hat with h1 | h1 | ⟨b, h1, h2⟩
    · exact apart_comm (.inl h1)
    · unfold Apart at ha ⊢
      rwa [h1]
    · have hw := within_R (h.row i hi)
      cases e : (vr vs i).ownBlock with
      | none => exact .inl e
      | some g =>
        right
        rw [h1, e]
        intro e2
        have := hw g e
        have := Option.some.inj e2
        omega
  refine ⟨by rw [List.length_set, List.length_set, hl], fun i hi => ?_, fun i j hij hj => ?_⟩
  · rw [List.length_set] at hi
    rw [vr_set (by omega), set_getB hk i hi]
    by_cases e : i = k
    · subst e
      rw [if_pos rfl, if_pos rfl]
      exact hu
    · rw [if_neg e, if_neg (fun h => e h.symm)]
      exact R_grownF (h.row i hi) hg (h.ap' e hi hk)
  · rw [List.length_set] at hj
    rw [vr_set (by omega), vr_set (by omega)]
    by_cases e1 : i = k
    · rw [if_pos e1, if_neg (by omega)]
      exact apart_comm (other j hj (by omega))
    · rw [if_neg e1]
      by_cases e2 : j = k
      · rw [if_pos e2]
        exact other i (by omega) e1
      · rw [if_neg e2]
        exact h.ap i j hij hj
structure NB (n : Net) : Prop where
  h1 : n.mesh.br.length ≤ 2097152
  h2 : n.pa.length ≤ 2097152
  h3 : n.pb.length ≤ 2097152
  h4 : n.bufs.length ≤ 2097152
  h5 : n.owners.length ≤ 2097152
  h6 : n.turns.length ≤ 2097152
  h7 : n.srcs.length ≤ 2097152
  h8 : n.arrs.length ≤ 2097152
  h9 : ∀ l ∈ n.bufs, l.length ≤ 2097152
  h10 : ∀ l ∈ n.srcs, l.length ≤ 2097152
  h11 : ∀ l ∈ n.arrs, l.length ≤ 2097152
def iv (n : Net) (q : NA) : List Value := [.slice q.a1 n.mesh.br.length q.c1, .slice q.a2 n.pa.length q.c2, .slice q.a3 n.pb.length q.c3, .slice q.a5 n.owners.length q.c5, .slice q.a6 n.turns.length q.c6]
def ov (n : Net) (q : NA) : List Value := [.slice q.a4 n.bufs.length q.c4, .slice q.a7 n.srcs.length q.c7, .slice q.a8 n.arrs.length q.c8]
def AllAp (m : Nat) (vs : List Value) : Prop := ∀ i j : Nat, i < j → j < m → Apart (vr vs i) (vr vs j)
theorem AllAp.of {m : Nat} {vs : List Value} (h : AllAp m vs) {i j : Nat} (hne : i ≠ j) (hi : i < m) (hj : j < m) : Apart (vr vs i) (vr vs j) := by
  rcases Nat.lt_or_gt_of_ne hne with h1 | h1
  · exact h i j h1 hj
  · exact apart_comm (h j i h1 hi)
def vlen : Value → Nat
  | .slice _ n _ => n
  | _ => 0
def Ap0 (u v : Value) : Prop := vlen u = 0 ∨ vlen v = 0 ∨ Apart u v
theorem Ap0.comm {u v : Value} (h : Ap0 u v) : Ap0 v u := by
  rcases h with h | h | h
  · exact .inr (.inl h)
  · exact .inl h
  · exact .inr (.inr (apart_comm h))
def AllAp0 (m : Nat) (vs : List Value) : Prop := ∀ i j : Nat, i < j → j < m → Ap0 (vr vs i) (vr vs j)
theorem AllAp0.of {m : Nat} {vs : List Value} (h : AllAp0 m vs) {i j : Nat} (hne : i ≠ j) (hi : i < m) (hj : j < m) : Ap0 (vr vs i) (vr vs j) := by
  rcases Nat.lt_or_gt_of_ne hne with h1 | h1
  · exact h i j h1 hj
  · exact (h j i h1 hi).comm
structure NX (w : World) (lo : Nat) (n : Net) (q : NA) (v4 v7 v8 : List Value) : Prop where
  br : Kd.R (Kd.int .i64) 3 w lo (fun _ => True) (.slice q.a1 n.mesh.br.length q.c1) n.mesh.br
  pa : Kd.R (Kd.int .i64) 3 w lo (fun _ => True) (.slice q.a2 n.pa.length q.c2) n.pa
  pb : Kd.R (Kd.int .i64) 3 w lo (fun _ => True) (.slice q.a3 n.pb.length q.c3) n.pb
  owners : Kd.R (Kd.int .i64) 3 w lo (fun _ => True) (.slice q.a5 n.owners.length q.c5) n.owners
  turns : Kd.R (Kd.int .i64) 3 w lo (fun _ => True) (.slice q.a6 n.turns.length q.c6) n.turns
  bufs : w.ownsRow lo 108 1 (.slice q.a4 n.bufs.length q.c4) n.bufs.length v4
  srcs : w.ownsRow lo 108 1 (.slice q.a7 n.srcs.length q.c7) n.srcs.length v7
  arrs : w.ownsRow lo 108 1 (.slice q.a8 n.arrs.length q.c8) n.arrs.length v8
  rows : FR w lo (v4 ++ (v7 ++ v8)) (n.bufs ++ (n.srcs ++ n.arrs))
  apI : AllAp0 5 (iv n q)
  apO : AllAp 3 (ov n q)
section
variable {w w1 : World} {lo : Nat} {n : Net} {q : NA} {v4 v7 v8 : List Value}
theorem NX.l4 (h : NX w lo n q v4 v7 v8) : v4.length = n.bufs.length := by have := h.bufs.1; omega
theorem NX.l7 (h : NX w lo n q v4 v7 v8) : v7.length = n.srcs.length := by have := h.srcs.1; omega
theorem NX.l8 (h : NX w lo n q v4 v7 v8) : v8.length = n.arrs.length := by have := h.arrs.1; omega
theorem vr_left {a b : List Value} {i : Nat} (h : i < a.length) : vr (a ++ b) i = vr a i := by simp [vr, List.getD_eq_getElem?_getD, List.getElem?_append, h]
theorem vr_right {a b : List Value} {i : Nat} : vr (a ++ b) (a.length + i) = vr b i := by
  have h : ¬ a.length + i < a.length := by omega
  simp [vr, List.getD_eq_getElem?_getD, List.getElem?_append, h]
theorem rl_left {a b : List (List Flit)} {i : Nat} (h : i < a.length) : rl (a ++ b) i = rl a i := by simp [rl, List.getD_eq_getElem?_getD, List.getElem?_append, h]
theorem rl_right {a b : List (List Flit)} {i : Nat} : rl (a ++ b) ((a.length + i : Nat) : Int) = rl b i := by
  have h : ¬ a.length + i < a.length := by omega
  simp only [rl, Int.toNat_natCast]
  simp [List.getD_eq_getElem?_getD, List.getElem?_append, h]
theorem NX.row4 (h : NX w lo n q v4 v7 v8) (k : Nat) (hk : k < n.bufs.length) : kF.R 121 w lo (fun _ => True) (vr v4 k) (rl n.bufs k) := by
  have := h.rows.row k (by simp; omega)
  rwa [vr_left (by rw [h.l4]; exact hk), rl_left hk] at this
theorem NX.row7 (h : NX w lo n q v4 v7 v8) (k : Nat) (hk : k < n.srcs.length) : kF.R 121 w lo (fun _ => True) (vr v7 k) (rl n.srcs k) := by
  have := h.rows.row (n.bufs.length + k) (by simp; omega)
  rw [rl_right, ← h.l4, vr_right] at this
  rwa [vr_left (by rw [h.l7]; exact hk), rl_left hk] at this
theorem NX.row8 (h : NX w lo n q v4 v7 v8) (k : Nat) (hk : k < n.arrs.length) : kF.R 121 w lo (fun _ => True) (vr v8 k) (rl n.arrs k) := by
  have := h.rows.row (n.bufs.length + (n.srcs.length + k)) (by simp; omega)
  rw [rl_right, rl_right, ← h.l4, vr_right, ← h.l7, vr_right] at this
  exact this
theorem NX.below (h : NX w lo n q v4 v7 v8) (hb : Below w.heap.size w w1) : NX w1 lo n q v4 v7 v8 :=
  ⟨Kd.R_below h.br hb, Kd.R_below h.pa hb, Kd.R_below h.pb hb, Kd.R_below h.owners hb, Kd.R_below h.turns hb, pw_own_below h.bufs hb, pw_own_below h.srcs hb, pw_own_below h.arrs hb, h.rows.below hb, h.apI, h.apO⟩
theorem NX.typed (h : NX w lo n q v4 v7 v8) {g t : Nat} (hb : BlkT w g t) (h1 : 3 ≠ t) (h2 : 108 ≠ t) (h3 : 121 ≠ t) (j : Nat) (u : Value) : NX (w.setCell ⟨g, j, none⟩ u) lo n q v4 v7 v8 := by
  have hb' := hb
  obtain ⟨c, hc⟩ := hb
  have hI : ∀ x, x ∈ 3 :: (Kd.int .i64).E → x ≠ t := fun x hx => by
    have e : x = 3 := by simpa [Kd.int, Kd.scalar] using hx
    rw [e]
    exact h1
  exact ⟨Kd.R_set h.br hc hI j u, Kd.R_set h.pa hc hI j u, Kd.R_set h.pb hc hI j u, Kd.R_set h.owners hc hI j u, Kd.R_set h.turns hc hI j u, own_setCell h.bufs (p := ⟨g, j, none⟩) (own_ne h.bufs hc h2) u, own_setCell h.srcs (p := ⟨g, j, none⟩) (own_ne h.srcs hc h2) u, own_setCell h.arrs (p := ⟨g, j, none⟩) (own_ne h.arrs hc h2) u, h.rows.typed hb' h3 j u, h.apI, h.apO⟩
theorem NX.kept (h : NX w lo n q v4 v7 v8) {k : Nat} (hk : k < (n.bufs ++ (n.srcs ++ n.arrs)).length) (hg : w.grownBy w1 (vr (v4 ++ (v7 ++ v8)) k).ownBlock) : Kd.R (Kd.int .i64) 3 w1 lo (fun _ => True) (.slice q.a1 n.mesh.br.length q.c1) n.mesh.br ∧ Kd.R (Kd.int .i64) 3 w1 lo (fun _ => True) (.slice q.a2 n.pa.length q.c2) n.pa ∧ Kd.R (Kd.int .i64) 3 w1 lo (fun _ => True) (.slice q.a3 n.pb.length q.c3) n.pb ∧ Kd.R (Kd.int .i64) 3 w1 lo (fun _ => True) (.slice q.a5 n.owners.length q.c5) n.owners ∧ Kd.R (Kd.int .i64) 3 w1 lo (fun _ => True) (.slice q.a6 n.turns.length q.c6) n.turns ∧ w1.ownsRow lo 108 1 (.slice q.a4 n.bufs.length q.c4) n.bufs.length v4 ∧ w1.ownsRow lo 108 1 (.slice q.a7 n.srcs.length q.c7) n.srcs.length v7 ∧ w1.ownsRow lo 108 1 (.slice q.a8 n.arrs.length q.c8) n.arrs.length v8 := by
  obtain ⟨inner, hin⟩ := Kd.R_own (h.rows.row k hk)
  have keepI : ∀ {v : Value} {xs : List Int}, Kd.R (Kd.int .i64) 3 w lo (fun _ => True) v xs → Kd.R (Kd.int .i64) 3 w1 lo (fun _ => True) v xs := fun hr => by
    obtain ⟨i2, hi2⟩ := Kd.R_own hr
    exact R_grownI hr hg (own_type_ne hi2 hin (by decide))
  exact ⟨keepI h.br, keepI h.pa, keepI h.pb, keepI h.owners, keepI h.turns, own_other h.bufs hg (own_type_ne h.bufs hin (by decide)), own_other h.srcs hg (own_type_ne h.srcs hin (by decide)), own_other h.arrs hg (own_type_ne h.arrs hin (by decide))⟩
theorem NX.time (h : NX w lo n q v4 v7 v8) (t : Int) : NX w lo { n with time := t } q v4 v7 v8 := ⟨h.br, h.pa, h.pb, h.owners, h.turns, h.bufs, h.srcs, h.arrs, h.rows, h.apI, h.apO⟩
theorem own_readsB {w : World} {lo m c : Nat} {A : Option Addr} {vs : List Value} {l : List (List Flit)} (ho : w.ownsRow lo 108 1 (.slice A m c) l.length vs) (hr : ∀ i : Nat, i < l.length → kF.R 121 w lo (fun _ => True) (vr vs i) (rl l i)) : m = l.length ∧ m ≤ c ∧ (kB 121).C w A m l := by
  have hl := ho.1
  refine Kd.R_rowX (e := 108) (base := lo) (d := kB 121) ⟨fun _ _ => trivial, vs, ho, by show vs.length = l.length * 1; omega, fun j p hj => ?_⟩
  have hlt := (List.getElem?_eq_some_iff.1 hj).1
  have hp : rl l j = p := by simp [rl, List.getD_eq_getElem?_getD, hj]
  have hr2 := hr j hlt
  rw [hp] at hr2
  refine ⟨vr vs j, ?_, ?_⟩
  · have hjv : j < vs.length := by omega
    have e : vr vs j = vs[j] := by simp [vr, List.getD_eq_getElem?_getD, hjv]
    show (vs.drop (j * 1)).take 1 = _
    rw [e, Nat.mul_one, List.drop_eq_getElem_cons hjv]
    rfl
  · cases hv : (Value.slice A m c).ownBlock with
    | none => exact Kd.R_mono hr2 (fun k hk => ⟨hk, by simp⟩)
    | some g =>
      obtain ⟨cells, hc⟩ := own_typed ho g hv
      refine Kd.R_mono (Kd.R_types hr2 hc (by decide)) (fun k hk => ⟨hk.1, fun e => hk.2 (Option.some.inj e)⟩)
theorem NX.reads (h : NX w lo n q v4 v7 v8) (k : NB n) : NetR 121 w n q :=
  ⟨(Kd.R_rowX h.br).2.2, (Kd.R_rowX h.pa).2.2, (Kd.R_rowX h.pb).2.2, (own_readsB h.bufs h.row4).2.2, (Kd.R_rowX h.owners).2.2, (Kd.R_rowX h.turns).2.2, (own_readsB h.srcs h.row7).2.2, (own_readsB h.arrs h.row8).2.2, k.h1, k.h2, k.h3, k.h4, k.h5, k.h6, k.h7, k.h8, k.h9, k.h10, k.h11⟩
theorem rowI_form {W : World} {base : Nat} {A : Option Addr} {m c : Nat} {xs : List Int} (h : Kd.R (Kd.int .i64) 3 W base (fun _ => True) (.slice A m c) xs) (h0 : 0 < xs.length) : ∃ g, A = some ⟨g, 0, none⟩ ∧ base ≤ g ∧ g < W.heap.size := by
  obtain ⟨inner, hin⟩ := Kd.R_own h
  obtain ⟨g, cap, e, hb, hl⟩ := hin.form h0
  injection e with e1 _ _
  exact ⟨g, e1, hb, hl⟩
end
def BT (w : World) (bx : Nat) (n : Net) (q : NA) : Prop := w.heap[bx]? = some (.cells (netCells n q) 44 (0, 0))
section
variable {w w1 : World} {bx : Nat} {n : Net} {q : NA}
theorem BT.box (h : BT w bx n q) : Box w bx (netCells n q) := ⟨blk_lt h, fun o => blk_cell h o⟩
theorem BT.frozen (h : BT w bx n q) (o : Nat) : w.frozen? ⟨bx, o, none⟩ = false := blk_frozen h o
theorem BT.lt (h : BT w bx n q) : bx < w.heap.size := blk_lt h
theorem BT.blk (h : BT w bx n q) : BlkT w bx 44 := ⟨_, h⟩
theorem BT.below (h : BT w bx n q) (hb : Below w.heap.size w w1) : BT w1 bx n q := blk_below h hb
theorem BT.far {g t : Nat} (h : BT w bx n q) (hb : BlkT w g t) (ht : 44 ≠ t) (j : Nat) (u : Value) : BT (w.setCell ⟨g, j, none⟩ u) bx n q := by
  obtain ⟨c, hc⟩ := hb
  exact blk_far (p := ⟨g, j, none⟩) h (blk_ne h hc ht) u
theorem BT.grown {v : Value} {lo : Nat} {y : List Flit} (h : BT w bx n q) (hg : w.grownBy w1 v.ownBlock) (hr : kF.R 121 w lo (fun _ => True) v y) : BT w1 bx n q := by
  obtain ⟨inner, hin⟩ := Kd.R_own hr
  exact blk_grown h hg (own_ne hin h (by decide))
theorem BT.new (w : World) (n : Net) (q : NA) : BT (w.alloc (.cells (netCells n q) 44)) w.heap.size n q := blk_new w _
end
theorem info_b : (Tryz.prog.info? 4).map (fun i => (i.zero, i.size, i.bytes)) = some (some (.bool false), 1, 1) := by kernel_rfl
set_option maxHeartbeats 8000000 in
set_option maxRecDepth 100000 in
theorem spec_l18Grants (n : Net) (q : NA) (a : Int) (w : World) (hr : NetR 121 w n q) (ok : netOk n = true) (nd : isNode n.mesh.g a = true) :
  Calls Tryz.prog 125 #[.agg (netCells n q), .int .i64 a] w fun e w' => GotG w w' (grantsN n a) e ∧ Below w.heap.size w w' := by
 have R := Lib.hid hr
 have OK := Lib.hid ok
 have ND := Lib.hid nd
 obtain ⟨_, _, _, a15⟩ := node_bounds nd
 have a0 := (isNode_iff.1 nd).1
 obtain ⟨u0, u1, _, _⟩ := turn_range ok nd 0 (by omega)
 clear ok nd
 obtain ⟨a1, a2, a3, a4, a5, a6, a7, a8, c1, c2, c3, c4, c5, c6, c7, c8⟩ := q; obtain ⟨Rbr, Rpa, Rpb, Rbu, Row, Rtu, Rso, Rar, L1, L2, L3, L4, L5, L6, L7, L8, L9, L10, L11⟩ := hr; have M9 := Lib.hid L9; have M10 := Lib.hid L10; have M11 := Lib.hid L11; clear L9 L10 L11; dsimp only [netCells] at *
 obtain ⟨b6, o6, rfl, hb6, r6⟩ := rdI_all Rtu (by omega)
 obtain ⟨z1, z2, z3, z4, z5, z6⟩ := more hb6
 have R6 := Lib.hid r6
 clear r6 u0 u1
 have mk : ∀ W : World, (Instr.makeSlice 161 (.int .i64 5) (.int .i64 5)).run Tryz.prog W = .ok (.slice (some ⟨W.heap.size, 0, none⟩) 5 5) (W.alloc (.cells (uCells [false, false, false, false, false]) 4)) :=
  fun W => by
   have h := print_make_int (P := Tryz.prog) 161 4 (.bool false) 1 Tryz.underlying161 info_b rfl (by omega) 5 (by omega) (by decide) W
   rw [show (5 : Int).toNat = 5 from rfl, show madeCells #[.bool false] 5 = uCells [false, false, false, false, false] by first | rfl | kernel_rfl | (apply Array.ext'; simp [madeCells, uCells]; rfl)] at h
   exact h
 go_enter Tryz.func125, Tryz.ntmps125
 go_wp2
 go_loopw [5, 7] (fun v i wr => ∃ p : Nat, i = .int .i64 p ∧ p ≤ 5 ∧ kG.R 76 wr (w.alloc (.cells #[.int .i64 n.mesh.g.w, .int .i64 n.mesh.g.h, .slice a1 n.mesh.br.length c1, .slice a2 n.pa.length c2, .slice a3 n.pb.length c3, .slice a4 n.bufs.length c4, .slice a5 n.owners.length c5, .slice (some ⟨b6, o6, none⟩) n.turns.length c6, .slice a7 n.srcs.length c7, .slice a8 n.arrs.length c8, .int .i64 n.time] 44)).heap.size (fun _ => True) v (gst n a p).2 ∧ UB 4 wr (w.heap.size + 1 + 1) (gst n a p).1 ∧ Below (w.alloc (.cells #[.int .i64 n.mesh.g.w, .int .i64 n.mesh.g.h, .slice a1 n.mesh.br.length c1, .slice a2 n.pa.length c2, .slice a3 n.pb.length c3, .slice a4 n.bufs.length c4, .slice a5 n.owners.length c5, .slice (some ⟨b6, o6, none⟩) n.turns.length c6, .slice a7 n.srcs.length c7, .slice a8 n.arrs.length c8, .int .i64 n.time] 44)).heap.size (w.alloc (.cells #[.int .i64 n.mesh.g.w, .int .i64 n.mesh.g.h, .slice a1 n.mesh.br.length c1, .slice a2 n.pa.length c2, .slice a3 n.pb.length c3, .slice a4 n.bufs.length c4, .slice a5 n.owners.length c5, .slice (some ⟨b6, o6, none⟩) n.turns.length c6, .slice a7 n.srcs.length c7, .slice a8 n.arrs.length c8, .int .i64 n.time] 44)) wr) (fun _ i _ => 5 - (intOf i).toNat)
 case atStart => exact ⟨0, rfl, Nat.zero_le _, Kd.R_below (R_empty' kG 76 (W0 := w.alloc (.cells #[.int .i64 n.mesh.g.w, .int .i64 n.mesh.g.h, .slice a1 n.mesh.br.length c1, .slice a2 n.pa.length c2, .slice a3 n.pb.length c3, .slice a4 n.bufs.length c4, .slice a5 n.owners.length c5, .slice (some ⟨b6, o6, none⟩) n.turns.length c6, .slice a7 n.srcs.length c7, .slice a8 n.arrs.length c8, .int .i64 n.time] 44)) (W := w.alloc (.cells #[.int .i64 n.mesh.g.w, .int .i64 n.mesh.g.h, .slice a1 n.mesh.br.length c1, .slice a2 n.pa.length c2, .slice a3 n.pb.length c3, .slice a4 n.bufs.length c4, .slice a5 n.owners.length c5, .slice (some ⟨b6, o6, none⟩) n.turns.length c6, .slice a7 n.srcs.length c7, .slice a8 n.arrs.length c8, .int .i64 n.time] 44)) (Nat.le_refl _) (w.heap.size + 1) (by simp only [szs])) (bw_alloc _ (bw_refl _)), ⟨rfl, Blk.new ((w.alloc (.cells #[.int .i64 n.mesh.g.w, .int .i64 n.mesh.g.h, .slice a1 n.mesh.br.length c1, .slice a2 n.pa.length c2, .slice a3 n.pb.length c3, .slice a4 n.bufs.length c4, .slice a5 n.owners.length c5, .slice (some ⟨b6, o6, none⟩) n.turns.length c6, .slice a7 n.srcs.length c7, .slice a8 n.arrs.length c8, .int .i64 n.time] 44)).alloc (.cells #[] 76)) _ _ _ (by simp only [szs])⟩, bel⟩
 case round =>
  obtain ⟨p, rfl, hp, HO, HU, HB⟩ := hrel
  obtain ⟨Ao, co, rfl⟩ := Kd.R_slice HO
  have hlen := gst_len n a p
  have husl := gst_us n a p
  obtain ⟨hcr, hfr, hzr⟩ := bcell HB
  simp only [szs] at hzr
  have yy1 := lts1 hzr
  have hul := HU.2.lt
  by_cases hlt : p < 5
  ·have p0 : (p : Int) ≤ 4 := by omega
   obtain ⟨t0, t1, t2, t3⟩ := turn_range OK.out ND.out p hlt
   have r6 := R6.out (5 * a + (p : Int)) t0 t1
   obtain ⟨us, eus⟩ : ∃ us, (gst n a p).1 = us := ⟨_, rfl⟩
   obtain ⟨k0, k1⟩ := pick_range n a p us
   obtain ⟨k, hk⟩ : ∃ k, pick n a p us = k := ⟨_, rfl⟩
   rw [hk] at k0 k1
   rw [eus] at HU husl
   have HK := Lib.hid hk
   have HE := Lib.hid (show pick n a p (gst n a p).1 = k by rw [eus]; exact hk)
   have EUS := Lib.hid eus
   have HUSL := Lib.hid husl
   have HUH := Lib.hid HU
   have HOH := Lib.hid HO
   clear hk eus husl HU HO
   obtain ⟨wo, rfl⟩ : ∃ x, x = wr := ⟨_, rfl⟩
   go_wp2
   go_loopw [8, 9] (fun v j wr => ∃ k : Nat, j = .int .i64 k ∧ k ≤ 10 ∧ Kd.R (Kd.int .i64) 3 wr wo.heap.size (fun _ => True) v (freeTo n a p us k) ∧ Below wo.heap.size wo wr) (fun _ j _ => 10 - (intOf j).toNat)
   case atStart => exact ⟨0, rfl, Nat.zero_le _, R_empty (W0 := wo) _ _ (bw_size (bw_refl wo)), bel⟩
   case round =>
    obtain ⟨x, rfl, hx, HF, HI⟩ := hrel
    obtain ⟨Af, cf, rfl⟩ := Kd.R_slice HF
    have flen := freeTo_len n a p us x
    obtain ⟨hci, hfi, hzi⟩ := bcell HI
    have hwi := bw_then HB HI
    obtain ⟨hcj, hfj, hzj⟩ := bcell hwi
    simp only [szs] at hzj
    have yy2 := lts1 hzj
    have HUI := Lib.hid (HUH.out.below HI)
    by_cases hlx : x < 10
    ·have i0 : (x : Int) < 10 := by omega
     have cx : wo.cell? ⟨w.heap.size + 1 + 1, x / 2, none⟩ = some (.bool (usedAt us (x : Int))) := by
      have h := HUH.out.cell (x := (x : Int)) (by omega) (by omega)
      rwa [show ((x : Int) / 2).toNat = x / 2 by omega] at h
     have j2 : x / 2 < 5 := by omega
     have j0 : 0 ≤ (x : Int) / 2 := by omega
     have j1 : (x : Int) / 2 < 5 := by omega
     have HIN := Lib.hid (reqI_in (n := n) (a := a) (i := (x : Int)) (p := (p : Int)) (by omega) p0)
     cases hux : usedAt us x
     ·rw [hux] at cx
      have HUX := Lib.hid hux
      clear hux
      cases hq : requestN n a x p
      ·have HS := Lib.hid (freeTo_no2 (us := us) (HIN.out.trans hq))
       go_wp2_with (go_at_call 157; refine (spec_l17Request n _ a x p _ (R.out.below bel) ⟨OK.out, ND.out, by omega, by omega⟩ (by omega) p0).mono ?_; rintro e w1 ⟨rfl, hb1⟩; obtain ⟨hc1, hf1, hz1⟩ := bcell hb1; (try simp only [szs] at hz1); have hb2 := far2; obtain ⟨hc2, hf2, hz2⟩ := bcell hb2; (try simp only [szs] at hz2); try (first | obtain ⟨hy1, hy2, hy3, hy4⟩ := lts4 hz2 | obtain ⟨hy1, hy2, hy3⟩ := lts3 hz2 | obtain ⟨hy1, hy2⟩ := lts2 hz2 | have hy1 := lts1 hz2); have hb9 := hb1)
       go_roundw
       case rel => exact ⟨x + 1, by go_num, by omega, by rw [HS.out]; exact Kd.R_below HF hb1, bw_then HI hb1⟩
       case measure => simp [intOf]; omega
      ·have HS := Lib.hid (freeTo_yes (us := us) HUX.out (HIN.out.trans hq))
       go_wp2_with (first | (go_at_call 157; refine (spec_l17Request n _ a x p _ (R.out.below bel) ⟨OK.out, ND.out, by omega, by omega⟩ (by omega) p0).mono ?_; rintro e w1 ⟨rfl, hb1⟩; obtain ⟨hc1, hf1, hz1⟩ := bcell hb1; (try simp only [szs] at hz1); have hb2 := far2; obtain ⟨hc2, hf2, hz2⟩ := bcell hb2; (try simp only [szs] at hz2); try (first | obtain ⟨hy1, hy2, hy3, hy4⟩ := lts4 hz2 | obtain ⟨hy1, hy2, hy3⟩ := lts3 hz2 | obtain ⟨hy1, hy2⟩ := lts2 hz2 | have hy1 := lts1 hz2); have hb9 := hb1) | (at_builtin; refine app_int (W0 := wo) rfl (.tmp 35) (.tmp 37) 24 3 rfl Tryz.underlying24 info_int _ (freeTo n a p us x) _ rfl (by first | rfl | exact congrArg (fun z => Value.slice (some ⟨z, 0, none⟩) 1 1) (World.size_alloc _ _).symm) (Kd.R_below HF hb1) (bw_then HI hb1) (by omega) ?_; intro v1 w1 HO1 HB1))
       go_roundw
       case rel => exact ⟨x + 1, by go_num, by omega, by rw [HS.out]; exact HO1, HB1⟩
       case measure => simp [intOf]; omega
     ·rw [hux] at cx
      have HS := Lib.hid (freeTo_no1 (n := n) (a := a) (p := (p : Int)) hux)
      clear hux
      go_wp2
      go_roundw
      case rel => exact ⟨x + 1, by go_num, by omega, by rw [HS.out]; exact HF, HI⟩
      case measure => simp [intOf]; omega
    ·have i0 : ¬ (x : Int) < 10 := by omega
     obtain rfl : x = 10 := by omega
     have HC2 := Lib.hid (Kd.R_row HF).2.2
     have HO2 := Lib.hid (Kd.R_below HOH.out HI)
     have HSM : Hid (smallL (freeTo n a p us 10)) := Lib.hid (smallL_mem (left_small n a p us))
     clear HF
     go_wp2_with fail
     refine (spec_FirstFrom (freeTo n a p us 10) (ri n.turns (5 * a + (p : Int))) Af cf _ HC2.out (by omega) HSM.out t2 t3).mono ?_
     rintro e w' ⟨he, rfl⟩
     rw [show firstFrom (freeTo n a p us 10) (ri n.turns (5 * a + (p : Int))) = k from HK.out] at he
     subst he
     by_cases hk0 : 0 ≤ k
     ·have HS := Lib.hid (gst_yes HE.out hk0)
      have j0 : 0 ≤ k / 2 := by omega
      have j1 : k / 2 < 5 := by omega
      have c9 := HUH.out.cell hk0 k1
      have f9 := HUH.out.2.frozen (k / 2).toNat
      have HRS := Lib.hid (Kd.R_set HO2.out HUI.out.2 (by decide) (k / 2).toNat (.bool true))
      have HUS : Hid (UB 4 (wr.setCell ⟨w.heap.size + 1 + 1, (k / 2).toNat, none⟩ (.bool true)) (w.heap.size + 1 + 1) (us.set (k / 2).toNat true)) := Lib.hid ⟨by rw [List.length_set]; exact HUSL.out, by have h := HUI.out.2.set (k / 2).toNat (.bool true); rwa [uCells_set] at h⟩
      have HBS : Below (w.alloc (.cells #[.int .i64 n.mesh.g.w, .int .i64 n.mesh.g.h, .slice a1 n.mesh.br.length c1, .slice a2 n.pa.length c2, .slice a3 n.pb.length c3, .slice a4 n.bufs.length c4, .slice a5 n.owners.length c5, .slice (some ⟨b6, o6, none⟩) n.turns.length c6, .slice a7 n.srcs.length c7, .slice a8 n.arrs.length c8, .int .i64 n.time] 44)).heap.size (w.alloc (.cells #[.int .i64 n.mesh.g.w, .int .i64 n.mesh.g.h, .slice a1 n.mesh.br.length c1, .slice a2 n.pa.length c2, .slice a3 n.pb.length c3, .slice a4 n.bufs.length c4, .slice a5 n.owners.length c5, .slice (some ⟨b6, o6, none⟩) n.turns.length c6, .slice a7 n.srcs.length c7, .slice a8 n.arrs.length c8, .int .i64 n.time] 44)) (wr.setCell ⟨w.heap.size + 1 + 1, (k / 2).toNat, none⟩ (.bool true)) := bw_set _ hwi (by simp only [szs]; omega)
      go_wp2_with (at_builtin; refine app_G (W0 := w.alloc (.cells #[.int .i64 n.mesh.g.w, .int .i64 n.mesh.g.h, .slice a1 n.mesh.br.length c1, .slice a2 n.pa.length c2, .slice a3 n.pb.length c3, .slice a4 n.bufs.length c4, .slice a5 n.owners.length c5, .slice (some ⟨b6, o6, none⟩) n.turns.length c6, .slice a7 n.srcs.length c7, .slice a8 n.arrs.length c8, .int .i64 n.time] 44)) rfl (.tmp 55) (.tmp 60) rfl _ (gst n a p).2 ⟨a, p, k⟩ rfl (by first | rfl | exact congrArg (fun z => Value.slice (some ⟨z, 0, none⟩) 1 1) (by simp only [szs])) HRS.out HBS (by omega) ?_; intro v3 w3 HO3 HB3 hg3)
      go_roundw
      case rel => exact ⟨p + 1, by go_num, by omega, by rw [HS.out]; exact HO3, by rw [HS.out, EUS.out]; exact HUS.out.grown hg3 (Kd.R_ne HRS.out HUS.out.2 (by decide)), HB3⟩
      case measure => simp [intOf]; omega
     ·have HS := Lib.hid (gst_no HE.out (by omega))
      go_wp2
      go_roundw
      case rel => exact ⟨p + 1, by go_num, by omega, by rw [HS.out]; exact HO2.out, by rw [HS.out, EUS.out]; exact HUI.out, hwi⟩
      case measure => simp [intOf]; omega
  ·have p0 : ¬ (p : Int) ≤ 4 := by omega
   obtain rfl : p = 5 := by omega
   go_wp2
   go_ret
   exact ⟨⟨_, rfl, Kd.R_lower HO (by simp only [szs]; omega)⟩, bel⟩
set_option maxHeartbeats 4000000 in
set_option maxRecDepth 100000 in
theorem spec_l18All (n : Net) (q : NA) (w : World) (hr : NetR 121 w n q) (ok : netOk n = true) :
    Calls Tryz.prog 80 #[.agg (netCells n q)] w fun e w' => GotG w w' (allGrants n) e ∧ Below w.heap.size w w' := by
  have R := Lib.hid hr
  have OK := Lib.hid ok
  obtain ⟨n0, n1⟩ := count_le n.mesh.g
  obtain ⟨N, hN⟩ : ∃ N : Nat, nodeCount n.mesh.g = (N : Int) := ⟨(nodeCount n.mesh.g).toNat, by omega⟩
  have N16 : N ≤ 16 := by omega
  have HN : Hid (allGrants n = allTo n N) := Lib.hid (by rw [allGrants, hN]; rfl)
  have HC := Lib.hid hN
  have HND : Hid (∀ k : Nat, k < N → isNode n.mesh.g k = true) := Lib.hid (fun k hk => isNode_iff.2 ⟨by omega, by rw [HC.out]; omega⟩)
  clear ok hN n0 n1
  obtain ⟨a1, a2, a3, a4, a5, a6, a7, a8, c1, c2, c3, c4, c5, c6, c7, c8⟩ := q
  clear hr
  dsimp only [netCells]
  go_enter Tryz.func80, Tryz.ntmps80
  go_wp2
  go_loopw [3, 4] (fun v i wr => ∃ k : Nat, i = .int .i64 k ∧ k ≤ N ∧ kG.R 76 wr (w.alloc (.cells #[.int .i64 n.mesh.g.w, .int .i64 n.mesh.g.h, .slice a1 n.mesh.br.length c1, .slice a2 n.pa.length c2, .slice a3 n.pb.length c3, .slice a4 n.bufs.length c4, .slice a5 n.owners.length c5, .slice a6 n.turns.length c6, .slice a7 n.srcs.length c7, .slice a8 n.arrs.length c8, .int .i64 n.time] 44)).heap.size (fun _ => True) v (allTo n k) ∧ Below (w.alloc (.cells #[.int .i64 n.mesh.g.w, .int .i64 n.mesh.g.h, .slice a1 n.mesh.br.length c1, .slice a2 n.pa.length c2, .slice a3 n.pb.length c3, .slice a4 n.bufs.length c4, .slice a5 n.owners.length c5, .slice a6 n.turns.length c6, .slice a7 n.srcs.length c7, .slice a8 n.arrs.length c8, .int .i64 n.time] 44)).heap.size (w.alloc (.cells #[.int .i64 n.mesh.g.w, .int .i64 n.mesh.g.h, .slice a1 n.mesh.br.length c1, .slice a2 n.pa.length c2, .slice a3 n.pb.length c3, .slice a4 n.bufs.length c4, .slice a5 n.owners.length c5, .slice a6 n.turns.length c6, .slice a7 n.srcs.length c7, .slice a8 n.arrs.length c8, .int .i64 n.time] 44)) wr) (fun _ i _ => N - (intOf i).toNat)
  case atStart => exact ⟨0, rfl, Nat.zero_le _, R_empty' kG 76 (W0 := w.alloc (.cells #[.int .i64 n.mesh.g.w, .int .i64 n.mesh.g.h, .slice a1 n.mesh.br.length c1, .slice a2 n.pa.length c2, .slice a3 n.pb.length c3, .slice a4 n.bufs.length c4, .slice a5 n.owners.length c5, .slice a6 n.turns.length c6, .slice a7 n.srcs.length c7, .slice a8 n.arrs.length c8, .int .i64 n.time] 44)) (W := w.alloc (.cells #[.int .i64 n.mesh.g.w, .int .i64 n.mesh.g.h, .slice a1 n.mesh.br.length c1, .slice a2 n.pa.length c2, .slice a3 n.pb.length c3, .slice a4 n.bufs.length c4, .slice a5 n.owners.length c5, .slice a6 n.turns.length c6, .slice a7 n.srcs.length c7, .slice a8 n.arrs.length c8, .int .i64 n.time] 44)) (Nat.le_refl _) (w.heap.size + 1) (by simp only [szs]), bel⟩
  case round =>
    obtain ⟨k, rfl, hk, HO, HB⟩ := hrel
    obtain ⟨Ao, co, rfl⟩ := Kd.R_slice HO
    have hlen := allTo_len n k
    obtain ⟨hcr, hfr, hzr⟩ := bcell HB
    simp only [szs] at hzr
    have yy1 := lts1 hzr
    by_cases hlt : k < N
    · have i0 : (k : Int) < (N : Int) := by omega
      have HS := Lib.hid (allTo_succ n k)
      have gl := gst_len n k 5
      go_wp2_with (first | (go_at_call 78; refine (spec_NodeCount n.mesh.g _).mono ?_; rintro e w1 ⟨he, hb1⟩; rw [HC.out] at he; subst he; obtain ⟨hc1, hf1, hz1⟩ := bcell hb1; (try simp only [szs] at hz1); have hb2 := far2; obtain ⟨hc2, hf2, hz2⟩ := bcell hb2; (try simp only [szs] at hz2); try (first | obtain ⟨hy1, hy2, hy3, hy4⟩ := lts4 hz2 | obtain ⟨hy1, hy2, hy3⟩ := lts3 hz2 | obtain ⟨hy1, hy2⟩ := lts2 hz2 | have hy1 := lts1 hz2); have hb9 := hb1) | (go_at_call 125; refine (spec_l18Grants n _ k _ (R.out.below bel) OK.out (HND.out k hlt)).mono ?_; rintro e w1 ⟨hg1, hb1⟩; obtain ⟨A1, d1, rfl, hk1, hC1⟩ := hg1.read; obtain ⟨hc1, hf1, hz1⟩ := bcell hb1; (try simp only [szs] at hz1); have hb2 := far2; obtain ⟨hc2, hf2, hz2⟩ := bcell hb2; (try simp only [szs] at hz2); try (first | obtain ⟨hy1, hy2, hy3, hy4⟩ := lts4 hz2 | obtain ⟨hy1, hy2, hy3⟩ := lts3 hz2 | obtain ⟨hy1, hy2⟩ := lts2 hz2 | have hy1 := lts1 hz2); have hb9 := hb1) | (at_builtin; refine apps_G (W0 := w.alloc (.cells #[.int .i64 n.mesh.g.w, .int .i64 n.mesh.g.h, .slice a1 n.mesh.br.length c1, .slice a2 n.pa.length c2, .slice a3 n.pb.length c3, .slice a4 n.bufs.length c4, .slice a5 n.owners.length c5, .slice a6 n.turns.length c6, .slice a7 n.srcs.length c7, .slice a8 n.arrs.length c8, .int .i64 n.time] 44)) rfl (.tmp 14) (.tmp 17) rfl _ (allTo n k) (grantsN n k) A1 d1 rfl rfl (by exact Kd.R_below HO bel) hC1 bel (by unfold grantsN; omega) ?_; intro v2 w2 HO2 HB2))
      go_roundw
      case rel => exact ⟨k + 1, by go_num, by omega, by rw [HS.out]; exact HO2, HB2⟩
      case measure => simp [intOf]; omega
    · have i0 : ¬ (k : Int) < (N : Int) := by omega
      obtain rfl : k = N := by omega
      go_wp2_with (go_at_call 78; refine (spec_NodeCount n.mesh.g _).mono ?_; rintro e w1 ⟨he, hb1⟩; rw [HC.out] at he; subst he; obtain ⟨hc1, hf1, hz1⟩ := bcell hb1; (try simp only [szs] at hz1); have hb2 := far2; obtain ⟨hc2, hf2, hz2⟩ := bcell hb2; (try simp only [szs] at hz2); try (first | obtain ⟨hy1, hy2, hy3, hy4⟩ := lts4 hz2 | obtain ⟨hy1, hy2, hy3⟩ := lts3 hz2 | obtain ⟨hy1, hy2⟩ := lts2 hz2 | have hy1 := lts1 hz2); have hb9 := hb1)
      go_ret
      exact ⟨by rw [HN.out]; exact ⟨_, rfl, Kd.R_lower (by exact Kd.R_below HO bel) (by simp only [szs]; omega)⟩, bel⟩
theorem allGrants_len (n : Net) : (allGrants n).length ≤ 80 := by
  have h1 := allTo_len n (nodeCount n.mesh.g).toNat
  have h2 := count_le n.mesh.g
  unfold allGrants
  omega
def Lit (e : Nat) (w : World) (g : Nat) : Prop := w.heap[g]? = some (.cells #[] e (0, 0))
theorem R_lit {α : Type} (d : Kd α) {e g B : Nat} {w : World} (h : Lit e w g) (hB : B ≤ g) : d.R e w B (fun _ => True) (.slice (some ⟨g, 0, none⟩) 0 0) [] := by
  refine ⟨fun _ _ => trivial, [], ?_, Reps.none _ _⟩
  exact ⟨by simp, .inr ⟨g, 0, #[], rfl, hB, h, Nat.le_refl _, Nat.zero_le _, by simp, by simp⟩⟩
section
variable {ops : Array Oper} {rest : List Oper} {o : Oper} {a : Act} {Q : Exit → Act → World → Prop} {Kc : Act → World → Prop} {α : Type}
end
end Go.Proofs.YtmkbmddgkdoaiaaGreat
namespace Go.Proofs.YtmkbmddgkdoaiaaGreat
open Go.RowKit Go.Proofs.YtmkbmddgkdoaiaaGreatW.PrintWords
inductive LK where
  | quiet
  | lit
  | chain
deriving DecidableEq
def LoOp (P : Program) (o : Oper) (a : Act) (w : World) (post : Value → World → Prop) : Prop :=
  match (execOp a.eval o).run P w with
  | .ok (.value v) w' => post v w'
  | .ok (.enter f args) w' => Calls P f args w' fun e w'' => ∃ v, e = .returned v ∧ post v w''
  | .ok .skip w' => o.dst = none ∧ post undef w'
  | _ => False
theorem LoOp.wp {P : Program} {o : Oper} {a : Act} {w : World} {post : Value → World → Prop} (h : LoOp P o a w post) {K : Act → World → Prop} {Q : Exit → Act → World → Prop} (hK : ∀ v w', post v w' → K (a.put o.dst v) w') : Oper.wp P o a w K Q := by
  unfold LoOp at h
  unfold Oper.wp
  generalize (execOp a.eval o).run P w = r at *
  cases r with
  | ok n w' =>
    cases n <;> simp only [Oper.upon] at h ⊢
    case value v => exact hK _ _ h
    case skip =>
      have h2 := hK _ _ h.2
      rw [h.1] at h2 ⊢
      exact h2
    case enter f args =>
      refine Calls.mono h fun e w'' he => ?_
      obtain ⟨v, rfl, hp⟩ := he
      exact hK _ _ hp
  | halt x w' => exact h.elim
section
variable (P : Program) (ops : Array Oper) (C : World → Prop) (B : Nat) (le : Nat → TypeId) (vq : Nat → Value) (Z : Act → (World → Prop) → Prop)
end
section
variable {P : Program} {ops : Array Oper} {C : World → Prop} {B : Nat} {le : Nat → TypeId} {vq : Nat → Value} {Z : Act → (World → Prop) → Prop}
theorem LoOp_put {o : Oper} {a : Act} {w : World} {post : Value → World → Prop} (hs : ∀ cs b, o.op ≠ .select cs b) (d : Option Tmp) (u : Value) (h3 : ∀ t, d = some t → t ∉ o.looksAt ops) : LoOp P o (a.put d u) w post ↔ LoOp P o a w post := by
  unfold LoOp
  rw [execOp_put o hs a d u h3]
def anc (ops : Array Oper) : Nat → Nat → List Nat
  | 0, _ => []
  | k + 1, i => match ops[i]? with
    | none => []
    | some o => o.after.toList.flatMap fun e => if Region.binds .any e = true then e.on :: anc ops k e.on else []
def Down (ops : Array Oper) (listed : Array Bool) : Prop := ∀ j oj, ops[j]? = some oj → listed.getD j false = true → ∀ e ∈ oj.after, Region.binds .any e = true → listed.getD e.on false = true
theorem anc_listed {listed : Array Bool} (hd : Down ops listed) : ∀ (k i : Nat), (∀ o, ops[i]? = some o → ∀ e ∈ o.after, Region.binds .any e = true → listed.getD e.on false = true) → ∀ y ∈ anc ops k i, listed.getD y false = true := by
  intro k
  induction k with
  | zero => intro i _ y hy; simp [anc] at hy
  | succ k ih =>
    intro i h y hy
    unfold anc at hy
    cases ho : ops[i]? with
    | none => rw [ho] at hy; simp at hy
    | some o =>
      rw [ho] at hy
      simp only [List.mem_flatMap] at hy
      obtain ⟨e, he, hy⟩ := hy
      have he' : e ∈ o.after := by simpa using he
      split at hy
      · rename_i hb
        have h1 := h o ho e he' hb
        rcases List.mem_cons.1 hy with rfl | hy
        · exact h1
        · exact ih e.on (fun o' ho' e' he'' hb' => hd e.on o' ho' h1 e' he'' hb') y hy
      · simp at hy
structure LoInv (ops : Array Oper) (m : Nat) (l : List (Nat × LK)) (listed : Array Bool) : Prop where
  size : listed.size = ops.size
  mem : ∀ i, i < m → (listed.getD i true = false ↔ i ∈ l.map (·.1))
  lt : ∀ x ∈ l, x.1 < m
  last : listed.getD m true = false
  down : Down ops listed
  sorted : l.Pairwise (fun x y => x.1 < y.1)
theorem getD_two {listed : Array Bool} {i : Nat} (hi : i < listed.size) : listed.getD i true = false ↔ ¬ listed.getD i false = true := by
  simp [hi]
theorem LoInv.next {m i : Nat} {k : LK} {l1 l2 : List (Nat × LK)} {listed : Array Bool} (h : LoInv ops m (l1 ++ (i, k) :: l2) listed) (hr : i ∈ Region.ready .any ops listed) : LoInv ops m (l1 ++ l2) (listed.setIfInBounds i true) := by
  obtain ⟨h0, o, ho, hall⟩ := mem_ready.1 hr
  have him : i < m := h.lt (i, k) (by simp)
  have hs := h.sorted
  rw [List.pairwise_append, List.pairwise_cons] at hs
  obtain ⟨s1, ⟨s2, s3⟩, s4⟩ := hs
  refine ⟨by simp [h.size], fun j hj => ?_, fun x hx => h.lt x (by rcases List.mem_append.1 hx with hx | hx; exact List.mem_append_left _ hx; exact List.mem_append_right _ (List.mem_cons_of_mem _ hx)), ?_, fun j oj hoj hl e he hb => ?_, ?_⟩
  · by_cases e : i = j
    · subst e
      have hlt : i < listed.size := by
        rcases Nat.lt_or_ge i listed.size with h1 | h1
        · exact h1
        · simp [Array.getElem?_eq_none h1] at h0
      constructor
      · intro hf
        simp [hlt] at hf
      · intro hm
        exfalso
        rw [List.map_append, List.mem_append] at hm
        rcases hm with hm | hm
        · obtain ⟨x, hx, e⟩ := List.mem_map.1 hm
          have := s4 x hx (i, k) (by simp)
          simp only at this e
          omega
        · obtain ⟨x, hx, e⟩ := List.mem_map.1 hm
          have := s2 x hx
          simp only at this e
          omega
    · rw [getD_set_ne true e, h.mem j hj]
      simp only [List.map_append, List.map_cons, List.mem_append, List.mem_cons]
      constructor
      · rintro (h1 | rfl | h1)
        · exact .inl h1
        · exact absurd rfl e
        · exact .inr h1
      · rintro (h1 | h1)
        · exact .inl h1
        · exact .inr (.inr h1)
  · rw [getD_set_ne true (by omega)]
    exact h.last
  · by_cases e2 : i = j
    · subst e2
      obtain rfl := Option.some.inj (ho.symm.trans hoj)
      exact getD_set_true (hall e he hb)
    · rw [getD_set_ne false e2] at hl
      exact getD_set_true (h.down j oj hoj hl e he hb)
  · rw [List.pairwise_append]
    exact ⟨s1, s3, fun x hx y hy => s4 x hx y (List.mem_cons_of_mem _ hy)⟩
theorem lo_done {Q : Exit → Act → World → Prop} {listed : Array Bool} {a : Act} {w : World} (hr : Region.ready .any ops listed = []) (h : Q .normal a w) : ∀ fuel, wpAny P .any ops Q fuel listed a w
  | 0 => ⟨hr, h⟩
  | _ + 1 => ⟨fun _ => h, by rw [hr]; simp⟩
def backLo (ops : Array Oper) : Bool := (List.range ops.size).all fun i => match ops[i]? with
  | some o => o.after.all fun e => !(Region.binds .any e) || decide (e.on < i)
  | none => true
theorem back_at (hb : backLo ops = true) {i : Nat} {o : Oper} (ho : ops[i]? = some o) : ∀ e ∈ o.after, Region.binds .any e = true → e.on < i := by
  intro e he hbe
  have hi : i < ops.size := (Array.getElem?_eq_some_iff.1 ho).1
  simp only [backLo, List.all_eq_true, List.mem_range] at hb
  have := hb i hi
  rw [ho] at this
  simp only at this
  rw [Array.all_eq_true_iff_forall_mem] at this
  have h2 := this e he
  rw [hbe] at h2
  simpa using h2
def lastZ (P : Program) (ops : Array Oper) (C : World → Prop) (Q : Exit → Act → World → Prop) (m : Nat) (a : Act) (F : World → Prop) : Prop := ∀ w, F w → C w → ∃ om, ops[m]? = some om ∧ Region.wanted om (yielded ops a.tmps) = true ∧ Oper.wp P om a w (fun a' w' => Q .normal a' w') Q
theorem LoOp.enter {o : Oper} {a : Act} {w : World} {post : Value → World → Prop} {f : FuncId} {args : Array Value} (hr : (execOp a.eval o).run P w = .ok (.enter f args) w) (h : Calls P f args w fun e w' => ∃ v, e = .returned v ∧ post v w') : LoOp P o a w post := by
  unfold LoOp
  rw [hr]
  exact h
theorem LoOp.val {o : Oper} {a : Act} {w w1 : World} {post : Value → World → Prop} {v : Value} (hr : (execOp a.eval o).run P w = .ok (.value v) w1) (h : post v w1) : LoOp P o a w post := by
  unfold LoOp
  rw [hr]
  exact h
theorem LoOp.skip {o : Oper} {a : Act} {w w1 : World} {post : Value → World → Prop} (hd : o.dst = none) (hr : (execOp a.eval o).run P w = .ok .skip w1) (h : post undef w1) : LoOp P o a w post := by
  unfold LoOp
  rw [hr]
  exact ⟨hd, h⟩
end
def CK (w0 : World) (rb : Option Nat) (W : World) : Prop := w0.heap.size ≤ W.heap.size ∧ ∀ b, b < w0.heap.size → ¬ some b = rb → W.heap[b]? = w0.heap[b]?
theorem CK.drew {w : World} {rb : Option Nat} : CK w rb w.drew := ⟨Nat.le_refl _, fun _ _ _ => rfl⟩
theorem CK.alloc {w W : World} {rb : Option Nat} (h : CK w rb W) (o : Obj) : CK w rb (W.alloc o) := ⟨by rw [World.size_alloc]; exact Nat.le_succ_of_le h.1, fun i hi h1 => ((bw_alloc o (bw_refl W)).block i (Nat.lt_of_lt_of_le hi h.1)).trans (h.2 i hi h1)⟩
theorem CK.below {w W W2 : World} {rb : Option Nat} (h : CK w rb W) (hb : Below W.heap.size W W2) : CK w rb W2 := ⟨Nat.le_trans h.1 hb.size, fun i hi h1 => (hb.block i (Nat.lt_of_lt_of_le hi h.1)).trans (h.2 i hi h1)⟩
theorem CK.grown {w W W2 : World} {rb : Option Nat} (h : CK w rb W) (hb : W.grownBy W2 rb) : CK w rb W2 := ⟨Nat.le_trans h.1 hb.size, fun i hi h1 => (hb.block i (Nat.lt_of_lt_of_le hi h.1) h1).trans (h.2 i hi h1)⟩
theorem CK.cell {w W : World} {rb : Option Nat} (h : CK w rb W) {b o : Nat} (hb : b < w.heap.size) (hn : ¬ some b = rb) {v : Value} (h0 : w.cell? ⟨b, o, none⟩ = some v) : W.cell? ⟨b, o, none⟩ = some v := (World.cell?_of_block (a := ⟨b, o, none⟩) (h.2 b hb hn)).trans h0
theorem CK.frozen {w W : World} {rb : Option Nat} (h : CK w rb W) {b o : Nat} (hb : b < w.heap.size) (hn : ¬ some b = rb) (h0 : w.frozen? ⟨b, o, none⟩ = false) : W.frozen? ⟨b, o, none⟩ = false := (World.frozen?_of_block (a := ⟨b, o, none⟩) (h.2 b hb hn)).trans h0
section
variable {ops : Array Oper}
def goodTx (ops : Array Oper) : List Nat → List (Nat × LK) → Bool
  | _, [] => true
  | run, (j, .chain) :: rest => run.all (fun y => (anc ops 3 j).contains y) && goodTx ops [j] rest
  | run, (j, .lit) :: rest => goodTx ops (j :: run) rest
  | run, (_, .quiet) :: rest => goodTx ops run rest
theorem goodTx_mono : ∀ (l : List (Nat × LK)) (run run' : List Nat), (∀ y ∈ run', y ∈ run) → goodTx ops run l = true → goodTx ops run' l = true := by
  intro l
  induction l with
  | nil => intro _ _ _ _; rfl
  | cons x l ih =>
    intro run run' h hg
    obtain ⟨j, k⟩ := x
    cases k with
    | chain =>
      simp only [goodTx, Bool.and_eq_true, List.all_eq_true] at hg ⊢
      exact ⟨fun y hy => hg.1 y (h y hy), hg.2⟩
    | quiet => exact ih _ _ h hg
    | lit => exact ih _ _ (fun y hy => by rcases List.mem_cons.1 hy with rfl | hy; exact List.mem_cons_self .. ; exact List.mem_cons_of_mem _ (h y hy)) hg
theorem goodTx_tail {x : Nat × LK} {l : List (Nat × LK)} (h : goodTx ops [] (x :: l) = true) : goodTx ops [] l = true := by
  obtain ⟨j, k⟩ := x
  cases k with
  | chain =>
    simp only [goodTx, Bool.and_eq_true] at h
    exact goodTx_mono _ _ _ (fun y hy => by simp at hy) h.2
  | quiet => exact h
  | lit => exact goodTx_mono _ _ _ (fun y hy => by simp at hy) h
theorem goodTx_drop {b : Nat} {k : LK} (hk : k ≠ .chain) (l2 : List (Nat × LK)) : ∀ (l1 : List (Nat × LK)) (run : List Nat), goodTx ops run (l1 ++ (b, k) :: l2) = true → goodTx ops run (l1 ++ l2) = true := by
  intro l1
  induction l1 with
  | nil =>
    intro run h
    cases k with
    | chain => exact absurd rfl hk
    | quiet => exact h
    | lit => exact goodTx_mono _ _ _ (fun y hy => List.mem_cons_of_mem _ hy) h
  | cons x l1 ih =>
    intro run h
    obtain ⟨j, kj⟩ := x
    cases kj with
    | chain =>
      simp only [List.cons_append, goodTx, Bool.and_eq_true] at h ⊢
      exact ⟨h.1, ih _ h.2⟩
    | quiet => exact ih _ h
    | lit => exact ih _ h
theorem goodTx_dropc {b : Nat} (l2 : List (Nat × LK)) : ∀ (l1 : List (Nat × LK)), (∀ x ∈ l1, x.2 = .quiet) → goodTx ops [] (l1 ++ (b, .chain) :: l2) = true → goodTx ops [] (l1 ++ l2) = true := by
  intro l1
  induction l1 with
  | nil => intro _ h; exact goodTx_tail h
  | cons x l1 ih =>
    intro hq h
    obtain ⟨j, kj⟩ := x
    have := hq (j, kj) (by simp)
    simp only at this
    subst this
    exact ih (fun y hy => hq y (List.mem_cons_of_mem _ hy)) h
theorem goodTx_waits {j : Nat} : ∀ (l1 l2 : List (Nat × LK)) (run : List Nat), (run ≠ [] ∨ ∃ x ∈ l1, x.2 ≠ .quiet) → goodTx ops run (l1 ++ (j, .chain) :: l2) = true → ∃ y, (y ∈ run ∨ y ∈ l1.map (·.1)) ∧ y ∈ anc ops 3 j := by
  intro l1
  induction l1 with
  | nil =>
    intro l2 run hr h
    simp only [List.nil_append, goodTx, Bool.and_eq_true, List.all_eq_true] at h
    cases run with
    | nil => rcases hr with hr | ⟨x, hx, _⟩; exact absurd rfl hr; simp at hx
    | cons y r => exact ⟨y, .inl (by simp), by simpa using h.1 y (by simp)⟩
  | cons x l1 ih =>
    intro l2 run hr h
    obtain ⟨i, k⟩ := x
    cases k with
    | chain =>
      simp only [List.cons_append, goodTx, Bool.and_eq_true] at h
      obtain ⟨y, h1, h2⟩ := ih l2 [i] (.inl (by simp)) h.2
      refine ⟨y, .inr ?_, h2⟩
      rcases h1 with h1 | h1
      · simp only [List.mem_singleton] at h1; subst h1; simp
      · simp only [List.map_cons, List.mem_cons]; exact .inr h1
    | quiet =>
      have hq : run ≠ [] ∨ ∃ x ∈ l1, x.2 ≠ .quiet := by
        rcases hr with hr | ⟨x, hx, e⟩
        · exact .inl hr
        · rcases List.mem_cons.1 hx with rfl | hx
          · exact absurd rfl e
          · exact .inr ⟨x, hx, e⟩
      obtain ⟨y, h1, h2⟩ := ih l2 run hq h
      exact ⟨y, h1.imp id (fun h1 => by simp only [List.map_cons, List.mem_cons]; exact .inr h1), h2⟩
    | lit =>
      obtain ⟨y, h1, h2⟩ := ih l2 (i :: run) (.inl (by simp)) h
      refine ⟨y, ?_, h2⟩
      rcases h1 with h1 | h1
      · rcases List.mem_cons.1 h1 with rfl | h1
        · exact .inr (by simp)
        · exact .inl h1
      · exact .inr (by simp only [List.map_cons, List.mem_cons]; exact .inr h1)
def hasLit (l : List (Nat × LK)) : Bool := l.any (fun x => decide (x.2 = .lit))
theorem hasLit_mid {x : Nat × LK} (hx : x.2 ≠ .lit) (l1 l2 : List (Nat × LK)) : hasLit (l1 ++ x :: l2) = hasLit (l1 ++ l2) := by
  simp [hasLit, hx]
theorem hasLit_sub {x : Nat × LK} (l1 l2 : List (Nat × LK)) (h : hasLit (l1 ++ l2) = true) : hasLit (l1 ++ x :: l2) = true := by
  simp only [hasLit, List.any_append, List.any_cons, Bool.or_eq_true] at h ⊢
  rcases h with h | h
  · exact .inl h
  · exact .inr (.inr h)
def pairTx (ops : Array Oper) (x b : Nat × LK) : Bool := (decide (b.2 = .chain) && decide (x.2 = .chain)) || (anc ops 3 b.1).contains x.1 || (match ops[b.1]?, ops[x.1]? with | some ob, some ox => ob.apart ops ox | _, _ => false)
def pairsTx (ops : Array Oper) : List (Nat × LK) → Bool
  | [] => true
  | x :: r => r.all (pairTx ops x) && pairsTx ops r
theorem pairsTx_drop {x : Nat × LK} (l2 : List (Nat × LK)) : ∀ l1 : List (Nat × LK), pairsTx ops (l1 ++ x :: l2) = true → pairsTx ops (l1 ++ l2) = true := by
  intro l1
  induction l1 with
  | nil => intro h; simp only [List.nil_append, pairsTx, Bool.and_eq_true] at h ⊢; exact h.2
  | cons y l1 ih =>
    intro h
    simp only [List.cons_append, pairsTx, Bool.and_eq_true, List.all_eq_true] at h ⊢
    refine ⟨fun z hz => h.1 z ?_, ih h.2⟩
    rcases List.mem_append.1 hz with hz | hz
    · exact List.mem_append_left _ hz
    · exact List.mem_append_right _ (List.mem_cons_of_mem _ hz)
theorem pairsTx_at {x : Nat × LK} (l2 : List (Nat × LK)) : ∀ l1 : List (Nat × LK), pairsTx ops (l1 ++ x :: l2) = true → ∀ y ∈ l1, pairTx ops y x = true := by
  intro l1
  induction l1 with
  | nil => intro _ y hy; simp at hy
  | cons z l1 ih =>
    intro h y hy
    simp only [List.cons_append, pairsTx, Bool.and_eq_true, List.all_eq_true] at h
    rcases List.mem_cons.1 hy with rfl | hy
    · exact h.1 x (by simp)
    · exact ih h.2 y hy
end
section
variable (P : Program) (ops : Array Oper) (B : Nat) (lo : Nat → Obj) (C : World → Prop)
def QOk (a : Act) (o : Oper) (v : Value) : Prop := (Region.wanted o (yielded ops a.tmps) = true ∧ ∀ w, C w → (execOp a.eval o).run P w = .ok (.value v) w) ∨ (Region.wanted o (yielded ops a.tmps) = false ∧ v = undef)
end
section
variable {P : Program} {ops : Array Oper} {B : Nat} {lo : Nat → Obj} {C : World → Prop} {vq : Nat → Value} {Z : Act → (World → Prop) → Prop} {iv : List (Nat × Nat)}
theorem QOk_put {a : Act} {o : Oper} {u : Value} (hs : ∀ cs b, o.op ≠ .select cs b) {d : Option Tmp} {v : Value} (c : ∀ x, d = some x → x ∉ o.looksAt ops) : QOk P ops C (a.put d v) o u ↔ QOk P ops C a o u := by
  unfold QOk
  rw [wanted_put o a d v c, execOp_put (ops := ops) o hs a d v c]
theorem QOk_one {a : Act} {o : Oper} {u v : Value} (hC : ∃ w, C w) (h1 : QOk P ops C a o u) (h2 : QOk P ops C a o v) : u = v := by
  obtain ⟨w, hw⟩ := hC
  rcases h1 with ⟨a1, b1⟩ | ⟨a1, b1⟩ <;> rcases h2 with ⟨a2, b2⟩ | ⟨a2, b2⟩
  · have h3 := (b1 w hw).symm.trans (b2 w hw)
    injection h3 with h3 _
    injection h3
  · rw [a1] at a2; cases a2
  · rw [a1] at a2; cases a2
  · rw [b1, b2]
theorem LoOp_mono {o : Oper} {a : Act} {w : World} {p1 p2 : Value → World → Prop} (h : LoOp P o a w p1) (hm : ∀ v w', p1 v w' → p2 v w') : LoOp P o a w p2 := by
  unfold LoOp at h ⊢
  generalize (execOp a.eval o).run P w = r at *
  cases r with
  | ok n w' =>
    cases n <;> simp only at h ⊢
    case value v => exact hm _ _ h
    case skip => exact ⟨h.1, hm _ _ h.2⟩
    case enter f args => exact Calls.mono h fun e w'' he => by obtain ⟨v, rfl, hp⟩ := he; exact ⟨v, rfl, hm _ _ hp⟩
  | halt x w' => exact h.elim
end
def lastA (ops : Array Oper) (m : Nat) : Bool := (List.range m).all fun j => (anc ops 4 m).contains j
section
variable (P : Program) (ops : Array Oper) (B : Nat) (lo : Nat → Obj) (lv : Nat → Nat → Value) (C : World → Prop)
def wpTz (Z : Act → (World → Prop) → Prop) : List (Nat × LK) → List (Nat × Nat) → Act → (World → Prop) → Prop
  | [], _, a, F => Z a F
  | (i, .quiet) :: rest, iv, a, F => ∃ o v, ops[i]? = some o ∧ QOk P ops C a o v ∧ wpTz Z rest iv (a.put o.dst v) F
  | (i, .lit) :: rest, iv, a, F => ∃ o, ops[i]? = some o ∧ Region.wanted o (yielded ops a.tmps) = true ∧ (∀ w, (execOp a.eval o).run P w = .ok (.value (lv i w.heap.size)) (w.alloc (lo i))) ∧ ∀ g : Nat, wpTz Z rest ((g, g + 1) :: iv) (a.put o.dst (lv i g)) (fun W => F W ∧ B ≤ g ∧ W.heap[g]? = some (lo i) ∧ ∀ z ∈ iv, g < z.1 ∨ z.2 ≤ g)
  | (i, .chain) :: rest, iv, a, F => ∃ o, ops[i]? = some o ∧ Region.wanted o (yielded ops a.tmps) = true ∧ ∃ (ι : Type) (y0 : ι) (val : ι → Value) (G : ι → World → Prop) (I : ι → Nat × Nat), (∀ w, F w → C w → LoOp P o a w (fun v w' => ∃ y, v = val y ∧ C w' ∧ G y w' ∧ (hasLit rest = true → Below w.heap.size w w' ∧ w.heap.size ≤ (I y).1 ∧ (I y).2 ≤ w'.heap.size))) ∧ (hasLit rest = true → ∀ y w w', G y w → Below w.heap.size w w' → G y w') ∧ ∀ y, wpTz Z rest (I y :: iv) (a.put o.dst (val y)) (G y)
end
section
variable {P : Program} {ops : Array Oper} {B : Nat} {lo : Nat → Obj} {lv : Nat → Nat → Value} {C : World → Prop} {Z : Act → (World → Prop) → Prop} {iv : List (Nat × Nat)}
theorem wpTz_v {i : Nat} {rest : List (Nat × LK)} {a : Act} {F : World → Prop} {o : Oper} (d : Option Tmp) (v : Value) (ho : ops[i]? = some o) (hd : o.dst = d) (hw : Region.wanted o (yielded ops a.tmps) = true) (hr : ∀ w, C w → (execOp a.eval o).run P w = .ok (.value v) w) (h : wpTz P ops B lo lv C Z rest iv (a.put d v) F) : wpTz P ops B lo lv C Z ((i, .quiet) :: rest) iv a F := ⟨o, v, ho, .inl ⟨hw, hr⟩, hd ▸ h⟩
theorem wpTz_d {i : Nat} {rest : List (Nat × LK)} {a : Act} {F : World → Prop} {o : Oper} (d : Option Tmp) (ho : ops[i]? = some o) (hd : o.dst = d) (hw : Region.wanted o (yielded ops a.tmps) = true) {ι : Type} (y0 : ι) (val : ι → Value) (G : ι → World → Prop) (I : ι → Nat × Nat) (hr : ∀ w, F w → C w → LoOp P o a w (fun v w' => ∃ y, v = val y ∧ C w' ∧ G y w' ∧ Below w.heap.size w w' ∧ w.heap.size ≤ (I y).1 ∧ (I y).2 ≤ w'.heap.size)) (hs : ∀ y w w', G y w → Below w.heap.size w w' → G y w') (h : ∀ y, wpTz P ops B lo lv C Z rest (I y :: iv) (a.put d (val y)) (G y)) : wpTz P ops B lo lv C Z ((i, .chain) :: rest) iv a F :=
  ⟨o, ho, hw, ι, y0, val, G, I, fun w hF hC => LoOp_mono (hr w hF hC) (fun v w' ⟨y, h1, h2, h3, h4⟩ => ⟨y, h1, h2, h3, fun _ => h4⟩), fun _ => hs, hd ▸ h⟩
theorem wpTz_z {a : Act} {F : World → Prop} (h : Z a F) : wpTz P ops B lo lv C Z [] iv a F := h
theorem wpTz_perm : ∀ (l : List (Nat × LK)) (iv iv' : List (Nat × Nat)) (a : Act) (F : World → Prop), (∀ z, z ∈ iv ↔ z ∈ iv') → wpTz P ops B lo lv C Z l iv a F → wpTz P ops B lo lv C Z l iv' a F := by
  intro l
  induction l with
  | nil => intro _ _ _ _ _ h; exact h
  | cons x l ih =>
    intro iv iv' a F hm h
    obtain ⟨i, k⟩ := x
    have hc : ∀ u z, z ∈ u :: iv ↔ z ∈ u :: iv' := fun u z => by simp only [List.mem_cons, hm]
    cases k with
    | quiet =>
      obtain ⟨o, v, h1, h2, h3⟩ := h
      exact ⟨o, v, h1, h2, ih _ _ _ _ hm h3⟩
    | lit =>
      obtain ⟨o, h1, h2, h3, h4⟩ := h
      refine ⟨o, h1, h2, h3, fun g => ?_⟩
      have e : (fun W : World => F W ∧ B ≤ g ∧ W.heap[g]? = some (lo i) ∧ ∀ z ∈ iv', g < z.1 ∨ z.2 ≤ g) = (fun W : World => F W ∧ B ≤ g ∧ W.heap[g]? = some (lo i) ∧ ∀ z ∈ iv, g < z.1 ∨ z.2 ≤ g) := by
        funext W
        simp only [hm]
      rw [e]
      exact ih _ _ _ _ (hc _) (h4 g)
    | chain =>
      obtain ⟨o, h1, h2, ι, y0, val, G, I, h3, h4, h5⟩ := h
      exact ⟨o, h1, h2, ι, y0, val, G, I, h3, h4, fun y => ih _ _ _ _ (hc _) (h5 y)⟩
theorem mem_swap {α : Type} (a b : α) (l : List α) : ∀ z, z ∈ a :: b :: l ↔ z ∈ b :: a :: l := fun z => by
  simp only [List.mem_cons]
  constructor <;> rintro (h | h | h) <;> simp [h]
theorem wpTz_move (hCi : ∃ w, C w) (hsel : ∀ (j : Nat) (o : Oper) cs b, ops[j]? = some o → o.op ≠ .select cs b) {b : Nat} {ob : Oper} (hob : ops[b]? = some ob) (l2 : List (Nat × LK)) :
    ∀ (l1 : List (Nat × LK)) (iv : List (Nat × Nat)) (a : Act) (F : World → Prop), (∀ x ∈ l1, ∀ ox, ops[x.1]? = some ox → ob.apart ops ox = true) → wpTz P ops B lo lv C Z (l1 ++ (b, .quiet) :: l2) iv a F → wpTz P ops B lo lv C Z ((b, .quiet) :: (l1 ++ l2)) iv a F := by
  intro l1
  induction l1 with
  | nil => intro iv a F _ h; exact h
  | cons x l1 ih =>
    intro iv a F hap h
    obtain ⟨i, ki⟩ := x
    have hapr : ∀ y ∈ l1, ∀ oy, ops[y.1]? = some oy → ob.apart ops oy = true := fun y hy => hap y (by simp [hy])
    have core : ∀ ox, ops[i]? = some ox → (∀ d, ob.dst = some d → d ∉ ox.looksAt ops) ∧ (∀ d, ob.dst = some d → ox.dst ≠ some d) ∧ (∀ d, ox.dst = some d → d ∉ ob.looksAt ops) := fun ox hox => Oper.apart_spec (hap (i, ki) (by simp) ox hox)
    cases ki with
    | quiet =>
      obtain ⟨ox, v, h1, h2, h4⟩ := h
      obtain ⟨c1, c2, c3⟩ := core ox h1
      obtain ⟨ob', v', e1, e2, e4⟩ := ih _ _ _ hapr h4
      obtain rfl := Option.some.inj (hob.symm.trans e1)
      refine ⟨_, v', hob, (QOk_put (hsel b _ · · hob) c3).1 e2, ox, v, h1, (QOk_put (hsel i ox · · h1) c1).2 h2, ?_⟩
      rw [Act.put_comm a _ _ c2]
      exact e4
    | lit =>
      obtain ⟨ox, h1, h2, h3, h4⟩ := h
      obtain ⟨c1, c2, c3⟩ := core ox h1
      obtain ⟨ob', v', e1, e2, e4⟩ := ih _ _ _ hapr (h4 0)
      obtain rfl := Option.some.inj (hob.symm.trans e1)
      have e2' := (QOk_put (hsel b _ · · hob) c3).1 e2
      refine ⟨_, v', hob, e2', ox, h1, by rw [wanted_put ox a _ _ c1]; exact h2, fun w => by rw [execOp_put (ops := ops) ox (hsel i ox · · h1) a _ _ c1]; exact h3 w, fun g => ?_⟩
      obtain ⟨ob'', v'', f1, f2, f4⟩ := ih _ _ _ hapr (h4 g)
      obtain rfl := Option.some.inj (hob.symm.trans f1)
      obtain rfl := QOk_one hCi e2' ((QOk_put (hsel b _ · · hob) c3).1 f2)
      rw [Act.put_comm a _ _ c2]
      exact f4
    | chain =>
      obtain ⟨ox, h1, h2, ι, y0, val, G, I, h4, h6, h5⟩ := h
      obtain ⟨c1, c2, c3⟩ := core ox h1
      obtain ⟨ob', v', e1, e2, e4⟩ := ih _ _ _ hapr (h5 y0)
      obtain rfl := Option.some.inj (hob.symm.trans e1)
      have hm : hasLit (l1.append ((b, LK.quiet) :: l2)) = hasLit (l1 ++ l2) := hasLit_mid (x := (b, LK.quiet)) (by simp) l1 l2
      rw [hm] at h4 h6
      have e2' := (QOk_put (hsel b _ · · hob) c3).1 e2
      refine ⟨_, v', hob, e2', ox, h1, by rw [wanted_put ox a _ _ c1]; exact h2, ι, y0, val, G, I, fun w hF hC => (LoOp_put (hsel i ox · · h1) _ _ c1).2 (h4 w hF hC), h6, fun y => ?_⟩
      obtain ⟨ob'', v'', f1, f2, f4⟩ := ih _ _ _ hapr (h5 y)
      obtain rfl := Option.some.inj (hob.symm.trans f1)
      obtain rfl := QOk_one hCi e2' ((QOk_put (hsel b _ · · hob) c3).1 f2)
      rw [Act.put_comm a _ _ c2]
      exact f4
theorem wpTz_movec (hsel : ∀ (j : Nat) (o : Oper) cs b, ops[j]? = some o → o.op ≠ .select cs b) {b : Nat} {ob : Oper} (hob : ops[b]? = some ob) (l2 : List (Nat × LK)) :
    ∀ (l1 : List (Nat × LK)) (iv : List (Nat × Nat)) (a : Act) (F : World → Prop), (∀ x ∈ l1, x.2 = .quiet) → (∀ x ∈ l1, ∀ ox, ops[x.1]? = some ox → ob.apart ops ox = true) → wpTz P ops B lo lv C Z (l1 ++ (b, .chain) :: l2) iv a F → wpTz P ops B lo lv C Z ((b, .chain) :: (l1 ++ l2)) iv a F := by
  intro l1
  induction l1 with
  | nil => intro iv a F _ _ h; exact h
  | cons x l1 ih =>
    intro iv a F hq hap h
    obtain ⟨i, ki⟩ := x
    have := hq (i, ki) (by simp)
    simp only at this
    subst this
    have hapr : ∀ y ∈ l1, ∀ oy, ops[y.1]? = some oy → ob.apart ops oy = true := fun y hy => hap y (by simp [hy])
    have hqr : ∀ y ∈ l1, y.2 = LK.quiet := fun y hy => hq y (by simp [hy])
    obtain ⟨ox, v, h1, h2, h4⟩ := h
    obtain ⟨c1, c2, c3⟩ := Oper.apart_spec (hap (i, .quiet) (by simp) ox h1)
    obtain ⟨ob', e1, e2, ι, y0, val, G, I, e3, e6, e4⟩ := ih _ _ _ hqr hapr h4
    obtain rfl := Option.some.inj (hob.symm.trans e1)
    have hq3 : hasLit ((i, LK.quiet) :: l1 ++ l2) = hasLit (l1 ++ l2) := hasLit_mid (x := (i, LK.quiet)) (by simp) [] (l1 ++ l2)
    rw [← hq3] at e3 e6
    refine ⟨_, hob, by rw [← e2]; exact (wanted_put _ a ox.dst v c3).symm, ι, y0, val, G, I, fun w hF hC => (LoOp_put (hsel b _ · · hob) _ _ c3).1 (e3 w hF hC), e6, fun y => ?_⟩
    refine ⟨ox, v, h1, (QOk_put (hsel i ox · · h1) c1).2 h2, ?_⟩
    rw [Act.put_comm a _ _ c2]
    exact e4 y
theorem wpTz_movel (hsel : ∀ (j : Nat) (o : Oper) cs b, ops[j]? = some o → o.op ≠ .select cs b) {b : Nat} {ob : Oper} (hob : ops[b]? = some ob) (l2 : List (Nat × LK)) :
    ∀ (l1 : List (Nat × LK)) (iv : List (Nat × Nat)) (a : Act) (F : World → Prop), (∀ x ∈ l1, ∀ ox, ops[x.1]? = some ox → ob.apart ops ox = true) → wpTz P ops B lo lv C Z (l1 ++ (b, .lit) :: l2) iv a F → wpTz P ops B lo lv C Z ((b, .lit) :: (l1 ++ l2)) iv a F := by
  intro l1
  induction l1 with
  | nil => intro iv a F _ h; exact h
  | cons x l1 ih =>
    intro iv a F hap h
    obtain ⟨i, ki⟩ := x
    have hapr : ∀ y ∈ l1, ∀ oy, ops[y.1]? = some oy → ob.apart ops oy = true := fun y hy => hap y (by simp [hy])
    have core : ∀ ox, ops[i]? = some ox → (∀ d, ob.dst = some d → d ∉ ox.looksAt ops) ∧ (∀ d, ob.dst = some d → ox.dst ≠ some d) ∧ (∀ d, ox.dst = some d → d ∉ ob.looksAt ops) := fun ox hox => Oper.apart_spec (hap (i, ki) (by simp) ox hox)
    cases ki with
    | quiet =>
      obtain ⟨ox, v, h1, h2, h4⟩ := h
      obtain ⟨c1, c2, c3⟩ := core ox h1
      obtain ⟨ob', e1, e2, e3, e4⟩ := ih _ _ _ hapr h4
      obtain rfl := Option.some.inj (hob.symm.trans e1)
      refine ⟨_, hob, by rw [← e2]; exact (wanted_put _ a ox.dst _ c3).symm, fun w => by rw [← execOp_put (ops := ops) _ (hsel b _ · · hob) a ox.dst v c3]; exact e3 w, fun g => ?_⟩
      refine ⟨ox, v, h1, (QOk_put (hsel i ox · · h1) c1).2 h2, ?_⟩
      rw [Act.put_comm a _ _ c2]
      exact e4 g
    | lit =>
      obtain ⟨ox, h1, h2, h3, h4⟩ := h
      obtain ⟨c1, c2, c3⟩ := core ox h1
      obtain ⟨ob', e1, e2, e3, e4⟩ := ih _ _ _ hapr (h4 0)
      obtain rfl := Option.some.inj (hob.symm.trans e1)
      refine ⟨_, hob, by rw [← e2]; exact (wanted_put _ a ox.dst _ c3).symm, fun w => by rw [← execOp_put (ops := ops) _ (hsel b _ · · hob) a ox.dst (lv i 0) c3]; exact e3 w, fun g => ?_⟩
      refine ⟨ox, h1, by rw [wanted_put ox a _ _ c1]; exact h2, fun w => by rw [execOp_put (ops := ops) ox (hsel i ox · · h1) a _ _ c1]; exact h3 w, fun g2 => ?_⟩
      obtain ⟨ob'', f1, f2, f3, f4⟩ := ih _ _ _ hapr (h4 g2)
      obtain rfl := Option.some.inj (hob.symm.trans f1)
      rw [Act.put_comm a _ _ c2]
      have hfun : (fun W : World => (F W ∧ B ≤ g ∧ W.heap[g]? = some (lo b) ∧ ∀ z ∈ iv, g < z.1 ∨ z.2 ≤ g) ∧ B ≤ g2 ∧ W.heap[g2]? = some (lo i) ∧ ∀ z ∈ (g, g + 1) :: iv, g2 < z.1 ∨ z.2 ≤ g2) = (fun W : World => (F W ∧ B ≤ g2 ∧ W.heap[g2]? = some (lo i) ∧ ∀ z ∈ iv, g2 < z.1 ∨ z.2 ≤ g2) ∧ B ≤ g ∧ W.heap[g]? = some (lo b) ∧ ∀ z ∈ (g2, g2 + 1) :: iv, g < z.1 ∨ z.2 ≤ g) := by
        funext W
        apply propext
        simp only [List.forall_mem_cons]
        constructor <;> (rintro ⟨⟨x1, x2, x3, x4⟩, y1, y2, y3, y4⟩; exact ⟨⟨x1, y1, y2, y4⟩, x2, x3, by omega, x4⟩)
      rw [hfun]
      exact wpTz_perm _ _ _ _ _ (mem_swap _ _ _) (f4 g)
    | chain =>
      obtain ⟨ox, h1, h2, ι, y0, val, G, I, h4, h6, h5⟩ := h
      obtain ⟨c1, c2, c3⟩ := core ox h1
      obtain ⟨ob', e1, e2, e3, e4⟩ := ih _ _ _ hapr (h5 y0)
      obtain rfl := Option.some.inj (hob.symm.trans e1)
      have hl : hasLit (l1 ++ (b, LK.lit) :: l2) = true := by simp [hasLit]
      refine ⟨_, hob, by rw [← e2]; exact (wanted_put _ a ox.dst _ c3).symm, fun w => by rw [← execOp_put (ops := ops) _ (hsel b _ · · hob) a ox.dst (val y0) c3]; exact e3 w, fun g => ?_⟩
      have hstay : ∀ w w' : World, Below w.heap.size w w' → w.heap[g]? = some (lo b) → w'.heap[g]? = some (lo b) := fun w w' hb e => (hb.block g (Array.getElem?_eq_some_iff.1 e).1).trans e
      refine ⟨ox, h1, by rw [wanted_put ox a _ _ c1]; exact h2, ι, y0, val, fun y W => G y W ∧ B ≤ g ∧ W.heap[g]? = some (lo b) ∧ ∀ z ∈ I y :: iv, g < z.1 ∨ z.2 ≤ g, I, fun w hF hC => (LoOp_put (hsel i ox · · h1) _ _ c1).2 (LoOp_mono (h4 w hF.1 hC) (fun v w' ⟨y, k1, k2, k3, k4⟩ => ⟨y, k1, k2, ⟨k3, hF.2.1, hstay w w' (k4 hl).1 hF.2.2.1, fun z hz => by
        rcases List.mem_cons.1 hz with rfl | hz
        · exact .inl (Nat.lt_of_lt_of_le (Array.getElem?_eq_some_iff.1 hF.2.2.1).1 (k4 hl).2.1)
        · exact hF.2.2.2 z hz⟩, fun _ => k4 hl⟩)), fun _ y w w' hG hb => ⟨h6 hl y w w' hG.1 hb, hG.2.1, hstay w w' hb hG.2.2.1, hG.2.2.2⟩, fun y => ?_⟩
      obtain ⟨ob'', f1, f2, f3, f4⟩ := ih _ _ _ hapr (h5 y)
      obtain rfl := Option.some.inj (hob.symm.trans f1)
      rw [Act.put_comm a _ _ c2]
      exact wpTz_perm _ _ _ _ _ (mem_swap _ _ _) (f4 g)
theorem tz_sound {Q : Exit → Act → World → Prop} {m : Nat} (hfin : ∀ a F, Z a F → ∀ w, F w → C w → ∃ om, ops[m]? = some om ∧ Region.wanted om (yielded ops a.tmps) = true ∧ Oper.wp P om a w (fun a' w' => Q .normal a' w') Q)
  (hns : Region.noSelect ops = true) (hsz : ops.size = m + 1) (hlast : lastA ops m = true) (hback : backLo ops = true) :
  ∀ (fuel : Nat) (l : List (Nat × LK)) (listed : Array Bool) (iv : List (Nat × Nat)) (a : Act) (w : World) (F : World → Prop), l.length + 1 ≤ fuel → LoInv ops m l listed → goodTx ops [] l = true → pairsTx ops l = true → (hasLit l = true → (∀ w o, C w → C (w.alloc o)) ∧ (∀ w, C w → B ≤ w.heap.size)) → (hasLit l = true → ∀ w w', F w → Below w.heap.size w w' → F w') → (hasLit l = true → ∀ z ∈ iv, z.2 ≤ w.heap.size) → F w → C w → wpTz P ops B lo lv C Z l iv a F → wpAny P .any ops Q fuel listed a w := by
 intro fuel
 induction fuel with
 | zero => intro l listed iv a w F h; omega
 | succ fuel ih =>
  intro l listed iv a w F hf hI hg hp hLC hLF hIv hF hC hw
  have hsel := Region.noSelect_spec hns
  refine ⟨fun hr => ?_, fun i hi => ?_⟩
  ·exfalso
   cases l with
   | nil =>
    have hm : m ∈ Region.ready .any ops listed := by
     have hms : m < ops.size := by omega
     refine mem_ready.2 ⟨hI.last, ops[m], Array.getElem?_eq_getElem hms, fun e he hb => ?_⟩
     have hlt := back_at hback (Array.getElem?_eq_getElem hms) e he hb
     have h1 := (hI.mem e.on hlt)
     rcases Bool.eq_false_or_eq_true (listed.getD e.on false) with h2 | h2
     ·exact h2
     ·exfalso
      have := h1.1 ((getD_two (by rw [hI.size]; omega)).2 (by simp [h2]))
      simp at this
    rw [hr] at hm
    cases hm
   | cons x l =>
    obtain ⟨j, k⟩ := x
    have hjm : j < m := hI.lt (j, k) (by simp)
    have hj : j ∈ Region.ready .any ops listed := by
     have hjs : j < ops.size := by omega
     refine mem_ready.2 ⟨(hI.mem j hjm).2 (by simp), ops[j], Array.getElem?_eq_getElem hjs, fun e he hb => ?_⟩
     have hlt := back_at hback (Array.getElem?_eq_getElem hjs) e he hb
     have h1 := (hI.mem e.on (by omega))
     rcases Bool.eq_false_or_eq_true (listed.getD e.on false) with h2 | h2
     ·exact h2
     ·exfalso
      have h3 := h1.1 ((getD_two (by rw [hI.size]; omega)).2 (by simp [h2]))
      obtain ⟨y, hy, e2⟩ := List.mem_map.1 h3
      rcases List.mem_cons.1 hy with rfl | hy
      ·simp only at e2; omega
      ·have := (List.pairwise_cons.1 hI.sorted).1 y hy
       simp only at this e2
       omega
    rw [hr] at hj
    cases hj
  ·obtain ⟨h0, o, ho, hall⟩ := mem_ready.1 hi
   have hil : ∀ y, listed.getD y false = true → y < m → y ∉ l.map (·.1) := fun y hy hym hmem => by
    have h1 := (hI.mem y hym).2 hmem
    have h2 : y < listed.size := by rw [hI.size]; omega
    rw [getD_two h2] at h1
    exact h1 hy
   have his : i < ops.size := (Array.getElem?_eq_some_iff.1 ho).1
   rcases Nat.lt_or_ge i m with him | him
   ·-- one of l
    have hmem := (hI.mem i him).1 h0
    obtain ⟨x, hx, ex⟩ := List.mem_map.1 hmem
    obtain ⟨l1, l2, rfl⟩ := List.append_of_mem hx
    obtain ⟨i', k⟩ := x
    simp only at ex
    subst ex
    have hanc : ∀ y ∈ anc ops 3 i', listed.getD y false = true := anc_listed hI.down 3 i' (fun o' ho' e he hb => by obtain rfl := Option.some.inj (ho.symm.trans ho'); exact hall e he hb)
    have hI2 := hI.next hi
    have hp2 := pairsTx_drop _ l1 hp
    have hlen : (l1 ++ l2).length + 1 ≤ fuel := by simp only [List.length_append, List.length_cons] at hf ⊢; omega
    cases k with
    | chain =>
     have hl1 : ∀ x ∈ l1, x.2 = .quiet := by
      intro x hx
      by_cases hqx : x.2 = .quiet
      ·exact hqx
      ·exfalso
       obtain ⟨y, hy, ha⟩ := goodTx_waits l1 l2 [] (.inr ⟨_, hx, hqx⟩) hg
       rcases hy with hy | hy
       ·simp at hy
       have hmemy : y ∈ (l1 ++ (i', LK.chain) :: l2).map (·.1) := by
        rw [List.map_append]
        exact List.mem_append_left _ hy
       obtain ⟨z, hz, ez⟩ := List.mem_map.1 hmemy
       exact hil y (hanc y ha) (by have := hI.lt z hz; omega) hmemy
     have hap : ∀ x ∈ l1, ∀ ox, ops[x.1]? = some ox → o.apart ops ox = true := fun x hx ox hox => by
      have h1 := pairsTx_at l2 l1 hp x hx
      unfold pairTx at h1
      rw [ho, hox, hl1 x hx] at h1
      simp only [Bool.or_eq_true, Bool.and_eq_true, decide_eq_true_eq] at h1
      rcases h1 with (h1 | h1) | h1
      ·cases h1.2
      ·exfalso
       exact hil x.1 (hanc x.1 (by simpa using h1)) (hI.lt x (List.mem_append_left _ hx)) (List.mem_map_of_mem (List.mem_append_left _ hx))
      ·exact h1
     obtain ⟨o', e1, e2, ι, y0, val, G, I, h4, h6, h5⟩ := wpTz_movec hsel ho l2 l1 iv a F hl1 hap hw
     obtain rfl := Option.some.inj (ho.symm.trans e1)
     unfold wpOp
     simp only [ho, e2, if_true]
     refine .inl ((h4 w hF hC).wp (fun v w' hpost => ?_))
     obtain ⟨y, rfl, hS, hG, hbb⟩ := hpost
     exact ih _ _ (I y :: iv) _ w' _ hlen hI2 (goodTx_dropc l2 l1 hl1 hg) hp2 (fun h => hLC (hasLit_sub l1 l2 h)) (fun h => h6 h y) (fun h z hz => by
      rcases List.mem_cons.1 hz with rfl | hz
      ·exact (hbb h).2.2
      ·exact Nat.le_trans (hIv (hasLit_sub l1 l2 h) z hz) (bw_size (hbb h).1)) hG hS (h5 y)
    | quiet =>
     have hap : ∀ x ∈ l1, ∀ ox, ops[x.1]? = some ox → o.apart ops ox = true := fun x hx ox hox => by
      have h1 := pairsTx_at l2 l1 hp x hx
      unfold pairTx at h1
      rw [ho, hox] at h1
      simp only [Bool.or_eq_true, Bool.and_eq_true, decide_eq_true_eq] at h1
      rcases h1 with (h1 | h1) | h1
      ·cases h1.1
      ·exfalso
       exact hil x.1 (hanc x.1 (by simpa using h1)) (hI.lt x (List.mem_append_left _ hx)) (List.mem_map_of_mem (List.mem_append_left _ hx))
      ·exact h1
     obtain ⟨o', v', e1, e2, e4⟩ := wpTz_move ⟨w, hC⟩ hsel ho l2 l1 iv a F hap hw
     obtain rfl := Option.some.inj (ho.symm.trans e1)
     unfold wpOp
     rcases e2 with ⟨e2, e3⟩ | ⟨e2, e3⟩
     ·simp only [ho, e2, if_true]
      refine .inl ?_
      unfold Oper.wp
      rw [e3 w hC]
      exact ih _ _ iv _ w F hlen hI2 (goodTx_drop (by decide) l2 l1 [] hg) hp2 (fun h => hLC (hasLit_sub l1 l2 h)) (fun h => hLF (hasLit_sub l1 l2 h)) (fun h => hIv (hasLit_sub l1 l2 h)) hF hC e4
     ·simp only [ho, e2, Bool.false_eq_true, if_false]
      rw [← e3]
      exact ih _ _ iv _ w F hlen hI2 (goodTx_drop (by decide) l2 l1 [] hg) hp2 (fun h => hLC (hasLit_sub l1 l2 h)) (fun h => hLF (hasLit_sub l1 l2 h)) (fun h => hIv (hasLit_sub l1 l2 h)) hF hC e4
    | lit =>
     have hap : ∀ x ∈ l1, ∀ ox, ops[x.1]? = some ox → o.apart ops ox = true := fun x hx ox hox => by
      have h1 := pairsTx_at l2 l1 hp x hx
      unfold pairTx at h1
      rw [ho, hox] at h1
      simp only [Bool.or_eq_true, Bool.and_eq_true, decide_eq_true_eq] at h1
      rcases h1 with (h1 | h1) | h1
      ·cases h1.1
      ·exfalso
       exact hil x.1 (hanc x.1 (by simpa using h1)) (hI.lt x (List.mem_append_left _ hx)) (List.mem_map_of_mem (List.mem_append_left _ hx))
      ·exact h1
     have hl : hasLit (l1 ++ (i', LK.lit) :: l2) = true := by simp [hasLit]
     obtain ⟨hCA, hCB⟩ := hLC hl
     obtain ⟨o', e1, e2, e3, e4⟩ := wpTz_movel hsel ho l2 l1 iv a F hap hw
     obtain rfl := Option.some.inj (ho.symm.trans e1)
     unfold wpOp
     simp only [ho, e2, if_true]
     refine .inl ?_
     unfold Oper.wp
     rw [e3 w]
     have hbw : Below w.heap.size w (w.alloc (lo i')) := bw_alloc _ (bw_refl w)
     refine ih _ _ ((w.heap.size, w.heap.size + 1) :: iv) _ (w.alloc (lo i')) _ hlen hI2 (goodTx_drop (by decide) l2 l1 [] hg) hp2 (fun h => hLC (hasLit_sub l1 l2 h)) (fun _ w1 w2 hF1 hb => ⟨hLF hl w1 w2 hF1.1 hb, hF1.2.1, (hb.block _ (Array.getElem?_eq_some_iff.1 hF1.2.2.1).1).trans hF1.2.2.1, hF1.2.2.2⟩) (fun _ z hz => by
      rcases List.mem_cons.1 hz with rfl | hz
      ·simp only [szs]; omega
      ·exact Nat.le_trans (hIv hl z hz) (bw_size hbw)) ⟨hLF hl w _ hF hbw, hCB w hC, ?_, fun z hz => .inr (hIv hl z hz)⟩ (hCA w _ hC) (e4 w.heap.size)
     show (w.heap.push (lo i'))[w.heap.size]? = some (lo i')
     exact Array.getElem?_push_size ..
   ·-- the last
    obtain rfl : i = m := by omega
    have hl : l = [] := by
     cases l with
     | nil => rfl
     | cons x l =>
      exfalso
      have hx := hI.lt x (by simp)
      unfold lastA at hlast
      simp only [List.all_eq_true, List.mem_range] at hlast
      have h1 := hlast x.1 hx
      exact hil x.1 (anc_listed hI.down 4 _ (fun o' ho' e he hb => by obtain rfl := Option.some.inj (ho.symm.trans ho'); exact hall e he hb) x.1 (by simpa using h1)) hx (by simp)
    subst hl
    obtain ⟨om, e1, e2, e3⟩ := hfin a F hw w hF hC
    obtain rfl := Option.some.inj (ho.symm.trans e1)
    unfold wpOp
    simp only [ho, e2, if_true]
    refine .inl (Oper.wp_mono (fun a' w' hq => lo_done ?_ hq fuel) e3)
    rw [List.eq_nil_iff_forall_not_mem]
    intro j hj
    obtain ⟨h1, oj, hoj, _⟩ := mem_ready.1 hj
    have hjs : j < ops.size := (Array.getElem?_eq_some_iff.1 hoj).1
    by_cases e : i = j
    ·subst e
     have : i < listed.size := by rw [hI.size]; exact his
     simp [this] at h1
    ·rw [getD_set_ne true e] at h1
     have := (hI.mem j (by omega)).1 h1
     simp at this
theorem wp_region_tz {Q : Exit → Act → World → Prop} {id : Nat} {a : Act} {w : World} (B : Nat) (lo : Nat → Obj) (lv : Nat → Nat → Value) (C : World → Prop) (m : Nat) (l : List (Nat × LK)) (hm : P.follows .mixedOrders = true)
    (hns : Region.noSelect ops = true) (hsz : ops.size = m + 1) (hl : l.map (·.1) = List.range m) (hlast : lastA ops m = true) (hback : backLo ops = true) (hg : goodTx ops [] l = true) (hp : pairsTx ops l = true) (hC : C w.drew) (hLC : (∀ w o, C w → C (w.alloc o)) ∧ (∀ w, C w → B ≤ w.heap.size)) (F0 : World → Prop) (hF0 : F0 w.drew) (hLF : hasLit l = true → ∀ w w', F0 w → Below w.heap.size w w' → F0 w')
    (h : wpTz P ops B lo lv C (lastZ P ops C Q m) l [] a F0) : (Code.region id ops true).wp P Q a w := by
  refine wp_region_any hm ?_
  have hlen : l.length = m := by have := congrArg List.length hl; simpa using this
  refine tz_sound (P := P) (B := B) (lo := lo) (lv := lv) (C := C) (Z := lastZ P ops C Q m) (m := m) (fun a F hz w hF hc => hz w hF hc) hns hsz hlast hback ops.size l _ [] a _ F0 (by omega) ⟨by simp, fun i hi => ?_, fun x hx => ?_, ?_, fun j oj hoj hj => ?_, ?_⟩ hg hp (fun _ => hLC) hLF (fun _ z hz => by simp at hz) hF0 hC h
  · have hi2 : i < ops.size := by omega
    rw [hl]
    simp [hi2, hi]
  · have : x.1 ∈ l.map (·.1) := List.mem_map_of_mem hx
    rw [hl] at this
    simpa using this
  · have : m < ops.size := by omega
    simp [this]
  · exfalso
    by_cases h1 : j < ops.size
    · simp [h1] at hj
    · simp [h1] at hj
  · have h1 : (l.map (·.1)).Pairwise (· < ·) := by rw [hl]; exact List.pairwise_lt_range
    rwa [List.pairwise_map] at h1
end
end Go.Proofs.YtmkbmddgkdoaiaaGreat
