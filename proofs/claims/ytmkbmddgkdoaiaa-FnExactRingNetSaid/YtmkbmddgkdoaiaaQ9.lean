/- Lemmas for laws of this seat, for all inputs: NY. -/
import Derived.Test.YtmkbmddgkdoaiaaQ3
import Derived.Test.YtmkbmddgkdoaiaaQ8
set_option linter.unusedVariables false
set_option linter.unusedSimpArgs false
namespace Go.Proofs.Ytmkbmddgkdoaiaa
open Go.RowKit Go.Proofs.YtmkbmddgkdoaiaaW.PrintWords
open NoC
def RI (w : World) (lo : Nat) (A : Option Addr) (c : Nat) (xs : List Int) : Prop := xs = [] ∨ Kd.R (Kd.int .i64) 3 w lo (fun _ => True) (.slice A xs.length c) xs
def Own1 (r : Option Nat) (A : Option Addr) (c : Nat) (xs : List Int) : Prop := r = none ∨ (xs ≠ [] ∧ r = (Value.slice A xs.length c).ownBlock)
section
variable {w w1 : World} {lo : Nat} {A B : Option Addr} {c d : Nat} {xs ys : List Int}
theorem C_nil (w : World) (A : Option Addr) : Kd.C (Kd.int .i64) w A 0 [] := ⟨rfl, by simp, fun h => absurd h (by simp)⟩
theorem RI.reads (h : RI w lo A c xs) : Kd.C (Kd.int .i64) w A xs.length xs := by
  rcases h with h | h
  · subst h; exact C_nil w A
  · exact (Kd.R_rowX h).2.2
theorem RI.below (h : RI w lo A c xs) (hb : Below w.heap.size w w1) : RI w1 lo A c xs := h.imp id (fun h => Kd.R_below h hb)
theorem RI.lower {lo' : Nat} (h : RI w lo A c xs) (hl : lo' ≤ lo) : RI w lo' A c xs := h.imp id (fun h => Kd.R_lower h hl)
theorem R_chg {α : Type} {k : Kd α} {e a b : Nat} {v : Value} {l : List α} (h : k.R e w lo (fun _ => True) v l) (hc : Chg a b w w1) (hh : b ≤ lo) : k.R e w1 lo (fun _ => True) v l :=
  RU.row (RU.chg (RU.of h (Nat.le_refl _) (Nat.le_refl _)) hc (.inr hh))
theorem RI.chg {a b : Nat} (h : RI w lo A c xs) (hc : Chg a b w w1) (hh : b ≤ lo) : RI w1 lo A c xs := h.imp id (fun h => R_chg h hc hh)
theorem RI.grownI {r : Option Nat} (h : RI w lo A c xs) (hg : w.grownBy w1 r) (hr : Own1 r B d ys) (ha : Ap0 (.slice A xs.length c) (.slice B ys.length d)) : RI w1 lo A c xs := by
  rcases h with h | h
  · exact .inl h
  · rcases hr with rfl | ⟨hn, rfl⟩
    · exact .inr (R_grownI h hg (by cases (Value.slice A xs.length c).ownBlock <;> simp))
    · rcases ha with h0 | h0 | h0
      · exact .inl (List.eq_nil_of_length_eq_zero h0)
      · exact absurd (List.eq_nil_of_length_eq_zero h0) hn
      · exact .inr (R_grownI h hg h0)
theorem RI.grownF {b2 : Nat} {u : Value} {fs : List Flit} (h : RI w lo A c xs) (hu : kF.R 77 w b2 (fun _ => True) u fs) (hg : w.grownBy w1 u.ownBlock) : RI w1 lo A c xs := by
  rcases h with h | h
  · exact .inl h
  · obtain ⟨i1, hi1⟩ := Kd.R_own h
    obtain ⟨i2, hi2⟩ := Kd.R_own hu
    exact .inr (R_grownI h hg (own_type_ne hi1 hi2 (by decide)))
theorem own_grownI {m : Nat} {v : Value} {vs : List Value} {r : Option Nat} (ho : w.ownsRow lo 67 1 v m vs) (h : RI w lo B d ys) (hr : Own1 r B d ys) (hg : w.grownBy w1 r) : w1.ownsRow lo 67 1 v m vs := by
  rcases hr with rfl | ⟨hn, rfl⟩
  · exact ho.kept hg (by cases v.ownBlock <;> simp)
  · rcases h with h | h
    · exact absurd h hn
    · obtain ⟨i2, hi2⟩ := Kd.R_own h
      exact ho.kept hg (own_type_ne ho hi2 (by decide))
theorem rowF_grownI {v : Value} {fs : List Flit} {r : Option Nat} (hf : kF.R 77 w lo (fun _ => True) v fs) (h : RI w lo B d ys) (hr : Own1 r B d ys) (hg : w.grownBy w1 r) : kF.R 77 w1 lo (fun _ => True) v fs := by
  rcases hr with rfl | ⟨hn, rfl⟩
  · exact R_grownF hf hg (by cases v.ownBlock <;> simp)
  · rcases h with h | h
    · exact absurd h hn
    · obtain ⟨i2, hi2⟩ := Kd.R_own h
      obtain ⟨i1, hi1⟩ := Kd.R_own hf
      exact R_grownF hf hg (own_type_ne hi1 hi2 (by decide))
end
structure NY (w : World) (lo : Nat) (n : Net) (q : NA) (v4 v7 v8 : List Value) : Prop where
  br : RI w lo q.a1 q.c1 n.mesh.br
  pa : RI w lo q.a2 q.c2 n.pa
  pb : RI w lo q.a3 q.c3 n.pb
  owners : RI w lo q.a5 q.c5 n.owners
  turns : RI w lo q.a6 q.c6 n.turns
  bufs : w.ownsRow lo 67 1 (.slice q.a4 n.bufs.length q.c4) n.bufs.length v4
  srcs : w.ownsRow lo 67 1 (.slice q.a7 n.srcs.length q.c7) n.srcs.length v7
  arrs : w.ownsRow lo 67 1 (.slice q.a8 n.arrs.length q.c8) n.arrs.length v8
  rows : FR w lo (v4 ++ (v7 ++ v8)) (n.bufs ++ (n.srcs ++ n.arrs))
  apI : AllAp0 5 (iv n q)
section
variable {w w1 : World} {lo : Nat} {n : Net} {q : NA} {v4 v7 v8 : List Value}
theorem NX.ny (h : NX w lo n q v4 v7 v8) : NY w lo n q v4 v7 v8 := ⟨.inr h.br, .inr h.pa, .inr h.pb, .inr h.owners, .inr h.turns, h.bufs, h.srcs, h.arrs, h.rows, h.apI⟩
theorem FR.chg {a b : Nat} {vs : List Value} {l : List (List Flit)} (h : FR w lo vs l) (hc : Chg a b w w1) (hh : b ≤ lo) : FR w1 lo vs l := ⟨h.len, fun i hi => R_chg (h.row i hi) hc hh, h.ap⟩
theorem own_chg {a b m : Nat} {v : Value} {vs : List Value} (h : w.ownsRow lo 67 1 v m vs) (hc : Chg a b w w1) (hh : b ≤ lo) : w1.ownsRow lo 67 1 v m vs := own_move h (fun k hk => hc.block k (own_lt h k hk) (.inr (Nat.le_trans hh (own_base h k hk))))
theorem NY.below (h : NY w lo n q v4 v7 v8) (hb : Below w.heap.size w w1) : NY w1 lo n q v4 v7 v8 := ⟨h.br.below hb, h.pa.below hb, h.pb.below hb, h.owners.below hb, h.turns.below hb, pw_own_below h.bufs hb, pw_own_below h.srcs hb, pw_own_below h.arrs hb, h.rows.below hb, h.apI⟩
theorem NY.chg {a b : Nat} (h : NY w lo n q v4 v7 v8) (hc : Chg a b w w1) (hh : b ≤ lo) : NY w1 lo n q v4 v7 v8 := ⟨h.br.chg hc hh, h.pa.chg hc hh, h.pb.chg hc hh, h.owners.chg hc hh, h.turns.chg hc hh, own_chg h.bufs hc hh, own_chg h.srcs hc hh, own_chg h.arrs hc hh, h.rows.chg hc hh, h.apI⟩
theorem NY.l4 (h : NY w lo n q v4 v7 v8) : v4.length = n.bufs.length := by have := h.bufs.1; omega
theorem NY.l7 (h : NY w lo n q v4 v7 v8) : v7.length = n.srcs.length := by have := h.srcs.1; omega
theorem NY.l8 (h : NY w lo n q v4 v7 v8) : v8.length = n.arrs.length := by have := h.arrs.1; omega
theorem NY.row4 (h : NY w lo n q v4 v7 v8) (k : Nat) (hk : k < n.bufs.length) : kF.R 77 w lo (fun _ => True) (vr v4 k) (rl n.bufs k) := by
  have := h.rows.row k (by simp; omega)
  rwa [vr_left (by rw [h.l4]; exact hk), rl_left hk] at this
theorem NY.row7 (h : NY w lo n q v4 v7 v8) (k : Nat) (hk : k < n.srcs.length) : kF.R 77 w lo (fun _ => True) (vr v7 k) (rl n.srcs k) := by
  have := h.rows.row (n.bufs.length + k) (by simp; omega)
  rw [rl_right, ← h.l4, vr_right] at this
  rwa [vr_left (by rw [h.l7]; exact hk), rl_left hk] at this
theorem NY.row8 (h : NY w lo n q v4 v7 v8) (k : Nat) (hk : k < n.arrs.length) : kF.R 77 w lo (fun _ => True) (vr v8 k) (rl n.arrs k) := by
  have := h.rows.row (n.bufs.length + (n.srcs.length + k)) (by simp; omega)
  rw [rl_right, rl_right, ← h.l4, vr_right, ← h.l7, vr_right] at this
  exact this
theorem NY.reads (h : NY w lo n q v4 v7 v8) (k : NB n) : NetR 77 w n q :=
  ⟨h.br.reads, h.pa.reads, h.pb.reads, (own_readsB h.bufs h.row4).2.2, h.owners.reads, h.turns.reads, (own_readsB h.srcs h.row7).2.2, (own_readsB h.arrs h.row8).2.2, k.h1, k.h2, k.h3, k.h4, k.h5, k.h6, k.h7, k.h8, k.h9, k.h10, k.h11⟩
theorem NY.keptF (h : NY w lo n q v4 v7 v8) {k : Nat} (hk : k < (n.bufs ++ (n.srcs ++ n.arrs)).length) (hg : w.grownBy w1 (vr (v4 ++ (v7 ++ v8)) k).ownBlock) : RI w1 lo q.a1 q.c1 n.mesh.br ∧ RI w1 lo q.a2 q.c2 n.pa ∧ RI w1 lo q.a3 q.c3 n.pb ∧ RI w1 lo q.a5 q.c5 n.owners ∧ RI w1 lo q.a6 q.c6 n.turns ∧ w1.ownsRow lo 67 1 (.slice q.a4 n.bufs.length q.c4) n.bufs.length v4 ∧ w1.ownsRow lo 67 1 (.slice q.a7 n.srcs.length q.c7) n.srcs.length v7 ∧ w1.ownsRow lo 67 1 (.slice q.a8 n.arrs.length q.c8) n.arrs.length v8 := by
  have hr := h.rows.row k hk
  obtain ⟨inner, hin⟩ := Kd.R_own hr
  exact ⟨h.br.grownF hr hg, h.pa.grownF hr hg, h.pb.grownF hr hg, h.owners.grownF hr hg, h.turns.grownF hr hg, own_other h.bufs hg (own_type_ne h.bufs hin (by decide)), own_other h.srcs hg (own_type_ne h.srcs hin (by decide)), own_other h.arrs hg (own_type_ne h.arrs hin (by decide))⟩
theorem vr_same {vs : List Value} {k : Nat} (hk : k < vs.length) : vs.set k (vr vs k) = vs := by
  apply List.ext_getElem (by simp)
  intro i h1 h2
  rw [List.getElem_set]
  split
  · rename_i e
    subst e
    simp [vr, List.getD_eq_getElem?_getD, hk]
  · rfl
theorem NY.inBuf (h : NY w lo n q v4 v7 v8) (k : Nat) (hk : k < n.bufs.length) (hg : w.grownBy w1 (vr v4 k).ownBlock) {y : List Flit} (hu : kF.R 77 w1 lo (fun _ => True) (vr v4 k) y) : NY w1 lo { n with bufs := n.bufs.set k y } q v4 v7 v8 := by
  have e1 : vr (v4 ++ (v7 ++ v8)) (k) = vr v4 k := vr_left (by rw [h.l4]; exact hk)
  have hk2 : k < (n.bufs ++ (n.srcs ++ n.arrs)).length := by simp; omega
  obtain ⟨i1, i2, i3, i4, i5, o4, o7, o8⟩ := h.keptF hk2 (by rw [e1]; exact hg)
  have hl : k < (v4 ++ (v7 ++ v8)).length := by rw [h.rows.len]; exact hk2
  have hF := h.rows.upd (k) hk2 (by rw [e1]; exact hg) hu (by rw [e1]; exact .inr (.inl rfl))
  rw [← e1, vr_same hl, List.set_append_left _ _ hk] at hF
  exact ⟨i1, i2, i3, i4, i5, by simpa using o4, o7, o8, hF, (by rw [show iv { n with bufs := n.bufs.set k y } q = iv n q by simp [iv]]; exact h.apI)⟩
theorem NY.inSrc (h : NY w lo n q v4 v7 v8) (k : Nat) (hk : k < n.srcs.length) (hg : w.grownBy w1 (vr v7 k).ownBlock) {y : List Flit} (hu : kF.R 77 w1 lo (fun _ => True) (vr v7 k) y) : NY w1 lo { n with srcs := n.srcs.set k y } q v4 v7 v8 := by
  have e1 : vr (v4 ++ (v7 ++ v8)) (n.bufs.length + k) = vr v7 k := by rw [← h.l4, vr_right, vr_left (by rw [h.l7]; exact hk)]
  have hk2 : n.bufs.length + k < (n.bufs ++ (n.srcs ++ n.arrs)).length := by simp; omega
  obtain ⟨i1, i2, i3, i4, i5, o4, o7, o8⟩ := h.keptF hk2 (by rw [e1]; exact hg)
  have hl : n.bufs.length + k < (v4 ++ (v7 ++ v8)).length := by rw [h.rows.len]; exact hk2
  have hF := h.rows.upd (n.bufs.length + k) hk2 (by rw [e1]; exact hg) hu (by rw [e1]; exact .inr (.inl rfl))
  rw [← e1, vr_same hl, set_mid n.bufs n.srcs n.arrs k y hk] at hF
  exact ⟨i1, i2, i3, i4, i5, o4, by simpa using o7, o8, hF, (by rw [show iv { n with srcs := n.srcs.set k y } q = iv n q by simp [iv]]; exact h.apI)⟩
theorem NY.inArr (h : NY w lo n q v4 v7 v8) (k : Nat) (hk : k < n.arrs.length) (hg : w.grownBy w1 (vr v8 k).ownBlock) {y : List Flit} (hu : kF.R 77 w1 lo (fun _ => True) (vr v8 k) y) : NY w1 lo { n with arrs := n.arrs.set k y } q v4 v7 v8 := by
  have e1 : vr (v4 ++ (v7 ++ v8)) (n.bufs.length + (n.srcs.length + k)) = vr v8 k := by rw [← h.l4, vr_right, ← h.l7, vr_right]
  have hk2 : n.bufs.length + (n.srcs.length + k) < (n.bufs ++ (n.srcs ++ n.arrs)).length := by simp; omega
  obtain ⟨i1, i2, i3, i4, i5, o4, o7, o8⟩ := h.keptF hk2 (by rw [e1]; exact hg)
  have hl : n.bufs.length + (n.srcs.length + k) < (v4 ++ (v7 ++ v8)).length := by rw [h.rows.len]; exact hk2
  have hF := h.rows.upd (n.bufs.length + (n.srcs.length + k)) hk2 (by rw [e1]; exact hg) hu (by rw [e1]; exact .inr (.inl rfl))
  rw [← e1, vr_same hl, set_end n.bufs n.srcs n.arrs k y] at hF
  exact ⟨i1, i2, i3, i4, i5, o4, o7, by simpa using o8, hF, (by rw [show iv { n with arrs := n.arrs.set k y } q = iv n q by simp [iv]]; exact h.apI)⟩
theorem NY.set_br (h : NY w lo n q v4 v7 v8) {r : Option Nat} (hg : w.grownBy w1 r) (hr : Own1 r q.a1 q.c1 n.mesh.br) {xs : List Int} (hl : xs.length = n.mesh.br.length) (hx : RI w1 lo q.a1 q.c1 xs) : NY w1 lo { n with mesh := { n.mesh with br := xs } } q v4 v7 v8 := by
  refine ⟨hx, h.pa.grownI hg hr (h.apI.of (i := 1) (j := 0) (by omega) (by omega) (by omega)), h.pb.grownI hg hr (h.apI.of (i := 2) (j := 0) (by omega) (by omega) (by omega)), h.owners.grownI hg hr (h.apI.of (i := 3) (j := 0) (by omega) (by omega) (by omega)), h.turns.grownI hg hr (h.apI.of (i := 4) (j := 0) (by omega) (by omega) (by omega)), own_grownI h.bufs h.br hr hg, own_grownI h.srcs h.br hr hg, own_grownI h.arrs h.br hr hg, ⟨h.rows.len, fun i hi => rowF_grownI (h.rows.row i hi) h.br hr hg, h.rows.ap⟩, ?_⟩
  have e : iv { n with mesh := { n.mesh with br := xs } } q = iv n q := by simp [iv, hl]
  rw [e]
  exact h.apI
theorem NY.set_pa (h : NY w lo n q v4 v7 v8) {r : Option Nat} (hg : w.grownBy w1 r) (hr : Own1 r q.a2 q.c2 n.pa) {xs : List Int} (hl : xs.length = n.pa.length) (hx : RI w1 lo q.a2 q.c2 xs) : NY w1 lo { n with pa := xs } q v4 v7 v8 := by
  refine ⟨h.br.grownI hg hr (h.apI.of (i := 0) (j := 1) (by omega) (by omega) (by omega)), hx, h.pb.grownI hg hr (h.apI.of (i := 2) (j := 1) (by omega) (by omega) (by omega)), h.owners.grownI hg hr (h.apI.of (i := 3) (j := 1) (by omega) (by omega) (by omega)), h.turns.grownI hg hr (h.apI.of (i := 4) (j := 1) (by omega) (by omega) (by omega)), own_grownI h.bufs h.pa hr hg, own_grownI h.srcs h.pa hr hg, own_grownI h.arrs h.pa hr hg, ⟨h.rows.len, fun i hi => rowF_grownI (h.rows.row i hi) h.pa hr hg, h.rows.ap⟩, ?_⟩
  have e : iv { n with pa := xs } q = iv n q := by simp [iv, hl]
  rw [e]
  exact h.apI
theorem NY.set_pb (h : NY w lo n q v4 v7 v8) {r : Option Nat} (hg : w.grownBy w1 r) (hr : Own1 r q.a3 q.c3 n.pb) {xs : List Int} (hl : xs.length = n.pb.length) (hx : RI w1 lo q.a3 q.c3 xs) : NY w1 lo { n with pb := xs } q v4 v7 v8 := by
  refine ⟨h.br.grownI hg hr (h.apI.of (i := 0) (j := 2) (by omega) (by omega) (by omega)), h.pa.grownI hg hr (h.apI.of (i := 1) (j := 2) (by omega) (by omega) (by omega)), hx, h.owners.grownI hg hr (h.apI.of (i := 3) (j := 2) (by omega) (by omega) (by omega)), h.turns.grownI hg hr (h.apI.of (i := 4) (j := 2) (by omega) (by omega) (by omega)), own_grownI h.bufs h.pb hr hg, own_grownI h.srcs h.pb hr hg, own_grownI h.arrs h.pb hr hg, ⟨h.rows.len, fun i hi => rowF_grownI (h.rows.row i hi) h.pb hr hg, h.rows.ap⟩, ?_⟩
  have e : iv { n with pb := xs } q = iv n q := by simp [iv, hl]
  rw [e]
  exact h.apI
theorem NY.set_owners (h : NY w lo n q v4 v7 v8) {r : Option Nat} (hg : w.grownBy w1 r) (hr : Own1 r q.a5 q.c5 n.owners) {xs : List Int} (hl : xs.length = n.owners.length) (hx : RI w1 lo q.a5 q.c5 xs) : NY w1 lo { n with owners := xs } q v4 v7 v8 := by
  refine ⟨h.br.grownI hg hr (h.apI.of (i := 0) (j := 3) (by omega) (by omega) (by omega)), h.pa.grownI hg hr (h.apI.of (i := 1) (j := 3) (by omega) (by omega) (by omega)), h.pb.grownI hg hr (h.apI.of (i := 2) (j := 3) (by omega) (by omega) (by omega)), hx, h.turns.grownI hg hr (h.apI.of (i := 4) (j := 3) (by omega) (by omega) (by omega)), own_grownI h.bufs h.owners hr hg, own_grownI h.srcs h.owners hr hg, own_grownI h.arrs h.owners hr hg, ⟨h.rows.len, fun i hi => rowF_grownI (h.rows.row i hi) h.owners hr hg, h.rows.ap⟩, ?_⟩
  have e : iv { n with owners := xs } q = iv n q := by simp [iv, hl]
  rw [e]
  exact h.apI
theorem NY.set_turns (h : NY w lo n q v4 v7 v8) {r : Option Nat} (hg : w.grownBy w1 r) (hr : Own1 r q.a6 q.c6 n.turns) {xs : List Int} (hl : xs.length = n.turns.length) (hx : RI w1 lo q.a6 q.c6 xs) : NY w1 lo { n with turns := xs } q v4 v7 v8 := by
  refine ⟨h.br.grownI hg hr (h.apI.of (i := 0) (j := 4) (by omega) (by omega) (by omega)), h.pa.grownI hg hr (h.apI.of (i := 1) (j := 4) (by omega) (by omega) (by omega)), h.pb.grownI hg hr (h.apI.of (i := 2) (j := 4) (by omega) (by omega) (by omega)), h.owners.grownI hg hr (h.apI.of (i := 3) (j := 4) (by omega) (by omega) (by omega)), hx, own_grownI h.bufs h.turns hr hg, own_grownI h.srcs h.turns hr hg, own_grownI h.arrs h.turns hr hg, ⟨h.rows.len, fun i hi => rowF_grownI (h.rows.row i hi) h.turns hr hg, h.rows.ap⟩, ?_⟩
  have e : iv { n with turns := xs } q = iv n q := by simp [iv, hl]
  rw [e]
  exact h.apI
end
theorem laws_markIntY (l : List Int) (k : Int) (A : Option Addr) (c base : Nat) (w : World) (HO : RI w base A c l) (hn : l.length ≤ 2097152) (k0 : 0 ≤ k) (k1 : k ≤ 100000000000000000) :
    Calls Try.prog 22 #[.slice A l.length c, .int .i64 k] w fun e w' => e = .returned (.int .i64 (k + l.length)) ∧ RI w' base A c (markL k l.length) ∧ ∃ r, w.grownBy w' r ∧ Own1 r A c l := by
  by_cases h0 : l = []
  · subst h0
    go_enter Try.func22, Try.ntmps22
    go_wp2
    go_loopw [1, 5] (fun v i wr => v = .int .i64 k ∧ i = .int .i64 0 ∧ wr = w) (fun _ _ _ => 0)
    case atStart => exact ⟨rfl, rfl, rfl⟩
    case round =>
      obtain ⟨rfl, rfl, rfl⟩ := hrel
      go_wp2
      go_ret
      exact ⟨ret_int (by simp), .inl rfl, none, World.grownBy.refl _ _, .inl rfl⟩
  · rcases HO with h | h
    · exact absurd h h0
    · exact (laws_markIntS l k A c base w h hn k0 k1).mono fun e w' ⟨h1, h2, h3⟩ => ⟨h1, .inr (by rw [markL_len]; exact h2), _, h3, .inr ⟨h0, rfl⟩⟩
theorem own1_alloc {w w1 : World} {r : Option Nat} (ob : Obj) (h : (w.alloc ob).grownBy w1 r) : w.grownBy w1 r := grown_trans (World.grownBy_alloc _ _ _) h
theorem laws_markMeshY (m : Mesh) (k : Int) (A : Option Addr) (c base : Nat) (w : World) (HO : RI w base A c m.br) (hn : m.br.length ≤ 2097152) (k0 : 0 ≤ k) (k1 : k ≤ 100000000000000000) :
    Calls Try.prog 19 #[.agg #[.int .i64 m.g.w, .int .i64 m.g.h, .slice A m.br.length c], .int .i64 k] w fun e w' => e = .returned (.int .i64 (k + m.br.length)) ∧ RI w' base A c (markL k m.br.length) ∧ ∃ r, w.grownBy w' r ∧ Own1 r A c m.br := by
  have H := Lib.hid HO
  clear HO
  go_enter Try.func19, Try.ntmps19
  go_wp2_with (go_at_call 22; refine (laws_markIntY m.br k A c base _ (H.out.below (bw_alloc _ (bw_refl w))) hn k0 k1).mono ?_; rintro e w1 ⟨rfl, hr1, r, hg1, ho1⟩)
  go_ret
  exact ⟨rfl, hr1, r, own1_alloc _ hg1, ho1⟩
theorem laws_markTableY (t : List Int) (k : Int) (A : Option Addr) (c base : Nat) (w : World) (HO : RI w base A c t) (hn : t.length ≤ 2097152) (k0 : 0 ≤ k) (k1 : k ≤ 100000000000000000) :
    Calls Try.prog 45 #[.agg #[.slice A t.length c], .int .i64 k] w fun e w' => e = .returned (.int .i64 (k + t.length)) ∧ RI w' base A c (markL k t.length) ∧ ∃ r, w.grownBy w' r ∧ Own1 r A c t := by
  have H := Lib.hid HO
  clear HO
  go_enter Try.func45, Try.ntmps45
  go_wp2_with (go_at_call 22; refine (laws_markIntY t k A c base _ (H.out.below (bw_alloc _ (bw_refl w))) hn k0 k1).mono ?_; rintro e w1 ⟨rfl, hr1, r, hg1, ho1⟩)
  go_ret
  exact ⟨rfl, hr1, r, own1_alloc _ hg1, ho1⟩
def markLL (k : Int) (l : List (List Flit)) : List (List Flit) := (List.range l.length).map (fun i => markFl (k + 5 * (totTo l i : Int)) (rl l i).length)
theorem markLL_len (k : Int) (l : List (List Flit)) : (markLL k l).length = l.length := by simp [markLL]
theorem markLL_get (k : Int) (l : List (List Flit)) (i : Nat) (hi : i < l.length) : rl (markLL k l) i = markFl (k + 5 * (totTo l i : Int)) (rl l i).length := by
  simp [rl, markLL, List.getD_eq_getElem?_getD, hi]
theorem eq_markLL {k : Int} {l x : List (List Flit)} (h : x.length = l.length) (hx : ∀ i : Nat, i < l.length → rl x i = markFl (k + 5 * (totTo l i : Int)) (rl l i).length) : x = markLL k l := by
  refine same_getB (by rw [h, markLL_len]) (fun j hj => ?_)
  rw [markLL_len] at hj
  rw [hx j hj, markLL_get k l j hj]
set_option maxHeartbeats 4000000 in
theorem laws_markBufY (n : Net) (q : NA) (v4 v7 v8 : List Value) (lo hi : Nat) (k : Int) (w : World) (HN : NY w lo n q v4 v7 v8) (HT : ∀ j : Nat, j < n.bufs.length → ∀ i, (vr v4 j).ownBlock = some i → i < hi) (hn : n.bufs.length ≤ 2097152) (hm : Hid (∀ x ∈ n.bufs, x.length ≤ 2097152)) (k0 : 0 ≤ k) (k1 : k ≤ 1000000000000000) :
  Calls Try.prog 21 #[.slice q.a4 n.bufs.length q.c4, .int .i64 k] w fun e w' => e = .returned (.int .i64 (k + 5 * (totTo n.bufs n.bufs.length : Int))) ∧ NY w' lo { n with bufs := markLL k n.bufs } q v4 v7 v8 ∧ Chg lo hi w w' := by
 have HN0 := Lib.hid HN
 clear HN
 have HX0 := Lib.hid HT
 clear HT
 go_enter Try.func21, Try.ntmps21
 go_wp2
 go_loopw [1, 5] (fun v i wr => ∃ (j : Nat) (x : List (List Flit)), i = .int .i64 j ∧ v = .int .i64 (k + 5 * (totTo n.bufs j : Int)) ∧ j ≤ n.bufs.length ∧ Hid (x.length = n.bufs.length) ∧ Hid ((∀ q : Nat, q < j → rl x q = markFl (k + 5 * (totTo n.bufs q : Int)) (rl n.bufs q).length) ∧ ∀ q : Nat, j ≤ q → rl x q = rl n.bufs q) ∧ Hid (NY wr lo { n with bufs := x } q v4 v7 v8) ∧ Hid (Chg lo hi w wr)) (fun _ i _ => n.bufs.length - (intOf i).toNat)
 case atStart => exact ⟨0, n.bufs, rfl, by simp [totTo], Nat.zero_le _, Lib.hid rfl, Lib.hid ⟨fun q h => absurd h (Nat.not_lt_zero _), fun _ _ => rfl⟩, Lib.hid HN0.out, Lib.hid (Chg.refl _ _ _)⟩
 case round =>
  obtain ⟨j, x, rfl, rfl, hj, HL, HA, HO, HG⟩ := hrel
  have ht := totTo_le hm.out j hj
  by_cases hlt : j < n.bufs.length
  ·have hxl : j < x.length := by have := HL.out; omega
   have hlj := hm.out _ (rl_mem hlt)
   have hrow : kF.R 77 wr lo (fun _ => True) (vr v4 j) (rl x j) := HO.out.row4 j hxl
   rw [HA.out.2 j (Nat.le_refl _)] at hrow
   obtain ⟨Aj, cj, hvj⟩ := Kd.R_slice hrow
   have hown : wr.ownsRow lo 67 1 (.slice q.a4 x.length q.c4) x.length v4 := HO.out.bufs
   obtain ⟨g, cap, hv, hgb, hgl⟩ := hown.form (by omega)
   rw [HL.out] at hv hown
   injection hv with hv1 hv2 hv3
   rw [hv1, hv3] at hown
   rw [hv1, hv3]
   obtain ⟨hx9, hf9⟩ := own_cell hown hlt
   rw [hvj] at hx9
   have hr2 := hrow
   rw [hvj] at hr2
   have HR := Lib.hid hr2
   have HV := Lib.hid hvj
   have hts : ((totTo n.bufs (j + 1) : Nat) : Int) = (totTo n.bufs j : Int) + ((rl n.bufs j).length : Int) := by simp [totTo]
   have HT := Lib.hid hts
   have hbase := Kd.R_base hr2
   have hltb := Kd.R_lt hr2
   have HX8 : Hid (∀ i, (Value.slice Aj (rl n.bufs j).length cj).ownBlock = some i → i < hi) := Lib.hid (fun i h9 => HX0.out j hlt i (by rw [hvj]; exact h9))
   have HBL := Lib.hid (And.intro hbase hltb)
   clear hv1 hv2 hv3 hrow hr2 hvj hts hf9 hown hbase hltb
   go_wp2_with (go_at_call 46; refine (laws_markFlitS (rl n.bufs j) _ Aj cj lo _ HR.out hlj (by omega) (by omega)).mono ?_; rintro e w1 ⟨rfl, HR1, hg1⟩)
   go_roundw
   case rel =>
    have hgg : wr.grownBy w1 (vr v4 j).ownBlock := by rw [HV.out]; exact hg1
    refine ⟨j + 1, x.set j (markFl (k + 5 * (totTo n.bufs j : Int)) (rl n.bufs j).length), by go_num, by rw [HT.out]; congr 1; omega, by omega, Lib.hid (by rw [List.length_set]; exact HL.out), Lib.hid ⟨upto (fun q hq => by rw [set_getB hxl q (by have := HL.out; omega), if_neg (by omega)]; exact HA.out.1 q hq) (by rw [set_getB hxl j hxl, if_pos rfl]), fun q hq => ?_⟩, Lib.hid ?_, Lib.hid (HG.out.trans ?_)⟩
    ·by_cases hqx : q < x.length
     ·rw [set_getB hxl q hqx, if_neg (by omega)]
      exact HA.out.2 q (by omega)
     ·have e1 : rl (x.set j (markFl (k + 5 * (totTo n.bufs j : Int)) (rl n.bufs j).length)) q = [] := by simp [rl, List.getD_eq_getElem?_getD, hqx]
      have e2 : rl n.bufs q = [] := by
       have : ¬ q < n.bufs.length := by have := HL.out; omega
       simp [rl, List.getD_eq_getElem?_getD, this]
      rw [e1, e2]
    ·have hh := HO.out.inBuf j hxl hgg (y := markFl (k + 5 * (totTo n.bufs j : Int)) (rl n.bufs j).length) (by rw [HV.out, ← show (markFl (k + 5 * (totTo n.bufs j : Int)) (rl n.bufs j).length).length = (rl n.bufs j).length from markFl_len _ _]; rw [markFl_len]; exact HR1)
     exact hh
    ·exact ⟨hg1.os, hg1.tape, hg1.output, hg1.size, fun i h9 ho => hg1.block i h9 (fun e => by
      have h1 := HBL.out.1 i e.symm
      have h2 := HX8.out i e.symm
      omega)⟩
   case measure => simp [intOf]; omega
  ·go_wp2
   go_ret
   obtain rfl : j = n.bufs.length := by omega
   have e : x = markLL k n.bufs := eq_markLL HL.out (fun i hi => HA.out.1 i hi)
   subst e
   exact ⟨rfl, HO.out, HG.out⟩
set_option maxHeartbeats 4000000 in
theorem laws_markSrcY (n : Net) (q : NA) (v4 v7 v8 : List Value) (lo hi : Nat) (k : Int) (w : World) (HN : NY w lo n q v4 v7 v8) (HT : ∀ j : Nat, j < n.srcs.length → ∀ i, (vr v7 j).ownBlock = some i → i < hi) (hn : n.srcs.length ≤ 2097152) (hm : Hid (∀ x ∈ n.srcs, x.length ≤ 2097152)) (k0 : 0 ≤ k) (k1 : k ≤ 1000000000000000) :
  Calls Try.prog 21 #[.slice q.a7 n.srcs.length q.c7, .int .i64 k] w fun e w' => e = .returned (.int .i64 (k + 5 * (totTo n.srcs n.srcs.length : Int))) ∧ NY w' lo { n with srcs := markLL k n.srcs } q v4 v7 v8 ∧ Chg lo hi w w' := by
 have HN0 := Lib.hid HN
 clear HN
 have HX0 := Lib.hid HT
 clear HT
 go_enter Try.func21, Try.ntmps21
 go_wp2
 go_loopw [1, 5] (fun v i wr => ∃ (j : Nat) (x : List (List Flit)), i = .int .i64 j ∧ v = .int .i64 (k + 5 * (totTo n.srcs j : Int)) ∧ j ≤ n.srcs.length ∧ Hid (x.length = n.srcs.length) ∧ Hid ((∀ q : Nat, q < j → rl x q = markFl (k + 5 * (totTo n.srcs q : Int)) (rl n.srcs q).length) ∧ ∀ q : Nat, j ≤ q → rl x q = rl n.srcs q) ∧ Hid (NY wr lo { n with srcs := x } q v4 v7 v8) ∧ Hid (Chg lo hi w wr)) (fun _ i _ => n.srcs.length - (intOf i).toNat)
 case atStart => exact ⟨0, n.srcs, rfl, by simp [totTo], Nat.zero_le _, Lib.hid rfl, Lib.hid ⟨fun q h => absurd h (Nat.not_lt_zero _), fun _ _ => rfl⟩, Lib.hid HN0.out, Lib.hid (Chg.refl _ _ _)⟩
 case round =>
  obtain ⟨j, x, rfl, rfl, hj, HL, HA, HO, HG⟩ := hrel
  have ht := totTo_le hm.out j hj
  by_cases hlt : j < n.srcs.length
  ·have hxl : j < x.length := by have := HL.out; omega
   have hlj := hm.out _ (rl_mem hlt)
   have hrow : kF.R 77 wr lo (fun _ => True) (vr v7 j) (rl x j) := HO.out.row7 j hxl
   rw [HA.out.2 j (Nat.le_refl _)] at hrow
   obtain ⟨Aj, cj, hvj⟩ := Kd.R_slice hrow
   have hown : wr.ownsRow lo 67 1 (.slice q.a7 x.length q.c7) x.length v7 := HO.out.srcs
   obtain ⟨g, cap, hv, hgb, hgl⟩ := hown.form (by omega)
   rw [HL.out] at hv hown
   injection hv with hv1 hv2 hv3
   rw [hv1, hv3] at hown
   rw [hv1, hv3]
   obtain ⟨hx9, hf9⟩ := own_cell hown hlt
   rw [hvj] at hx9
   have hr2 := hrow
   rw [hvj] at hr2
   have HR := Lib.hid hr2
   have HV := Lib.hid hvj
   have hts : ((totTo n.srcs (j + 1) : Nat) : Int) = (totTo n.srcs j : Int) + ((rl n.srcs j).length : Int) := by simp [totTo]
   have HT := Lib.hid hts
   have hbase := Kd.R_base hr2
   have hltb := Kd.R_lt hr2
   have HX8 : Hid (∀ i, (Value.slice Aj (rl n.srcs j).length cj).ownBlock = some i → i < hi) := Lib.hid (fun i h9 => HX0.out j hlt i (by rw [hvj]; exact h9))
   have HBL := Lib.hid (And.intro hbase hltb)
   clear hv1 hv2 hv3 hrow hr2 hvj hts hf9 hown hbase hltb
   go_wp2_with (go_at_call 46; refine (laws_markFlitS (rl n.srcs j) _ Aj cj lo _ HR.out hlj (by omega) (by omega)).mono ?_; rintro e w1 ⟨rfl, HR1, hg1⟩)
   go_roundw
   case rel =>
    have hgg : wr.grownBy w1 (vr v7 j).ownBlock := by rw [HV.out]; exact hg1
    refine ⟨j + 1, x.set j (markFl (k + 5 * (totTo n.srcs j : Int)) (rl n.srcs j).length), by go_num, by rw [HT.out]; congr 1; omega, by omega, Lib.hid (by rw [List.length_set]; exact HL.out), Lib.hid ⟨upto (fun q hq => by rw [set_getB hxl q (by have := HL.out; omega), if_neg (by omega)]; exact HA.out.1 q hq) (by rw [set_getB hxl j hxl, if_pos rfl]), fun q hq => ?_⟩, Lib.hid ?_, Lib.hid (HG.out.trans ?_)⟩
    ·by_cases hqx : q < x.length
     ·rw [set_getB hxl q hqx, if_neg (by omega)]
      exact HA.out.2 q (by omega)
     ·have e1 : rl (x.set j (markFl (k + 5 * (totTo n.srcs j : Int)) (rl n.srcs j).length)) q = [] := by simp [rl, List.getD_eq_getElem?_getD, hqx]
      have e2 : rl n.srcs q = [] := by
       have : ¬ q < n.srcs.length := by have := HL.out; omega
       simp [rl, List.getD_eq_getElem?_getD, this]
      rw [e1, e2]
    ·have hh := HO.out.inSrc j hxl hgg (y := markFl (k + 5 * (totTo n.srcs j : Int)) (rl n.srcs j).length) (by rw [HV.out, ← show (markFl (k + 5 * (totTo n.srcs j : Int)) (rl n.srcs j).length).length = (rl n.srcs j).length from markFl_len _ _]; rw [markFl_len]; exact HR1)
     exact hh
    ·exact ⟨hg1.os, hg1.tape, hg1.output, hg1.size, fun i h9 ho => hg1.block i h9 (fun e => by
      have h1 := HBL.out.1 i e.symm
      have h2 := HX8.out i e.symm
      omega)⟩
   case measure => simp [intOf]; omega
  ·go_wp2
   go_ret
   obtain rfl : j = n.srcs.length := by omega
   have e : x = markLL k n.srcs := eq_markLL HL.out (fun i hi => HA.out.1 i hi)
   subst e
   exact ⟨rfl, HO.out, HG.out⟩
set_option maxHeartbeats 4000000 in
theorem laws_markArrY (n : Net) (q : NA) (v4 v7 v8 : List Value) (lo hi : Nat) (k : Int) (w : World) (HN : NY w lo n q v4 v7 v8) (HT : ∀ j : Nat, j < n.arrs.length → ∀ i, (vr v8 j).ownBlock = some i → i < hi) (hn : n.arrs.length ≤ 2097152) (hm : Hid (∀ x ∈ n.arrs, x.length ≤ 2097152)) (k0 : 0 ≤ k) (k1 : k ≤ 1000000000000000) :
  Calls Try.prog 21 #[.slice q.a8 n.arrs.length q.c8, .int .i64 k] w fun e w' => e = .returned (.int .i64 (k + 5 * (totTo n.arrs n.arrs.length : Int))) ∧ NY w' lo { n with arrs := markLL k n.arrs } q v4 v7 v8 ∧ Chg lo hi w w' := by
 have HN0 := Lib.hid HN
 clear HN
 have HX0 := Lib.hid HT
 clear HT
 go_enter Try.func21, Try.ntmps21
 go_wp2
 go_loopw [1, 5] (fun v i wr => ∃ (j : Nat) (x : List (List Flit)), i = .int .i64 j ∧ v = .int .i64 (k + 5 * (totTo n.arrs j : Int)) ∧ j ≤ n.arrs.length ∧ Hid (x.length = n.arrs.length) ∧ Hid ((∀ q : Nat, q < j → rl x q = markFl (k + 5 * (totTo n.arrs q : Int)) (rl n.arrs q).length) ∧ ∀ q : Nat, j ≤ q → rl x q = rl n.arrs q) ∧ Hid (NY wr lo { n with arrs := x } q v4 v7 v8) ∧ Hid (Chg lo hi w wr)) (fun _ i _ => n.arrs.length - (intOf i).toNat)
 case atStart => exact ⟨0, n.arrs, rfl, by simp [totTo], Nat.zero_le _, Lib.hid rfl, Lib.hid ⟨fun q h => absurd h (Nat.not_lt_zero _), fun _ _ => rfl⟩, Lib.hid HN0.out, Lib.hid (Chg.refl _ _ _)⟩
 case round =>
  obtain ⟨j, x, rfl, rfl, hj, HL, HA, HO, HG⟩ := hrel
  have ht := totTo_le hm.out j hj
  by_cases hlt : j < n.arrs.length
  ·have hxl : j < x.length := by have := HL.out; omega
   have hlj := hm.out _ (rl_mem hlt)
   have hrow : kF.R 77 wr lo (fun _ => True) (vr v8 j) (rl x j) := HO.out.row8 j hxl
   rw [HA.out.2 j (Nat.le_refl _)] at hrow
   obtain ⟨Aj, cj, hvj⟩ := Kd.R_slice hrow
   have hown : wr.ownsRow lo 67 1 (.slice q.a8 x.length q.c8) x.length v8 := HO.out.arrs
   obtain ⟨g, cap, hv, hgb, hgl⟩ := hown.form (by omega)
   rw [HL.out] at hv hown
   injection hv with hv1 hv2 hv3
   rw [hv1, hv3] at hown
   rw [hv1, hv3]
   obtain ⟨hx9, hf9⟩ := own_cell hown hlt
   rw [hvj] at hx9
   have hr2 := hrow
   rw [hvj] at hr2
   have HR := Lib.hid hr2
   have HV := Lib.hid hvj
   have hts : ((totTo n.arrs (j + 1) : Nat) : Int) = (totTo n.arrs j : Int) + ((rl n.arrs j).length : Int) := by simp [totTo]
   have HT := Lib.hid hts
   have hbase := Kd.R_base hr2
   have hltb := Kd.R_lt hr2
   have HX8 : Hid (∀ i, (Value.slice Aj (rl n.arrs j).length cj).ownBlock = some i → i < hi) := Lib.hid (fun i h9 => HX0.out j hlt i (by rw [hvj]; exact h9))
   have HBL := Lib.hid (And.intro hbase hltb)
   clear hv1 hv2 hv3 hrow hr2 hvj hts hf9 hown hbase hltb
   go_wp2_with (go_at_call 46; refine (laws_markFlitS (rl n.arrs j) _ Aj cj lo _ HR.out hlj (by omega) (by omega)).mono ?_; rintro e w1 ⟨rfl, HR1, hg1⟩)
   go_roundw
   case rel =>
    have hgg : wr.grownBy w1 (vr v8 j).ownBlock := by rw [HV.out]; exact hg1
    refine ⟨j + 1, x.set j (markFl (k + 5 * (totTo n.arrs j : Int)) (rl n.arrs j).length), by go_num, by rw [HT.out]; congr 1; omega, by omega, Lib.hid (by rw [List.length_set]; exact HL.out), Lib.hid ⟨upto (fun q hq => by rw [set_getB hxl q (by have := HL.out; omega), if_neg (by omega)]; exact HA.out.1 q hq) (by rw [set_getB hxl j hxl, if_pos rfl]), fun q hq => ?_⟩, Lib.hid ?_, Lib.hid (HG.out.trans ?_)⟩
    ·by_cases hqx : q < x.length
     ·rw [set_getB hxl q hqx, if_neg (by omega)]
      exact HA.out.2 q (by omega)
     ·have e1 : rl (x.set j (markFl (k + 5 * (totTo n.arrs j : Int)) (rl n.arrs j).length)) q = [] := by simp [rl, List.getD_eq_getElem?_getD, hqx]
      have e2 : rl n.arrs q = [] := by
       have : ¬ q < n.arrs.length := by have := HL.out; omega
       simp [rl, List.getD_eq_getElem?_getD, this]
      rw [e1, e2]
    ·have hh := HO.out.inArr j hxl hgg (y := markFl (k + 5 * (totTo n.arrs j : Int)) (rl n.arrs j).length) (by rw [HV.out, ← show (markFl (k + 5 * (totTo n.arrs j : Int)) (rl n.arrs j).length).length = (rl n.arrs j).length from markFl_len _ _]; rw [markFl_len]; exact HR1)
     exact hh
    ·exact ⟨hg1.os, hg1.tape, hg1.output, hg1.size, fun i h9 ho => hg1.block i h9 (fun e => by
      have h1 := HBL.out.1 i e.symm
      have h2 := HX8.out i e.symm
      omega)⟩
   case measure => simp [intOf]; omega
  ·go_wp2
   go_ret
   obtain rfl : j = n.arrs.length := by omega
   have e : x = markLL k n.arrs := eq_markLL HL.out (fun i hi => HA.out.1 i hi)
   subst e
   exact ⟨rfl, HO.out, HG.out⟩
set_option maxHeartbeats 4000000 in
theorem laws_heldFlitS (n : Nat) (k : Int) (A : Option Addr) (c : Nat) (w : World) (hr0 : kF.C w A n (markFl k n)) (hn : n ≤ 2097152) (k0 : 0 ≤ k) (k1 : k ≤ 100000000000000000) :
    Calls Try.prog 48 #[.slice A n c, .int .i64 k] w fun e w' => e = .returned (.int .i64 (k + 5 * n)) ∧ w = w' := by
  have hr : kF.C w A (markFl k n).length (markFl k n) := by rw [markFl_len]; exact hr0
  go_enter Try.func48, Try.ntmps48
  go_wp2
  go_loop [1, 5] (fun v i => ∃ j : Nat, i = .int .i64 j ∧ v = .int .i64 (k + 5 * j) ∧ j ≤ n) (fun _ i => n - (intOf i).toNat)
  case atStart => exact ⟨0, rfl, by simp, Nat.zero_le _⟩
  case round =>
    obtain ⟨j, rfl, rfl, hj⟩ := hrel
    by_cases hlt : j < n
    · obtain ⟨b, off, rfl, hb, h0, h1, h2, h3, h4⟩ := rdFl_at hr j (by rw [markFl_len]; exact hlt)
      rw [markFl_get _ _ _ hlt] at h0 h1 h2 h3 h4
      simp only [markQF] at h0 h1 h2 h3 h4
      have e0 := bne_self (k + 5 * (j : Int))
      have e1 := bne_self (k + 5 * (j : Int) + 1)
      have e2 := bne_self (k + 5 * (j : Int) + 1 + 1)
      have e3 : (((k + 5 * (j : Int) + 1 + 1 + 1) % 3 == 0) != ((k + 5 * (j : Int) + 1 + 1 + 1) % 3 == 0)) = false := by simp
      have e4 : (((k + 5 * (j : Int) + 1 + 1 + 1 + 1) % 3 == 0) != ((k + 5 * (j : Int) + 1 + 1 + 1 + 1) % 3 == 0)) = false := by simp
      go_wp2
      go_round
      case rel => exact ⟨j + 1, by go_num, by first | (push_cast; congr 1; omega) | (congr 1; push_cast; omega) | go_num, by omega⟩
      case measure => simp [intOf]; omega
    · go_wp2
      go_ret
      exact ⟨ret_int (by rw [show j = n by omega]), rfl⟩
set_option maxHeartbeats 4000000 in
theorem laws_heldFlitSS (l : List (List Flit)) (k : Int) (A : Option Addr) (c : Nat) (w : World) (hr0 : (kB 77).C w A (markLL k l).length (markLL k l)) (hn : l.length ≤ 2097152) (hm : Hid (∀ x ∈ l, x.length ≤ 2097152)) (k0 : 0 ≤ k) (k1 : k ≤ 1000000000000000) :
    Calls Try.prog 25 #[.slice A l.length c, .int .i64 k] w fun e w' => e = .returned (.int .i64 (k + 5 * (totTo l l.length : Int))) ∧ w = w' := by
  go_enter Try.func25, Try.ntmps25
  go_wp2
  go_loop [1, 5] (fun v i => ∃ j : Nat, i = .int .i64 j ∧ v = .int .i64 (k + 5 * (totTo l j : Int)) ∧ j ≤ l.length) (fun _ i => l.length - (intOf i).toNat)
  case atStart => exact ⟨0, rfl, by simp [totTo], Nat.zero_le _⟩
  case round =>
    obtain ⟨j, rfl, rfl, hj⟩ := hrel
    have ht := totTo_le hm.out j hj
    by_cases hlt : j < l.length
    · have hlj := hm.out _ (rl_mem hlt)
      have hts : ((totTo l (j + 1) : Nat) : Int) = (totTo l j : Int) + ((rl l j).length : Int) := by simp [totTo]
      obtain ⟨b, off, rfl, hb, Ai, ci, p0, hle, hCi⟩ := rdB_at hr0 j (by rw [markLL_len]; exact hlt)
      rw [markLL_get k l j hlt] at p0 hle hCi
      rw [markFl_len] at p0 hle hCi
      have HT := Lib.hid hts
      have HC := Lib.hid hCi
      clear hts hCi
      have hneg : ¬ (k + 5 * (totTo l j : Int) + 5 * ((rl l j).length : Int) < 0) := by omega
      go_wp2_with (go_at_call 48; refine (laws_heldFlitS (rl l j).length _ Ai ci _ HC.out hlj (by omega) (by omega)).mono ?_; rintro e w' ⟨rfl, rfl⟩)
      go_round
      case rel => exact ⟨j + 1, by go_num, by rw [HT.out]; congr 1; omega, by omega⟩
      case measure => simp [intOf]; omega
    · go_wp2
      go_ret
      exact ⟨ret_int (by rw [show j = l.length by omega]), rfl⟩
theorem laws_heldMesh (g : Grid) (n : Nat) (k : Int) (A : Option Addr) (c : Nat) (w : World) (hr0 : Kd.C (Kd.int .i64) w A n (markL k n)) (hn : n ≤ 2097152) (k0 : 0 ≤ k) (k1 : k ≤ 100000000000000000) :
    Calls Try.prog 23 #[.agg #[.int .i64 g.w, .int .i64 g.h, .slice A n c], .int .i64 k] w fun e w' => e = .returned (.int .i64 (k + n)) ∧ Below w.heap.size w w' := by
  have hneg : ¬ (k + (n : Int) < 0) := by omega
  go_enter Try.func23, Try.ntmps23
  go_wp2_with (go_at_call 26; refine (laws_heldIntS n k A c _ (by exact Kd.C_below hr0 bel) hn k0 (by omega)).mono ?_; rintro e w' ⟨rfl, rfl⟩)
  go_ret
  exact ⟨rfl, bel⟩
theorem laws_heldClasses (n m : Nat) (k : Int) (A B : Option Addr) (c d : Nat) (w : World) (hr0 : Kd.C (Kd.int .i64) w A n (markL k n)) (hs0 : Kd.C (Kd.int .i64) w B m (markL (k + n) m)) (hn : n ≤ 2097152) (hm : m ≤ 2097152) (k0 : 0 ≤ k) (k1 : k ≤ 100000000) :
    Calls Try.prog 24 #[.agg #[.slice A n c, .slice B m d], .int .i64 k] w fun e w' => e = .returned (.int .i64 (k + n + m)) ∧ Below w.heap.size w w' := by
  have hneg : ¬ (k + (n : Int) < 0) := by omega
  have hneg2 : ¬ (k + (n : Int) + (m : Int) < 0) := by omega
  have X := Box.new w w.heap.size #[.slice A n c, .slice B m d] 30 rfl
  go_enter Try.func24, Try.ntmps24
  go_wp2_with fail
  refine (laws_heldTable n k A c _ (by exact Kd.C_below hr0 bel) hn k0 (by omega)).mono ?_
  rintro e w1 ⟨rfl, hb1⟩
  have X1 := X.below hb1
  have x1 : w1.cell? ⟨w.heap.size, 1, none⟩ = some (.slice B m d) := X1.get 1
  have xl := X1.lt
  clear X X1
  go_wp2_with fail
  refine (laws_heldTable m (k + n) B d _ (by exact Kd.C_below hs0 bel) hm (by omega) (by omega)).mono ?_
  rintro e w2 ⟨rfl, hb2⟩
  go_wp2
  go_ret
  exact ⟨rfl, bw_then (bw_then (bw_alloc _ (bw_refl w)) hb1) hb2⟩
def mk1 (k : Int) (n : Net) : Int := k + n.mesh.br.length
def mk2 (k : Int) (n : Net) : Int := mk1 k n + n.pa.length
def mk3 (k : Int) (n : Net) : Int := mk2 k n + n.pb.length
def mk4 (k : Int) (n : Net) : Int := mk3 k n + 5 * (totTo n.bufs n.bufs.length : Int)
def mk5 (k : Int) (n : Net) : Int := mk4 k n + n.owners.length
def mk6 (k : Int) (n : Net) : Int := mk5 k n + n.turns.length
def mk7 (k : Int) (n : Net) : Int := mk6 k n + 5 * (totTo n.srcs n.srcs.length : Int)
def mk8 (k : Int) (n : Net) : Int := mk7 k n + 5 * (totTo n.arrs n.arrs.length : Int)
def markedN (k : Int) (n : Net) : Net := { mesh := { n.mesh with br := markL k n.mesh.br.length }, pa := markL (mk1 k n) n.pa.length, pb := markL (mk2 k n) n.pb.length, bufs := markLL (mk3 k n) n.bufs, owners := markL (mk4 k n) n.owners.length, turns := markL (mk5 k n) n.turns.length, srcs := markLL (mk6 k n) n.srcs, arrs := markLL (mk7 k n) n.arrs, time := n.time }
theorem markLL_rows {k : Int} {l : List (List Flit)} {N : Nat} (h : ∀ x ∈ l, x.length ≤ N) : ∀ x ∈ markLL k l, x.length ≤ N := by
  intro x hx
  unfold markLL at hx
  obtain ⟨i, hi, rfl⟩ := List.mem_map.1 hx
  rw [markFl_len]
  exact h _ (rl_mem (List.mem_range.1 hi))
theorem marked_nb {k : Int} {n : Net} (h : NB n) : NB (markedN k n) := ⟨by simpa [markedN, markL_len] using h.h1, by simpa [markedN, markL_len] using h.h2, by simpa [markedN, markL_len] using h.h3, by simpa [markedN, markLL_len] using h.h4, by simpa [markedN, markL_len] using h.h5, by simpa [markedN, markL_len] using h.h6, by simpa [markedN, markLL_len] using h.h7, by simpa [markedN, markLL_len] using h.h8, markLL_rows h.h9, markLL_rows h.h10, markLL_rows h.h11⟩
theorem mk_bounds {k : Int} {n : Net} (h : NB n) (k0 : 0 ≤ k) (k1 : k ≤ 1000) : (0 ≤ mk1 k n ∧ mk1 k n ≤ 2100000) ∧ (0 ≤ mk2 k n ∧ mk2 k n ≤ 4200000) ∧ (0 ≤ mk3 k n ∧ mk3 k n ≤ 6300000) ∧ (0 ≤ mk4 k n ∧ mk4 k n ≤ 40000000000000) ∧ (0 ≤ mk5 k n ∧ mk5 k n ≤ 40000010000000) ∧ (0 ≤ mk6 k n ∧ mk6 k n ≤ 40000020000000) ∧ (0 ≤ mk7 k n ∧ mk7 k n ≤ 80000020000000) ∧ 0 ≤ mk8 k n := by
  have m4 := totTo_le h.h9 n.bufs.length (Nat.le_refl _)
  have m7 := totTo_le h.h10 n.srcs.length (Nat.le_refl _)
  have m8 := totTo_le h.h11 n.arrs.length (Nat.le_refl _)
  have l1 := h.h1
  have l2 := h.h2
  have l3 := h.h3
  have l4 := h.h4
  have l5 := h.h5
  have l6 := h.h6
  have l7 := h.h7
  have l8 := h.h8
  unfold mk8 mk7 mk6 mk5 mk4 mk3 mk2 mk1
  omega
theorem RI_lt {w : World} {lo : Nat} {A : Option Addr} {c : Nat} {xs : List Int} (h : RI w lo A c xs) : xs ≠ [] → ∀ i, (Value.slice A xs.length c).ownBlock = some i → lo ≤ i ∧ i < w.heap.size := by
  intro h0 i hi
  rcases h with h | h
  · exact absurd h h0
  · exact ⟨Kd.R_base h i hi, Kd.R_lt h i hi⟩
theorem chg_own1 {w w1 : World} {lo hi : Nat} {A : Option Addr} {c : Nat} {xs : List Int} {r : Option Nat} (hg : w.grownBy w1 r) (ho : Own1 r A c xs) (hl : xs ≠ [] → ∀ i, (Value.slice A xs.length c).ownBlock = some i → lo ≤ i ∧ i < hi) : Chg lo hi w w1 :=
  ⟨hg.os, hg.tape, hg.output, hg.size, fun i hi hh => hg.block i hi (fun e => by
    rcases ho with rfl | ⟨h0, rfl⟩
    · cases e
    · have := hl h0 i e.symm
      omega)⟩
set_option maxHeartbeats 2000000 in
theorem laws_markClassesY (n : Net) (q : NA) (v4 v7 v8 : List Value) (lo hi : Nat) (k : Int) (w : World) (HN : NY w lo n q v4 v7 v8) (L2 : n.pa ≠ [] → ∀ i, (Value.slice q.a2 n.pa.length q.c2).ownBlock = some i → lo ≤ i ∧ i < hi) (L3 : n.pb ≠ [] → ∀ i, (Value.slice q.a3 n.pb.length q.c3).ownBlock = some i → lo ≤ i ∧ i < hi) (hh : hi ≤ w.heap.size) (hn : n.pa.length ≤ 2097152) (hm : n.pb.length ≤ 2097152) (k0 : 0 ≤ k) (k1 : k ≤ 100000000) :
    Calls Try.prog 20 #[.agg #[.slice q.a2 n.pa.length q.c2, .slice q.a3 n.pb.length q.c3], .int .i64 k] w fun e w' => e = .returned (.int .i64 (k + n.pa.length + n.pb.length)) ∧ NY w' lo { n with pa := markL k n.pa.length, pb := markL (k + n.pa.length) n.pb.length } q v4 v7 v8 ∧ Chg lo hi w w' := by
  have X := Box.new w w.heap.size #[.slice q.a2 n.pa.length q.c2, .slice q.a3 n.pb.length q.c3] 30 rfl
  have H := Lib.hid (HN.below (bw_alloc (.cells #[.slice q.a2 n.pa.length q.c2, .slice q.a3 n.pb.length q.c3] 30) (bw_refl w)))
  have L2 := Lib.hid L2
  have L3 := Lib.hid L3
  clear HN
  go_enter Try.func20, Try.ntmps20
  go_wp2_with fail
  refine (laws_markTableY n.pa k q.a2 q.c2 lo _ H.out.pa hn k0 (by omega)).mono ?_
  rintro e w1 ⟨rfl, hr1, r1, hg1, ho1⟩
  have H1 := Lib.hid (H.out.set_pa hg1 ho1 (markL_len _ _) hr1)
  have G1 : Hid (Chg lo hi (w.alloc (.cells #[.slice q.a2 n.pa.length q.c2, .slice q.a3 n.pb.length q.c3] 30)) w1) := Lib.hid (chg_own1 hg1 ho1 L2.out)
  have X1 := X.chg G1.out (.inr hh)
  have x1 : w1.cell? ⟨w.heap.size, 1, none⟩ = some (.slice q.a3 n.pb.length q.c3) := X1.get 1
  have xl := X1.lt
  clear X X1 hr1 hg1 ho1 H
  go_wp2_with fail
  refine (laws_markTableY n.pb (k + n.pa.length) q.a3 q.c3 lo _ H1.out.pb hm (by omega) (by omega)).mono ?_
  rintro e w2 ⟨rfl, hr2, r2, hg2, ho2⟩
  have H2 := Lib.hid (H1.out.set_pb hg2 ho2 (markL_len _ _) hr2)
  have G2 : Hid (Chg lo hi w1 w2) := Lib.hid (chg_own1 hg2 ho2 L3.out)
  go_wp2
  go_ret
  exact ⟨rfl, H2.out, ((Chg.of_below (bw_alloc _ (bw_refl w))).trans G1.out).trans G2.out⟩
structure NT (hi : Nat) (n : Net) (q : NA) (v4 v7 v8 : List Value) : Prop where
  br : n.mesh.br ≠ [] → ∀ i, (Value.slice q.a1 n.mesh.br.length q.c1).ownBlock = some i → i < hi
  pa : n.pa ≠ [] → ∀ i, (Value.slice q.a2 n.pa.length q.c2).ownBlock = some i → i < hi
  pb : n.pb ≠ [] → ∀ i, (Value.slice q.a3 n.pb.length q.c3).ownBlock = some i → i < hi
  owners : n.owners ≠ [] → ∀ i, (Value.slice q.a5 n.owners.length q.c5).ownBlock = some i → i < hi
  turns : n.turns ≠ [] → ∀ i, (Value.slice q.a6 n.turns.length q.c6).ownBlock = some i → i < hi
  bufs : ∀ j : Nat, j < n.bufs.length → ∀ i, (vr v4 j).ownBlock = some i → i < hi
  srcs : ∀ j : Nat, j < n.srcs.length → ∀ i, (vr v7 j).ownBlock = some i → i < hi
  arrs : ∀ j : Nat, j < n.arrs.length → ∀ i, (vr v8 j).ownBlock = some i → i < hi
theorem NY.top {w : World} {lo : Nat} {n : Net} {q : NA} {v4 v7 v8 : List Value} (h : NY w lo n q v4 v7 v8) : NT w.heap.size n q v4 v7 v8 :=
  ⟨fun h0 i h9 => (RI_lt h.br h0 i h9).2, fun h0 i h9 => (RI_lt h.pa h0 i h9).2, fun h0 i h9 => (RI_lt h.pb h0 i h9).2, fun h0 i h9 => (RI_lt h.owners h0 i h9).2, fun h0 i h9 => (RI_lt h.turns h0 i h9).2, fun j hj i h9 => Kd.R_lt (h.row4 j hj) i h9, fun j hj i h9 => Kd.R_lt (h.row7 j hj) i h9, fun j hj i h9 => Kd.R_lt (h.row8 j hj) i h9⟩
set_option maxHeartbeats 8000000 in
set_option maxRecDepth 100000 in
theorem laws_markNetY (n : Net) (q : NA) (v4 v7 v8 : List Value) (lo hi : Nat) (k : Int) (w : World) (HN : NY w lo n q v4 v7 v8) (nb : NB n) (hT : NT hi n q v4 v7 v8) (hh : hi ≤ w.heap.size) (k0 : 0 ≤ k) (k1 : k ≤ 1000) :
    Calls Try.prog 7 #[.agg (netCells n q), .int .i64 k] w fun e w' => e = .returned (.int .i64 (mk8 k n)) ∧ NY w' lo (markedN k n) q v4 v7 v8 ∧ Chg lo hi w w' := by
  have hB := Lib.hid nb
  obtain ⟨⟨a1, b1⟩, ⟨a2, b2⟩, ⟨a3, b3⟩, ⟨a4, b4⟩, ⟨a5, b5⟩, ⟨a6, b6⟩, ⟨a7, b7⟩, a8⟩ := mk_bounds nb k0 k1
  have L1 := Lib.hid (fun h0 i h9 => And.intro (RI_lt HN.br h0 i h9).1 (hT.br h0 i h9))
  have L2 := Lib.hid (fun h0 i h9 => And.intro (RI_lt HN.pa h0 i h9).1 (hT.pa h0 i h9))
  have L3 := Lib.hid (fun h0 i h9 => And.intro (RI_lt HN.pb h0 i h9).1 (hT.pb h0 i h9))
  have L5 := Lib.hid (fun h0 i h9 => And.intro (RI_lt HN.owners h0 i h9).1 (hT.owners h0 i h9))
  have L6 := Lib.hid (fun h0 i h9 => And.intro (RI_lt HN.turns h0 i h9).1 (hT.turns h0 i h9))
  have L4 := Lib.hid hT.bufs
  have L7 := Lib.hid hT.srcs
  have L8 := Lib.hid hT.arrs
  obtain ⟨w0, e0⟩ : ∃ z, z = w.alloc (.cells #[.int .i64 n.mesh.g.w, .int .i64 n.mesh.g.h, .slice q.a1 n.mesh.br.length q.c1, .slice q.a2 n.pa.length q.c2, .slice q.a3 n.pb.length q.c3, .slice q.a4 n.bufs.length q.c4, .slice q.a5 n.owners.length q.c5, .slice q.a6 n.turns.length q.c6, .slice q.a7 n.srcs.length q.c7, .slice q.a8 n.arrs.length q.c8, .int .i64 n.time] 33) := ⟨_, rfl⟩
  have B : Box (w.alloc (.cells #[.int .i64 n.mesh.g.w, .int .i64 n.mesh.g.h, .slice q.a1 n.mesh.br.length q.c1, .slice q.a2 n.pa.length q.c2, .slice q.a3 n.pb.length q.c3, .slice q.a4 n.bufs.length q.c4, .slice q.a5 n.owners.length q.c5, .slice q.a6 n.turns.length q.c6, .slice q.a7 n.srcs.length q.c7, .slice q.a8 n.arrs.length q.c8, .int .i64 n.time] 33)) w.heap.size #[.int .i64 n.mesh.g.w, .int .i64 n.mesh.g.h, .slice q.a1 n.mesh.br.length q.c1, .slice q.a2 n.pa.length q.c2, .slice q.a3 n.pb.length q.c3, .slice q.a4 n.bufs.length q.c4, .slice q.a5 n.owners.length q.c5, .slice q.a6 n.turns.length q.c6, .slice q.a7 n.srcs.length q.c7, .slice q.a8 n.arrs.length q.c8, .int .i64 n.time] := Box.new w _ _ _ rfl
  have H0 := Lib.hid (HN.below (show Below w.heap.size w w0 by rw [e0]; exact bw_alloc _ (bw_refl w)))
  have G : Hid (Chg lo hi w w0) := Lib.hid (Chg.of_below (by rw [e0]; exact bw_alloc _ (bw_refl w)))
  have hb0 : hi ≤ w.heap.size := hh
  have zz0 : w.heap.size < w0.heap.size := by rw [e0]; simp
  clear HN nb
  unfold netCells
  go_enter Try.func7, Try.ntmps7
  obtain ⟨y, g⟩ := B
  go_wp2_with fail
  rw [← e0] at y g
  rw [← e0]
  refine (laws_markMeshY n.mesh k q.a1 q.c1 lo _ H0.out.br hB.out.h1 k0 (by omega)).mono ?_
  rintro e w1 ⟨he, hr1, r1, hg1, ho1⟩

  obtain rfl : e = .returned (.int .i64 (mk1 k n)) := he
  have H1 := Lib.hid (H0.out.set_br hg1 ho1 (markL_len _ _) hr1)
  have G1 : Hid (Chg lo hi w0 w1) := Lib.hid (chg_own1 hg1 ho1 L1.out)
  replace G := Lib.hid (G.out.trans G1.out)
  have B := Box.chg ⟨y, g⟩ G1.out (.inr hb0)
  clear y g G1 H0
  obtain ⟨y, g⟩ := B


  go_wp2_with fail
  refine (laws_markClassesY _ q v4 v7 v8 lo hi (mk1 k n) _ H1.out L2.out L3.out (by have := G.out.size; omega) hB.out.h2 hB.out.h3 a1 (by omega)).mono ?_
  rintro e w2 ⟨he, hn1, hc1⟩

  obtain rfl : e = .returned (.int .i64 (mk3 k n)) := he
  have H2 := Lib.hid (hn1)
  have G1 : Hid (Chg lo hi w1 w2) := Lib.hid (hc1)
  replace G := Lib.hid (G.out.trans G1.out)
  have B := Box.chg ⟨y, g⟩ G1.out (.inr hb0)
  clear y g G1 H1
  obtain ⟨y, g⟩ := B


  go_wp2_with fail
  refine (laws_markBufY _ q v4 v7 v8 lo hi (mk3 k n) _ H2.out L4.out hB.out.h4 (Lib.hid hB.out.h9) a3 (by omega)).mono ?_
  rintro e w3 ⟨he, hn1, hc1⟩

  obtain rfl : e = .returned (.int .i64 (mk4 k n)) := he
  have H3 := Lib.hid (hn1)
  have G1 : Hid (Chg lo hi w2 w3) := Lib.hid (hc1)
  replace G := Lib.hid (G.out.trans G1.out)
  have B := Box.chg ⟨y, g⟩ G1.out (.inr hb0)
  clear y g G1 H2
  obtain ⟨y, g⟩ := B


  go_wp2_with fail
  refine (laws_markIntY n.owners (mk4 k n) q.a5 q.c5 lo _ H3.out.owners hB.out.h5 a4 (by omega)).mono ?_
  rintro e w4 ⟨he, hr1, r1, hg1, ho1⟩

  obtain rfl : e = .returned (.int .i64 (mk5 k n)) := he
  have H4 := Lib.hid (H3.out.set_owners hg1 ho1 (markL_len _ _) hr1)
  have G1 : Hid (Chg lo hi w3 w4) := Lib.hid (chg_own1 hg1 ho1 L5.out)
  replace G := Lib.hid (G.out.trans G1.out)
  have B := Box.chg ⟨y, g⟩ G1.out (.inr hb0)
  clear y g G1 H3
  obtain ⟨y, g⟩ := B


  go_wp2_with fail
  refine (laws_markIntY n.turns (mk5 k n) q.a6 q.c6 lo _ H4.out.turns hB.out.h6 a5 (by omega)).mono ?_
  rintro e w5 ⟨he, hr1, r1, hg1, ho1⟩

  obtain rfl : e = .returned (.int .i64 (mk6 k n)) := he
  have H5 := Lib.hid (H4.out.set_turns hg1 ho1 (markL_len _ _) hr1)
  have G1 : Hid (Chg lo hi w4 w5) := Lib.hid (chg_own1 hg1 ho1 L6.out)
  replace G := Lib.hid (G.out.trans G1.out)
  have B := Box.chg ⟨y, g⟩ G1.out (.inr hb0)
  clear y g G1 H4
  obtain ⟨y, g⟩ := B


  go_wp2_with fail
  refine (laws_markSrcY _ q v4 v7 v8 lo hi (mk6 k n) _ H5.out L7.out hB.out.h7 (Lib.hid hB.out.h10) a6 (by omega)).mono ?_
  rintro e w6 ⟨he, hn1, hc1⟩

  obtain rfl : e = .returned (.int .i64 (mk7 k n)) := he
  have H6 := Lib.hid (hn1)
  have G1 : Hid (Chg lo hi w5 w6) := Lib.hid (hc1)
  replace G := Lib.hid (G.out.trans G1.out)
  have B := Box.chg ⟨y, g⟩ G1.out (.inr hb0)
  clear y g G1 H5
  obtain ⟨y, g⟩ := B


  go_wp2_with fail
  refine (laws_markArrY _ q v4 v7 v8 lo hi (mk7 k n) _ H6.out L8.out hB.out.h8 (Lib.hid hB.out.h11) a7 (by omega)).mono ?_
  rintro e w7 ⟨he, hn1, hc1⟩

  obtain rfl : e = .returned (.int .i64 (mk8 k n)) := he
  have H7 := Lib.hid (hn1)
  have G1 : Hid (Chg lo hi w6 w7) := Lib.hid (hc1)
  replace G := Lib.hid (G.out.trans G1.out)
  have B := Box.chg ⟨y, g⟩ G1.out (.inr hb0)
  clear y g G1 H6
  obtain ⟨y, g⟩ := B
  go_wp2
  go_ret
  exact ⟨rfl, H7.out, G.out⟩
set_option maxHeartbeats 8000000 in
set_option maxRecDepth 100000 in
theorem laws_heldNetY (n : Net) (q : NA) (k : Int) (w : World) (HR : NetR 77 w (markedN k n) q) (nb : NB n) (k0 : 0 ≤ k) (k1 : k ≤ 1000) :
    Calls Try.prog 8 #[.agg (netCells n q), .int .i64 k] w fun e w' => e = .returned (.int .i64 (mk8 k n)) ∧ Below w.heap.size w w' := by
  have hB := Lib.hid nb
  have H := Lib.hid HR
  obtain ⟨⟨a1, b1⟩, ⟨a2, b2⟩, ⟨a3, b3⟩, ⟨a4, b4⟩, ⟨a5, b5⟩, ⟨a6, b6⟩, ⟨a7, b7⟩, a8⟩ := mk_bounds nb k0 k1
  obtain ⟨w0, e0⟩ : ∃ z, z = w.alloc (.cells #[.int .i64 n.mesh.g.w, .int .i64 n.mesh.g.h, .slice q.a1 n.mesh.br.length q.c1, .slice q.a2 n.pa.length q.c2, .slice q.a3 n.pb.length q.c3, .slice q.a4 n.bufs.length q.c4, .slice q.a5 n.owners.length q.c5, .slice q.a6 n.turns.length q.c6, .slice q.a7 n.srcs.length q.c7, .slice q.a8 n.arrs.length q.c8, .int .i64 n.time] 33) := ⟨_, rfl⟩
  have B : Box (w.alloc (.cells #[.int .i64 n.mesh.g.w, .int .i64 n.mesh.g.h, .slice q.a1 n.mesh.br.length q.c1, .slice q.a2 n.pa.length q.c2, .slice q.a3 n.pb.length q.c3, .slice q.a4 n.bufs.length q.c4, .slice q.a5 n.owners.length q.c5, .slice q.a6 n.turns.length q.c6, .slice q.a7 n.srcs.length q.c7, .slice q.a8 n.arrs.length q.c8, .int .i64 n.time] 33)) w.heap.size #[.int .i64 n.mesh.g.w, .int .i64 n.mesh.g.h, .slice q.a1 n.mesh.br.length q.c1, .slice q.a2 n.pa.length q.c2, .slice q.a3 n.pb.length q.c3, .slice q.a4 n.bufs.length q.c4, .slice q.a5 n.owners.length q.c5, .slice q.a6 n.turns.length q.c6, .slice q.a7 n.srcs.length q.c7, .slice q.a8 n.arrs.length q.c8, .int .i64 n.time] := Box.new w _ _ _ rfl
  have G0 : Hid (Below w.heap.size w w0) := Lib.hid (by rw [e0]; exact bw_alloc _ (bw_refl w))
  clear HR nb
  unfold netCells
  go_enter Try.func8, Try.ntmps8
  obtain ⟨y, g⟩ := B
  go_wp2_with fail
  rw [← e0] at y g
  rw [← e0]
  refine (laws_heldMesh n.mesh.g n.mesh.br.length k q.a1 q.c1 _ (by have := (H.out.below G0.out).br; simpa [markedN, markL_len] using this) hB.out.h1 k0 (by omega)).mono ?_
  rintro e w1 ⟨he, hb⟩
  obtain rfl : e = .returned (.int .i64 (mk1 k n)) := he
  have G1 : Hid (Below w.heap.size w w1) := Lib.hid (bw_then G0.out hb)
  have B := Box.below ⟨y, g⟩ hb
  clear y g
  obtain ⟨y, g⟩ := B


  go_wp2_with fail
  refine (laws_heldClasses n.pa.length n.pb.length (mk1 k n) q.a2 q.a3 q.c2 q.c3 _ (by have := (H.out.below G1.out).pa; simpa [markedN, markL_len] using this) (by have := (H.out.below G1.out).pb; simpa [markedN, markL_len, mk2] using this) hB.out.h2 hB.out.h3 a1 (by omega)).mono ?_
  rintro e w2 ⟨he, hb⟩
  obtain rfl : e = .returned (.int .i64 (mk3 k n)) := he
  have G2 : Hid (Below w.heap.size w w2) := Lib.hid (bw_then G1.out hb)
  have B := Box.below ⟨y, g⟩ hb
  clear y g
  obtain ⟨y, g⟩ := B


  go_wp2_with fail
  refine (laws_heldFlitSS n.bufs (mk3 k n) q.a4 q.c4 _ (H.out.below G2.out).bufs hB.out.h4 (Lib.hid hB.out.h9) a3 (by omega)).mono ?_
  rintro e w3 ⟨he, rfl⟩
  obtain rfl : e = .returned (.int .i64 (mk4 k n)) := he
  have G3 := G2


  go_wp2_with fail
  refine (laws_heldIntS n.owners.length (mk4 k n) q.a5 q.c5 _ (by have := (H.out.below G3.out).owners; simpa [markedN, markL_len] using this) hB.out.h5 a4 (by omega)).mono ?_
  rintro e w4 ⟨he, rfl⟩
  obtain rfl : e = .returned (.int .i64 (mk5 k n)) := he
  have G4 := G3


  go_wp2_with fail
  refine (laws_heldIntS n.turns.length (mk5 k n) q.a6 q.c6 _ (by have := (H.out.below G4.out).turns; simpa [markedN, markL_len] using this) hB.out.h6 a5 (by omega)).mono ?_
  rintro e w5 ⟨he, rfl⟩
  obtain rfl : e = .returned (.int .i64 (mk6 k n)) := he
  have G5 := G4


  go_wp2_with fail
  refine (laws_heldFlitSS n.srcs (mk6 k n) q.a7 q.c7 _ (H.out.below G5.out).srcs hB.out.h7 (Lib.hid hB.out.h10) a6 (by omega)).mono ?_
  rintro e w6 ⟨he, rfl⟩
  obtain rfl : e = .returned (.int .i64 (mk7 k n)) := he
  have G6 := G5


  go_wp2_with fail
  refine (laws_heldFlitSS n.arrs (mk7 k n) q.a8 q.c8 _ (H.out.below G6.out).arrs hB.out.h8 (Lib.hid hB.out.h11) a7 (by omega)).mono ?_
  rintro e w7 ⟨he, rfl⟩
  obtain rfl : e = .returned (.int .i64 (mk8 k n)) := he
  have G7 := G6
  go_wp2
  go_ret
  exact ⟨rfl, G7.out⟩
end Go.Proofs.Ytmkbmddgkdoaiaa
