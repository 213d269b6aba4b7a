/- Lemmas for laws of this seat, for all inputs: NY Idle Run Put. -/
import Derived.Test.YtaihmgbflhbebaaQ3
import Derived.Test.YtaihmgbflhbebaaQ11
set_option linter.unusedVariables false
set_option linter.unusedSimpArgs false
namespace Go.Proofs.Ytaihmgbflhbebaa
open Go.RowKit Go.Proofs.YtaihmgbflhbebaaW.PrintWords
open NoC
def RI (w : World) (lo : Nat) (A : Option Addr) (c : Nat) (xs : List Int) : Prop := xs = [] ∨ Kd.R (Kd.int .i64) 3 w lo (fun _ => True) (.slice A xs.length c) xs
def Own1 (r : Option Nat) (A : Option Addr) (c : Nat) (xs : List Int) : Prop := r = none ∨ (xs ≠ [] ∧ r = (Value.slice A xs.length c).ownBlock)
section
variable {w w1 : World} {lo : Nat} {A B : Option Addr} {c d : Nat} {xs ys : List Int}
theorem C_nil (w : World) (A : Option Addr) : Kd.C (Kd.int .i64) w A 0 [] := ⟨rfl, by simp, fun h => absurd h (by simp)⟩
theorem RI.reads (h : RI w lo A c xs) : Kd.C (Kd.int .i64) w A xs.length xs := by
  rcases h with h | h
  · subst h; exact C_nil w A
  · exact (Kd.R_rowX h).2.2
theorem RI.below (h : RI w lo A c xs) (hb : Below w.heap.size w w1) : RI w1 lo A c xs := h.imp id (fun h => Kd.R_below h hb)
theorem RI.lower {lo' : Nat} (h : RI w lo A c xs) (hl : lo' ≤ lo) : RI w lo' A c xs := h.imp id (fun h => Kd.R_lower h hl)
theorem R_chg {α : Type} {k : Kd α} {e a b : Nat} {v : Value} {l : List α} (h : k.R e w lo (fun _ => True) v l) (hc : Chg a b w w1) (hh : b ≤ lo) : k.R e w1 lo (fun _ => True) v l :=
  RU.row (RU.chg (RU.of h (Nat.le_refl _) (Nat.le_refl _)) hc (.inr hh))
theorem RI.chg {a b : Nat} (h : RI w lo A c xs) (hc : Chg a b w w1) (hh : b ≤ lo) : RI w1 lo A c xs := h.imp id (fun h => R_chg h hc hh)
theorem RI.grownI {r : Option Nat} (h : RI w lo A c xs) (hg : w.grownBy w1 r) (hr : Own1 r B d ys) (ha : Ap0 (.slice A xs.length c) (.slice B ys.length d)) : RI w1 lo A c xs := by
  rcases h with h | h
  · exact .inl h
  · rcases hr with rfl | ⟨hn, rfl⟩
    · exact .inr (R_grownI h hg (by cases (Value.slice A xs.length c).ownBlock <;> simp))
    · rcases ha with h0 | h0 | h0
      · exact .inl (List.eq_nil_of_length_eq_zero h0)
      · exact absurd (List.eq_nil_of_length_eq_zero h0) hn
      · exact .inr (R_grownI h hg h0)
theorem RI.grownF {b2 : Nat} {u : Value} {fs : List Flit} (h : RI w lo A c xs) (hu : kF.R 77 w b2 (fun _ => True) u fs) (hg : w.grownBy w1 u.ownBlock) : RI w1 lo A c xs := by
  rcases h with h | h
  · exact .inl h
  · obtain ⟨i1, hi1⟩ := Kd.R_own h
    obtain ⟨i2, hi2⟩ := Kd.R_own hu
    exact .inr (R_grownI h hg (own_type_ne hi1 hi2 (by decide)))
end
structure NY (w : World) (lo : Nat) (n : Net) (q : NA) (v4 v7 v8 : List Value) : Prop where
  br : RI w lo q.a1 q.c1 n.mesh.br
  pa : RI w lo q.a2 q.c2 n.pa
  pb : RI w lo q.a3 q.c3 n.pb
  owners : RI w lo q.a5 q.c5 n.owners
  turns : RI w lo q.a6 q.c6 n.turns
  bufs : w.ownsRow lo 68 1 (.slice q.a4 n.bufs.length q.c4) n.bufs.length v4
  srcs : w.ownsRow lo 68 1 (.slice q.a7 n.srcs.length q.c7) n.srcs.length v7
  arrs : w.ownsRow lo 68 1 (.slice q.a8 n.arrs.length q.c8) n.arrs.length v8
  rows : FR w lo (v4 ++ (v7 ++ v8)) (n.bufs ++ (n.srcs ++ n.arrs))
  apI : AllAp0 5 (iv n q)
section
variable {w w1 : World} {lo : Nat} {n : Net} {q : NA} {v4 v7 v8 : List Value}
theorem NX.ny (h : NX w lo n q v4 v7 v8) : NY w lo n q v4 v7 v8 := ⟨.inr h.br, .inr h.pa, .inr h.pb, .inr h.owners, .inr h.turns, h.bufs, h.srcs, h.arrs, h.rows, h.apI⟩
theorem FR.chg {a b : Nat} {vs : List Value} {l : List (List Flit)} (h : FR w lo vs l) (hc : Chg a b w w1) (hh : b ≤ lo) : FR w1 lo vs l := ⟨h.len, fun i hi => R_chg (h.row i hi) hc hh, h.ap⟩
theorem own_chg {a b m : Nat} {v : Value} {vs : List Value} (h : w.ownsRow lo 68 1 v m vs) (hc : Chg a b w w1) (hh : b ≤ lo) : w1.ownsRow lo 68 1 v m vs := own_move h (fun k hk => hc.block k (own_lt h k hk) (.inr (Nat.le_trans hh (own_base h k hk))))
theorem NY.below (h : NY w lo n q v4 v7 v8) (hb : Below w.heap.size w w1) : NY w1 lo n q v4 v7 v8 := ⟨h.br.below hb, h.pa.below hb, h.pb.below hb, h.owners.below hb, h.turns.below hb, pw_own_below h.bufs hb, pw_own_below h.srcs hb, pw_own_below h.arrs hb, h.rows.below hb, h.apI⟩
theorem NY.chg {a b : Nat} (h : NY w lo n q v4 v7 v8) (hc : Chg a b w w1) (hh : b ≤ lo) : NY w1 lo n q v4 v7 v8 := ⟨h.br.chg hc hh, h.pa.chg hc hh, h.pb.chg hc hh, h.owners.chg hc hh, h.turns.chg hc hh, own_chg h.bufs hc hh, own_chg h.srcs hc hh, own_chg h.arrs hc hh, h.rows.chg hc hh, h.apI⟩
theorem NY.l4 (h : NY w lo n q v4 v7 v8) : v4.length = n.bufs.length := by have := h.bufs.1; omega
theorem NY.l7 (h : NY w lo n q v4 v7 v8) : v7.length = n.srcs.length := by have := h.srcs.1; omega
theorem NY.l8 (h : NY w lo n q v4 v7 v8) : v8.length = n.arrs.length := by have := h.arrs.1; omega
theorem NY.row4 (h : NY w lo n q v4 v7 v8) (k : Nat) (hk : k < n.bufs.length) : kF.R 77 w lo (fun _ => True) (vr v4 k) (rl n.bufs k) := by
  have := h.rows.row k (by simp; omega)
  rwa [vr_left (by rw [h.l4]; exact hk), rl_left hk] at this
theorem NY.row7 (h : NY w lo n q v4 v7 v8) (k : Nat) (hk : k < n.srcs.length) : kF.R 77 w lo (fun _ => True) (vr v7 k) (rl n.srcs k) := by
  have := h.rows.row (n.bufs.length + k) (by simp; omega)
  rw [rl_right, ← h.l4, vr_right] at this
  rwa [vr_left (by rw [h.l7]; exact hk), rl_left hk] at this
theorem NY.row8 (h : NY w lo n q v4 v7 v8) (k : Nat) (hk : k < n.arrs.length) : kF.R 77 w lo (fun _ => True) (vr v8 k) (rl n.arrs k) := by
  have := h.rows.row (n.bufs.length + (n.srcs.length + k)) (by simp; omega)
  rw [rl_right, rl_right, ← h.l4, vr_right, ← h.l7, vr_right] at this
  exact this
theorem NY.reads (h : NY w lo n q v4 v7 v8) (k : NB n) : NetR 77 w n q :=
  ⟨h.br.reads, h.pa.reads, h.pb.reads, (own_readsB h.bufs h.row4).2.2, h.owners.reads, h.turns.reads, (own_readsB h.srcs h.row7).2.2, (own_readsB h.arrs h.row8).2.2, k.h1, k.h2, k.h3, k.h4, k.h5, k.h6, k.h7, k.h8, k.h9, k.h10, k.h11⟩
end
theorem RI_lt {w : World} {lo : Nat} {A : Option Addr} {c : Nat} {xs : List Int} (h : RI w lo A c xs) : xs ≠ [] → ∀ i, (Value.slice A xs.length c).ownBlock = some i → lo ≤ i ∧ i < w.heap.size := by
  intro h0 i hi
  rcases h with h | h
  · exact absurd h h0
  · exact ⟨Kd.R_base h i hi, Kd.R_lt h i hi⟩
structure NT (hi : Nat) (n : Net) (q : NA) (v4 v7 v8 : List Value) : Prop where
  br : n.mesh.br ≠ [] → ∀ i, (Value.slice q.a1 n.mesh.br.length q.c1).ownBlock = some i → i < hi
  pa : n.pa ≠ [] → ∀ i, (Value.slice q.a2 n.pa.length q.c2).ownBlock = some i → i < hi
  pb : n.pb ≠ [] → ∀ i, (Value.slice q.a3 n.pb.length q.c3).ownBlock = some i → i < hi
  owners : n.owners ≠ [] → ∀ i, (Value.slice q.a5 n.owners.length q.c5).ownBlock = some i → i < hi
  turns : n.turns ≠ [] → ∀ i, (Value.slice q.a6 n.turns.length q.c6).ownBlock = some i → i < hi
  bufs : ∀ j : Nat, j < n.bufs.length → ∀ i, (vr v4 j).ownBlock = some i → i < hi
  srcs : ∀ j : Nat, j < n.srcs.length → ∀ i, (vr v7 j).ownBlock = some i → i < hi
  arrs : ∀ j : Nat, j < n.arrs.length → ∀ i, (vr v8 j).ownBlock = some i → i < hi
theorem NY.top {w : World} {lo : Nat} {n : Net} {q : NA} {v4 v7 v8 : List Value} (h : NY w lo n q v4 v7 v8) : NT w.heap.size n q v4 v7 v8 :=
  ⟨fun h0 i h9 => (RI_lt h.br h0 i h9).2, fun h0 i h9 => (RI_lt h.pa h0 i h9).2, fun h0 i h9 => (RI_lt h.pb h0 i h9).2, fun h0 i h9 => (RI_lt h.owners h0 i h9).2, fun h0 i h9 => (RI_lt h.turns h0 i h9).2, fun j hj i h9 => Kd.R_lt (h.row4 j hj) i h9, fun j hj i h9 => Kd.R_lt (h.row7 j hj) i h9, fun j hj i h9 => Kd.R_lt (h.row8 j hj) i h9⟩
def idleN (n : Net) : Bool := decide (totTo n.bufs n.bufs.length = 0) && decide (totTo n.srcs n.srcs.length = 0)
def movesV (n : Net) : Int := ((allGrants n).length : Int) + ((enteringN n).length : Int)
theorem tot_bound {l : List (List Flit)} (hn : l.length ≤ 2097152) (h : ∀ x ∈ l, x.length ≤ 2097152) (k : Nat) (hk : k ≤ l.length) : (totTo l k : Int) ≤ 4398046511104 := by
  have := totTo_le h k hk
  omega
theorem spec_l15Sum (l : List (List Flit)) (A : Option Addr) (c : Nat) (w : World) (hr : (kB 77).C w A l.length l) (hn : l.length ≤ 2097152) (hm : Hid (∀ x ∈ l, x.length ≤ 2097152)) :
    Calls Try.prog 70 #[.slice A l.length c] w fun e w' => e = .returned (.int .i64 (totTo l l.length : Int)) ∧ w = w' := by
  go_enter Try.func70, Try.ntmps70
  go_wp2
  go_loop [3, 4] (fun s i => ∃ k : Nat, i = .int .i64 k ∧ k ≤ l.length ∧ s = .int .i64 (totTo l k : Int)) (fun _ i => l.length - (intOf i).toNat)
  case atStart => exact ⟨0, rfl, Nat.zero_le _, rfl⟩
  case round =>
    obtain ⟨k, rfl, hk, rfl⟩ := hrel
    have hb := tot_bound hn hm.out k hk
    by_cases hlt : k < l.length
    · obtain ⟨b, off, rfl, hb, Ai, ci, p0, hle, hCi⟩ := rdB_at hr k hlt
      have hki := hm.out _ (rl_mem hlt)
      have hs : ((totTo l (k + 1) : Nat) : Int) = (totTo l k : Int) + ((rl l k).length : Int) := by simp [totTo]
      have HS := Lib.hid hs
      clear hs
      go_wp2
      go_round
      case rel => exact ⟨k + 1, by go_num, by omega, by rw [HS.out]⟩
      case measure => simp [intOf]; omega
    · obtain rfl : k = l.length := by omega
      go_wp2
      go_ret
      exact ⟨rfl, rfl⟩
theorem idle_1 {n : Net} (h : ¬ totTo n.bufs n.bufs.length = 0) : idleN n = false := by simp [idleN, h]
theorem idle_2 {n : Net} (h : totTo n.bufs n.bufs.length = 0) : idleN n = decide (totTo n.srcs n.srcs.length = 0) := by simp [idleN, h]
set_option maxHeartbeats 1000000 in
theorem spec_l20Idle (n : Net) (q : NA) (w : World) (hr : NetR 77 w n q) :
    Calls Try.prog 51 #[.agg (netCells n q)] w fun e w' => e = .returned (.bool (idleN n)) ∧ Below w.heap.size w w' := by
  obtain ⟨a1, a2, a3, a4, a5, a6, a7, a8, c1, c2, c3, c4, c5, c6, c7, c8⟩ := q; obtain ⟨Rbr, Rpa, Rpb, Rbu, Row, Rtu, Rso, Rar, L1, L2, L3, L4, L5, L6, L7, L8, L9, L10, L11⟩ := hr; have M9 := Lib.hid L9; have M10 := Lib.hid L10; have M11 := Lib.hid L11; clear L9 L10 L11; dsimp only [netCells] at *
  obtain ⟨s, es⟩ : ∃ s, totTo n.bufs n.bufs.length = s := ⟨_, rfl⟩
  obtain ⟨t, et⟩ : ∃ t, totTo n.srcs n.srcs.length = t := ⟨_, rfl⟩
  have ES := Lib.hid es
  have ET := Lib.hid et
  clear es et
  by_cases hs : s = 0
  · have HI : Hid (idleN n = decide (t = 0)) := Lib.hid (by rw [idle_2 (ES.out.trans hs), ET.out])
    have f1 : ((s : Int) == 0) = true := by simp [hs]
    clear hs
    go_enter Try.func51, Try.ntmps51
    go_wp2_with (first | (go_at_call_of 70 n.srcs; refine (spec_l15Sum n.srcs a7 c7 _ (by exact Kd.C_below Rso bel) L7 M10).mono ?_; rintro e w' ⟨he, rfl⟩; rw [ET.out] at he; subst he) | (go_at_call_of 70 n.bufs; refine (spec_l15Sum n.bufs a4 c4 _ (by exact Kd.C_below Rbu bel) L4 M9).mono ?_; rintro e w' ⟨he, rfl⟩; rw [ES.out] at he; subst he))
    go_ret
    exact ⟨ret_bool (by rw [HI.out]; by_cases h : t = 0 <;> simp [h]), bel⟩
  · have HI : Hid (idleN n = false) := Lib.hid (idle_1 (by rw [ES.out]; exact hs))
    have f1 : ((s : Int) == 0) = false := by simp [hs]
    clear hs
    go_enter Try.func51, Try.ntmps51
    go_wp2_with (go_at_call_of 70 n.bufs; refine (spec_l15Sum n.bufs a4 c4 _ (by exact Kd.C_below Rbu bel) L4 M9).mono ?_; rintro e w' ⟨he, rfl⟩; rw [ES.out] at he; subst he)
    go_ret
    exact ⟨ret_bool HI.out.symm, bel⟩
end Go.Proofs.Ytaihmgbflhbebaa
namespace Go.Proofs.Ytaihmgbflhbebaa
open NoC
def runN (n : Net) : Nat → Net
  | 0 => n
  | k + 1 => stepN (runN n k)
theorem runN_time (n : Net) : ∀ k : Nat, (runN n k).time = n.time + k := by
  intro k
  induction k with
  | zero => simp [runN]
  | succ k ih => show (runN n k).time + 1 = _; rw [ih]; omega
theorem runN_ok {n : Net} (ok : netOk n = true) : ∀ k : Nat, n.time + k ≤ 1000000 → netOk (runN n k) = true := by
  intro k
  induction k with
  | zero => intro _; exact ok
  | succ k ih =>
    intro h
    exact step_ok (ih (by omega)) (by rw [runN_time]; omega)
theorem runN_add (n : Net) (a : Nat) : ∀ b : Nat, runN n (a + b) = runN (runN n a) b := by
  intro b
  induction b with
  | zero => rfl
  | succ b ih => show stepN (runN n (a + b)) = _; rw [ih]; rfl
theorem grants_time (n : Net) (t : Int) : allGrants { n with time := t } = allGrants n := by
  have h1 : ∀ a : Int, ∀ p : Nat, gst { n with time := t } a p = gst n a p := by
    intro a p
    induction p with
    | zero => rfl
    | succ p ih =>
      have hp : ∀ us, pick { n with time := t } a p us = pick n a p us := fun us => rfl
      rw [gst, gst, ih, hp]
  have h2 : (fun a : Nat => grantsN { n with time := t } (a : Int)) = fun a : Nat => grantsN n (a : Int) := by
    funext a
    exact congrArg Prod.snd (h1 a 5)
  unfold allGrants allTo
  rw [h2]
theorem entering_time (n : Net) (t : Int) : enteringN { n with time := t } = enteringN n := rfl
theorem moves_time (n : Net) (t : Int) : movesV { n with time := t } = movesV n := by
  unfold movesV
  rw [grants_time, entering_time]
theorem moves_zero {n : Net} (h : movesV n = 0) : allGrants n = [] ∧ enteringN n = [] := by
  unfold movesV at h
  exact ⟨List.eq_nil_of_length_eq_zero (by omega), List.eq_nil_of_length_eq_zero (by omega)⟩
theorem step_none {n : Net} (h : movesV n = 0) : stepN n = { n with time := n.time + 1 } := step_still (moves_zero h).1 (moves_zero h).2
theorem run_none {n : Net} (h : movesV n = 0) : ∀ k : Nat, runN n k = { n with time := n.time + k } := by
  intro k
  induction k with
  | zero => simp [runN]
  | succ k ih =>
    show stepN (runN n k) = _
    rw [ih, step_none (by rw [moves_time]; exact h)]
    simp only [Int.natCast_succ, Int.add_assoc]
theorem tot_zero {l : List (List Flit)} : ∀ k, totTo l k = 0 → ∀ i : Nat, i < k → (rl l i).length = 0 := by
  intro k
  induction k with
  | zero => intro _ i hi; omega
  | succ k ih =>
    intro h i hi
    simp only [totTo] at h
    by_cases e : i = k
    · subst e; omega
    · exact ih (by omega) i (by omega)
theorem rl_out {l : List (List Flit)} {i : Int} (h : l.length ≤ i.toNat) : rl l i = [] := by simp [rl, List.getD_eq_getElem?_getD, h]
theorem idle_moves {n : Net} (h : idleN n = true) : movesV n = 0 := by
  simp only [idleN, Bool.and_eq_true, decide_eq_true_eq] at h
  have hb : ∀ i : Int, rl n.bufs i = [] := by
    intro i
    by_cases hi : i.toNat < n.bufs.length
    · have := tot_zero _ h.1 i.toNat hi
      have e : rl n.bufs i = rl n.bufs ((i.toNat : Nat) : Int) := by unfold rl; rw [Int.toNat_natCast]
      rw [e]
      exact List.eq_nil_of_length_eq_zero this
    · exact rl_out (by omega)
  have h1 : allGrants n = [] := by
    cases e : allGrants n with
    | nil => rfl
    | cons g gs =>
      have := (grants_one (n := n) (g := g) (by rw [e]; simp)).full
      rw [hb] at this
      simp at this
  have h2 : enteringN n = [] := by
    cases e : enteringN n with
    | nil => rfl
    | cons a l2 =>
      obtain ⟨i, _, hi, he⟩ := (enterTo_spec n n.srcs.length).1 a (by rw [show enterTo n n.srcs.length = enteringN n from rfl, e]; simp)
      simp only [enters, Bool.and_eq_true, decide_eq_true_eq] at he
      have := tot_zero _ h.2 i hi
      omega
  unfold movesV
  rw [h1, h2]
  rfl
theorem idle_run {n : Net} (h : idleN n = true) (k : Nat) : runN n k = { n with time := n.time + k } := run_none (idle_moves h) k
theorem step_arrs (n : Net) (t : Nat) : (rl (stepN n).arrs t).length ≤ (rl n.arrs t).length + (allGrants n).length := by
  have h1 := (enterL_time n (enteringN n) (afterPush n)).2.2.2.2.2.2
  have h2 := (pushL_rows n t (allGrants n) (afterPop n)).2
  have e : (stepN n).arrs = (afterPush n).arrs := (step_parts n).2.2.2.2.2
  rw [e]
  exact h2
theorem run_parts (n : Net) : ∀ k : Nat, (runN n k).mesh = n.mesh ∧ (runN n k).pa = n.pa ∧ (runN n k).pb = n.pb := by
  intro k
  induction k with
  | zero => exact ⟨rfl, rfl, rfl⟩
  | succ k ih =>
    obtain ⟨e1, e2, e3, _⟩ := step_parts (runN n k)
    exact ⟨e1.trans ih.1, e2.trans ih.2.1, e3.trans ih.2.2⟩
theorem run_lens (n : Net) : ∀ k : Nat, Lens n (runN n k) := by
  intro k
  induction k with
  | zero => exact ⟨rfl, rfl, rfl, rfl, rfl⟩
  | succ k ih =>
    have h := step_lens (runN n k)
    exact ⟨h.b.trans ih.b, h.o.trans ih.o, h.t.trans ih.t, h.s.trans ih.s, h.a.trans ih.a⟩
theorem run_arrs (n : Net) (t : Nat) : ∀ k : Nat, (rl (runN n k).arrs t).length ≤ (rl n.arrs t).length + 80 * k := by
  intro k
  induction k with
  | zero => exact Nat.le_refl _
  | succ k ih =>
    have h := step_arrs (runN n k) t
    have g := allGrants_len (runN n k)
    have e : runN n (k + 1) = stepN (runN n k) := rfl
    rw [e]
    omega
theorem rl_of_mem {l : List (List Flit)} {x : List Flit} (h : x ∈ l) : ∃ i : Nat, i < l.length ∧ rl l i = x := by
  obtain ⟨i, hi, rfl⟩ := List.getElem_of_mem h
  exact ⟨i, hi, by simp [rl, List.getD_eq_getElem?_getD, hi]⟩
theorem run_nb {n : Net} (nb : NB n) (hA : ∀ x ∈ n.arrs, x.length ≤ 1048576) (k : Nat) (hk : k ≤ 1000) (ok : netOk (runN n k) = true) : NB (runN n k) := by
  obtain ⟨e1, e2, e3⟩ := run_parts n k
  have L := run_lens n k
  obtain ⟨c, s1, s2, s3, s4, s5, hb, hs, _⟩ := netOk_parts ok
  refine ⟨by rw [e1]; exact nb.h1, by rw [e2]; exact nb.h2, by rw [e3]; exact nb.h3, by rw [L.b]; exact nb.h4, by rw [L.o]; exact nb.h5, by rw [L.t]; exact nb.h6, by rw [L.s]; exact nb.h7, by rw [L.a]; exact nb.h8, fun x hx => ?_, fun x hx => ?_, fun x hx => ?_⟩
  · obtain ⟨i, hi, rfl⟩ := rl_of_mem hx
    have := (bufOk_iff.1 (hb i hi)).2
    omega
  · obtain ⟨i, hi, rfl⟩ := rl_of_mem hx
    have := hs i hi
    simp only [srcOk, Bool.and_eq_true, decide_eq_true_eq] at this
    omega
  · obtain ⟨i, hi, rfl⟩ := rl_of_mem hx
    have h1 := run_arrs n i k
    have hi2 : i < n.arrs.length := by rw [← L.a]; exact hi
    have h2 := hA _ (rl_mem hi2)
    omega
end Go.Proofs.Ytaihmgbflhbebaa
namespace Go.Proofs.Ytaihmgbflhbebaa
open Go.RowKit Go.Proofs.YtaihmgbflhbebaaW.PrintWords
open NoC
theorem cell_low {B : Nat} {w w1 : World} (h : Below B w w1) {b : Nat} (hb : b < B) (o : Nat) : w1.cell? ⟨b, o, none⟩ = w.cell? ⟨b, o, none⟩ := World.cell?_of_block (a := ⟨b, o, none⟩) (h.block b hb)
theorem bw_trans {B C : Nat} {a b c : World} (h : Below B a b) (k : Below C b c) (hc : B ≤ C) : Below B a c := ⟨k.os.trans h.os, k.tape.trans h.tape, k.output.trans h.output, Nat.le_trans h.size k.size, fun i hi => (k.block i (by omega)).trans (h.block i hi)⟩
theorem box_low {B : Nat} {w w1 : World} {b : Nat} {cs : Array Value} (h : Box w b cs) (hb : Below B w w1) (hB : b < B) : Box w1 b cs := ⟨Nat.lt_of_lt_of_le h.lt hb.size, fun o => (cell_low hb hB o).trans (h.get o)⟩
def BN (w : World) (b : Nat) : Prop := ∃ cs : Array Value, w.heap[b]? = some (.cells cs 35 (0, 0)) ∧ cs.size = 11
def putN (w : World) (b : Nat) (n : Net) (q : NA) : World := ((((((((((w.setCell ⟨b, 0, none⟩ (.int .i64 n.mesh.g.w)).setCell ⟨b, 1, none⟩ (.int .i64 n.mesh.g.h)).setCell ⟨b, 2, none⟩ (.slice q.a1 n.mesh.br.length q.c1)).setCell ⟨b, 3, none⟩ (.slice q.a2 n.pa.length q.c2)).setCell ⟨b, 4, none⟩ (.slice q.a3 n.pb.length q.c3)).setCell ⟨b, 5, none⟩ (.slice q.a4 n.bufs.length q.c4)).setCell ⟨b, 6, none⟩ (.slice q.a5 n.owners.length q.c5)).setCell ⟨b, 7, none⟩ (.slice q.a6 n.turns.length q.c6)).setCell ⟨b, 8, none⟩ (.slice q.a7 n.srcs.length q.c7)).setCell ⟨b, 9, none⟩ (.slice q.a8 n.arrs.length q.c8)).setCell ⟨b, 10, none⟩ (.int .i64 n.time)
section
variable {w w1 : World} {b : Nat} {n : Net} {q : NA}
theorem BN.below (h : BN w b) (hb : Below w.heap.size w w1) : BN w1 b := let ⟨cs, h1, h2⟩ := h; ⟨cs, blk_below h1 hb, h2⟩
theorem BN.low {B : Nat} (h : BN w b) (hb : Below B w w1) (hB : b < B) : BN w1 b := let ⟨cs, h1, h2⟩ := h; ⟨cs, (hb.block b hB).trans h1, h2⟩
theorem BN.blk (h : BN w b) : BlkT w b 35 := let ⟨cs, h1, _⟩ := h; ⟨cs, h1⟩
theorem BT.bn (h : BT w b n q) : BN w b := ⟨_, h, rfl⟩
theorem BN.far {c t : Nat} (h : BN w b) (hb : BlkT w c t) (ht : 35 ≠ t) (j : Nat) (u : Value) : BN (w.setCell ⟨c, j, none⟩ u) b := by
  obtain ⟨cs, h1, h2⟩ := h
  obtain ⟨c2, hc⟩ := hb
  exact ⟨cs, blk_far (p := ⟨c, j, none⟩) h1 (blk_ne h1 hc ht) u, h2⟩
theorem BN.off {c : Nat} (h : BN w b) (hne : b ≠ c) (j : Nat) (u : Value) : BN (w.setCell ⟨c, j, none⟩ u) b := by
  obtain ⟨cs, h1, h2⟩ := h
  exact ⟨cs, blk_far (p := ⟨c, j, none⟩) h1 hne u, h2⟩
theorem BN.get (h : BN w b) (i : Nat) (hi : i < 11) : ∃ v, w.cell? ⟨b, i, none⟩ = some v := by
  obtain ⟨cs, h1, h2⟩ := h
  exact ⟨cs[i], by rw [blk_cell h1 i]; exact Array.getElem?_eq_getElem (by omega)⟩
theorem BN.frozen (h : BN w b) (i : Nat) : w.frozen? ⟨b, i, none⟩ = false := by
  obtain ⟨cs, h1, h2⟩ := h
  exact blk_frozen h1 i
theorem allBN {w : World} {b : Nat} (h : BN w b) : (∃ v, w.cell? ⟨b, 0, none⟩ = some v) ∧ (∃ v, w.cell? ⟨b, 1, none⟩ = some v) ∧ (∃ v, w.cell? ⟨b, 2, none⟩ = some v) ∧ (∃ v, w.cell? ⟨b, 3, none⟩ = some v) ∧ (∃ v, w.cell? ⟨b, 4, none⟩ = some v) ∧ (∃ v, w.cell? ⟨b, 5, none⟩ = some v) ∧ (∃ v, w.cell? ⟨b, 6, none⟩ = some v) ∧ (∃ v, w.cell? ⟨b, 7, none⟩ = some v) ∧ (∃ v, w.cell? ⟨b, 8, none⟩ = some v) ∧ (∃ v, w.cell? ⟨b, 9, none⟩ = some v) ∧ (∃ v, w.cell? ⟨b, 10, none⟩ = some v) ∧ w.frozen? ⟨b, 0, none⟩ = false ∧ w.frozen? ⟨b, 1, none⟩ = false ∧ w.frozen? ⟨b, 2, none⟩ = false ∧ w.frozen? ⟨b, 3, none⟩ = false ∧ w.frozen? ⟨b, 4, none⟩ = false ∧ w.frozen? ⟨b, 5, none⟩ = false ∧ w.frozen? ⟨b, 6, none⟩ = false ∧ w.frozen? ⟨b, 7, none⟩ = false ∧ w.frozen? ⟨b, 8, none⟩ = false ∧ w.frozen? ⟨b, 9, none⟩ = false ∧ w.frozen? ⟨b, 10, none⟩ = false := ⟨h.get 0 (by omega), h.get 1 (by omega), h.get 2 (by omega), h.get 3 (by omega), h.get 4 (by omega), h.get 5 (by omega), h.get 6 (by omega), h.get 7 (by omega), h.get 8 (by omega), h.get 9 (by omega), h.get 10 (by omega), h.frozen 0, h.frozen 1, h.frozen 2, h.frozen 3, h.frozen 4, h.frozen 5, h.frozen 6, h.frozen 7, h.frozen 8, h.frozen 9, h.frozen 10⟩
theorem BN.lt (h : BN w b) : b < w.heap.size := by
  obtain ⟨cs, h1, h2⟩ := h
  exact blk_lt h1
theorem list11 {l : List Value} (h : l.length = 11) : ∃ a0 a1 a2 a3 a4 a5 a6 a7 a8 a9 a10, l = [a0, a1, a2, a3, a4, a5, a6, a7, a8, a9, a10] := by
  match l, h with
  | [a0, a1, a2, a3, a4, a5, a6, a7, a8, a9, a10], _ => exact ⟨a0, a1, a2, a3, a4, a5, a6, a7, a8, a9, a10, rfl⟩
theorem putN_BT (h : BN w b) : BT (putN w b n q) b n q := by
  obtain ⟨⟨l⟩, h1, h2⟩ := h
  obtain ⟨a0, a1, a2, a3, a4, a5, a6, a7, a8, a9, a10, rfl⟩ := list11 h2
  have k1 : (w.setCell ⟨b, 0, none⟩ (.int .i64 n.mesh.g.w)).heap[b]? = some (.cells #[.int .i64 n.mesh.g.w, a1, a2, a3, a4, a5, a6, a7, a8, a9, a10] 35 (0, 0)) := (blk_set h1 0 (.int .i64 n.mesh.g.w)).trans rfl
  have k2 : ((w.setCell ⟨b, 0, none⟩ (.int .i64 n.mesh.g.w)).setCell ⟨b, 1, none⟩ (.int .i64 n.mesh.g.h)).heap[b]? = some (.cells #[.int .i64 n.mesh.g.w, .int .i64 n.mesh.g.h, a2, a3, a4, a5, a6, a7, a8, a9, a10] 35 (0, 0)) := (blk_set k1 1 (.int .i64 n.mesh.g.h)).trans rfl
  have k3 : (((w.setCell ⟨b, 0, none⟩ (.int .i64 n.mesh.g.w)).setCell ⟨b, 1, none⟩ (.int .i64 n.mesh.g.h)).setCell ⟨b, 2, none⟩ (.slice q.a1 n.mesh.br.length q.c1)).heap[b]? = some (.cells #[.int .i64 n.mesh.g.w, .int .i64 n.mesh.g.h, .slice q.a1 n.mesh.br.length q.c1, a3, a4, a5, a6, a7, a8, a9, a10] 35 (0, 0)) := (blk_set k2 2 (.slice q.a1 n.mesh.br.length q.c1)).trans rfl
  have k4 : ((((w.setCell ⟨b, 0, none⟩ (.int .i64 n.mesh.g.w)).setCell ⟨b, 1, none⟩ (.int .i64 n.mesh.g.h)).setCell ⟨b, 2, none⟩ (.slice q.a1 n.mesh.br.length q.c1)).setCell ⟨b, 3, none⟩ (.slice q.a2 n.pa.length q.c2)).heap[b]? = some (.cells #[.int .i64 n.mesh.g.w, .int .i64 n.mesh.g.h, .slice q.a1 n.mesh.br.length q.c1, .slice q.a2 n.pa.length q.c2, a4, a5, a6, a7, a8, a9, a10] 35 (0, 0)) := (blk_set k3 3 (.slice q.a2 n.pa.length q.c2)).trans rfl
  have k5 : (((((w.setCell ⟨b, 0, none⟩ (.int .i64 n.mesh.g.w)).setCell ⟨b, 1, none⟩ (.int .i64 n.mesh.g.h)).setCell ⟨b, 2, none⟩ (.slice q.a1 n.mesh.br.length q.c1)).setCell ⟨b, 3, none⟩ (.slice q.a2 n.pa.length q.c2)).setCell ⟨b, 4, none⟩ (.slice q.a3 n.pb.length q.c3)).heap[b]? = some (.cells #[.int .i64 n.mesh.g.w, .int .i64 n.mesh.g.h, .slice q.a1 n.mesh.br.length q.c1, .slice q.a2 n.pa.length q.c2, .slice q.a3 n.pb.length q.c3, a5, a6, a7, a8, a9, a10] 35 (0, 0)) := (blk_set k4 4 (.slice q.a3 n.pb.length q.c3)).trans rfl
  have k6 : ((((((w.setCell ⟨b, 0, none⟩ (.int .i64 n.mesh.g.w)).setCell ⟨b, 1, none⟩ (.int .i64 n.mesh.g.h)).setCell ⟨b, 2, none⟩ (.slice q.a1 n.mesh.br.length q.c1)).setCell ⟨b, 3, none⟩ (.slice q.a2 n.pa.length q.c2)).setCell ⟨b, 4, none⟩ (.slice q.a3 n.pb.length q.c3)).setCell ⟨b, 5, none⟩ (.slice q.a4 n.bufs.length q.c4)).heap[b]? = some (.cells #[.int .i64 n.mesh.g.w, .int .i64 n.mesh.g.h, .slice q.a1 n.mesh.br.length q.c1, .slice q.a2 n.pa.length q.c2, .slice q.a3 n.pb.length q.c3, .slice q.a4 n.bufs.length q.c4, a6, a7, a8, a9, a10] 35 (0, 0)) := (blk_set k5 5 (.slice q.a4 n.bufs.length q.c4)).trans rfl
  have k7 : (((((((w.setCell ⟨b, 0, none⟩ (.int .i64 n.mesh.g.w)).setCell ⟨b, 1, none⟩ (.int .i64 n.mesh.g.h)).setCell ⟨b, 2, none⟩ (.slice q.a1 n.mesh.br.length q.c1)).setCell ⟨b, 3, none⟩ (.slice q.a2 n.pa.length q.c2)).setCell ⟨b, 4, none⟩ (.slice q.a3 n.pb.length q.c3)).setCell ⟨b, 5, none⟩ (.slice q.a4 n.bufs.length q.c4)).setCell ⟨b, 6, none⟩ (.slice q.a5 n.owners.length q.c5)).heap[b]? = some (.cells #[.int .i64 n.mesh.g.w, .int .i64 n.mesh.g.h, .slice q.a1 n.mesh.br.length q.c1, .slice q.a2 n.pa.length q.c2, .slice q.a3 n.pb.length q.c3, .slice q.a4 n.bufs.length q.c4, .slice q.a5 n.owners.length q.c5, a7, a8, a9, a10] 35 (0, 0)) := (blk_set k6 6 (.slice q.a5 n.owners.length q.c5)).trans rfl
  have k8 : ((((((((w.setCell ⟨b, 0, none⟩ (.int .i64 n.mesh.g.w)).setCell ⟨b, 1, none⟩ (.int .i64 n.mesh.g.h)).setCell ⟨b, 2, none⟩ (.slice q.a1 n.mesh.br.length q.c1)).setCell ⟨b, 3, none⟩ (.slice q.a2 n.pa.length q.c2)).setCell ⟨b, 4, none⟩ (.slice q.a3 n.pb.length q.c3)).setCell ⟨b, 5, none⟩ (.slice q.a4 n.bufs.length q.c4)).setCell ⟨b, 6, none⟩ (.slice q.a5 n.owners.length q.c5)).setCell ⟨b, 7, none⟩ (.slice q.a6 n.turns.length q.c6)).heap[b]? = some (.cells #[.int .i64 n.mesh.g.w, .int .i64 n.mesh.g.h, .slice q.a1 n.mesh.br.length q.c1, .slice q.a2 n.pa.length q.c2, .slice q.a3 n.pb.length q.c3, .slice q.a4 n.bufs.length q.c4, .slice q.a5 n.owners.length q.c5, .slice q.a6 n.turns.length q.c6, a8, a9, a10] 35 (0, 0)) := (blk_set k7 7 (.slice q.a6 n.turns.length q.c6)).trans rfl
  have k9 : (((((((((w.setCell ⟨b, 0, none⟩ (.int .i64 n.mesh.g.w)).setCell ⟨b, 1, none⟩ (.int .i64 n.mesh.g.h)).setCell ⟨b, 2, none⟩ (.slice q.a1 n.mesh.br.length q.c1)).setCell ⟨b, 3, none⟩ (.slice q.a2 n.pa.length q.c2)).setCell ⟨b, 4, none⟩ (.slice q.a3 n.pb.length q.c3)).setCell ⟨b, 5, none⟩ (.slice q.a4 n.bufs.length q.c4)).setCell ⟨b, 6, none⟩ (.slice q.a5 n.owners.length q.c5)).setCell ⟨b, 7, none⟩ (.slice q.a6 n.turns.length q.c6)).setCell ⟨b, 8, none⟩ (.slice q.a7 n.srcs.length q.c7)).heap[b]? = some (.cells #[.int .i64 n.mesh.g.w, .int .i64 n.mesh.g.h, .slice q.a1 n.mesh.br.length q.c1, .slice q.a2 n.pa.length q.c2, .slice q.a3 n.pb.length q.c3, .slice q.a4 n.bufs.length q.c4, .slice q.a5 n.owners.length q.c5, .slice q.a6 n.turns.length q.c6, .slice q.a7 n.srcs.length q.c7, a9, a10] 35 (0, 0)) := (blk_set k8 8 (.slice q.a7 n.srcs.length q.c7)).trans rfl
  have k10 : ((((((((((w.setCell ⟨b, 0, none⟩ (.int .i64 n.mesh.g.w)).setCell ⟨b, 1, none⟩ (.int .i64 n.mesh.g.h)).setCell ⟨b, 2, none⟩ (.slice q.a1 n.mesh.br.length q.c1)).setCell ⟨b, 3, none⟩ (.slice q.a2 n.pa.length q.c2)).setCell ⟨b, 4, none⟩ (.slice q.a3 n.pb.length q.c3)).setCell ⟨b, 5, none⟩ (.slice q.a4 n.bufs.length q.c4)).setCell ⟨b, 6, none⟩ (.slice q.a5 n.owners.length q.c5)).setCell ⟨b, 7, none⟩ (.slice q.a6 n.turns.length q.c6)).setCell ⟨b, 8, none⟩ (.slice q.a7 n.srcs.length q.c7)).setCell ⟨b, 9, none⟩ (.slice q.a8 n.arrs.length q.c8)).heap[b]? = some (.cells #[.int .i64 n.mesh.g.w, .int .i64 n.mesh.g.h, .slice q.a1 n.mesh.br.length q.c1, .slice q.a2 n.pa.length q.c2, .slice q.a3 n.pb.length q.c3, .slice q.a4 n.bufs.length q.c4, .slice q.a5 n.owners.length q.c5, .slice q.a6 n.turns.length q.c6, .slice q.a7 n.srcs.length q.c7, .slice q.a8 n.arrs.length q.c8, a10] 35 (0, 0)) := (blk_set k9 9 (.slice q.a8 n.arrs.length q.c8)).trans rfl
  have k11 : (((((((((((w.setCell ⟨b, 0, none⟩ (.int .i64 n.mesh.g.w)).setCell ⟨b, 1, none⟩ (.int .i64 n.mesh.g.h)).setCell ⟨b, 2, none⟩ (.slice q.a1 n.mesh.br.length q.c1)).setCell ⟨b, 3, none⟩ (.slice q.a2 n.pa.length q.c2)).setCell ⟨b, 4, none⟩ (.slice q.a3 n.pb.length q.c3)).setCell ⟨b, 5, none⟩ (.slice q.a4 n.bufs.length q.c4)).setCell ⟨b, 6, none⟩ (.slice q.a5 n.owners.length q.c5)).setCell ⟨b, 7, none⟩ (.slice q.a6 n.turns.length q.c6)).setCell ⟨b, 8, none⟩ (.slice q.a7 n.srcs.length q.c7)).setCell ⟨b, 9, none⟩ (.slice q.a8 n.arrs.length q.c8)).setCell ⟨b, 10, none⟩ (.int .i64 n.time)).heap[b]? = some (.cells #[.int .i64 n.mesh.g.w, .int .i64 n.mesh.g.h, .slice q.a1 n.mesh.br.length q.c1, .slice q.a2 n.pa.length q.c2, .slice q.a3 n.pb.length q.c3, .slice q.a4 n.bufs.length q.c4, .slice q.a5 n.owners.length q.c5, .slice q.a6 n.turns.length q.c6, .slice q.a7 n.srcs.length q.c7, .slice q.a8 n.arrs.length q.c8, .int .i64 n.time] 35 (0, 0)) := (blk_set k10 10 (.int .i64 n.time)).trans rfl
  exact k11
theorem NX.put {lo : Nat} {m : Net} {p : NA} {v4 v7 v8 : List Value} (h : NX w lo m p v4 v7 v8) (hb : BN w b) : NX (putN w b n q) lo m p v4 v7 v8 := by
  have b0 := hb.blk
  unfold putN
  have h1 := h.typed b0 (by decide) (by decide) (by decide) 0 (.int .i64 n.mesh.g.w)
  have b1 := b0.set b 0 (.int .i64 n.mesh.g.w)
  have h2 := h1.typed b1 (by decide) (by decide) (by decide) 1 (.int .i64 n.mesh.g.h)
  have b2 := b1.set b 1 (.int .i64 n.mesh.g.h)
  have h3 := h2.typed b2 (by decide) (by decide) (by decide) 2 (.slice q.a1 n.mesh.br.length q.c1)
  have b3 := b2.set b 2 (.slice q.a1 n.mesh.br.length q.c1)
  have h4 := h3.typed b3 (by decide) (by decide) (by decide) 3 (.slice q.a2 n.pa.length q.c2)
  have b4 := b3.set b 3 (.slice q.a2 n.pa.length q.c2)
  have h5 := h4.typed b4 (by decide) (by decide) (by decide) 4 (.slice q.a3 n.pb.length q.c3)
  have b5 := b4.set b 4 (.slice q.a3 n.pb.length q.c3)
  have h6 := h5.typed b5 (by decide) (by decide) (by decide) 5 (.slice q.a4 n.bufs.length q.c4)
  have b6 := b5.set b 5 (.slice q.a4 n.bufs.length q.c4)
  have h7 := h6.typed b6 (by decide) (by decide) (by decide) 6 (.slice q.a5 n.owners.length q.c5)
  have b7 := b6.set b 6 (.slice q.a5 n.owners.length q.c5)
  have h8 := h7.typed b7 (by decide) (by decide) (by decide) 7 (.slice q.a6 n.turns.length q.c6)
  have b8 := b7.set b 7 (.slice q.a6 n.turns.length q.c6)
  have h9 := h8.typed b8 (by decide) (by decide) (by decide) 8 (.slice q.a7 n.srcs.length q.c7)
  have b9 := b8.set b 8 (.slice q.a7 n.srcs.length q.c7)
  have h10 := h9.typed b9 (by decide) (by decide) (by decide) 9 (.slice q.a8 n.arrs.length q.c8)
  have b10 := b9.set b 9 (.slice q.a8 n.arrs.length q.c8)
  have h11 := h10.typed b10 (by decide) (by decide) (by decide) 10 (.int .i64 n.time)
  have b11 := b10.set b 10 (.int .i64 n.time)
  exact h11
theorem below_put {B : Nat} {w0 : World} (h : Below B w0 w) (hB : B ≤ b) : Below B w0 (putN w b n q) := by
  unfold putN
  exact below_setc (below_setc (below_setc (below_setc (below_setc (below_setc (below_setc (below_setc (below_setc (below_setc (below_setc h hB 0 _) hB 1 _) hB 2 _) hB 3 _) hB 4 _) hB 5 _) hB 6 _) hB 7 _) hB 8 _) hB 9 _) hB 10 _
end
end Go.Proofs.Ytaihmgbflhbebaa
