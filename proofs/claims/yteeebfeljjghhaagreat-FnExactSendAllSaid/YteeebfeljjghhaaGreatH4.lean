/- Lemmas for laws of this seat, for all inputs: NetL OB NX M4 MN MR MG St StG FlOk. -/
import Derived.Test.YteeebfeljjghhaaGreatH3
import Derived.Test.YteeebfeljjghhaaGreatH2
/- Rows of rows of flits, and networks: the laws' own words: copy, compare; for all networks whose rows hold at most a million entries each. -/
set_option linter.unusedVariables false
set_option linter.unusedSimpArgs false
namespace Go.Proofs.YteeebfeljjghhaaGreat
open Go.RowKit Go.Proofs.YteeebfeljjghhaaGreatW.PrintWords
open NoC

theorem info_B : (Tryz.prog.info? 100).map (fun i => (i.zero, i.size, i.bytes)) = some (some (.slice none 0 0), 1, 24) := by kernel_rfl
def GotB (w w' : World) (xs : List (List Flit)) (e : Ending) : Prop := ∃ v, e = .returned v ∧ (kB 103).R 100 w' w.heap.size (fun _ => True) v xs
theorem GotB.read {w w' : World} {xs : List (List Flit)} {e : Ending} (h : GotB w w' xs e) : ∃ A c, e = .returned (.slice A xs.length c) ∧ xs.length ≤ c ∧ (kB 103).C w' A xs.length xs := by
  obtain ⟨v, rfl, hR⟩ := h
  obtain ⟨A, c, rfl, h1, h2⟩ := Kd.R_reads hR
  exact ⟨A, c, rfl, h1, h2⟩
section
variable {ops : Array Oper} {rest : List Oper} {o : Oper} {a : Act} {Q : Exit → Act → World → Prop}
theorem make_B {W0 W : World} (hgd : o.guard = none) {N : Tmp} (hd : o.dst = some N) (x y : Operand) (ho : o.op = .makeSlice 41 x y) (n : Nat) (hx : a.eval x = .int .i64 n) (hy : a.eval y = .int .i64 n)
    (hl : n ≤ 1000000000) (HB : Below W0.heap.size W0 W)
    (h : ∀ v1 w1, (kB 103).R 100 w1 W0.heap.size (fun _ => True) v1 (List.replicate n []) → Below W0.heap.size W0 w1 → wpList Tryz.prog ops Q rest (a.put o.dst v1) w1) : wpList Tryz.prog ops Q (o :: rest) a W :=
  Kd.R_make (kB 103) (w0 := W0) W0.heap.size 100 hgd hd 41 x y ho (n : Int) hx hy Tryz.underlying41 (.slice none 0 0) 24 info_B rfl (by decide) (by omega) [] (ok := fun _ => True) (okp := fun _ => True) ⟨_, rfl, Kd.R_nil _ _ _ _ _⟩ (fun _ hk => hk) trivial (by omega) (by simp; omega) HB HB.size
    (fun v1 w1 h1 h2 _ _ => h v1 w1 (by simpa using h1) h2)
theorem put_B {W0 W : World} (hN : o.dst = none) (hgd : o.guard = none) (p x : Operand) (ho : o.op = .store 100 p x) {g m cap o' B : Nat} (k : Nat) (xs : List (List Flit)) (y : List Flit) (v : Value)
    (haddr : a.eval p = .pointer (some ⟨g, o', none⟩)) (hoff : o' = k) (hx : a.eval x = v) (hv : kF.R 103 W B (fun _ => True) v y) (hB0 : W0.heap.size ≤ B) (hB : g < B)
    (HO : (kB 103).R 100 W W0.heap.size (fun _ => True) (.slice (some ⟨g, 0, none⟩) m cap) xs) (hk : k < m) (HB : Below W0.heap.size W0 W)
    (h : ∀ w1, (kB 103).R 100 w1 W0.heap.size (fun _ => True) (.slice (some ⟨g, 0, none⟩) m cap) (xs.set k y) → Below W0.heap.size W0 w1 → W.grownBy w1 (some g) → wpList Tryz.prog ops Q rest a w1) : wpList Tryz.prog ops Q (o :: rest) a W := by
  obtain ⟨cs, hcl, hM, hcc, hf⟩ := Kd.R_elem HO [] (k : Int) (by omega) (by omega)
  have hcl1 : cs.length = 1 := hcl
  obtain ⟨u, rfl⟩ : ∃ u, cs = [u] := by match cs, hcl1 with | [u], _ => exact ⟨u, rfl⟩
  obtain ⟨A, c, hvs, _⟩ := Kd.R_reads hv
  refine Kd.R_store (kB 103) (w0 := W0) W0.heap.size hN hgd 100 p x ho 100 (k : Int) 0 xs y v [v] [u] (fun _ => True) (fun k => k ≠ g) haddr (by rw [hoff]; show k = (k : Int).toNat * 1 + 0; omega) hx (by rw [hvs]; rfl) (by kernel_rfl) ?_ HO (by omega) (by omega) hcl hcc (by show 0 + 1 ≤ 1; omega) ?_ (fun _ h => ⟨trivial, h⟩) HB ?_
  · intro q hq
    rw [List.mem_singleton.1 hq, hvs]
    rfl
  · exact ⟨v, rfl, Kd.R_lower (Kd.R_mono (Kd.R_bound hv) (fun k hk => by have := hk.2.1; omega)) hB0⟩
  · intro w1 h1 h2 h3
    rw [Int.toNat_natCast] at h1
    exact h w1 h1 h2 h3
end
theorem same_getB {x l : List (List Flit)} (h1 : x.length = l.length) (h : ∀ j : Nat, j < l.length → rl x j = rl l j) : x = l := by
  apply List.ext_getElem h1
  intro j a b
  have := h j b
  simpa [rl, List.getD_eq_getElem?_getD, a, b] using this
theorem set_getB {x : List (List Flit)} {k : Nat} {v : List Flit} (hk : k < x.length) (j : Nat) (hj : j < x.length) : rl (x.set k v) j = if k = j then v else rl x j := by
  by_cases e : k = j
  · subst e; simp [rl, List.getD_eq_getElem?_getD, hk]
  · simp [rl, List.getD_eq_getElem?_getD, e]
theorem rl_mem {l : List (List Flit)} {k : Nat} (h : k < l.length) : rl l k ∈ l := by
  have : rl l k = l[k] := by simp [rl, List.getD_eq_getElem?_getD, h]
  rw [this]
  exact List.getElem_mem h

set_option maxHeartbeats 2000000 in
theorem laws_toFlitSS (l : List (List Flit)) (A : Option Addr) (c : Nat) (w : World) (hr : (kB 103).C w A l.length l) (hn : l.length ≤ 2097152) (hm : Hid (∀ x ∈ l, x.length ≤ 2097152)) :
    Calls Tryz.prog 42 #[.slice A l.length c] w fun e w' => GotB w w' l e ∧ Below w.heap.size w w' := by
  go_enter Tryz.func42, Tryz.ntmps42
  go_wp2_with (first | (refine make_B (W0 := w) rfl (N := 7) rfl (.tmp 6) (.tmp 6) rfl l.length rfl rfl (by omega) bel ?_; intro v1 w1 HO1 HB1; obtain ⟨hc1, hf1, hz1⟩ := bcell HB1; (try simp only [szs] at hz1); have hb2 := HB1; have hb9 := HB1))
  go_loopw [4] (fun i wr => ∃ (k : Nat) (x : List (List Flit)), i = .int .i64 k ∧ k ≤ l.length ∧ Hid (x.length = l.length) ∧ Hid (∀ j : Nat, j < k → rl x j = rl l j) ∧ (kB 103).R 100 wr w.heap.size (fun _ => True) v1 x ∧ Below w.heap.size w wr) (fun i _ => l.length - (intOf i).toNat)
  case atStart => exact ⟨0, List.replicate l.length [], rfl, Nat.zero_le _, Lib.hid (by simp), Lib.hid fun j h => absurd h (Nat.not_lt_zero _), HO1, HB1⟩
  case round =>
    obtain ⟨k, x, rfl, hk, HL, HA, HO, HB⟩ := hrel
    obtain ⟨hc0, hf0, hz0⟩ := bcell HB
    by_cases hlt : k < l.length
    · obtain ⟨b, off, rfl, hb, Ai, ci, p0, hle, hCi⟩ := rdB_at hr k hlt
      have hki := hm.out _ (rl_mem hlt)
      obtain ⟨g, cap, hv, hgb, hgl, cells, HG⟩ := Kd.R_form HO (by have := HL.out; omega)
      rw [HL.out] at hv
      rw [hv] at HO
      subst hv
      clear HG
      go_wp2_with (first | (go_at_call 85; refine (laws_toFlitS (rl l k) Ai ci _ (by exact Kd.C_below hCi bel) hki).mono ?_; rintro e w1 ⟨hg1, hb1⟩; obtain ⟨v2, rfl, HO2⟩ := hg1; obtain ⟨hc1, hf1, hz1⟩ := bcell hb1; (try simp only [szs] at hz1); have hb2 := (by first | exact bw_then hb2 hb1 | exact bw_then (bw_drewN _ hb2) hb1 | exact bw_then (bw_alloc _ hb2) hb1 | exact bw_then (bw_drew hb2) hb1 | exact bw_then HB hb1 | exact bw_then (bw_drewN _ HB) hb1 | exact bw_then (bw_alloc _ HB) hb1 | exact bw_then (bw_drew HB) hb1 | exact hb1); obtain ⟨hc2, hf2, hz2⟩ := bcell hb2; (try simp only [szs] at hz2); try (first | obtain ⟨hy1, hy2, hy3, hy4⟩ := lts4 hz2 | obtain ⟨hy1, hy2, hy3⟩ := lts3 hz2 | obtain ⟨hy1, hy2⟩ := lts2 hz2 | have hy1 := lts1 hz2); have hb9 := hb1) | (refine put_B (W0 := w) rfl rfl (.tmp 21) (.tmp 20) rfl k x (rl l k) v2 rfl (by simp) rfl HO2 (by omega) (by omega) (by exact Kd.R_below HO bel) hlt bel ?_; intro w9 HO9 HB9 HG9))
      go_roundw
      case rel => exact ⟨k + 1, x.set k (rl l k), by go_num, by omega, Lib.hid (by rw [List.length_set]; exact HL.out), Lib.hid (upto (fun j hj => by rw [set_getB (by have := HL.out; omega) j (by have := HL.out; omega), if_neg (by omega)]; exact HA.out j hj) (by rw [set_getB (by have := HL.out; omega) k (by have := HL.out; omega), if_pos rfl])), HO9, HB9⟩
      case measure => simp [intOf]; omega
    · go_wp2
      go_ret
      have e : x = l := same_getB HL.out (fun j hj => HA.out j (by omega))
      subst e
      exact ⟨⟨_, rfl, HO⟩, bel⟩
theorem laws_eqFlitSS (l : List (List Flit)) (A B : Option Addr) (c d : Nat) (w : World) (hr : (kB 103).C w A l.length l) (hs : (kB 103).C w B l.length l) (hn : l.length ≤ 2097152) (hm : Hid (∀ x ∈ l, x.length ≤ 2097152)) :
    Calls Tryz.prog 49 #[.slice A l.length c, .slice B l.length d] w fun e w' => e = .returned (.bool true) ∧ Below w.heap.size w w' := by
  have e0 := bne_self (l.length : Int)
  go_enter Tryz.func49, Tryz.ntmps49
  go_wp2
  try (go_quiet (fail); go_wp2)
  go_loopw [5] (fun i wr => ∃ k : Nat, k ≤ l.length ∧ i = .int .i64 k ∧ Below w.heap.size w wr) (fun i _ => l.length - (intOf i).toNat)
  case atStart => exact ⟨0, Nat.zero_le _, rfl, bel⟩
  case round =>
    obtain ⟨k, hk, rfl, HB⟩ := hrel
    obtain ⟨hc0, hf0, hz0⟩ := bcell HB
    by_cases hlt : k < l.length
    · obtain ⟨b1, o1, rfl, hb1, Ai, ci, p0, hle, hCi⟩ := rdB_at hr k hlt
      obtain ⟨b2, o2, rfl, hb2, Bi, di, q0, hlf, hDi⟩ := rdB_at hs k hlt
      have hki := hm.out _ (rl_mem hlt)
      have i0 : (0 : Int) ≤ (k : Int) := by omega
      have i1 : (k : Int) < (l.length : Int) := by omega
      go_wp2_with fail
      refine wp_region_far (w) (by kernel_rfl) (by kernel_rfl) bel ?_
      have hqc := far_cell (w)
      have hqf := far_frozen (w)
      repeat (first | go_big_quiet_step ((go_at_call 101; exact far_call (laws_eqFlitS (rl l k) Ai Bi ci di _ (by exact Kd.C_below (by exact Kd.C_below hCi bel) (Far.h _)) (by exact Kd.C_below (by exact Kd.C_below hDi bel) (Far.h _)) hki))) | quiet_step ((go_at_call 101; exact far_call (laws_eqFlitS (rl l k) Ai Bi ci di _ (by exact Kd.C_below (by exact Kd.C_below hCi bel) (Far.h _)) (by exact Kd.C_below (by exact Kd.C_below hDi bel) (Far.h _)) hki))))
      refine wpQuiet_nil ?_
      intro wq hbq
      clear hqc hqf
      obtain ⟨hcq, hfq, hzq⟩ := bcell hbq
      try simp only [szs] at hzq
      go_wp2
      go_roundw
      case rel => exact ⟨k + 1, by omega, by go_num, bel⟩
      case measure => simp [intOf]; omega
    · go_wp2
      go_ret
      exact ⟨rfl, bel⟩
structure NetO (w : World) (base : Nat) (n : Net) (q : NA) : Prop where
  br : Kd.R (Kd.int .i64) 3 w base (fun _ => True) (.slice q.a1 n.mesh.br.length q.c1) n.mesh.br
  pa : Kd.R (Kd.int .i64) 3 w base (fun _ => True) (.slice q.a2 n.pa.length q.c2) n.pa
  pb : Kd.R (Kd.int .i64) 3 w base (fun _ => True) (.slice q.a3 n.pb.length q.c3) n.pb
  bufs : (kB 103).R 100 w base (fun _ => True) (.slice q.a4 n.bufs.length q.c4) n.bufs
  owners : Kd.R (Kd.int .i64) 3 w base (fun _ => True) (.slice q.a5 n.owners.length q.c5) n.owners
  turns : Kd.R (Kd.int .i64) 3 w base (fun _ => True) (.slice q.a6 n.turns.length q.c6) n.turns
  srcs : (kB 103).R 100 w base (fun _ => True) (.slice q.a7 n.srcs.length q.c7) n.srcs
  arrs : (kB 103).R 100 w base (fun _ => True) (.slice q.a8 n.arrs.length q.c8) n.arrs
theorem Kd.R_rowX {α : Type} {d : Kd α} {w : World} {base e : Nat} {A : Option Addr} {m c : Nat} {xs : List α} (h : d.R e w base (fun _ => True) (.slice A m c) xs) : m = xs.length ∧ m ≤ c ∧ d.C w A m xs := by
  obtain ⟨A', c', he, h1, h2⟩ := Kd.R_reads h
  injection he with e1 e2 e3
  subst e1 e2 e3
  exact ⟨rfl, h1, h2⟩
theorem NetO.reads {w : World} {base : Nat} {n : Net} {q : NA} {w0 : World} {q0 : NA} {e0 : Nat} (h : NetO w base n q) (k : NetR e0 w0 n q0) : NetR 103 w n q :=
  ⟨(Kd.R_rowX h.br).2.2, (Kd.R_rowX h.pa).2.2, (Kd.R_rowX h.pb).2.2, (Kd.R_rowX h.bufs).2.2, (Kd.R_rowX h.owners).2.2, (Kd.R_rowX h.turns).2.2, (Kd.R_rowX h.srcs).2.2, (Kd.R_rowX h.arrs).2.2, k.h1, k.h2, k.h3, k.h4, k.h5, k.h6, k.h7, k.h8, k.h9, k.h10, k.h11⟩
def GotNet (w w' : World) (n : Net) (e : Ending) : Prop := ∃ q, e = .returned (.agg (netCells n q)) ∧ NetO w' w.heap.size n q
set_option maxHeartbeats 4000000 in
set_option maxRecDepth 100000 in
theorem laws_toNet (n : Net) (q : NA) (w : World) (hr : NetR 103 w n q) : Calls Tryz.prog 12 #[.agg (netCells n q)] w fun e w' => GotNet w w' n e ∧ Below w.heap.size w w' := by
  have H := Lib.hid hr
  clear hr
  unfold netCells
  go_enter Tryz.func12, Tryz.ntmps12
  go_wp2_with fail
  refine (laws_toMesh n.mesh q.a1 q.c1 _ (by exact Kd.C_below H.out.br bel) H.out.h1).mono ?_
  rintro e w1 ⟨hg1, hb1⟩
  obtain ⟨v1, rfl, HO1⟩ := hg1
  obtain ⟨A1, c1, rfl⟩ := Kd.R_slice HO1
  obtain ⟨hc1, hf1, hz1⟩ := bcell hb1; (try simp only [szs] at hz1); have hb2 := (by first | exact bw_then hb2 hb1 | exact bw_then (bw_drewN _ hb2) hb1 | exact bw_then (bw_alloc _ hb2) hb1 | exact bw_then (bw_drew hb2) hb1 | exact bw_then HB hb1 | exact bw_then (bw_drewN _ HB) hb1 | exact bw_then (bw_alloc _ HB) hb1 | exact bw_then (bw_drew HB) hb1 | exact hb1); obtain ⟨hc2, hf2, hz2⟩ := bcell hb2; (try simp only [szs] at hz2); try (first | obtain ⟨hy1, hy2, hy3, hy4⟩ := lts4 hz2 | obtain ⟨hy1, hy2, hy3⟩ := lts3 hz2 | obtain ⟨hy1, hy2⟩ := lts2 hz2 | have hy1 := lts1 hz2); have hb9 := hb1
  have za1 : w.heap.size < w1.heap.size := by omega
  have zb1 : w.heap.size + 1 < w1.heap.size := by omega
  have zc1 : w.heap.size + 1 + 1 < w1.heap.size := by omega
  go_wp2_with fail
  refine (laws_toClasses n.pa n.pb q.a2 q.a3 q.c2 q.c3 _ (by exact Kd.C_below H.out.pa bel) H.out.h2 (by exact Kd.C_below H.out.pb bel) H.out.h3).mono ?_
  rintro e w2 ⟨hg1, hb1⟩
  obtain ⟨v2, v3, rfl, HO2, HO3, _⟩ := hg1
  obtain ⟨A2, c2, rfl⟩ := Kd.R_slice HO2
  obtain ⟨A3, c3, rfl⟩ := Kd.R_slice HO3
  obtain ⟨hc1, hf1, hz1⟩ := bcell hb1; (try simp only [szs] at hz1); have hb2 := (by first | exact bw_then hb2 hb1 | exact bw_then (bw_drewN _ hb2) hb1 | exact bw_then (bw_alloc _ hb2) hb1 | exact bw_then (bw_drew hb2) hb1 | exact bw_then HB hb1 | exact bw_then (bw_drewN _ HB) hb1 | exact bw_then (bw_alloc _ HB) hb1 | exact bw_then (bw_drew HB) hb1 | exact hb1); obtain ⟨hc2, hf2, hz2⟩ := bcell hb2; (try simp only [szs] at hz2); try (first | obtain ⟨hy1, hy2, hy3, hy4⟩ := lts4 hz2 | obtain ⟨hy1, hy2, hy3⟩ := lts3 hz2 | obtain ⟨hy1, hy2⟩ := lts2 hz2 | have hy1 := lts1 hz2); have hb9 := hb1
  have za2 : w.heap.size < w2.heap.size := by omega
  have zb2 : w.heap.size + 1 < w2.heap.size := by omega
  have zc2 : w.heap.size + 1 + 1 < w2.heap.size := by omega
  go_wp2_with fail
  refine (laws_toFlitSS n.bufs q.a4 q.c4 _ (by exact Kd.C_below H.out.bufs bel) H.out.h4 (Lib.hid H.out.h9)).mono ?_
  rintro e w3 ⟨hg1, hb1⟩
  obtain ⟨v4, rfl, HO4⟩ := hg1
  obtain ⟨A4, c4, rfl⟩ := Kd.R_slice HO4
  obtain ⟨hc1, hf1, hz1⟩ := bcell hb1; (try simp only [szs] at hz1); have hb2 := (by first | exact bw_then hb2 hb1 | exact bw_then (bw_drewN _ hb2) hb1 | exact bw_then (bw_alloc _ hb2) hb1 | exact bw_then (bw_drew hb2) hb1 | exact bw_then HB hb1 | exact bw_then (bw_drewN _ HB) hb1 | exact bw_then (bw_alloc _ HB) hb1 | exact bw_then (bw_drew HB) hb1 | exact hb1); obtain ⟨hc2, hf2, hz2⟩ := bcell hb2; (try simp only [szs] at hz2); try (first | obtain ⟨hy1, hy2, hy3, hy4⟩ := lts4 hz2 | obtain ⟨hy1, hy2, hy3⟩ := lts3 hz2 | obtain ⟨hy1, hy2⟩ := lts2 hz2 | have hy1 := lts1 hz2); have hb9 := hb1
  have za3 : w.heap.size < w3.heap.size := by omega
  have zb3 : w.heap.size + 1 < w3.heap.size := by omega
  have zc3 : w.heap.size + 1 + 1 < w3.heap.size := by omega
  go_wp2_with fail
  refine (laws_toIntS n.owners q.a5 q.c5 _ (by exact Kd.C_below H.out.owners bel) H.out.h5).mono ?_
  rintro e w4 ⟨hg1, hb1⟩
  obtain ⟨v5, rfl, HO5⟩ := hg1
  obtain ⟨A5, c5, rfl⟩ := Kd.R_slice HO5
  obtain ⟨hc1, hf1, hz1⟩ := bcell hb1; (try simp only [szs] at hz1); have hb2 := (by first | exact bw_then hb2 hb1 | exact bw_then (bw_drewN _ hb2) hb1 | exact bw_then (bw_alloc _ hb2) hb1 | exact bw_then (bw_drew hb2) hb1 | exact bw_then HB hb1 | exact bw_then (bw_drewN _ HB) hb1 | exact bw_then (bw_alloc _ HB) hb1 | exact bw_then (bw_drew HB) hb1 | exact hb1); obtain ⟨hc2, hf2, hz2⟩ := bcell hb2; (try simp only [szs] at hz2); try (first | obtain ⟨hy1, hy2, hy3, hy4⟩ := lts4 hz2 | obtain ⟨hy1, hy2, hy3⟩ := lts3 hz2 | obtain ⟨hy1, hy2⟩ := lts2 hz2 | have hy1 := lts1 hz2); have hb9 := hb1
  have za4 : w.heap.size < w4.heap.size := by omega
  have zb4 : w.heap.size + 1 < w4.heap.size := by omega
  have zc4 : w.heap.size + 1 + 1 < w4.heap.size := by omega
  go_wp2_with fail
  refine (laws_toIntS n.turns q.a6 q.c6 _ (by exact Kd.C_below H.out.turns bel) H.out.h6).mono ?_
  rintro e w5 ⟨hg1, hb1⟩
  obtain ⟨v6, rfl, HO6⟩ := hg1
  obtain ⟨A6, c6, rfl⟩ := Kd.R_slice HO6
  obtain ⟨hc1, hf1, hz1⟩ := bcell hb1; (try simp only [szs] at hz1); have hb2 := (by first | exact bw_then hb2 hb1 | exact bw_then (bw_drewN _ hb2) hb1 | exact bw_then (bw_alloc _ hb2) hb1 | exact bw_then (bw_drew hb2) hb1 | exact bw_then HB hb1 | exact bw_then (bw_drewN _ HB) hb1 | exact bw_then (bw_alloc _ HB) hb1 | exact bw_then (bw_drew HB) hb1 | exact hb1); obtain ⟨hc2, hf2, hz2⟩ := bcell hb2; (try simp only [szs] at hz2); try (first | obtain ⟨hy1, hy2, hy3, hy4⟩ := lts4 hz2 | obtain ⟨hy1, hy2, hy3⟩ := lts3 hz2 | obtain ⟨hy1, hy2⟩ := lts2 hz2 | have hy1 := lts1 hz2); have hb9 := hb1
  have za5 : w.heap.size < w5.heap.size := by omega
  have zb5 : w.heap.size + 1 < w5.heap.size := by omega
  have zc5 : w.heap.size + 1 + 1 < w5.heap.size := by omega
  go_wp2_with fail
  refine (laws_toFlitSS n.srcs q.a7 q.c7 _ (by exact Kd.C_below H.out.srcs bel) H.out.h7 (Lib.hid H.out.h10)).mono ?_
  rintro e w6 ⟨hg1, hb1⟩
  obtain ⟨v7, rfl, HO7⟩ := hg1
  obtain ⟨A7, c7, rfl⟩ := Kd.R_slice HO7
  obtain ⟨hc1, hf1, hz1⟩ := bcell hb1; (try simp only [szs] at hz1); have hb2 := (by first | exact bw_then hb2 hb1 | exact bw_then (bw_drewN _ hb2) hb1 | exact bw_then (bw_alloc _ hb2) hb1 | exact bw_then (bw_drew hb2) hb1 | exact bw_then HB hb1 | exact bw_then (bw_drewN _ HB) hb1 | exact bw_then (bw_alloc _ HB) hb1 | exact bw_then (bw_drew HB) hb1 | exact hb1); obtain ⟨hc2, hf2, hz2⟩ := bcell hb2; (try simp only [szs] at hz2); try (first | obtain ⟨hy1, hy2, hy3, hy4⟩ := lts4 hz2 | obtain ⟨hy1, hy2, hy3⟩ := lts3 hz2 | obtain ⟨hy1, hy2⟩ := lts2 hz2 | have hy1 := lts1 hz2); have hb9 := hb1
  have za6 : w.heap.size < w6.heap.size := by omega
  have zb6 : w.heap.size + 1 < w6.heap.size := by omega
  have zc6 : w.heap.size + 1 + 1 < w6.heap.size := by omega
  go_wp2_with fail
  refine (laws_toFlitSS n.arrs q.a8 q.c8 _ (by exact Kd.C_below H.out.arrs bel) H.out.h8 (Lib.hid H.out.h11)).mono ?_
  rintro e w7 ⟨hg1, hb1⟩
  obtain ⟨v8, rfl, HO8⟩ := hg1
  obtain ⟨A8, c8, rfl⟩ := Kd.R_slice HO8
  obtain ⟨hc1, hf1, hz1⟩ := bcell hb1; (try simp only [szs] at hz1); have hb2 := (by first | exact bw_then hb2 hb1 | exact bw_then (bw_drewN _ hb2) hb1 | exact bw_then (bw_alloc _ hb2) hb1 | exact bw_then (bw_drew hb2) hb1 | exact bw_then HB hb1 | exact bw_then (bw_drewN _ HB) hb1 | exact bw_then (bw_alloc _ HB) hb1 | exact bw_then (bw_drew HB) hb1 | exact hb1); obtain ⟨hc2, hf2, hz2⟩ := bcell hb2; (try simp only [szs] at hz2); try (first | obtain ⟨hy1, hy2, hy3, hy4⟩ := lts4 hz2 | obtain ⟨hy1, hy2, hy3⟩ := lts3 hz2 | obtain ⟨hy1, hy2⟩ := lts2 hz2 | have hy1 := lts1 hz2); have hb9 := hb1
  have za7 : w.heap.size < w7.heap.size := by omega
  have zb7 : w.heap.size + 1 < w7.heap.size := by omega
  have zc7 : w.heap.size + 1 + 1 < w7.heap.size := by omega
  go_wp2
  exact bodyPost_ret (v := .agg (netCells n ⟨A1, A2, A3, A4, A5, A6, A7, A8, c1, c2, c3, c4, c5, c6, c7, c8⟩)) (by simp [results, Tryz.results12, go_sem, netCells, *]) rfl ⟨⟨_, rfl, ⟨(by apply Kd.R_lower; (with_reducible repeat (first | exact HO1 | apply R_off | (apply R_belowC; assumption))); all_goals (first | omega | (simp only [szs]; omega))), (by apply Kd.R_lower; (with_reducible repeat (first | exact HO2 | apply R_off | (apply R_belowC; assumption))); all_goals (first | omega | (simp only [szs]; omega))), (by apply Kd.R_lower; (with_reducible repeat (first | exact HO3 | apply R_off | (apply R_belowC; assumption))); all_goals (first | omega | (simp only [szs]; omega))), (by apply Kd.R_lower; (with_reducible repeat (first | exact HO4 | apply R_off | (apply R_belowC; assumption))); all_goals (first | omega | (simp only [szs]; omega))), (by apply Kd.R_lower; (with_reducible repeat (first | exact HO5 | apply R_off | (apply R_belowC; assumption))); all_goals (first | omega | (simp only [szs]; omega))), (by apply Kd.R_lower; (with_reducible repeat (first | exact HO6 | apply R_off | (apply R_belowC; assumption))); all_goals (first | omega | (simp only [szs]; omega))), (by apply Kd.R_lower; (with_reducible repeat (first | exact HO7 | apply R_off | (apply R_belowC; assumption))); all_goals (first | omega | (simp only [szs]; omega))), (by apply Kd.R_lower; (with_reducible repeat (first | exact HO8 | apply R_off | (apply R_belowC; assumption))); all_goals (first | omega | (simp only [szs]; omega)))⟩⟩, bel⟩
set_option maxHeartbeats 4000000 in
set_option maxRecDepth 100000 in
/-- Of a network and what was copied from it. -/
theorem laws_eqNet (n : Net) (q p : NA) (w : World) (hr : NetR 103 w n q) (hs : NetR 103 w n p) : Calls Tryz.prog 14 #[.agg (netCells n q), .agg (netCells n p)] w fun e w' => e = .returned (.bool true) ∧ Below w.heap.size w w' := by
  have H := Lib.hid hr
  have K := Lib.hid hs
  have e9 := bne_self n.time
  clear hr hs
  unfold netCells
  go_enter Tryz.func14, Tryz.ntmps14
  go_wp2_with fail
  refine (laws_eqMesh n.mesh n.mesh q.a1 p.a1 q.c1 p.c1 _ (by exact Kd.C_below H.out.br bel) H.out.h1 (by exact Kd.C_below K.out.br bel) H.out.h1).mono ?_
  rintro e w1 ⟨he, hb1⟩
  rw [show (decide (n.mesh.g = n.mesh.g) && eqL n.mesh.br n.mesh.br) = true by rw [eqL_self]; simp] at he
  subst he
  obtain ⟨hc1, hf1, hz1⟩ := bcell hb1; (try simp only [szs] at hz1); have hb2 := (by first | exact bw_then hb2 hb1 | exact bw_then (bw_drewN _ hb2) hb1 | exact bw_then (bw_alloc _ hb2) hb1 | exact bw_then (bw_drew hb2) hb1 | exact bw_then HB hb1 | exact bw_then (bw_drewN _ HB) hb1 | exact bw_then (bw_alloc _ HB) hb1 | exact bw_then (bw_drew HB) hb1 | exact hb1); obtain ⟨hc2, hf2, hz2⟩ := bcell hb2; (try simp only [szs] at hz2); try (first | obtain ⟨hy1, hy2, hy3, hy4⟩ := lts4 hz2 | obtain ⟨hy1, hy2, hy3⟩ := lts3 hz2 | obtain ⟨hy1, hy2⟩ := lts2 hz2 | have hy1 := lts1 hz2); have hb9 := hb1
  have za1 : w.heap.size < w1.heap.size := by omega
  have zb1 : w.heap.size + 1 < w1.heap.size := by omega
  go_wp2_with fail
  refine (laws_eqClasses n.pa n.pb q.a2 q.a3 p.a2 p.a3 q.c2 q.c3 p.c2 p.c3 _ (by exact Kd.C_below H.out.pa bel) H.out.h2 (by exact Kd.C_below H.out.pb bel) H.out.h3 (by exact Kd.C_below K.out.pa bel) (by exact Kd.C_below K.out.pb bel)).mono ?_
  rintro e w2 ⟨rfl, hb1⟩
  obtain ⟨hc1, hf1, hz1⟩ := bcell hb1; (try simp only [szs] at hz1); have hb2 := (by first | exact bw_then hb2 hb1 | exact bw_then (bw_drewN _ hb2) hb1 | exact bw_then (bw_alloc _ hb2) hb1 | exact bw_then (bw_drew hb2) hb1 | exact bw_then HB hb1 | exact bw_then (bw_drewN _ HB) hb1 | exact bw_then (bw_alloc _ HB) hb1 | exact bw_then (bw_drew HB) hb1 | exact hb1); obtain ⟨hc2, hf2, hz2⟩ := bcell hb2; (try simp only [szs] at hz2); try (first | obtain ⟨hy1, hy2, hy3, hy4⟩ := lts4 hz2 | obtain ⟨hy1, hy2, hy3⟩ := lts3 hz2 | obtain ⟨hy1, hy2⟩ := lts2 hz2 | have hy1 := lts1 hz2); have hb9 := hb1
  have za2 : w.heap.size < w2.heap.size := by omega
  have zb2 : w.heap.size + 1 < w2.heap.size := by omega
  go_wp2_with fail
  refine (laws_eqFlitSS n.bufs q.a4 p.a4 q.c4 p.c4 _ (by exact Kd.C_below H.out.bufs bel) (by exact Kd.C_below K.out.bufs bel) H.out.h4 (Lib.hid H.out.h9)).mono ?_
  rintro e w3 ⟨rfl, hb1⟩
  obtain ⟨hc1, hf1, hz1⟩ := bcell hb1; (try simp only [szs] at hz1); have hb2 := (by first | exact bw_then hb2 hb1 | exact bw_then (bw_drewN _ hb2) hb1 | exact bw_then (bw_alloc _ hb2) hb1 | exact bw_then (bw_drew hb2) hb1 | exact bw_then HB hb1 | exact bw_then (bw_drewN _ HB) hb1 | exact bw_then (bw_alloc _ HB) hb1 | exact bw_then (bw_drew HB) hb1 | exact hb1); obtain ⟨hc2, hf2, hz2⟩ := bcell hb2; (try simp only [szs] at hz2); try (first | obtain ⟨hy1, hy2, hy3, hy4⟩ := lts4 hz2 | obtain ⟨hy1, hy2, hy3⟩ := lts3 hz2 | obtain ⟨hy1, hy2⟩ := lts2 hz2 | have hy1 := lts1 hz2); have hb9 := hb1
  have za3 : w.heap.size < w3.heap.size := by omega
  have zb3 : w.heap.size + 1 < w3.heap.size := by omega
  go_wp2_with fail
  refine (laws_eqIntS n.owners n.owners q.a5 p.a5 q.c5 p.c5 _ (by exact Kd.C_below H.out.owners bel) (by exact Kd.C_below K.out.owners bel) H.out.h5 H.out.h5).mono ?_
  rintro e w4 ⟨he, hb1⟩
  rw [eqL_self] at he
  subst he
  obtain ⟨hc1, hf1, hz1⟩ := bcell hb1; (try simp only [szs] at hz1); have hb2 := (by first | exact bw_then hb2 hb1 | exact bw_then (bw_drewN _ hb2) hb1 | exact bw_then (bw_alloc _ hb2) hb1 | exact bw_then (bw_drew hb2) hb1 | exact bw_then HB hb1 | exact bw_then (bw_drewN _ HB) hb1 | exact bw_then (bw_alloc _ HB) hb1 | exact bw_then (bw_drew HB) hb1 | exact hb1); obtain ⟨hc2, hf2, hz2⟩ := bcell hb2; (try simp only [szs] at hz2); try (first | obtain ⟨hy1, hy2, hy3, hy4⟩ := lts4 hz2 | obtain ⟨hy1, hy2, hy3⟩ := lts3 hz2 | obtain ⟨hy1, hy2⟩ := lts2 hz2 | have hy1 := lts1 hz2); have hb9 := hb1
  have za4 : w.heap.size < w4.heap.size := by omega
  have zb4 : w.heap.size + 1 < w4.heap.size := by omega
  go_wp2_with fail
  refine (laws_eqIntS n.turns n.turns q.a6 p.a6 q.c6 p.c6 _ (by exact Kd.C_below H.out.turns bel) (by exact Kd.C_below K.out.turns bel) H.out.h6 H.out.h6).mono ?_
  rintro e w5 ⟨he, hb1⟩
  rw [eqL_self] at he
  subst he
  obtain ⟨hc1, hf1, hz1⟩ := bcell hb1; (try simp only [szs] at hz1); have hb2 := (by first | exact bw_then hb2 hb1 | exact bw_then (bw_drewN _ hb2) hb1 | exact bw_then (bw_alloc _ hb2) hb1 | exact bw_then (bw_drew hb2) hb1 | exact bw_then HB hb1 | exact bw_then (bw_drewN _ HB) hb1 | exact bw_then (bw_alloc _ HB) hb1 | exact bw_then (bw_drew HB) hb1 | exact hb1); obtain ⟨hc2, hf2, hz2⟩ := bcell hb2; (try simp only [szs] at hz2); try (first | obtain ⟨hy1, hy2, hy3, hy4⟩ := lts4 hz2 | obtain ⟨hy1, hy2, hy3⟩ := lts3 hz2 | obtain ⟨hy1, hy2⟩ := lts2 hz2 | have hy1 := lts1 hz2); have hb9 := hb1
  have za5 : w.heap.size < w5.heap.size := by omega
  have zb5 : w.heap.size + 1 < w5.heap.size := by omega
  go_wp2_with fail
  refine (laws_eqFlitSS n.srcs q.a7 p.a7 q.c7 p.c7 _ (by exact Kd.C_below H.out.srcs bel) (by exact Kd.C_below K.out.srcs bel) H.out.h7 (Lib.hid H.out.h10)).mono ?_
  rintro e w6 ⟨rfl, hb1⟩
  obtain ⟨hc1, hf1, hz1⟩ := bcell hb1; (try simp only [szs] at hz1); have hb2 := (by first | exact bw_then hb2 hb1 | exact bw_then (bw_drewN _ hb2) hb1 | exact bw_then (bw_alloc _ hb2) hb1 | exact bw_then (bw_drew hb2) hb1 | exact bw_then HB hb1 | exact bw_then (bw_drewN _ HB) hb1 | exact bw_then (bw_alloc _ HB) hb1 | exact bw_then (bw_drew HB) hb1 | exact hb1); obtain ⟨hc2, hf2, hz2⟩ := bcell hb2; (try simp only [szs] at hz2); try (first | obtain ⟨hy1, hy2, hy3, hy4⟩ := lts4 hz2 | obtain ⟨hy1, hy2, hy3⟩ := lts3 hz2 | obtain ⟨hy1, hy2⟩ := lts2 hz2 | have hy1 := lts1 hz2); have hb9 := hb1
  have za6 : w.heap.size < w6.heap.size := by omega
  have zb6 : w.heap.size + 1 < w6.heap.size := by omega
  go_wp2_with fail
  refine (laws_eqFlitSS n.arrs q.a8 p.a8 q.c8 p.c8 _ (by exact Kd.C_below H.out.arrs bel) (by exact Kd.C_below K.out.arrs bel) H.out.h8 (Lib.hid H.out.h11)).mono ?_
  rintro e w7 ⟨rfl, hb1⟩
  obtain ⟨hc1, hf1, hz1⟩ := bcell hb1; (try simp only [szs] at hz1); have hb2 := (by first | exact bw_then hb2 hb1 | exact bw_then (bw_drewN _ hb2) hb1 | exact bw_then (bw_alloc _ hb2) hb1 | exact bw_then (bw_drew hb2) hb1 | exact bw_then HB hb1 | exact bw_then (bw_drewN _ HB) hb1 | exact bw_then (bw_alloc _ HB) hb1 | exact bw_then (bw_drew HB) hb1 | exact hb1); obtain ⟨hc2, hf2, hz2⟩ := bcell hb2; (try simp only [szs] at hz2); try (first | obtain ⟨hy1, hy2, hy3, hy4⟩ := lts4 hz2 | obtain ⟨hy1, hy2, hy3⟩ := lts3 hz2 | obtain ⟨hy1, hy2⟩ := lts2 hz2 | have hy1 := lts1 hz2); have hb9 := hb1
  have za7 : w.heap.size < w7.heap.size := by omega
  have zb7 : w.heap.size + 1 < w7.heap.size := by omega
  go_wp2
  try (go_quiet (fail); go_wp2)
  go_ret
  exact ⟨rfl, bel⟩
end Go.Proofs.YteeebfeljjghhaaGreat
/- Rows of rows of one's own: the outer row and the inner rows, no two the same; what stays of them where a stretch of blocks is written. -/
set_option linter.unusedVariables false
set_option linter.unusedSimpArgs false
namespace Go.Proofs.YteeebfeljjghhaaGreat
open Go.RowKit Go.Proofs.YteeebfeljjghhaaGreatW.PrintWords
open NoC

structure Chg (lo hi : Nat) (w w1 : World) : Prop where
  os : w1.os = w.os
  tape : w1.tape = w.tape
  output : w1.output = w.output
  size : w.heap.size ≤ w1.heap.size
  block : ∀ i, i < w.heap.size → (i < lo ∨ hi ≤ i) → w1.heap[i]? = w.heap[i]?
theorem Chg.of_below {lo hi : Nat} {w w1 : World} (h : Below w.heap.size w w1) : Chg lo hi w w1 := ⟨h.os, h.tape, h.output, h.size, fun i hi _ => h.block i hi⟩
theorem Chg.refl (lo hi : Nat) (w : World) : Chg lo hi w w := ⟨rfl, rfl, rfl, Nat.le_refl _, fun _ _ _ => rfl⟩
theorem Chg.trans {lo hi : Nat} {w w1 w2 : World} (h : Chg lo hi w w1) (k : Chg lo hi w1 w2) : Chg lo hi w w2 :=
  ⟨k.os.trans h.os, k.tape.trans h.tape, k.output.trans h.output, Nat.le_trans h.size k.size, fun i hi ho => (k.block i (Nat.lt_of_lt_of_le hi h.size) ho).trans (h.block i hi ho)⟩
theorem Chg.wide {lo hi lo' hi' : Nat} {w w1 : World} (h : Chg lo hi w w1) (hl : lo' ≤ lo) (hh : hi ≤ hi') : Chg lo' hi' w w1 :=
  ⟨h.os, h.tape, h.output, h.size, fun i hi ho => h.block i hi (by omega)⟩
theorem Chg.of_grown {lo hi : Nat} {w w1 : World} {v : Value} (h : w.grownBy w1 v.ownBlock) (hv : Within v lo hi) : Chg lo hi w w1 :=
  ⟨h.os, h.tape, h.output, h.size, fun i hi ho => h.block i hi (fun e => by have := hv i e.symm; omega)⟩
theorem Chg.below {lo hi : Nat} {w0 w w1 : World} (hb : Below w0.heap.size w0 w) (h : Chg lo hi w w1) (hl : w0.heap.size ≤ lo) : Below w0.heap.size w0 w1 :=
  ⟨h.os.trans hb.os, h.tape.trans hb.tape, h.output.trans hb.output, Nat.le_trans hb.size h.size, fun i hi => (h.block i (Nat.lt_of_lt_of_le hi hb.size) (.inl (by omega))).trans (hb.block i hi)⟩
theorem Box.chg {lo hi : Nat} {w w1 : World} {b : Nat} {cs : Array Value} (h : Box w b cs) (hg : Chg lo hi w w1) (hne : b < lo ∨ hi ≤ b) : Box w1 b cs := by
  refine ⟨Nat.lt_of_lt_of_le h.lt hg.size, fun o => ?_⟩
  have := hg.block b h.lt hne
  rw [← h.get o]
  unfold World.cell?
  rw [this]
def RU {α : Type} (d : Kd α) (e : Nat) (w : World) (lo hi : Nat) (v : Value) (xs : List α) : Prop := d.R e w lo (fun k => k < hi) v xs
theorem RU.of {α : Type} {d : Kd α} {e : Nat} {w : World} {base lo hi : Nat} {v : Value} {xs : List α} (h : d.R e w base (fun _ => True) v xs) (hl : lo ≤ base) (hh : w.heap.size ≤ hi) : RU d e w lo hi v xs :=
  Kd.R_lower (Kd.R_mono (Kd.R_bound h) (fun k hk => by have := hk.2.2.1; omega)) hl
theorem RU.row {α : Type} {d : Kd α} {e : Nat} {w : World} {lo hi : Nat} {v : Value} {xs : List α} (h : RU d e w lo hi v xs) : d.R e w lo (fun _ => True) v xs := Kd.R_mono h (fun _ _ => trivial)
theorem RU.step {α : Type} {d : Kd α} {e : Nat} {w w1 : World} {lo hi : Nat} {v : Value} {xs : List α} (h : RU d e w lo hi v xs) (hm : ∀ k, lo ≤ k → k < hi → k < w.heap.size → w1.heap[k]? = w.heap[k]?) : RU d e w1 lo hi v xs :=
  Kd.R_mono (Kd.R_move (Kd.R_bound h) (fun k hk => hm k hk.2.1 hk.1 hk.2.2.1)) (fun _ hk => hk.1)
theorem RU.below {α : Type} {d : Kd α} {e : Nat} {w w1 : World} {lo hi : Nat} {v : Value} {xs : List α} (h : RU d e w lo hi v xs) (hb : Below w.heap.size w w1) : RU d e w1 lo hi v xs := Kd.R_below h hb
theorem RU.chg {α : Type} {d : Kd α} {e : Nat} {w w1 : World} {lo hi a b : Nat} {v : Value} {xs : List α} (h : RU d e w lo hi v xs) (hg : Chg a b w w1) (hne : hi ≤ a ∨ b ≤ lo) : RU d e w1 lo hi v xs :=
  h.step (fun k h1 h2 h3 => hg.block k h3 (by omega))
theorem RU.within {α : Type} {d : Kd α} {e : Nat} {w : World} {lo hi : Nat} {v : Value} {xs : List α} (h : RU d e w lo hi v xs) : Within v lo hi := fun k hk => ⟨Kd.R_base h k hk, h.1 k hk⟩
theorem RU.reads {α : Type} {d : Kd α} {e : Nat} {w : World} {lo hi : Nat} {A : Option Addr} {m c : Nat} {xs : List α} (h : RU d e w lo hi (.slice A m c) xs) : m = xs.length ∧ m ≤ c ∧ d.C w A m xs := Kd.R_rowX h.row
theorem RU.wide {α : Type} {d : Kd α} {e : Nat} {w : World} {lo hi lo' hi' : Nat} {v : Value} {xs : List α} (h : RU d e w lo hi v xs) (hl : lo' ≤ lo) (hh : hi ≤ hi') : RU d e w lo' hi' v xs :=
  Kd.R_lower (Kd.R_mono h (fun k hk => by omega)) hl
def vr (vs : List Value) (i : Nat) : Value := vs.getD i (.slice none 0 0)
theorem vr_set {vs : List Value} {k : Nat} {v : Value} (hk : k < vs.length) (j : Nat) : vr (vs.set k v) j = if j = k then v else vr vs j := by
  by_cases e : j = k
  · subst e; simp [vr, List.getD_eq_getElem?_getD, hk]
  · have e' : ¬ k = j := fun h => e h.symm
    simp [vr, List.getD_eq_getElem?_getD, e, e']
theorem vr_get {vs : List Value} {k : Nat} (hk : k < vs.length) : vs[k]? = some (vr vs k) := by
  simp [vr, List.getD_eq_getElem?_getD, hk]
structure OB (w : World) (lo hi : Nat) (v : Value) (l : List (List Flit)) (vs : List Value) : Prop where
  own : w.ownsRow lo 100 1 v l.length vs
  top : ∀ k, v.ownBlock = some k → k < hi
  row : ∀ i : Nat, i < l.length → RU kF 103 w lo hi (vr vs i) (rl l i)
  apart : ∀ i j : Nat, i < j → j < l.length → Apart (vr vs i) (vr vs j)
theorem OB.len {w : World} {lo hi : Nat} {v : Value} {l : List (List Flit)} {vs : List Value} (h : OB w lo hi v l vs) : vs.length = l.length := by
  have := h.own.1
  omega
theorem OB.apart' {w : World} {lo hi : Nat} {v : Value} {l : List (List Flit)} {vs : List Value} (h : OB w lo hi v l vs) {i j : Nat} (hne : i ≠ j) (hi' : i < l.length) (hj : j < l.length) : Apart (vr vs i) (vr vs j) := by
  rcases Nat.lt_or_gt_of_ne hne with h1 | h1
  · exact h.apart i j h1 hj
  · exact apart_comm (h.apart j i h1 hi')
theorem OB.step {w w1 : World} {lo hi : Nat} {v : Value} {l : List (List Flit)} {vs : List Value} (h : OB w lo hi v l vs) (hm : ∀ k, lo ≤ k → k < hi → k < w.heap.size → w1.heap[k]? = w.heap[k]?) : OB w1 lo hi v l vs :=
  ⟨own_move h.own (fun k hk => hm k (own_base h.own k hk) (h.top k hk) (own_lt h.own k hk)), h.top, fun i hi' => (h.row i hi').step hm, h.apart⟩
theorem OB.below {w w1 : World} {lo hi : Nat} {v : Value} {l : List (List Flit)} {vs : List Value} (h : OB w lo hi v l vs) (hb : Below w.heap.size w w1) : OB w1 lo hi v l vs := h.step (fun k _ _ h3 => hb.block k h3)
theorem OB.chg {w w1 : World} {lo hi a b : Nat} {v : Value} {l : List (List Flit)} {vs : List Value} (h : OB w lo hi v l vs) (hg : Chg a b w w1) (hne : hi ≤ a ∨ b ≤ lo) : OB w1 lo hi v l vs := h.step (fun k h1 h2 h3 => hg.block k h3 (by omega))
theorem OB.wide {w : World} {lo hi lo' hi' : Nat} {v : Value} {l : List (List Flit)} {vs : List Value} (h : OB w lo hi v l vs) (hl : lo' ≤ lo) (hh : hi ≤ hi') : OB w lo' hi' v l vs :=
  ⟨own_weaken h.own hl, fun k hk => by have := h.top k hk; omega, fun i hi => (h.row i hi).wide hl hh, h.apart⟩
theorem OB.form {w : World} {lo hi : Nat} {v : Value} {l : List (List Flit)} {vs : List Value} (h : OB w lo hi v l vs) (h0 : 0 < l.length) : ∃ g cap, v = .slice (some ⟨g, 0, none⟩) l.length cap ∧ lo ≤ g ∧ g < hi ∧ g < w.heap.size ∧ l.length ≤ cap ∧ ∃ cells, w.heap[g]? = some (.cells cells 100 (0, 0)) := by
  obtain ⟨g, cap, e, hb, hl⟩ := h.own.form h0
  obtain ⟨cells, hc⟩ := own_typed h.own g (by rw [e]; rfl)
  have hown := h.own
  rw [e] at hown
  exact ⟨g, cap, e, hb, h.top g (by rw [e]; rfl), hl, own_cap hown, cells, hc⟩
theorem OB.cell {w : World} {lo hi g n cap : Nat} {l : List (List Flit)} {vs : List Value} (h : OB w lo hi (.slice (some ⟨g, 0, none⟩) n cap) l vs) (k : Nat) (hk : k < l.length) : w.cell? ⟨g, k, none⟩ = some (vr vs k) ∧ w.frozen? ⟨g, k, none⟩ = false := by
  have hl := h.len
  have hn : n = l.length := by
    rcases h.own.2 with ⟨e, _⟩ | ⟨g', cap', cur, e, _⟩
    · cases e
    · injection e with _ e2 _
  have ho := h.own
  constructor
  · have hc := ho.cells (g := g) rfl k (vr vs k) (vr_get (by omega))
    rwa [add_plain] at hc
  · obtain ⟨cells, hc⟩ := own_typed ho g rfl
    unfold World.frozen?
    rw [hc]
    simp
theorem OB.rows {w : World} {lo hi : Nat} {v : Value} {l : List (List Flit)} {vs : List Value} (h : OB w lo hi v l vs) : (kB 103).R 100 w lo (fun k => k < hi) v l := by
  have hl := h.len
  refine ⟨h.top, vs, h.own, by show vs.length = l.length * 1; omega, fun j p hj => ?_⟩
  have hlt := (List.getElem?_eq_some_iff.1 hj).1
  have hp : rl l j = p := by simp [rl, List.getD_eq_getElem?_getD, hj]
  have hr := h.row j hlt
  rw [hp] at hr
  refine ⟨vr vs j, ?_, ?_⟩
  · have hjv : j < vs.length := by omega
    have e : vr vs j = vs[j] := by simp [vr, List.getD_eq_getElem?_getD, hjv]
    show (vs.drop (j * 1)).take 1 = _
    rw [e, Nat.mul_one, List.drop_eq_getElem_cons hjv]
    rfl
  · cases hv : v.ownBlock with
    | none => exact Kd.R_mono hr (fun k hk => ⟨hk, by simp⟩)
    | some g =>
      obtain ⟨cells, hc⟩ := own_typed h.own g hv
      refine Kd.R_mono (Kd.R_types hr hc (by decide)) (fun k hk => ⟨hk.1, fun e => hk.2 (Option.some.inj e)⟩)
theorem OB.reads {w : World} {lo hi : Nat} {A : Option Addr} {m c : Nat} {l : List (List Flit)} {vs : List Value} (h : OB w lo hi (.slice A m c) l vs) : m = l.length ∧ m ≤ c ∧ (kB 103).C w A m l := Kd.R_rowX (Kd.R_mono h.rows (fun _ _ => trivial))
theorem OB.slice {w : World} {lo hi : Nat} {v : Value} {l : List (List Flit)} {vs : List Value} (h : OB w lo hi v l vs) : ∃ A c, v = .slice A l.length c := own_slice h.own
theorem OB.made (W : World) (lo m : Nat) (hl : lo ≤ W.heap.size) (hm : m ≤ 1000000000) : OB (W.alloc (.cells (madeCells #[.slice none 0 0] m) 100)) lo (W.heap.size + 1) (.slice (some ⟨W.heap.size, 0, none⟩) m m) (List.replicate m []) (List.replicate m (.slice none 0 0)) := by
  have h := own_made_of' (enc := fun _ : Unit => Value.slice none 0 0) (d := ()) W lo 100 m hl (by omega)
  have hr : ∀ i : Nat, vr (List.replicate m (Value.slice none 0 0)) i = .slice none 0 0 := by
    intro i
    simp only [vr, List.getD_eq_getElem?_getD, List.getElem?_replicate]
    split <;> rfl
  have hq : ∀ i : Nat, rl (List.replicate m []) i = [] := by
    intro i
    simp only [rl, List.getD_eq_getElem?_getD, List.getElem?_replicate]
    split <;> rfl
  refine ⟨?_, fun k hk => ?_, fun i _ => ?_, fun i j _ _ => ?_⟩
  · simpa [encs] using h
  · simp only [Value.ownBlock] at hk
    have := Option.some.inj hk
    omega
  · rw [hr, hq]; exact Kd.R_nil _ _ _ _ _
  · rw [hr]; exact .inl rfl
theorem OB.put {w : World} {lo hi B g n cap : Nat} {l : List (List Flit)} {vs : List Value} (h : OB w lo hi (.slice (some ⟨g, 0, none⟩) n cap) l vs) (k : Nat) (hk : k < l.length) (u : Value) (y : List Flit) (hu : kF.R 103 w B (fun _ => True) u y) (hB : hi ≤ B) (hlo : lo ≤ hi) (hhi : hi ≤ w.heap.size) :
    OB (w.setCell ⟨g, k, none⟩ u) lo w.heap.size (.slice (some ⟨g, 0, none⟩) n cap) (l.set k y) (vs.set k u) := by
  have hl := h.len
  have hn : n = l.length := by
    rcases h.own.2 with ⟨e, _⟩ | ⟨g', cap', cur, e, _⟩
    · cases e
    · injection e with _ e2 _
  subst hn
  have hg := h.top g rfl
  have hgw := own_lt h.own g rfl
  obtain ⟨cells, hc⟩ := own_typed h.own g rfl
  have far : ∀ {lo' hi' : Nat} {v' : Value} {ys : List Flit}, RU kF 103 w lo' hi' v' ys → RU kF 103 (w.setCell ⟨g, k, none⟩ u) lo' hi' v' ys := fun hr =>
    Kd.R_set hr hc (by decide) k u
  have hst := h.own.stored k u
  refine ⟨?_, fun q hq => ?_, fun i hi' => ?_, fun i j hij hj => ?_⟩
  · rw [List.length_set]
    exact hst.1
  · have : g = q := Option.some.inj hq
    omega
  · rw [List.length_set] at hi'
    rw [vr_set (by omega)]
    rw [set_getB (by omega) i (by omega)]
    by_cases e : i = k
    · subst e
      rw [if_pos rfl, if_pos rfl]
      exact far (RU.of hu (by omega) (Nat.le_refl _))
    · rw [if_neg e, if_neg (fun h => e h.symm)]
      exact far ((h.row i hi').wide (Nat.le_refl _) (by omega))
  · rw [List.length_set] at hj
    rw [vr_set (by omega), vr_set (by omega)]
    by_cases e1 : i = k
    · rw [if_pos e1, if_neg (by omega)]
      exact apart_gt (within_R hu) (h.row j hj).within hB
    · rw [if_neg e1]
      by_cases e2 : j = k
      · rw [if_pos e2]
        exact apart_lt (h.row i (by omega)).within (within_R hu) hB
      · rw [if_neg e2]
        exact h.apart i j hij hj
end Go.Proofs.YteeebfeljjghhaaGreat
/- A network of one's own: its rows, no two the same, wherever they lie; what stays of it where one of them is written. -/
set_option linter.unusedVariables false
set_option linter.unusedSimpArgs false
namespace Go.Proofs.YteeebfeljjghhaaGreat
open Go.RowKit Go.Proofs.YteeebfeljjghhaaGreatW.PrintWords
open NoC

def BlkT (w : World) (g t : Nat) : Prop := ∃ cells, w.heap[g]? = some (.cells cells t (0, 0))
theorem BlkT.below {w w1 : World} {g t : Nat} (h : BlkT w g t) (hb : Below w.heap.size w w1) : BlkT w1 g t := let ⟨c, hc⟩ := h; ⟨c, blk_below hc hb⟩
theorem BlkT.set {w : World} {g t : Nat} (h : BlkT w g t) (b o : Nat) (u : Value) : BlkT (w.setCell ⟨b, o, none⟩ u) g t := by
  obtain ⟨c, hc⟩ := h
  by_cases e : g = b
  · subst e; exact ⟨_, blk_set hc o u⟩
  · exact ⟨c, blk_far (p := ⟨b, o, none⟩) hc e u⟩
structure FR (w : World) (lo : Nat) (vs : List Value) (l : List (List Flit)) : Prop where
  len : vs.length = l.length
  row : ∀ i : Nat, i < l.length → kF.R 103 w lo (fun _ => True) (vr vs i) (rl l i)
  ap : ∀ i j : Nat, i < j → j < l.length → Apart (vr vs i) (vr vs j)
theorem FR.ap' {w : World} {lo : Nat} {vs : List Value} {l : List (List Flit)} (h : FR w lo vs l) {i j : Nat} (hne : i ≠ j) (hi : i < l.length) (hj : j < l.length) : Apart (vr vs i) (vr vs j) := by
  rcases Nat.lt_or_gt_of_ne hne with h1 | h1
  · exact h.ap i j h1 hj
  · exact apart_comm (h.ap j i h1 hi)
theorem FR.below {w w1 : World} {lo : Nat} {vs : List Value} {l : List (List Flit)} (h : FR w lo vs l) (hb : Below w.heap.size w w1) : FR w1 lo vs l := ⟨h.len, fun i hi => Kd.R_below (h.row i hi) hb, h.ap⟩
theorem FR.lower {w : World} {lo lo' : Nat} {vs : List Value} {l : List (List Flit)} (h : FR w lo vs l) (hl : lo' ≤ lo) : FR w lo' vs l := ⟨h.len, fun i hi => Kd.R_lower (h.row i hi) hl, h.ap⟩
theorem FR.typed {w : World} {lo : Nat} {vs : List Value} {l : List (List Flit)} (h : FR w lo vs l) {g t : Nat} (hb : BlkT w g t) (ht : 103 ≠ t) (j : Nat) (u : Value) : FR (w.setCell ⟨g, j, none⟩ u) lo vs l := by
  obtain ⟨c, hc⟩ := hb
  refine ⟨h.len, fun i hi => Kd.R_set (h.row i hi) hc (fun q hq => ?_) j u, h.ap⟩
  have e : q = 103 := by simpa [kF, Kd.flat] using hq
  rw [e]
  exact ht
def Anew (w : World) (u v : Value) : Prop := u.ownBlock = none ∨ u.ownBlock = v.ownBlock ∨ ∃ b, u.ownBlock = some b ∧ w.heap.size ≤ b
theorem Anew.of_grown {w : World} {u v : Value} (h : u.ownBlock = v.ownBlock ∨ ∃ b, u.ownBlock = some b ∧ w.heap.size ≤ b) : Anew w u v := .inr h
theorem FR.upd {w w1 : World} {lo : Nat} {vs : List Value} {l : List (List Flit)} (h : FR w lo vs l) (k : Nat) (hk : k < l.length) (hg : w.grownBy w1 (vr vs k).ownBlock) {u : Value} {y : List Flit} (hu : kF.R 103 w1 lo (fun _ => True) u y) (hat : Anew w u (vr vs k)) : FR w1 lo (vs.set k u) (l.set k y) := by
  have hl := h.len
  have other : ∀ i : Nat, i < l.length → i ≠ k → Apart (vr vs i) u := by
    intro i hi hne
    have ha := h.ap' hne hi hk
    rcases hat with h1 | h1 | ⟨b, h1, h2⟩
    · exact apart_comm (.inl h1)
    · unfold Apart at ha ⊢
      rwa [h1]
    · have hw := within_R (h.row i hi)
      cases e : (vr vs i).ownBlock with
      | none => exact .inl e
      | some g =>
        right
        rw [h1, e]
        intro e2
        have := hw g e
        have := Option.some.inj e2
        omega
  refine ⟨by rw [List.length_set, List.length_set, hl], fun i hi => ?_, fun i j hij hj => ?_⟩
  · rw [List.length_set] at hi
    rw [vr_set (by omega), set_getB hk i hi]
    by_cases e : i = k
    · subst e
      rw [if_pos rfl, if_pos rfl]
      exact hu
    · rw [if_neg e, if_neg (fun h => e h.symm)]
      exact R_grownF (h.row i hi) hg (h.ap' e hi hk)
  · rw [List.length_set] at hj
    rw [vr_set (by omega), vr_set (by omega)]
    by_cases e1 : i = k
    · rw [if_pos e1, if_neg (by omega)]
      exact apart_comm (other j hj (by omega))
    · rw [if_neg e1]
      by_cases e2 : j = k
      · rw [if_pos e2]
        exact other i (by omega) e1
      · rw [if_neg e2]
        exact h.ap i j hij hj
structure NB (n : Net) : Prop where
  h1 : n.mesh.br.length ≤ 2097152
  h2 : n.pa.length ≤ 2097152
  h3 : n.pb.length ≤ 2097152
  h4 : n.bufs.length ≤ 2097152
  h5 : n.owners.length ≤ 2097152
  h6 : n.turns.length ≤ 2097152
  h7 : n.srcs.length ≤ 2097152
  h8 : n.arrs.length ≤ 2097152
  h9 : ∀ l ∈ n.bufs, l.length ≤ 2097152
  h10 : ∀ l ∈ n.srcs, l.length ≤ 2097152
  h11 : ∀ l ∈ n.arrs, l.length ≤ 2097152
theorem NetR.nb {e : Nat} {w : World} {n : Net} {q : NA} (k : NetR e w n q) : NB n := ⟨k.h1, k.h2, k.h3, k.h4, k.h5, k.h6, k.h7, k.h8, k.h9, k.h10, k.h11⟩
def iv (n : Net) (q : NA) : List Value := [.slice q.a1 n.mesh.br.length q.c1, .slice q.a2 n.pa.length q.c2, .slice q.a3 n.pb.length q.c3, .slice q.a5 n.owners.length q.c5, .slice q.a6 n.turns.length q.c6]
def ov (n : Net) (q : NA) : List Value := [.slice q.a4 n.bufs.length q.c4, .slice q.a7 n.srcs.length q.c7, .slice q.a8 n.arrs.length q.c8]
def AllAp (m : Nat) (vs : List Value) : Prop := ∀ i j : Nat, i < j → j < m → Apart (vr vs i) (vr vs j)
theorem AllAp.of {m : Nat} {vs : List Value} (h : AllAp m vs) {i j : Nat} (hne : i ≠ j) (hi : i < m) (hj : j < m) : Apart (vr vs i) (vr vs j) := by
  rcases Nat.lt_or_gt_of_ne hne with h1 | h1
  · exact h i j h1 hj
  · exact apart_comm (h j i h1 hi)
def vlen : Value → Nat
  | .slice _ n _ => n
  | _ => 0
def Ap0 (u v : Value) : Prop := vlen u = 0 ∨ vlen v = 0 ∨ Apart u v
theorem Ap0.comm {u v : Value} (h : Ap0 u v) : Ap0 v u := by
  rcases h with h | h | h
  · exact .inr (.inl h)
  · exact .inl h
  · exact .inr (.inr (apart_comm h))
def AllAp0 (m : Nat) (vs : List Value) : Prop := ∀ i j : Nat, i < j → j < m → Ap0 (vr vs i) (vr vs j)
theorem AllAp0.of {m : Nat} {vs : List Value} (h : AllAp0 m vs) {i j : Nat} (hne : i ≠ j) (hi : i < m) (hj : j < m) : Ap0 (vr vs i) (vr vs j) := by
  rcases Nat.lt_or_gt_of_ne hne with h1 | h1
  · exact h i j h1 hj
  · exact (h j i h1 hi).comm
structure NX (w : World) (lo : Nat) (n : Net) (q : NA) (v4 v7 v8 : List Value) : Prop where
  br : Kd.R (Kd.int .i64) 3 w lo (fun _ => True) (.slice q.a1 n.mesh.br.length q.c1) n.mesh.br
  pa : Kd.R (Kd.int .i64) 3 w lo (fun _ => True) (.slice q.a2 n.pa.length q.c2) n.pa
  pb : Kd.R (Kd.int .i64) 3 w lo (fun _ => True) (.slice q.a3 n.pb.length q.c3) n.pb
  owners : Kd.R (Kd.int .i64) 3 w lo (fun _ => True) (.slice q.a5 n.owners.length q.c5) n.owners
  turns : Kd.R (Kd.int .i64) 3 w lo (fun _ => True) (.slice q.a6 n.turns.length q.c6) n.turns
  bufs : w.ownsRow lo 100 1 (.slice q.a4 n.bufs.length q.c4) n.bufs.length v4
  srcs : w.ownsRow lo 100 1 (.slice q.a7 n.srcs.length q.c7) n.srcs.length v7
  arrs : w.ownsRow lo 100 1 (.slice q.a8 n.arrs.length q.c8) n.arrs.length v8
  rows : FR w lo (v4 ++ (v7 ++ v8)) (n.bufs ++ (n.srcs ++ n.arrs))
  apI : AllAp0 5 (iv n q)
  apO : AllAp 3 (ov n q)
section
variable {w w1 : World} {lo : Nat} {n : Net} {q : NA} {v4 v7 v8 : List Value}
theorem NX.l4 (h : NX w lo n q v4 v7 v8) : v4.length = n.bufs.length := by have := h.bufs.1; omega
theorem NX.l7 (h : NX w lo n q v4 v7 v8) : v7.length = n.srcs.length := by have := h.srcs.1; omega
theorem NX.l8 (h : NX w lo n q v4 v7 v8) : v8.length = n.arrs.length := by have := h.arrs.1; omega
theorem vr_left {a b : List Value} {i : Nat} (h : i < a.length) : vr (a ++ b) i = vr a i := by simp [vr, List.getD_eq_getElem?_getD, List.getElem?_append, h]
theorem vr_right {a b : List Value} {i : Nat} : vr (a ++ b) (a.length + i) = vr b i := by
  have h : ¬ a.length + i < a.length := by omega
  simp [vr, List.getD_eq_getElem?_getD, List.getElem?_append, h]
theorem rl_left {a b : List (List Flit)} {i : Nat} (h : i < a.length) : rl (a ++ b) i = rl a i := by simp [rl, List.getD_eq_getElem?_getD, List.getElem?_append, h]
theorem rl_right {a b : List (List Flit)} {i : Nat} : rl (a ++ b) ((a.length + i : Nat) : Int) = rl b i := by
  have h : ¬ a.length + i < a.length := by omega
  simp only [rl, Int.toNat_natCast]
  simp [List.getD_eq_getElem?_getD, List.getElem?_append, h]
theorem set_mid {α : Type} (a b c : List α) (k : Nat) (u : α) (hk : k < b.length) : (a ++ (b ++ c)).set (a.length + k) u = a ++ (b.set k u ++ c) := by
  rw [List.set_append_right _ _ (by omega), Nat.add_sub_cancel_left, List.set_append_left _ _ hk]
theorem set_end {α : Type} (a b c : List α) (k : Nat) (u : α) : (a ++ (b ++ c)).set (a.length + (b.length + k)) u = a ++ (b ++ c.set k u) := by
  rw [List.set_append_right _ _ (by omega), Nat.add_sub_cancel_left, List.set_append_right _ _ (by omega), Nat.add_sub_cancel_left]
theorem NX.row4 (h : NX w lo n q v4 v7 v8) (k : Nat) (hk : k < n.bufs.length) : kF.R 103 w lo (fun _ => True) (vr v4 k) (rl n.bufs k) := by
  have := h.rows.row k (by simp; omega)
  rwa [vr_left (by rw [h.l4]; exact hk), rl_left hk] at this
theorem NX.row7 (h : NX w lo n q v4 v7 v8) (k : Nat) (hk : k < n.srcs.length) : kF.R 103 w lo (fun _ => True) (vr v7 k) (rl n.srcs k) := by
  have := h.rows.row (n.bufs.length + k) (by simp; omega)
  rw [rl_right, ← h.l4, vr_right] at this
  rwa [vr_left (by rw [h.l7]; exact hk), rl_left hk] at this
theorem NX.row8 (h : NX w lo n q v4 v7 v8) (k : Nat) (hk : k < n.arrs.length) : kF.R 103 w lo (fun _ => True) (vr v8 k) (rl n.arrs k) := by
  have := h.rows.row (n.bufs.length + (n.srcs.length + k)) (by simp; omega)
  rw [rl_right, rl_right, ← h.l4, vr_right, ← h.l7, vr_right] at this
  exact this
theorem NX.below (h : NX w lo n q v4 v7 v8) (hb : Below w.heap.size w w1) : NX w1 lo n q v4 v7 v8 :=
  ⟨Kd.R_below h.br hb, Kd.R_below h.pa hb, Kd.R_below h.pb hb, Kd.R_below h.owners hb, Kd.R_below h.turns hb, pw_own_below h.bufs hb, pw_own_below h.srcs hb, pw_own_below h.arrs hb, h.rows.below hb, h.apI, h.apO⟩
theorem NX.lower (h : NX w lo n q v4 v7 v8) {lo' : Nat} (hl : lo' ≤ lo) : NX w lo' n q v4 v7 v8 :=
  ⟨Kd.R_lower h.br hl, Kd.R_lower h.pa hl, Kd.R_lower h.pb hl, Kd.R_lower h.owners hl, Kd.R_lower h.turns hl, own_weaken h.bufs hl, own_weaken h.srcs hl, own_weaken h.arrs hl, h.rows.lower hl, h.apI, h.apO⟩
theorem NX.typed (h : NX w lo n q v4 v7 v8) {g t : Nat} (hb : BlkT w g t) (h1 : 3 ≠ t) (h2 : 100 ≠ t) (h3 : 103 ≠ t) (j : Nat) (u : Value) : NX (w.setCell ⟨g, j, none⟩ u) lo n q v4 v7 v8 := by
  have hb' := hb
  obtain ⟨c, hc⟩ := hb
  have hI : ∀ x, x ∈ 3 :: (Kd.int .i64).E → x ≠ t := fun x hx => by
    have e : x = 3 := by simpa [Kd.int, Kd.scalar] using hx
    rw [e]
    exact h1
  exact ⟨Kd.R_set h.br hc hI j u, Kd.R_set h.pa hc hI j u, Kd.R_set h.pb hc hI j u, Kd.R_set h.owners hc hI j u, Kd.R_set h.turns hc hI j u, own_setCell h.bufs (p := ⟨g, j, none⟩) (own_ne h.bufs hc h2) u, own_setCell h.srcs (p := ⟨g, j, none⟩) (own_ne h.srcs hc h2) u, own_setCell h.arrs (p := ⟨g, j, none⟩) (own_ne h.arrs hc h2) u, h.rows.typed hb' h3 j u, h.apI, h.apO⟩
theorem NX.kept (h : NX w lo n q v4 v7 v8) {k : Nat} (hk : k < (n.bufs ++ (n.srcs ++ n.arrs)).length) (hg : w.grownBy w1 (vr (v4 ++ (v7 ++ v8)) k).ownBlock) : Kd.R (Kd.int .i64) 3 w1 lo (fun _ => True) (.slice q.a1 n.mesh.br.length q.c1) n.mesh.br ∧ Kd.R (Kd.int .i64) 3 w1 lo (fun _ => True) (.slice q.a2 n.pa.length q.c2) n.pa ∧ Kd.R (Kd.int .i64) 3 w1 lo (fun _ => True) (.slice q.a3 n.pb.length q.c3) n.pb ∧ Kd.R (Kd.int .i64) 3 w1 lo (fun _ => True) (.slice q.a5 n.owners.length q.c5) n.owners ∧ Kd.R (Kd.int .i64) 3 w1 lo (fun _ => True) (.slice q.a6 n.turns.length q.c6) n.turns ∧ w1.ownsRow lo 100 1 (.slice q.a4 n.bufs.length q.c4) n.bufs.length v4 ∧ w1.ownsRow lo 100 1 (.slice q.a7 n.srcs.length q.c7) n.srcs.length v7 ∧ w1.ownsRow lo 100 1 (.slice q.a8 n.arrs.length q.c8) n.arrs.length v8 := by
  obtain ⟨inner, hin⟩ := Kd.R_own (h.rows.row k hk)
  have keepI : ∀ {v : Value} {xs : List Int}, Kd.R (Kd.int .i64) 3 w lo (fun _ => True) v xs → Kd.R (Kd.int .i64) 3 w1 lo (fun _ => True) v xs := fun hr => by
    obtain ⟨i2, hi2⟩ := Kd.R_own hr
    exact R_grownI hr hg (own_type_ne hi2 hin (by decide))
  exact ⟨keepI h.br, keepI h.pa, keepI h.pb, keepI h.owners, keepI h.turns, own_other h.bufs hg (own_type_ne h.bufs hin (by decide)), own_other h.srcs hg (own_type_ne h.srcs hin (by decide)), own_other h.arrs hg (own_type_ne h.arrs hin (by decide))⟩
theorem own_put {W : World} {base g m cap k : Nat} {vs : List Value} (h : W.ownsRow base 100 1 (.slice (some ⟨g, 0, none⟩) m cap) m vs) (u : Value) : (W.setCell ⟨g, k, none⟩ u).ownsRow base 100 1 (.slice (some ⟨g, 0, none⟩) m cap) m (vs.set k u) := (h.stored k u).1
theorem NX.setSrc {g : Nat} (h : NX w lo n q v4 v7 v8) (ea : q.a7 = some ⟨g, 0, none⟩) (k : Nat) (hk : k < n.srcs.length) (hg : w.grownBy w1 (vr v7 k).ownBlock) {u : Value} {y : List Flit} (hu : kF.R 103 w1 lo (fun _ => True) u y) (hat : Anew w u (vr v7 k)) :
    NX (w1.setCell ⟨g, k, none⟩ u) lo { n with srcs := n.srcs.set k y } q v4 (v7.set k u) v8 := by
  have e1 : vr (v4 ++ (v7 ++ v8)) (n.bufs.length + k) = vr v7 k := by rw [← h.l4, vr_right, vr_left (by rw [h.l7]; exact hk)]
  have hk2 : n.bufs.length + k < (n.bufs ++ (n.srcs ++ n.arrs)).length := by simp; omega
  obtain ⟨i1, i2, i3, i4, i5, o4, o7, o8⟩ := h.kept hk2 (by rw [e1]; exact hg)
  obtain ⟨c, hc⟩ := own_typed o7 g (by rw [ea]; rfl)
  have hI : ∀ x, x ∈ 3 :: (Kd.int .i64).E → x ≠ 100 := fun x hx => by
    have e : x = 3 := by simpa [Kd.int, Kd.scalar] using hx
    rw [e]
    decide
  have hF := h.rows.upd (n.bufs.length + k) hk2 (by rw [e1]; exact hg) hu (by rw [e1]; exact hat)
  rw [set_mid n.bufs n.srcs n.arrs k y hk, show (v4 ++ (v7 ++ v8)).set (n.bufs.length + k) u = v4 ++ (v7.set k u ++ v8) by rw [← h.l4]; exact set_mid _ _ _ _ _ (by rw [h.l7]; exact hk)] at hF
  have a4 : some g ≠ (Value.slice q.a4 n.bufs.length q.c4).ownBlock := by
    have := h.apO.of (i := 1) (j := 0) (by omega) (by omega) (by omega)
    rcases this with h0 | h0
    · rw [show vr (ov n q) 1 = .slice q.a7 n.srcs.length q.c7 from rfl, ea] at h0; cases h0
    · rw [show vr (ov n q) 1 = .slice q.a7 n.srcs.length q.c7 from rfl, ea] at h0
      exact h0
  have a8 : some g ≠ (Value.slice q.a8 n.arrs.length q.c8).ownBlock := by
    have := h.apO 1 2 (by omega) (by omega)
    rcases this with h0 | h0
    · rw [show vr (ov n q) 1 = .slice q.a7 n.srcs.length q.c7 from rfl, ea] at h0; cases h0
    · rw [show vr (ov n q) 1 = .slice q.a7 n.srcs.length q.c7 from rfl, ea] at h0
      exact h0
  refine ⟨Kd.R_set i1 hc hI k u, Kd.R_set i2 hc hI k u, Kd.R_set i3 hc hI k u, Kd.R_set i4 hc hI k u, Kd.R_set i5 hc hI k u, own_setCell o4 (p := ⟨g, k, none⟩) a4 u, ?_, own_setCell o8 (p := ⟨g, k, none⟩) a8 u, hF.typed ⟨c, hc⟩ (by decide) k u, h.apI, ?_⟩
  · rw [ea] at o7 ⊢
    simp only [List.length_set]
    exact own_put o7 u
  · have : ov { n with srcs := n.srcs.set k y } q = ov n q := by simp [ov]
    rw [this]
    exact h.apO
theorem NX.time (h : NX w lo n q v4 v7 v8) (t : Int) : NX w lo { n with time := t } q v4 v7 v8 := ⟨h.br, h.pa, h.pb, h.owners, h.turns, h.bufs, h.srcs, h.arrs, h.rows, h.apI, h.apO⟩
theorem own_readsB {w : World} {lo m c : Nat} {A : Option Addr} {vs : List Value} {l : List (List Flit)} (ho : w.ownsRow lo 100 1 (.slice A m c) l.length vs) (hr : ∀ i : Nat, i < l.length → kF.R 103 w lo (fun _ => True) (vr vs i) (rl l i)) : m = l.length ∧ m ≤ c ∧ (kB 103).C w A m l := by
  have hl := ho.1
  refine Kd.R_rowX (e := 100) (base := lo) (d := kB 103) ⟨fun _ _ => trivial, vs, ho, by show vs.length = l.length * 1; omega, fun j p hj => ?_⟩
  have hlt := (List.getElem?_eq_some_iff.1 hj).1
  have hp : rl l j = p := by simp [rl, List.getD_eq_getElem?_getD, hj]
  have hr2 := hr j hlt
  rw [hp] at hr2
  refine ⟨vr vs j, ?_, ?_⟩
  · have hjv : j < vs.length := by omega
    have e : vr vs j = vs[j] := by simp [vr, List.getD_eq_getElem?_getD, hjv]
    show (vs.drop (j * 1)).take 1 = _
    rw [e, Nat.mul_one, List.drop_eq_getElem_cons hjv]
    rfl
  · cases hv : (Value.slice A m c).ownBlock with
    | none => exact Kd.R_mono hr2 (fun k hk => ⟨hk, by simp⟩)
    | some g =>
      obtain ⟨cells, hc⟩ := own_typed ho g hv
      refine Kd.R_mono (Kd.R_types hr2 hc (by decide)) (fun k hk => ⟨hk.1, fun e => hk.2 (Option.some.inj e)⟩)
theorem NX.reads (h : NX w lo n q v4 v7 v8) (k : NB n) : NetR 103 w n q :=
  ⟨(Kd.R_rowX h.br).2.2, (Kd.R_rowX h.pa).2.2, (Kd.R_rowX h.pb).2.2, (own_readsB h.bufs h.row4).2.2, (Kd.R_rowX h.owners).2.2, (Kd.R_rowX h.turns).2.2, (own_readsB h.srcs h.row7).2.2, (own_readsB h.arrs h.row8).2.2, k.h1, k.h2, k.h3, k.h4, k.h5, k.h6, k.h7, k.h8, k.h9, k.h10, k.h11⟩
theorem own_cell {W : World} {base g m cap k : Nat} {vs : List Value} (h : W.ownsRow base 100 1 (.slice (some ⟨g, 0, none⟩) m cap) m vs) (hk : k < m) : W.cell? ⟨g, k, none⟩ = some (vr vs k) ∧ W.frozen? ⟨g, k, none⟩ = false := by
  have hl := h.1
  constructor
  · have hc := h.cells (g := g) rfl k (vr vs k) (vr_get (by omega))
    rwa [add_plain] at hc
  · obtain ⟨cells, hc⟩ := own_typed h g rfl
    exact blk_frozen hc k
theorem NX.form7 (h : NX w lo n q v4 v7 v8) (h0 : 0 < n.srcs.length) : ∃ g, q.a7 = some ⟨g, 0, none⟩ ∧ lo ≤ g ∧ g < w.heap.size := by
  obtain ⟨g, cap, e, hb, hl⟩ := h.srcs.form h0
  injection e with e1 _ _
  exact ⟨g, e1, hb, hl⟩
end
def BT (w : World) (bx : Nat) (n : Net) (q : NA) : Prop := w.heap[bx]? = some (.cells (netCells n q) 43 (0, 0))
section
variable {w w1 : World} {bx : Nat} {n : Net} {q : NA}
theorem BT.box (h : BT w bx n q) : Box w bx (netCells n q) := ⟨blk_lt h, fun o => blk_cell h o⟩
theorem BT.frozen (h : BT w bx n q) (o : Nat) : w.frozen? ⟨bx, o, none⟩ = false := blk_frozen h o
theorem BT.lt (h : BT w bx n q) : bx < w.heap.size := blk_lt h
theorem BT.blk (h : BT w bx n q) : BlkT w bx 43 := ⟨_, h⟩
theorem BT.below (h : BT w bx n q) (hb : Below w.heap.size w w1) : BT w1 bx n q := blk_below h hb
theorem BT.far {g t : Nat} (h : BT w bx n q) (hb : BlkT w g t) (ht : 43 ≠ t) (j : Nat) (u : Value) : BT (w.setCell ⟨g, j, none⟩ u) bx n q := by
  obtain ⟨c, hc⟩ := hb
  exact blk_far (p := ⟨g, j, none⟩) h (blk_ne h hc ht) u
theorem BT.grown {v : Value} {lo : Nat} {y : List Flit} (h : BT w bx n q) (hg : w.grownBy w1 v.ownBlock) (hr : kF.R 103 w lo (fun _ => True) v y) : BT w1 bx n q := by
  obtain ⟨inner, hin⟩ := Kd.R_own hr
  exact blk_grown h hg (own_ne hin h (by decide))
theorem BT.new (w : World) (n : Net) (q : NA) : BT (w.alloc (.cells (netCells n q) 43)) w.heap.size n q := blk_new w _
theorem BT.eq {m : Net} (h : BT w bx n q) (e : netCells m q = netCells n q) : BT w bx m q := by unfold BT; rw [e]; exact h
end
end Go.Proofs.YteeebfeljjghhaaGreat
/- Plain laws on walks that arrive, and on the loads of packets; no program, no memory. -/
set_option linter.unusedVariables false
namespace NoC

inductive Path (m : Mesh) (t : List Int) (b : Int) : Int → List Int → Prop
  | here (h : entry m t b b = 4) : Path m t b b []
  | step {a : Int} {ws : List Int} (h4 : ¬ entry m t a b = 4) (hi : inside (entry m t a b) 0 3 = true) (hl : live m (4 * a + entry m t a b) = true) (h : Path m t b (nextNode m.g a (entry m t a b)) ws) : Path m t b a ((4 * a + entry m t a b) :: ws)
theorem Path.live {m : Mesh} {t : List Int} {b a : Int} {ws : List Int} (h : Path m t b a ws) : ∀ c ∈ ws, NoC.live m c = true := by
  induction h with
  | here h => simp
  | step h4 hi hl h ih =>
    intro c hc
    rcases List.mem_cons.1 hc with rfl | hc
    · exact hl
    · exact ih c hc
theorem sized_count {m : Mesh} {t : List Int} (h : sized m t = true) : 0 < nodeCount m.g := by
  have h1 := (sized_iff.1 h).1
  unfold meshOk at h1
  rw [Bool.and_eq_true] at h1
  have hg := h1.1
  unfold nodeCount
  rw [if_pos hg]
  simp only [gridOk, inside, Bool.and_eq_true, decide_eq_true_eq] at hg
  obtain ⟨⟨a, b⟩, c, d⟩ := hg
  have := Int.mul_le_mul a c (by omega) (by omega)
  omega
end NoC
/- Valid networks; no program, no memory. -/
set_option linter.unusedVariables false
namespace NoC
def flitOk (g : Grid) (f : Flit) : Bool := isNode g f.dst && inside f.cls 0 1
def areFl (g : Grid) (l : List Flit) : Bool := l.all (flitOk g)
def clsOnly (l : List Flit) (c : Int) : List Flit := l.filter (fun f => f.cls == c)
def bufOk (g : Grid) (i : Nat) (l : List Flit) : Bool := decide (l.length ≤ 3) && l.all (fun f => f.cls == ((i % 2 : Nat) : Int)) && areFl g l
def srcOk (g : Grid) (l : List Flit) : Bool := decide (l.length ≤ 60) && areFl g l
def shapeOk (n : Net) : Bool :=
  decide ((n.bufs.length : Int) = 10 * nodeCount n.mesh.g) && decide ((n.owners.length : Int) = 10 * nodeCount n.mesh.g) && decide ((n.turns.length : Int) = 5 * nodeCount n.mesh.g) && decide ((n.srcs.length : Int) = nodeCount n.mesh.g) && decide ((n.arrs.length : Int) = nodeCount n.mesh.g)
def netOk (n : Net) : Bool :=
  classesOk n.mesh n.pa n.pb && shapeOk n && allI n.bufs.length (fun i => bufOk n.mesh.g i (rl n.bufs i)) && allI n.srcs.length (fun i => srcOk n.mesh.g (rl n.srcs i)) && allI n.owners.length (fun i => inside (ri n.owners i) (-1) 4) && allI n.turns.length (fun i => inside (ri n.turns i) 0 9) && inside n.time 0 1000000
theorem rf_get (l : List Flit) (k : Nat) (h : k < l.length) : rf l (k : Int) = l[k] := by
  simp [rf, List.getD_eq_getElem?_getD, h]
theorem areFl_no {g : Grid} {l : List Flit} (k : Nat) (hk : k < l.length) (h : flitOk g (rf l k) = false) : areFl g l = false := by
  rw [rf_get l k hk] at h
  unfold areFl
  rw [Bool.eq_false_iff]
  intro ha
  rw [List.all_eq_true] at ha
  rw [ha _ (List.getElem_mem hk)] at h
  cases h
theorem areFl_yes {g : Grid} {l : List Flit} (h : ∀ k : Nat, k < l.length → flitOk g (rf l k) = true) : areFl g l = true := by
  unfold areFl
  rw [List.all_eq_true]
  intro p hp
  obtain ⟨k, hk, rfl⟩ := List.getElem_of_mem hp
  have := h k hk
  rwa [rf_get l k hk] at this
theorem clsOnly_len (l : List Flit) (c : Int) : ((clsOnly l c).length == l.length) = l.all (fun f => f.cls == c) := by
  rw [Bool.eq_iff_iff, beq_iff_eq, List.all_eq_true]
  unfold clsOnly
  rw [List.length_filter_eq_length_iff]
theorem clsOnly_take {l : List Flit} {c : Int} (k : Nat) (hk : k < l.length) : clsOnly (l.take (k + 1)) c = if (rf l k).cls == c then clsOnly (l.take k) c ++ [rf l k] else clsOnly (l.take k) c := by
  rw [rf_get l k hk, List.take_succ_eq_append_getElem hk]
  unfold clsOnly
  rw [List.filter_append]
  split <;> simp_all
theorem netOk_parts {n : Net} (h : netOk n = true) : classesOk n.mesh n.pa n.pb = true ∧ (n.bufs.length : Int) = 10 * nodeCount n.mesh.g ∧ (n.owners.length : Int) = 10 * nodeCount n.mesh.g ∧ (n.turns.length : Int) = 5 * nodeCount n.mesh.g ∧ (n.srcs.length : Int) = nodeCount n.mesh.g ∧ (n.arrs.length : Int) = nodeCount n.mesh.g ∧ (∀ i, i < n.bufs.length → bufOk n.mesh.g i (rl n.bufs i) = true) ∧ (∀ i, i < n.srcs.length → srcOk n.mesh.g (rl n.srcs i) = true) ∧ (∀ i : Nat, i < n.owners.length → inside (ri n.owners i) (-1) 4 = true) ∧ (∀ i : Nat, i < n.turns.length → inside (ri n.turns i) 0 9 = true) ∧ inside n.time 0 1000000 = true := by
  simp only [netOk, shapeOk, Bool.and_eq_true, decide_eq_true_eq, allI_iff] at h
  obtain ⟨⟨⟨⟨⟨⟨h1, ⟨⟨⟨⟨s1, s2⟩, s3⟩, s4⟩, s5⟩⟩, h2⟩, h3⟩, h4⟩, h5⟩, h6⟩ := h
  exact ⟨h1, s1, s2, s3, s4, s5, h2, h3, h4, h5, h6⟩
end NoC
/- Requests of a valid network; no program, no memory. -/
set_option linter.unusedVariables false
namespace NoC
def bufOf (n : Net) (a i : Int) : List Flit := rl n.bufs (10 * a + i)
def ownAt (n : Net) (a p c : Int) : Int := ri n.owners (10 * a + 2 * p + c)
def ownPort (n : Net) (a i : Int) : Int :=
  if ownAt n a 0 (i % 2) = i / 2 then 0 else if ownAt n a 1 (i % 2) = i / 2 then 1 else if ownAt n a 2 (i % 2) = i / 2 then 2 else if ownAt n a 3 (i % 2) = i / 2 then 3 else if ownAt n a 4 (i % 2) = i / 2 then 4 else -1
def wantedN (n : Net) (a i : Int) : Int :=
  if (bufOf n a i).length = 0 then -1 else if (rf (bufOf n a i) 0).head = true then entry n.mesh (tabOf n.pa n.pb (i % 2)) a (rf (bufOf n a i) 0).dst else ownPort n a i
def behindI (n : Net) (a p c : Int) : Int := 10 * nextNode n.mesh.g a p + 2 * opposite p + c
def roomN (n : Net) (a p c : Int) : Bool := if p = 4 then true else live n.mesh (4 * a + p) && decide ((rl n.bufs (behindI n a p c)).length < 3)
def requestN (n : Net) (a i p : Int) : Bool :=
  (wantedN n a i == p) && roomN n a p (i % 2) && (if (rf (bufOf n a i) 0).head = true then ownAt n a p (i % 2) == -1 else ownAt n a p (i % 2) == i / 2)
structure At (n : Net) (a i : Int) : Prop where
  ok : netOk n = true
  nd : isNode n.mesh.g a = true
  i0 : 0 ≤ i
  i9 : i ≤ 9
theorem ok_classes {n : Net} (h : netOk n = true) : classesOk n.mesh n.pa n.pb = true := (netOk_parts h).1
theorem ok_tab {n : Net} (h : netOk n = true) (c : Int) : tableOk n.mesh (tabOf n.pa n.pb c) = true := by
  have := ok_classes h
  simp only [classesOk, Bool.and_eq_true] at this
  unfold tabOf
  split
  · exact this.2
  · exact this.1
theorem walkF_first {m : Mesh} {t : List Int} {b a : Int} {k : Nat} (h : walkF m t b (k + 1) a [] ≠ []) : ¬ entry m t a b = 4 → inside (entry m t a b) 0 3 = true := by
  intro h4
  unfold walkF at h
  rw [if_neg h4] at h
  cases hi : inside (entry m t a b) 0 3
  · simp [hi] at h
  · rfl
theorem entry_in {m : Mesh} {t : List Int} {a b : Int} (h : tableOk m t = true) (ha : isNode m.g a = true) (hb : isNode m.g b = true) : sized m t = true ∧ inside (entry m t a b) 0 4 = true := by
  simp only [tableOk, Bool.and_eq_true] at h
  refine ⟨h.1, ?_⟩
  have ha' := isNode_iff.1 ha
  have hb' := isNode_iff.1 hb
  have h2 := allI_iff.1 (allI_iff.1 h.2 a.toNat (by omega)) b.toNat (by omega)
  rw [Int.toNat_of_nonneg ha'.1, Int.toNat_of_nonneg hb'.1] at h2
  by_cases e : a = b
  · subst e
    rw [if_pos rfl] at h2
    rw [beq_iff_eq] at h2
    rw [h2]
    rfl
  · rw [if_neg (by omega), decide_eq_true_eq] at h2
    by_cases h4 : entry m t a b = 4
    · rw [h4]; rfl
    · have h5 := walkF_first (m := m) (t := t) (a := a) (b := b) (k := (nodeCount m.g).toNat) (fun e => by unfold walk at h2; rw [e] at h2; simp at h2) h4
      rw [inside_iff] at h5 ⊢
      omega
theorem At.idx {n : Net} {a i : Int} (h : At n a i) : 0 ≤ a ∧ a ≤ 15 ∧ 0 ≤ 10 * a + i ∧ 10 * a + i < (n.bufs.length : Int) ∧ 10 * a + 10 ≤ (n.owners.length : Int) ∧ 5 * a + 5 ≤ (n.turns.length : Int) ∧ a < (n.srcs.length : Int) ∧ a < (n.arrs.length : Int) := by
  obtain ⟨_, h1, h2, h3, h4, h5, _⟩ := netOk_parts h.ok
  have := isNode_iff.1 h.nd
  have := count_le n.mesh.g
  have := h.i0
  have := h.i9
  omega
theorem areFl_get {g : Grid} {l : List Flit} (h : areFl g l = true) (k : Nat) (hk : k < l.length) : isNode g (rf l k).dst = true ∧ inside (rf l k).cls 0 1 = true := by
  unfold areFl at h
  rw [List.all_eq_true] at h
  have := h _ (List.getElem_mem hk)
  rw [rf_get l k hk]
  simpa [flitOk] using this
theorem At.buf {n : Net} {a i : Int} (h : At n a i) : (bufOf n a i).length ≤ 3 ∧ ∀ k : Nat, k < (bufOf n a i).length → isNode n.mesh.g (rf (bufOf n a i) k).dst = true ∧ (rf (bufOf n a i) k).cls = i % 2 := by
  obtain ⟨_, h1, h2, h3, h4, h5, hb, _⟩ := netOk_parts h.ok
  obtain ⟨_, _, x0, x1, _⟩ := h.idx
  have hk := hb (10 * a + i).toNat (by omega)
  rw [Int.toNat_of_nonneg x0] at hk
  simp only [bufOk, Bool.and_eq_true, decide_eq_true_eq] at hk
  refine ⟨hk.1.1, fun k hlt => ⟨(areFl_get hk.2 k hlt).1, ?_⟩⟩
  have := List.all_eq_true.1 hk.1.2 _ (List.getElem_mem hlt)
  rw [rf_get _ k hlt]
  rw [beq_iff_eq] at this
  rw [this]
  omega
theorem At.buf0 {n : Net} {a i : Int} (h : At n a i) (h0 : 0 < (bufOf n a i).length) : isNode n.mesh.g (rf (bufOf n a i) 0).dst = true ∧ (rf (bufOf n a i) 0).cls = i % 2 := h.buf.2 0 h0
theorem ownPort_range (n : Net) (a i : Int) : -1 ≤ ownPort n a i ∧ ownPort n a i ≤ 4 := by
  unfold ownPort
  split
  · omega
  · split
    · omega
    · split
      · omega
      · split
        · omega
        · split <;> omega
theorem wanted_1 {n : Net} {a i : Int} (h : (bufOf n a i).length = 0) : wantedN n a i = -1 := by rw [wantedN, if_pos h]
theorem wanted_2 {n : Net} {a i : Int} (h : 0 < (bufOf n a i).length) (hh : (rf (bufOf n a i) 0).head = true) : wantedN n a i = entry n.mesh (tabOf n.pa n.pb (i % 2)) a (rf (bufOf n a i) 0).dst := by rw [wantedN, if_neg (by omega), if_pos hh]
theorem wanted_3 {n : Net} {a i : Int} (h : 0 < (bufOf n a i).length) (hh : (rf (bufOf n a i) 0).head = false) : wantedN n a i = ownPort n a i := by rw [wantedN, if_neg (by omega), if_neg (by simp [hh])]
theorem At.wanted {n : Net} {a i : Int} (h : At n a i) : -1 ≤ wantedN n a i ∧ wantedN n a i ≤ 4 := by
  by_cases h0 : (bufOf n a i).length = 0
  · rw [wanted_1 h0]; omega
  · cases hh : (rf (bufOf n a i) 0).head
    · rw [wanted_3 (by omega) hh]; exact ownPort_range n a i
    · rw [wanted_2 (by omega) hh]
      have := (entry_in (ok_tab h.ok (i % 2)) h.nd (h.buf0 (by omega)).1).2
      rw [inside_iff] at this
      exact ⟨by have := this.1; omega, this.2⟩
end NoC
/- Grants of a valid network; no program, no memory. -/
set_option linter.unusedVariables false
namespace NoC
def usedAt (us : List Bool) (i : Int) : Bool := us.getD (i / 2).toNat false
theorem srcs_len {n : Net} (ok : netOk n = true) : n.srcs.length ≤ 16 ∧ (n.srcs.length : Int) = nodeCount n.mesh.g := by
  obtain ⟨_, h1, h2, h3, h4, h5, _⟩ := netOk_parts ok
  have := count_le n.mesh.g
  omega
end NoC
/- One step of a valid network; no program, no memory. -/
set_option linter.unusedVariables false
namespace NoC
def gIdx (g : Grant) : Int := 10 * g.node + g.input
def mvF (n : Net) (g : Grant) : Flit := rf (rl n.bufs (gIdx g)) 0
def gAt (g : Grant) : Int := 10 * g.node + 2 * g.port + g.input % 2
def gTurn (g : Grant) : Int := 5 * g.node + g.port
def gOwn (n : Net) (g : Grant) : Int := if (mvF n g).tail = true then -1 else g.input / 2
def gTo (n : Net) (g : Grant) : Int := behindI n g.node g.port (g.input % 2)
def pushG (n : Net) (x : Net) (g : Grant) : Net :=
  if g.port = 4 then { x with arrs := x.arrs.set g.node.toNat (rl x.arrs g.node ++ [mvF n g]), owners := x.owners.set (gAt g).toNat (gOwn n g), turns := x.turns.set (gTurn g).toNat ((g.input + 1) % 10) }
  else { x with bufs := x.bufs.set (gTo n g).toNat (rl x.bufs (gTo n g) ++ [mvF n g]), owners := x.owners.set (gAt g).toNat (gOwn n g), turns := x.turns.set (gTurn g).toNat ((g.input + 1) % 10) }
def eTo (n : Net) (k : Int) : Int := 10 * k + 8 + (rf (rl n.srcs k) 0).cls
def enterB (n x : Net) (k : Int) : Net := { x with bufs := x.bufs.set (eTo n k).toNat (rl x.bufs (eTo n k) ++ [rf (rl n.srcs k) 0]), srcs := x.srcs.set k.toNat ((rl x.srcs k).drop 1) }
def enterL (n x : Net) (ks : List Int) : Net := ks.foldl (enterB n) x
end NoC
/- What the grants of a valid network are: no buffer twice, none empty, each target free and no target twice; no program, no memory. -/
set_option linter.unusedVariables false
set_option linter.unusedSimpArgs false
namespace NoC
structure GOne (n : Net) (g : Grant) : Prop where
  nd : isNode n.mesh.g g.node = true
  p0 : 0 ≤ g.port
  p4 : g.port ≤ 4
  i0 : 0 ≤ g.input
  i9 : g.input ≤ 9
  req : requestN n g.node g.input g.port = true
theorem GOne.at {n : Net} {g : Grant} (h : GOne n g) (ok : netOk n = true) : At n g.node g.input := ⟨ok, h.nd, h.i0, h.i9⟩
theorem GOne.wants {n : Net} {g : Grant} (h : GOne n g) : wantedN n g.node g.input = g.port ∧ roomN n g.node g.port (g.input % 2) = true := by
  have := h.req
  unfold requestN at this
  rw [Bool.and_eq_true, Bool.and_eq_true, beq_iff_eq] at this
  exact ⟨this.1.1, this.1.2⟩
theorem GOne.live {n : Net} {g : Grant} (h : GOne n g) (h4 : ¬ g.port = 4) : NoC.live n.mesh (4 * g.node + g.port) = true ∧ (rl n.bufs (gTo n g)).length < 3 := by
  have h1 := h.wants.2
  unfold roomN at h1
  rw [if_neg h4, Bool.and_eq_true, decide_eq_true_eq] at h1
  exact h1
end NoC
/- Valid networks: both sides come to netOk; for all networks whose rows hold at most a million entries each. -/
set_option linter.unusedVariables false
set_option linter.unusedSimpArgs false
namespace Go.Proofs.YteeebfeljjghhaaGreat
open Go.RowKit Go.Proofs.YteeebfeljjghhaaGreatW.PrintWords
open NoC

theorem impl_areInside (l : List Int) (lo hi : Int) (A : Option Addr) (c : Nat) (w : World) (hr : Kd.C (Kd.int .i64) w A l.length l) (hn : l.length ≤ 2097152) :
    Calls Tryz.prog 93 #[.slice A l.length c, .int .i64 lo, .int .i64 hi] w fun e w' => e = .returned (.bool (allI l.length (fun i => inside (ri l i) lo hi))) ∧ w = w' := by
  go_enter Tryz.func93, Tryz.ntmps93
  go_wp2
  go_loop [11] (fun i => ∃ k : Nat, i = .int .i64 k ∧ k ≤ l.length ∧ Hid (∀ j : Nat, j < k → inside (ri l j) lo hi = true)) (fun i => l.length - (intOf i).toNat)
  case atStart => exact ⟨0, rfl, Nat.zero_le _, Lib.hid fun j h => absurd h (Nat.not_lt_zero _)⟩
  case round =>
    obtain ⟨k, rfl, hk, HA⟩ := hrel
    by_cases hlt : k < l.length
    · obtain ⟨b, off, rfl, hb, hx⟩ := rdI_at hr k hlt
      have hxk := hx k hlt
      clear hx
      cases h1 : inside (ri l k) lo hi
      · have H1 := Lib.hid h1
        go_wp2_with (go_at_call 94; refine (impl_inside _ _ _ _).mono ?_; rintro e w' ⟨rfl, rfl⟩)
        go_ret
        exact ⟨ret_bool (allI_false k hlt H1.out).symm, rfl⟩
      · have H1 := Lib.hid h1
        go_wp2_with (go_at_call 94; refine (impl_inside _ _ _ _).mono ?_; rintro e w' ⟨rfl, rfl⟩)
        go_round
        case rel => exact ⟨k + 1, by go_num, by omega, Lib.hid (upto HA.out H1.out)⟩
        case measure => simp [intOf]; omega
    · go_wp2
      go_ret
      exact ⟨ret_bool (allI_true (fun j hj => HA.out j (by omega))).symm, rfl⟩
theorem flitOk_1 {g : Grid} {f : Flit} (h : isNode g f.dst = false) : flitOk g f = false := by simp [flitOk, h]
theorem flitOk_2 {g : Grid} {f : Flit} (h : inside f.cls 0 1 = false) : flitOk g f = false := by simp [flitOk, h]
theorem flitOk_3 {g : Grid} {f : Flit} (h1 : isNode g f.dst = true) (h2 : inside f.cls 0 1 = true) : flitOk g f = true := by simp [flitOk, h1, h2]

set_option maxHeartbeats 1000000 in
theorem impl_areFlits (g : Grid) (l : List Flit) (A : Option Addr) (c : Nat) (w : World) (hr : kF.C w A l.length l) (hn : l.length ≤ 2097152) :
    Calls Tryz.prog 92 #[.agg #[.int .i64 g.w, .int .i64 g.h], .slice A l.length c] w fun e w' => e = .returned (.bool (areFl g l)) ∧ Below w.heap.size w w' := by
  go_enter Tryz.func92, Tryz.ntmps92
  go_wp2
  go_loopw [9] (fun i wr => ∃ k : Nat, i = .int .i64 k ∧ k ≤ l.length ∧ Hid (∀ j : Nat, j < k → flitOk g (rf l j) = true) ∧ Below (w.alloc (.cells #[.int .i64 g.w, .int .i64 g.h] 35)).heap.size (w.alloc (.cells #[.int .i64 g.w, .int .i64 g.h] 35)) wr) (fun i _ => l.length - (intOf i).toNat)
  case atStart => exact ⟨0, rfl, Nat.zero_le _, Lib.hid fun j h => absurd h (Nat.not_lt_zero _), bel⟩
  case round =>
    obtain ⟨k, rfl, hk, HA, HB⟩ := hrel
    obtain ⟨hc0, hf0, hz0⟩ := bcell HB
    simp only [szs] at hz0
    have yy1 := lts1 hz0
    by_cases hlt : k < l.length
    · obtain ⟨b, off, rfl, hb, p0, p1, p2, p3, p4⟩ := rdFl_at hr k hlt
      obtain ⟨z1, z2, z3, z4, z5, z6⟩ := more hb
      have i0 : (0 : Int) ≤ (k : Int) := by omega
      have i1 : (k : Int) < (l.length : Int) := by omega
      cases h1 : isNode g (rf l k).dst
      · have H1 := Lib.hid h1
        go_wp2_with (first | (go_at_call 123; refine (impl_isNode g _ _).mono ?_; rintro e w1 ⟨rfl, hb1⟩; obtain ⟨hc1, hf1, hz1⟩ := bcell hb1; (try simp only [szs] at hz1); have hb2 := (by first | exact bw_then hb2 hb1 | exact bw_then (bw_drewN _ hb2) hb1 | exact bw_then (bw_alloc _ hb2) hb1 | exact bw_then (bw_drew hb2) hb1 | exact bw_then HB hb1 | exact bw_then (bw_drewN _ HB) hb1 | exact bw_then (bw_alloc _ HB) hb1 | exact bw_then (bw_drew HB) hb1 | exact hb1); obtain ⟨hc2, hf2, hz2⟩ := bcell hb2; (try simp only [szs] at hz2); try (first | obtain ⟨hy1, hy2, hy3, hy4⟩ := lts4 hz2 | obtain ⟨hy1, hy2, hy3⟩ := lts3 hz2 | obtain ⟨hy1, hy2⟩ := lts2 hz2 | have hy1 := lts1 hz2); have hb9 := hb1) | (go_at_call 94; refine (impl_inside _ _ _ _).mono ?_; rintro e w' ⟨rfl, rfl⟩))
        go_ret
        exact ⟨ret_bool (areFl_no k hlt (flitOk_1 H1.out)).symm, bel⟩
      cases h2 : inside (rf l k).cls 0 1
      · have H1 := Lib.hid h1
        have H2 := Lib.hid h2
        go_wp2_with (first | (go_at_call 123; refine (impl_isNode g _ _).mono ?_; rintro e w1 ⟨rfl, hb1⟩; obtain ⟨hc1, hf1, hz1⟩ := bcell hb1; (try simp only [szs] at hz1); have hb2 := (by first | exact bw_then hb2 hb1 | exact bw_then (bw_drewN _ hb2) hb1 | exact bw_then (bw_alloc _ hb2) hb1 | exact bw_then (bw_drew hb2) hb1 | exact bw_then HB hb1 | exact bw_then (bw_drewN _ HB) hb1 | exact bw_then (bw_alloc _ HB) hb1 | exact bw_then (bw_drew HB) hb1 | exact hb1); obtain ⟨hc2, hf2, hz2⟩ := bcell hb2; (try simp only [szs] at hz2); try (first | obtain ⟨hy1, hy2, hy3, hy4⟩ := lts4 hz2 | obtain ⟨hy1, hy2, hy3⟩ := lts3 hz2 | obtain ⟨hy1, hy2⟩ := lts2 hz2 | have hy1 := lts1 hz2); have hb9 := hb1) | (go_at_call 94; refine (impl_inside _ _ _ _).mono ?_; rintro e w' ⟨rfl, rfl⟩))
        go_ret
        exact ⟨ret_bool (areFl_no k hlt (flitOk_2 H2.out)).symm, bel⟩
      · have H1 := Lib.hid h1
        have H2 := Lib.hid h2
        go_wp2_with (first | (go_at_call 123; refine (impl_isNode g _ _).mono ?_; rintro e w1 ⟨rfl, hb1⟩; obtain ⟨hc1, hf1, hz1⟩ := bcell hb1; (try simp only [szs] at hz1); have hb2 := (by first | exact bw_then hb2 hb1 | exact bw_then (bw_drewN _ hb2) hb1 | exact bw_then (bw_alloc _ hb2) hb1 | exact bw_then (bw_drew hb2) hb1 | exact bw_then HB hb1 | exact bw_then (bw_drewN _ HB) hb1 | exact bw_then (bw_alloc _ HB) hb1 | exact bw_then (bw_drew HB) hb1 | exact hb1); obtain ⟨hc2, hf2, hz2⟩ := bcell hb2; (try simp only [szs] at hz2); try (first | obtain ⟨hy1, hy2, hy3, hy4⟩ := lts4 hz2 | obtain ⟨hy1, hy2, hy3⟩ := lts3 hz2 | obtain ⟨hy1, hy2⟩ := lts2 hz2 | have hy1 := lts1 hz2); have hb9 := hb1) | (go_at_call 94; refine (impl_inside _ _ _ _).mono ?_; rintro e w' ⟨rfl, rfl⟩))
        go_roundw
        case rel => exact ⟨k + 1, by go_num, by omega, Lib.hid (upto HA.out (flitOk_3 H1.out H2.out)), bel⟩
        case measure => simp [intOf]; omega
    · go_wp2
      go_ret
      exact ⟨ret_bool (areFl_yes (fun j hj => HA.out j (by omega))).symm, bel⟩
set_option maxHeartbeats 1000000 in
theorem spec_l15Flits (g : Grid) (l : List Flit) (A : Option Addr) (c : Nat) (w : World) (hr : kF.C w A l.length l) (hn : l.length ≤ 2097152) :
  Calls Tryz.prog 77 #[.agg #[.int .i64 g.w, .int .i64 g.h], .slice A l.length c] w fun e w' => e = .returned (.bool (areFl g l)) ∧ Below w.heap.size w w' := by
 go_enter Tryz.func77, Tryz.ntmps77
 go_wp2
 go_loopw [5] (fun i wr => ∃ k : Nat, i = .int .i64 k ∧ k ≤ l.length ∧ Hid (∀ j : Nat, j < k → flitOk g (rf l j) = true) ∧ Below (w.alloc (.cells #[.int .i64 g.w, .int .i64 g.h] 35)).heap.size (w.alloc (.cells #[.int .i64 g.w, .int .i64 g.h] 35)) wr) (fun i _ => l.length - (intOf i).toNat)
 case atStart => exact ⟨0, rfl, Nat.zero_le _, Lib.hid fun j h => absurd h (Nat.not_lt_zero _), bel⟩
 case round =>
  obtain ⟨k, rfl, hk, HA, HB⟩ := hrel
  obtain ⟨hc0, hf0, hz0⟩ := bcell HB
  simp only [szs] at hz0
  have yy1 := lts1 hz0
  by_cases hlt : k < l.length
  ·obtain ⟨b, off, rfl, hb, p0, p1, p2, p3, p4⟩ := rdFl_at hr k hlt
   obtain ⟨z1, z2, z3, z4, z5, z6⟩ := more hb
   have i0 : (0 : Int) ≤ (k : Int) := by omega
   have i1 : (k : Int) < (l.length : Int) := by omega
   cases h1 : isNode g (rf l k).dst
   ·have H1 := Lib.hid h1
    go_wp2_with fail
    refine wp_region_far ((w.alloc (.cells #[.int .i64 g.w, .int .i64 g.h] 35))) (by kernel_rfl) (by kernel_rfl) bel ?_
    have hqc := far_cell ((w.alloc (.cells #[.int .i64 g.w, .int .i64 g.h] 35)))
    have hqf := far_frozen ((w.alloc (.cells #[.int .i64 g.w, .int .i64 g.h] 35)))
    repeat (first | go_big_quiet_step (first | (go_at_call 116; exact far_call (Calls.says (spec_l02Has g (rf l k).dst _) (congrArg Value.bool H1.out)))) | quiet_step (first | (go_at_call 116; exact far_call (Calls.says (spec_l02Has g (rf l k).dst _) (congrArg Value.bool H1.out)))))
    refine wpQuiet_nil ?_
    intro wq hbq
    clear hqc hqf
    obtain ⟨hcq, hfq, hzq⟩ := bcell hbq
    try simp only [szs] at hzq
    go_wp2
    go_ret
    exact ⟨ret_bool (areFl_no k hlt (flitOk_1 H1.out)).symm, bel⟩
   cases h2 : inside (rf l k).cls 0 1
   ·have H1 := Lib.hid h1
    have H2 := Lib.hid h2
    go_wp2_with fail
    refine wp_region_far ((w.alloc (.cells #[.int .i64 g.w, .int .i64 g.h] 35))) (by kernel_rfl) (by kernel_rfl) bel ?_
    have hqc := far_cell ((w.alloc (.cells #[.int .i64 g.w, .int .i64 g.h] 35)))
    have hqf := far_frozen ((w.alloc (.cells #[.int .i64 g.w, .int .i64 g.h] 35)))
    repeat (first | go_big_quiet_step (first | (go_at_call 116; exact far_call (Calls.says (spec_l02Has g (rf l k).dst _) (congrArg Value.bool H1.out))) | (go_at_call 59; exact far_same (Calls.says (spec_l01In (rf l k).cls 0 1 _) (congrArg Value.bool H2.out)))) | quiet_step (first | (go_at_call 116; exact far_call (Calls.says (spec_l02Has g (rf l k).dst _) (congrArg Value.bool H1.out))) | (go_at_call 59; exact far_same (Calls.says (spec_l01In (rf l k).cls 0 1 _) (congrArg Value.bool H2.out)))))
    refine wpQuiet_nil ?_
    intro wq hbq
    clear hqc hqf
    obtain ⟨hcq, hfq, hzq⟩ := bcell hbq
    try simp only [szs] at hzq
    go_wp2
    go_ret
    exact ⟨ret_bool (areFl_no k hlt (flitOk_2 H2.out)).symm, bel⟩
   ·have H1 := Lib.hid h1
    have H2 := Lib.hid h2
    go_wp2_with fail
    refine wp_region_far ((w.alloc (.cells #[.int .i64 g.w, .int .i64 g.h] 35))) (by kernel_rfl) (by kernel_rfl) bel ?_
    have hqc := far_cell ((w.alloc (.cells #[.int .i64 g.w, .int .i64 g.h] 35)))
    have hqf := far_frozen ((w.alloc (.cells #[.int .i64 g.w, .int .i64 g.h] 35)))
    repeat (first | go_big_quiet_step (first | (go_at_call 116; exact far_call (Calls.says (spec_l02Has g (rf l k).dst _) (congrArg Value.bool H1.out))) | (go_at_call 59; exact far_same (Calls.says (spec_l01In (rf l k).cls 0 1 _) (congrArg Value.bool H2.out)))) | quiet_step (first | (go_at_call 116; exact far_call (Calls.says (spec_l02Has g (rf l k).dst _) (congrArg Value.bool H1.out))) | (go_at_call 59; exact far_same (Calls.says (spec_l01In (rf l k).cls 0 1 _) (congrArg Value.bool H2.out)))))
    refine wpQuiet_nil ?_
    intro wq hbq
    clear hqc hqf
    obtain ⟨hcq, hfq, hzq⟩ := bcell hbq
    try simp only [szs] at hzq
    go_wp2
    go_roundw
    case rel => exact ⟨k + 1, by go_num, by omega, Lib.hid (upto HA.out (flitOk_3 H1.out H2.out)), bel⟩
    case measure => simp [intOf]; omega
  ·go_wp2
   go_ret
   exact ⟨ret_bool (areFl_yes (fun j hj => HA.out j (by omega))).symm, bel⟩
section
variable {ops : Array Oper} {rest : List Oper} {o : Oper} {a : Act} {Q : Exit → Act → World → Prop}
theorem app_F {W0 W : World} (hgd : o.guard = none) (s x : Operand)
    (ho : o.op = .call { callee := .builtin .append, args := #[s, x], argTypes := #[100, 100] })
    (v : Value) (xs : List Flit) (q : Flit) (hs : a.eval s = v) (hx : a.eval x = .slice (some ⟨W.heap.size, 0, none⟩) 1 1)
    (HO : kF.R 103 W W0.heap.size (fun _ => True) v xs) (HB : Below W0.heap.size W0 W) (hl : xs.length ≤ 100000000)
    (h : ∀ v1 w1, kF.R 103 w1 W0.heap.size (fun _ => True) v1 (xs ++ [q]) → Below W0.heap.size W0 w1 → wpList Tryz.prog ops Q rest (a.put o.dst v1) w1) :
    wpList Tryz.prog ops Q (o :: rest) a (W.alloc (.cells #[.int .i64 q.pk, .int .i64 q.dst, .int .i64 q.cls, .bool q.head, .bool q.tail] 103)) :=
  app_own kF hgd s x 100 103 (.agg #[.int .i64 0, .int .i64 0, .int .i64 0, .bool false, .bool false]) 32 ho Tryz.underlying100 info_F rfl (by decide) (by omega) v xs q (fCells q) hs hx rfl HO HB (by omega) h
end
theorem clsOnly_take_len (l : List Flit) (c : Int) (k : Nat) : (clsOnly (l.take k) c).length ≤ k :=
  Nat.le_trans (List.length_filter_le _ _) (by rw [List.length_take]; omega)
theorem clsOnly_yes {l : List Flit} {c : Int} (k : Nat) (hk : k < l.length) (h : (rf l k).cls = c) : clsOnly (l.take (k + 1)) c = clsOnly (l.take k) c ++ [rf l k] := by
  rw [clsOnly_take k hk, if_pos (by simp [h])]
theorem clsOnly_no {l : List Flit} {c : Int} (k : Nat) (hk : k < l.length) (h : ¬ (rf l k).cls = c) : clsOnly (l.take (k + 1)) c = clsOnly (l.take k) c := by
  rw [clsOnly_take k hk, if_neg (by simp [h])]
set_option maxHeartbeats 1000000 in
theorem impl_ClassOnly (l : List Flit) (x : Int) (A : Option Addr) (c : Nat) (w : World) (hr : kF.C w A l.length l) (hn : l.length ≤ 2097152) :
    Calls Tryz.prog 91 #[.slice A l.length c, .int .i64 x] w fun e w' => GotF w w' (clsOnly l x) e ∧ Below w.heap.size w w' := by
  go_enter Tryz.func91, Tryz.ntmps91
  go_wp2
  go_loopw [5, 11] (fun v i wr => ∃ j : Nat, i = .int .i64 j ∧ j ≤ l.length ∧ kF.R 103 wr w.heap.size (fun _ => True) v (clsOnly (l.take j) x) ∧ Below w.heap.size w wr) (fun _ i _ => l.length - (intOf i).toNat)
  case atStart => exact ⟨0, rfl, Nat.zero_le _, R_empty (W0 := w) _ _ (bw_size bel), bel⟩
  case round =>
    obtain ⟨j, rfl, hj, HO, HB⟩ := hrel
    obtain ⟨Ao, co, rfl⟩ := Kd.R_slice HO
    have hlen := clsOnly_take_len l x j
    obtain ⟨hc0, hf0, hz0⟩ := bcell HB
    by_cases hlt : j < l.length
    · obtain ⟨b, off, rfl, hbl, p0, p1, p2, p3, p4⟩ := rdFl_at hr j hlt
      by_cases e1 : (rf l j).cls = x
      · have f1 : ((rf l j).cls == x) = true := beq_iff_eq.2 e1
        have HS := Lib.hid (clsOnly_yes j hlt e1)
        clear e1
        go_wp2_with (at_builtin; refine app_F (W0 := w) rfl (.tmp 19) (.tmp 21) rfl _ (clsOnly (l.take j) x) (rf l j) rfl (by first | rfl | exact congrArg (fun z => Value.slice (some ⟨z, 0, none⟩) 1 1) (World.size_alloc _ _).symm) (by exact Kd.R_below HO bel) bel (by omega) ?_; intro v1 w1 HO1 HB1; obtain ⟨hc1, hf1, hz1⟩ := bcell HB1; (try simp only [szs] at hz1); have hb2 := HB1; have hb9 := HB1)
        go_roundw
        case rel => exact ⟨j + 1, by go_num, by omega, by rw [HS.out]; exact (by exact Kd.R_below HO1 bel), bel⟩
        case measure => simp [intOf]; omega
      · have f1 : ((rf l j).cls == x) = false := beq_eq_false_iff_ne.2 e1
        have HS := Lib.hid (clsOnly_no j hlt e1)
        clear e1
        go_wp2
        go_roundw
        case rel => exact ⟨j + 1, by go_num, by omega, by rw [HS.out]; exact (by exact Kd.R_below HO bel), bel⟩
        case measure => simp [intOf]; omega
    · go_wp2
      go_ret
      have E : clsOnly (l.take j) x = clsOnly l x := by rw [List.take_of_length_le (by omega)]
      exact ⟨(by rw [← E]; exact ⟨_, rfl, (by exact Kd.R_below HO bel)⟩), bel⟩
end Go.Proofs.YteeebfeljjghhaaGreat
