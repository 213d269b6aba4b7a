/- Rows of rows of flits, and networks: the laws' own words: copy, compare; for all networks whose rows hold at most a million entries each. -/
import Derived.Test.YtinnfahmfggghaaFl
set_option linter.unusedVariables false
set_option linter.unusedSimpArgs false
namespace Go.Proofs.Ytinnfahmfggghaa
open Go.RowKit Go.Proofs.YtinnfahmfggghaaW.PrintWords
open NoC

theorem info_B : (Try.prog.info? 107).map (fun i => (i.zero, i.size, i.bytes)) = some (some (.slice none 0 0), 1, 24) := by kernel_rfl
def GotB (w w' : World) (xs : List (List Flit)) (e : Ending) : Prop := ∃ v, e = .returned v ∧ (kB 142).R 107 w' w.heap.size (fun _ => True) v xs
theorem GotB.read {w w' : World} {xs : List (List Flit)} {e : Ending} (h : GotB w w' xs e) : ∃ A c, e = .returned (.slice A xs.length c) ∧ xs.length ≤ c ∧ (kB 142).C w' A xs.length xs := by
  obtain ⟨v, rfl, hR⟩ := h
  obtain ⟨A, c, rfl, h1, h2⟩ := Kd.R_reads hR
  exact ⟨A, c, rfl, h1, h2⟩
section
variable {ops : Array Oper} {rest : List Oper} {o : Oper} {a : Act} {Q : Exit → Act → World → Prop}
theorem make_B {W0 W : World} (hgd : o.guard = none) {N : Tmp} (hd : o.dst = some N) (x y : Operand) (ho : o.op = .makeSlice 31 x y) (n : Nat) (hx : a.eval x = .int .i64 n) (hy : a.eval y = .int .i64 n)
    (hl : n ≤ 1000000000) (HB : Below W0.heap.size W0 W)
    (h : ∀ v1 w1, (kB 142).R 107 w1 W0.heap.size (fun _ => True) v1 (List.replicate n []) → Below W0.heap.size W0 w1 → wpList Try.prog ops Q rest (a.put o.dst v1) w1) : wpList Try.prog ops Q (o :: rest) a W :=
  Kd.R_make (kB 142) (w0 := W0) W0.heap.size 107 hgd hd 31 x y ho (n : Int) hx hy Try.underlying31 (.slice none 0 0) 24 info_B rfl (by decide) (by omega) [] (ok := fun _ => True) (okp := fun _ => True) ⟨_, rfl, Kd.R_nil _ _ _ _ _⟩ (fun _ hk => hk) trivial (by omega) (by simp; omega) HB HB.size
    (fun v1 w1 h1 h2 _ _ => h v1 w1 (by simpa using h1) h2)
/-- out[k] = v, a row that was made behind out. -/
theorem put_B {W0 W : World} (hN : o.dst = none) (hgd : o.guard = none) (p x : Operand) (ho : o.op = .store 107 p x) {g m cap o' B : Nat} (k : Nat) (xs : List (List Flit)) (y : List Flit) (v : Value)
    (haddr : a.eval p = .pointer (some ⟨g, o', none⟩)) (hoff : o' = k) (hx : a.eval x = v) (hv : kF.R 142 W B (fun _ => True) v y) (hB0 : W0.heap.size ≤ B) (hB : g < B)
    (HO : (kB 142).R 107 W W0.heap.size (fun _ => True) (.slice (some ⟨g, 0, none⟩) m cap) xs) (hk : k < m) (HB : Below W0.heap.size W0 W)
    (h : ∀ w1, (kB 142).R 107 w1 W0.heap.size (fun _ => True) (.slice (some ⟨g, 0, none⟩) m cap) (xs.set k y) → Below W0.heap.size W0 w1 → W.grownBy w1 (some g) → wpList Try.prog ops Q rest a w1) : wpList Try.prog ops Q (o :: rest) a W := by
  obtain ⟨cs, hcl, hM, hcc, hf⟩ := Kd.R_elem HO [] (k : Int) (by omega) (by omega)
  have hcl1 : cs.length = 1 := hcl
  obtain ⟨u, rfl⟩ : ∃ u, cs = [u] := by match cs, hcl1 with | [u], _ => exact ⟨u, rfl⟩
  obtain ⟨A, c, hvs, _⟩ := Kd.R_reads hv
  refine Kd.R_store (kB 142) (w0 := W0) W0.heap.size hN hgd 107 p x ho 107 (k : Int) 0 xs y v [v] [u] (fun _ => True) (fun k => k ≠ g) haddr (by rw [hoff]; show k = (k : Int).toNat * 1 + 0; omega) hx (by rw [hvs]; rfl) (by kernel_rfl) ?_ HO (by omega) (by omega) hcl hcc (by show 0 + 1 ≤ 1; omega) ?_ (fun _ h => ⟨trivial, h⟩) HB ?_
  · intro q hq
    rw [List.mem_singleton.1 hq, hvs]
    rfl
  · exact ⟨v, rfl, Kd.R_lower (Kd.R_mono (Kd.R_bound hv) (fun k hk => by have := hk.2.1; omega)) hB0⟩
  · intro w1 h1 h2 h3
    rw [Int.toNat_natCast] at h1
    exact h w1 h1 h2 h3
end
theorem same_getB {x l : List (List Flit)} (h1 : x.length = l.length) (h : ∀ j : Nat, j < l.length → rl x j = rl l j) : x = l := by
  apply List.ext_getElem h1
  intro j a b
  have := h j b
  simpa [rl, List.getD_eq_getElem?_getD, a, b] using this
theorem set_getB {x : List (List Flit)} {k : Nat} {v : List Flit} (hk : k < x.length) (j : Nat) (hj : j < x.length) : rl (x.set k v) j = if k = j then v else rl x j := by
  by_cases e : k = j
  · subst e; simp [rl, List.getD_eq_getElem?_getD, hk]
  · simp [rl, List.getD_eq_getElem?_getD, e]
theorem rl_mem {l : List (List Flit)} {k : Nat} (h : k < l.length) : rl l k ∈ l := by
  have : rl l k = l[k] := by simp [rl, List.getD_eq_getElem?_getD, h]
  rw [this]
  exact List.getElem_mem h

set_option maxHeartbeats 2000000 in
theorem laws_toFlitSS (l : List (List Flit)) (A : Option Addr) (c : Nat) (w : World) (hr : (kB 142).C w A l.length l) (hn : l.length ≤ 1048576) (hm : Hid (∀ x ∈ l, x.length ≤ 1048576)) :
    Calls Try.prog 66 #[.slice A l.length c] w fun e w' => GotB w w' l e ∧ Below w.heap.size w w' := by
  go_enter Try.func66, Try.ntmps66
  go_wp2_with (first | (refine make_B (W0 := w) rfl (N := 7) rfl (.tmp 6) (.tmp 6) rfl l.length rfl rfl (by omega) (by with_reducible repeat (first | assumption | exact bw_refl _ | apply bw_alloc | apply bw_drew | apply bw_drewN | refine bw_set _ ?_ (by omega) | refine bw_then ?_ (by assumption))) ?_; intro v1 w1 HO1 HB1; obtain ⟨hc1, hf1, hz1⟩ := bcell HB1; (try simp only [World.size_alloc, World.size_setCell, World.size_drew, sz_drewN] at hz1); have hb2 := HB1; have hb9 := HB1))
  go_loopw [4] (fun i wr => ∃ (k : Nat) (x : List (List Flit)), i = .int .i64 k ∧ k ≤ l.length ∧ Hid (x.length = l.length) ∧ Hid (∀ j : Nat, j < k → rl x j = rl l j) ∧ (kB 142).R 107 wr w.heap.size (fun _ => True) v1 x ∧ Below w.heap.size w wr) (fun i _ => l.length - (intOf i).toNat)
  case atStart => exact ⟨0, List.replicate l.length [], rfl, Nat.zero_le _, Lib.hid (by simp), Lib.hid fun j h => absurd h (Nat.not_lt_zero _), HO1, HB1⟩
  case round =>
    obtain ⟨k, x, rfl, hk, HL, HA, HO, HB⟩ := hrel
    obtain ⟨hc0, hf0, hz0⟩ := bcell HB
    by_cases hlt : k < l.length
    · obtain ⟨b, off, rfl, hb, Ai, ci, p0, hle, hCi⟩ := rdB_at hr k hlt
      have hki := hm.out _ (rl_mem hlt)
      obtain ⟨g, cap, hv, hgb, hgl, cells, HG⟩ := Kd.R_form HO (by have := HL.out; omega)
      rw [HL.out] at hv
      rw [hv] at HO
      subst hv
      clear HG
      go_wp2_with (first | (go_at_call 125; refine (laws_toFlitS (rl l k) Ai ci _ (by exact Kd.C_below hCi (by with_reducible repeat (first | assumption | exact bw_refl _ | apply bw_alloc | apply bw_drew | apply bw_drewN | refine bw_set _ ?_ (by omega) | refine bw_then ?_ (by assumption)))) hki).mono ?_; rintro e w1 ⟨hg1, hb1⟩; obtain ⟨v2, rfl, HO2⟩ := hg1; obtain ⟨hc1, hf1, hz1⟩ := bcell hb1; (try simp only [World.size_alloc, World.size_setCell, World.size_drew, sz_drewN] at hz1); have hb2 := (by first | exact bw_then hb2 hb1 | exact bw_then (bw_drewN _ hb2) hb1 | exact bw_then (bw_alloc _ hb2) hb1 | exact bw_then (bw_drew hb2) hb1 | exact bw_then HB hb1 | exact bw_then (bw_drewN _ HB) hb1 | exact bw_then (bw_alloc _ HB) hb1 | exact bw_then (bw_drew HB) hb1 | exact hb1); obtain ⟨hc2, hf2, hz2⟩ := bcell hb2; (try simp only [World.size_alloc, World.size_setCell, World.size_drew, sz_drewN] at hz2); try (first | obtain ⟨hy1, hy2, hy3, hy4⟩ := lts4 hz2 | obtain ⟨hy1, hy2, hy3⟩ := lts3 hz2 | obtain ⟨hy1, hy2⟩ := lts2 hz2 | have hy1 := lts1 hz2); have hb9 := hb1) | (refine put_B (W0 := w) rfl rfl (.tmp 21) (.tmp 20) rfl k x (rl l k) v2 rfl (by simp) rfl HO2 (by omega) (by omega) (by exact Kd.R_below HO (by with_reducible repeat (first | assumption | exact bw_refl _ | apply bw_alloc | apply bw_drew | apply bw_drewN | refine bw_set _ ?_ (by omega) | refine bw_then ?_ (by assumption)))) hlt (by with_reducible repeat (first | assumption | exact bw_refl _ | apply bw_alloc | apply bw_drew | apply bw_drewN | refine bw_set _ ?_ (by omega) | refine bw_then ?_ (by assumption))) ?_; intro w9 HO9 HB9 HG9))
      go_roundw
      case rel => exact ⟨k + 1, x.set k (rl l k), by go_num, by omega, Lib.hid (by rw [List.length_set]; exact HL.out), Lib.hid (upto (fun j hj => by rw [set_getB (by have := HL.out; omega) j (by have := HL.out; omega), if_neg (by omega)]; exact HA.out j hj) (by rw [set_getB (by have := HL.out; omega) k (by have := HL.out; omega), if_pos rfl])), HO9, HB9⟩
      case measure => simp [intOf]; omega
    · go_wp2
      go_ret
      have e : x = l := same_getB HL.out (fun j hj => HA.out j (by omega))
      subst e
      exact ⟨⟨_, rfl, HO⟩, (by with_reducible repeat (first | assumption | exact bw_refl _ | apply bw_alloc | apply bw_drew | apply bw_drewN | refine bw_set _ ?_ (by omega) | refine bw_then ?_ (by assumption)))⟩
/-- Of a row of rows and what was copied from it. -/
theorem laws_eqFlitSS (l : List (List Flit)) (A B : Option Addr) (c d : Nat) (w : World) (hr : (kB 142).C w A l.length l) (hs : (kB 142).C w B l.length l) (hn : l.length ≤ 1048576) (hm : Hid (∀ x ∈ l, x.length ≤ 1048576)) :
    Calls Try.prog 51 #[.slice A l.length c, .slice B l.length d] w fun e w' => e = .returned (.bool true) ∧ Below w.heap.size w w' := by
  have e0 := bne_self (l.length : Int)
  go_enter Try.func51, Try.ntmps51
  go_wp2
  try (go_quiet (fail); go_wp2)
  go_loopw [5] (fun i wr => ∃ k : Nat, k ≤ l.length ∧ i = .int .i64 k ∧ Below w.heap.size w wr) (fun i _ => l.length - (intOf i).toNat)
  case atStart => exact ⟨0, Nat.zero_le _, rfl, (by with_reducible repeat (first | assumption | exact bw_refl _ | apply bw_alloc | apply bw_drew | apply bw_drewN | refine bw_set _ ?_ (by omega) | refine bw_then ?_ (by assumption)))⟩
  case round =>
    obtain ⟨k, hk, rfl, HB⟩ := hrel
    obtain ⟨hc0, hf0, hz0⟩ := bcell HB
    by_cases hlt : k < l.length
    · obtain ⟨b1, o1, rfl, hb1, Ai, ci, p0, hle, hCi⟩ := rdB_at hr k hlt
      obtain ⟨b2, o2, rfl, hb2, Bi, di, q0, hlf, hDi⟩ := rdB_at hs k hlt
      have hki := hm.out _ (rl_mem hlt)
      have i0 : (0 : Int) ≤ (k : Int) := by omega
      have i1 : (k : Int) < (l.length : Int) := by omega
      go_wp2_with fail
      refine wp_region_far (w) (by kernel_rfl) (by kernel_rfl) (by with_reducible repeat (first | assumption | exact bw_refl _ | apply bw_alloc | apply bw_drew | apply bw_drewN | refine bw_set _ ?_ (by omega) | refine bw_then ?_ (by assumption))) ?_
      have hqc := far_cell (w)
      have hqf := far_frozen (w)
      repeat (first | go_big_quiet_step ((go_at_call 114; exact far_call (laws_eqFlitS (rl l k) Ai Bi ci di _ (by exact Kd.C_below (by exact Kd.C_below hCi (by with_reducible repeat (first | assumption | exact bw_refl _ | apply bw_alloc | apply bw_drew | apply bw_drewN | refine bw_set _ ?_ (by omega) | refine bw_then ?_ (by assumption)))) (Far.h _)) (by exact Kd.C_below (by exact Kd.C_below hDi (by with_reducible repeat (first | assumption | exact bw_refl _ | apply bw_alloc | apply bw_drew | apply bw_drewN | refine bw_set _ ?_ (by omega) | refine bw_then ?_ (by assumption)))) (Far.h _)) hki))) | quiet_step ((go_at_call 114; exact far_call (laws_eqFlitS (rl l k) Ai Bi ci di _ (by exact Kd.C_below (by exact Kd.C_below hCi (by with_reducible repeat (first | assumption | exact bw_refl _ | apply bw_alloc | apply bw_drew | apply bw_drewN | refine bw_set _ ?_ (by omega) | refine bw_then ?_ (by assumption)))) (Far.h _)) (by exact Kd.C_below (by exact Kd.C_below hDi (by with_reducible repeat (first | assumption | exact bw_refl _ | apply bw_alloc | apply bw_drew | apply bw_drewN | refine bw_set _ ?_ (by omega) | refine bw_then ?_ (by assumption)))) (Far.h _)) hki))))
      refine wpQuiet_nil ?_
      intro wq hbq
      clear hqc hqf
      obtain ⟨hcq, hfq, hzq⟩ := bcell hbq
      try simp only [World.size_alloc, World.size_setCell, World.size_drew, sz_drewN] at hzq
      go_wp2
      go_roundw
      case rel => exact ⟨k + 1, by omega, by go_num, (by with_reducible repeat (first | assumption | exact bw_refl _ | apply bw_alloc | apply bw_drew | apply bw_drewN | refine bw_set _ ?_ (by omega) | refine bw_then ?_ (by assumption)))⟩
      case measure => simp [intOf]; omega
    · go_wp2
      go_ret
      exact ⟨rfl, (by with_reducible repeat (first | assumption | exact bw_refl _ | apply bw_alloc | apply bw_drew | apply bw_drewN | refine bw_set _ ?_ (by omega) | refine bw_then ?_ (by assumption)))⟩
/-- A network of one's own: its eight rows, made from base on. -/
structure NetO (w : World) (base : Nat) (n : Net) (q : NA) : Prop where
  br : Kd.R (Kd.int .i64) 3 w base (fun _ => True) (.slice q.a1 n.mesh.br.length q.c1) n.mesh.br
  pa : Kd.R (Kd.int .i64) 3 w base (fun _ => True) (.slice q.a2 n.pa.length q.c2) n.pa
  pb : Kd.R (Kd.int .i64) 3 w base (fun _ => True) (.slice q.a3 n.pb.length q.c3) n.pb
  bufs : (kB 142).R 107 w base (fun _ => True) (.slice q.a4 n.bufs.length q.c4) n.bufs
  owners : Kd.R (Kd.int .i64) 3 w base (fun _ => True) (.slice q.a5 n.owners.length q.c5) n.owners
  turns : Kd.R (Kd.int .i64) 3 w base (fun _ => True) (.slice q.a6 n.turns.length q.c6) n.turns
  srcs : (kB 142).R 107 w base (fun _ => True) (.slice q.a7 n.srcs.length q.c7) n.srcs
  arrs : (kB 142).R 107 w base (fun _ => True) (.slice q.a8 n.arrs.length q.c8) n.arrs
theorem Kd.R_rowX {α : Type} {d : Kd α} {w : World} {base e : Nat} {A : Option Addr} {m c : Nat} {xs : List α} (h : d.R e w base (fun _ => True) (.slice A m c) xs) : m = xs.length ∧ m ≤ c ∧ d.C w A m xs := by
  obtain ⟨A', c', he, h1, h2⟩ := Kd.R_reads h
  injection he with e1 e2 e3
  subst e1 e2 e3
  exact ⟨rfl, h1, h2⟩
theorem NetO.reads {w : World} {base : Nat} {n : Net} {q : NA} {w0 : World} {q0 : NA} {e0 : Nat} (h : NetO w base n q) (k : NetR e0 w0 n q0) : NetR 142 w n q :=
  ⟨(Kd.R_rowX h.br).2.2, (Kd.R_rowX h.pa).2.2, (Kd.R_rowX h.pb).2.2, (Kd.R_rowX h.bufs).2.2, (Kd.R_rowX h.owners).2.2, (Kd.R_rowX h.turns).2.2, (Kd.R_rowX h.srcs).2.2, (Kd.R_rowX h.arrs).2.2, k.h1, k.h2, k.h3, k.h4, k.h5, k.h6, k.h7, k.h8, k.h9, k.h10, k.h11⟩
def GotNet (w w' : World) (n : Net) (e : Ending) : Prop := ∃ q, e = .returned (.agg (netCells n q)) ∧ NetO w' w.heap.size n q
set_option maxHeartbeats 4000000 in
set_option maxRecDepth 100000 in
theorem laws_toNet (n : Net) (q : NA) (w : World) (hr : NetR 142 w n q) : Calls Try.prog 18 #[.agg (netCells n q)] w fun e w' => GotNet w w' n e ∧ Below w.heap.size w w' := by
  have H := Lib.hid hr
  clear hr
  unfold netCells
  go_enter Try.func18, Try.ntmps18
  go_wp2_with fail
  refine (laws_toMesh n.mesh q.a1 q.c1 _ (by exact Kd.C_below H.out.br (by with_reducible repeat (first | assumption | exact bw_refl _ | apply bw_alloc | apply bw_drew | apply bw_drewN | refine bw_set _ ?_ (by omega) | refine bw_then ?_ (by assumption)))) H.out.h1).mono ?_
  rintro e w1 ⟨hg1, hb1⟩
  obtain ⟨v1, rfl, HO1⟩ := hg1
  obtain ⟨A1, c1, rfl⟩ := Kd.R_slice HO1
  obtain ⟨hc1, hf1, hz1⟩ := bcell hb1; (try simp only [World.size_alloc, World.size_setCell, World.size_drew, sz_drewN] at hz1); have hb2 := (by first | exact bw_then hb2 hb1 | exact bw_then (bw_drewN _ hb2) hb1 | exact bw_then (bw_alloc _ hb2) hb1 | exact bw_then (bw_drew hb2) hb1 | exact bw_then HB hb1 | exact bw_then (bw_drewN _ HB) hb1 | exact bw_then (bw_alloc _ HB) hb1 | exact bw_then (bw_drew HB) hb1 | exact hb1); obtain ⟨hc2, hf2, hz2⟩ := bcell hb2; (try simp only [World.size_alloc, World.size_setCell, World.size_drew, sz_drewN] at hz2); try (first | obtain ⟨hy1, hy2, hy3, hy4⟩ := lts4 hz2 | obtain ⟨hy1, hy2, hy3⟩ := lts3 hz2 | obtain ⟨hy1, hy2⟩ := lts2 hz2 | have hy1 := lts1 hz2); have hb9 := hb1
  have za1 : w.heap.size < w1.heap.size := by omega
  have zb1 : w.heap.size + 1 < w1.heap.size := by omega
  have zc1 : w.heap.size + 1 + 1 < w1.heap.size := by omega
  go_wp2_with fail
  refine (laws_toClasses n.pa n.pb q.a2 q.a3 q.c2 q.c3 _ (by exact Kd.C_below H.out.pa (by with_reducible repeat (first | assumption | exact bw_refl _ | apply bw_alloc | apply bw_drew | apply bw_drewN | refine bw_set _ ?_ (by omega) | refine bw_then ?_ (by assumption)))) H.out.h2 (by exact Kd.C_below H.out.pb (by with_reducible repeat (first | assumption | exact bw_refl _ | apply bw_alloc | apply bw_drew | apply bw_drewN | refine bw_set _ ?_ (by omega) | refine bw_then ?_ (by assumption)))) H.out.h3).mono ?_
  rintro e w2 ⟨hg1, hb1⟩
  obtain ⟨v2, v3, rfl, HO2, HO3, _⟩ := hg1
  obtain ⟨A2, c2, rfl⟩ := Kd.R_slice HO2
  obtain ⟨A3, c3, rfl⟩ := Kd.R_slice HO3
  obtain ⟨hc1, hf1, hz1⟩ := bcell hb1; (try simp only [World.size_alloc, World.size_setCell, World.size_drew, sz_drewN] at hz1); have hb2 := (by first | exact bw_then hb2 hb1 | exact bw_then (bw_drewN _ hb2) hb1 | exact bw_then (bw_alloc _ hb2) hb1 | exact bw_then (bw_drew hb2) hb1 | exact bw_then HB hb1 | exact bw_then (bw_drewN _ HB) hb1 | exact bw_then (bw_alloc _ HB) hb1 | exact bw_then (bw_drew HB) hb1 | exact hb1); obtain ⟨hc2, hf2, hz2⟩ := bcell hb2; (try simp only [World.size_alloc, World.size_setCell, World.size_drew, sz_drewN] at hz2); try (first | obtain ⟨hy1, hy2, hy3, hy4⟩ := lts4 hz2 | obtain ⟨hy1, hy2, hy3⟩ := lts3 hz2 | obtain ⟨hy1, hy2⟩ := lts2 hz2 | have hy1 := lts1 hz2); have hb9 := hb1
  have za2 : w.heap.size < w2.heap.size := by omega
  have zb2 : w.heap.size + 1 < w2.heap.size := by omega
  have zc2 : w.heap.size + 1 + 1 < w2.heap.size := by omega
  go_wp2_with fail
  refine (laws_toFlitSS n.bufs q.a4 q.c4 _ (by exact Kd.C_below H.out.bufs (by with_reducible repeat (first | assumption | exact bw_refl _ | apply bw_alloc | apply bw_drew | apply bw_drewN | refine bw_set _ ?_ (by omega) | refine bw_then ?_ (by assumption)))) H.out.h4 (Lib.hid H.out.h9)).mono ?_
  rintro e w3 ⟨hg1, hb1⟩
  obtain ⟨v4, rfl, HO4⟩ := hg1
  obtain ⟨A4, c4, rfl⟩ := Kd.R_slice HO4
  obtain ⟨hc1, hf1, hz1⟩ := bcell hb1; (try simp only [World.size_alloc, World.size_setCell, World.size_drew, sz_drewN] at hz1); have hb2 := (by first | exact bw_then hb2 hb1 | exact bw_then (bw_drewN _ hb2) hb1 | exact bw_then (bw_alloc _ hb2) hb1 | exact bw_then (bw_drew hb2) hb1 | exact bw_then HB hb1 | exact bw_then (bw_drewN _ HB) hb1 | exact bw_then (bw_alloc _ HB) hb1 | exact bw_then (bw_drew HB) hb1 | exact hb1); obtain ⟨hc2, hf2, hz2⟩ := bcell hb2; (try simp only [World.size_alloc, World.size_setCell, World.size_drew, sz_drewN] at hz2); try (first | obtain ⟨hy1, hy2, hy3, hy4⟩ := lts4 hz2 | obtain ⟨hy1, hy2, hy3⟩ := lts3 hz2 | obtain ⟨hy1, hy2⟩ := lts2 hz2 | have hy1 := lts1 hz2); have hb9 := hb1
  have za3 : w.heap.size < w3.heap.size := by omega
  have zb3 : w.heap.size + 1 < w3.heap.size := by omega
  have zc3 : w.heap.size + 1 + 1 < w3.heap.size := by omega
  go_wp2_with fail
  refine (laws_toIntS n.owners q.a5 q.c5 _ (by exact Kd.C_below H.out.owners (by with_reducible repeat (first | assumption | exact bw_refl _ | apply bw_alloc | apply bw_drew | apply bw_drewN | refine bw_set _ ?_ (by omega) | refine bw_then ?_ (by assumption)))) H.out.h5).mono ?_
  rintro e w4 ⟨hg1, hb1⟩
  obtain ⟨v5, rfl, HO5⟩ := hg1
  obtain ⟨A5, c5, rfl⟩ := Kd.R_slice HO5
  obtain ⟨hc1, hf1, hz1⟩ := bcell hb1; (try simp only [World.size_alloc, World.size_setCell, World.size_drew, sz_drewN] at hz1); have hb2 := (by first | exact bw_then hb2 hb1 | exact bw_then (bw_drewN _ hb2) hb1 | exact bw_then (bw_alloc _ hb2) hb1 | exact bw_then (bw_drew hb2) hb1 | exact bw_then HB hb1 | exact bw_then (bw_drewN _ HB) hb1 | exact bw_then (bw_alloc _ HB) hb1 | exact bw_then (bw_drew HB) hb1 | exact hb1); obtain ⟨hc2, hf2, hz2⟩ := bcell hb2; (try simp only [World.size_alloc, World.size_setCell, World.size_drew, sz_drewN] at hz2); try (first | obtain ⟨hy1, hy2, hy3, hy4⟩ := lts4 hz2 | obtain ⟨hy1, hy2, hy3⟩ := lts3 hz2 | obtain ⟨hy1, hy2⟩ := lts2 hz2 | have hy1 := lts1 hz2); have hb9 := hb1
  have za4 : w.heap.size < w4.heap.size := by omega
  have zb4 : w.heap.size + 1 < w4.heap.size := by omega
  have zc4 : w.heap.size + 1 + 1 < w4.heap.size := by omega
  go_wp2_with fail
  refine (laws_toIntS n.turns q.a6 q.c6 _ (by exact Kd.C_below H.out.turns (by with_reducible repeat (first | assumption | exact bw_refl _ | apply bw_alloc | apply bw_drew | apply bw_drewN | refine bw_set _ ?_ (by omega) | refine bw_then ?_ (by assumption)))) H.out.h6).mono ?_
  rintro e w5 ⟨hg1, hb1⟩
  obtain ⟨v6, rfl, HO6⟩ := hg1
  obtain ⟨A6, c6, rfl⟩ := Kd.R_slice HO6
  obtain ⟨hc1, hf1, hz1⟩ := bcell hb1; (try simp only [World.size_alloc, World.size_setCell, World.size_drew, sz_drewN] at hz1); have hb2 := (by first | exact bw_then hb2 hb1 | exact bw_then (bw_drewN _ hb2) hb1 | exact bw_then (bw_alloc _ hb2) hb1 | exact bw_then (bw_drew hb2) hb1 | exact bw_then HB hb1 | exact bw_then (bw_drewN _ HB) hb1 | exact bw_then (bw_alloc _ HB) hb1 | exact bw_then (bw_drew HB) hb1 | exact hb1); obtain ⟨hc2, hf2, hz2⟩ := bcell hb2; (try simp only [World.size_alloc, World.size_setCell, World.size_drew, sz_drewN] at hz2); try (first | obtain ⟨hy1, hy2, hy3, hy4⟩ := lts4 hz2 | obtain ⟨hy1, hy2, hy3⟩ := lts3 hz2 | obtain ⟨hy1, hy2⟩ := lts2 hz2 | have hy1 := lts1 hz2); have hb9 := hb1
  have za5 : w.heap.size < w5.heap.size := by omega
  have zb5 : w.heap.size + 1 < w5.heap.size := by omega
  have zc5 : w.heap.size + 1 + 1 < w5.heap.size := by omega
  go_wp2_with fail
  refine (laws_toFlitSS n.srcs q.a7 q.c7 _ (by exact Kd.C_below H.out.srcs (by with_reducible repeat (first | assumption | exact bw_refl _ | apply bw_alloc | apply bw_drew | apply bw_drewN | refine bw_set _ ?_ (by omega) | refine bw_then ?_ (by assumption)))) H.out.h7 (Lib.hid H.out.h10)).mono ?_
  rintro e w6 ⟨hg1, hb1⟩
  obtain ⟨v7, rfl, HO7⟩ := hg1
  obtain ⟨A7, c7, rfl⟩ := Kd.R_slice HO7
  obtain ⟨hc1, hf1, hz1⟩ := bcell hb1; (try simp only [World.size_alloc, World.size_setCell, World.size_drew, sz_drewN] at hz1); have hb2 := (by first | exact bw_then hb2 hb1 | exact bw_then (bw_drewN _ hb2) hb1 | exact bw_then (bw_alloc _ hb2) hb1 | exact bw_then (bw_drew hb2) hb1 | exact bw_then HB hb1 | exact bw_then (bw_drewN _ HB) hb1 | exact bw_then (bw_alloc _ HB) hb1 | exact bw_then (bw_drew HB) hb1 | exact hb1); obtain ⟨hc2, hf2, hz2⟩ := bcell hb2; (try simp only [World.size_alloc, World.size_setCell, World.size_drew, sz_drewN] at hz2); try (first | obtain ⟨hy1, hy2, hy3, hy4⟩ := lts4 hz2 | obtain ⟨hy1, hy2, hy3⟩ := lts3 hz2 | obtain ⟨hy1, hy2⟩ := lts2 hz2 | have hy1 := lts1 hz2); have hb9 := hb1
  have za6 : w.heap.size < w6.heap.size := by omega
  have zb6 : w.heap.size + 1 < w6.heap.size := by omega
  have zc6 : w.heap.size + 1 + 1 < w6.heap.size := by omega
  go_wp2_with fail
  refine (laws_toFlitSS n.arrs q.a8 q.c8 _ (by exact Kd.C_below H.out.arrs (by with_reducible repeat (first | assumption | exact bw_refl _ | apply bw_alloc | apply bw_drew | apply bw_drewN | refine bw_set _ ?_ (by omega) | refine bw_then ?_ (by assumption)))) H.out.h8 (Lib.hid H.out.h11)).mono ?_
  rintro e w7 ⟨hg1, hb1⟩
  obtain ⟨v8, rfl, HO8⟩ := hg1
  obtain ⟨A8, c8, rfl⟩ := Kd.R_slice HO8
  obtain ⟨hc1, hf1, hz1⟩ := bcell hb1; (try simp only [World.size_alloc, World.size_setCell, World.size_drew, sz_drewN] at hz1); have hb2 := (by first | exact bw_then hb2 hb1 | exact bw_then (bw_drewN _ hb2) hb1 | exact bw_then (bw_alloc _ hb2) hb1 | exact bw_then (bw_drew hb2) hb1 | exact bw_then HB hb1 | exact bw_then (bw_drewN _ HB) hb1 | exact bw_then (bw_alloc _ HB) hb1 | exact bw_then (bw_drew HB) hb1 | exact hb1); obtain ⟨hc2, hf2, hz2⟩ := bcell hb2; (try simp only [World.size_alloc, World.size_setCell, World.size_drew, sz_drewN] at hz2); try (first | obtain ⟨hy1, hy2, hy3, hy4⟩ := lts4 hz2 | obtain ⟨hy1, hy2, hy3⟩ := lts3 hz2 | obtain ⟨hy1, hy2⟩ := lts2 hz2 | have hy1 := lts1 hz2); have hb9 := hb1
  have za7 : w.heap.size < w7.heap.size := by omega
  have zb7 : w.heap.size + 1 < w7.heap.size := by omega
  have zc7 : w.heap.size + 1 + 1 < w7.heap.size := by omega
  go_wp2
  exact bodyPost_ret (v := .agg (netCells n ⟨A1, A2, A3, A4, A5, A6, A7, A8, c1, c2, c3, c4, c5, c6, c7, c8⟩)) (by simp [results, Try.results18, go_sem, netCells, *]) rfl ⟨⟨_, rfl, ⟨(by apply Kd.R_lower; (with_reducible repeat (first | exact HO1 | apply R_off | (apply R_belowC; assumption))); all_goals (first | omega | (simp only [World.size_alloc, World.size_setCell, World.size_drew, sz_drewN]; omega))), (by apply Kd.R_lower; (with_reducible repeat (first | exact HO2 | apply R_off | (apply R_belowC; assumption))); all_goals (first | omega | (simp only [World.size_alloc, World.size_setCell, World.size_drew, sz_drewN]; omega))), (by apply Kd.R_lower; (with_reducible repeat (first | exact HO3 | apply R_off | (apply R_belowC; assumption))); all_goals (first | omega | (simp only [World.size_alloc, World.size_setCell, World.size_drew, sz_drewN]; omega))), (by apply Kd.R_lower; (with_reducible repeat (first | exact HO4 | apply R_off | (apply R_belowC; assumption))); all_goals (first | omega | (simp only [World.size_alloc, World.size_setCell, World.size_drew, sz_drewN]; omega))), (by apply Kd.R_lower; (with_reducible repeat (first | exact HO5 | apply R_off | (apply R_belowC; assumption))); all_goals (first | omega | (simp only [World.size_alloc, World.size_setCell, World.size_drew, sz_drewN]; omega))), (by apply Kd.R_lower; (with_reducible repeat (first | exact HO6 | apply R_off | (apply R_belowC; assumption))); all_goals (first | omega | (simp only [World.size_alloc, World.size_setCell, World.size_drew, sz_drewN]; omega))), (by apply Kd.R_lower; (with_reducible repeat (first | exact HO7 | apply R_off | (apply R_belowC; assumption))); all_goals (first | omega | (simp only [World.size_alloc, World.size_setCell, World.size_drew, sz_drewN]; omega))), (by apply Kd.R_lower; (with_reducible repeat (first | exact HO8 | apply R_off | (apply R_belowC; assumption))); all_goals (first | omega | (simp only [World.size_alloc, World.size_setCell, World.size_drew, sz_drewN]; omega)))⟩⟩, (by with_reducible repeat (first | assumption | exact bw_refl _ | apply bw_alloc | apply bw_drew | apply bw_drewN | refine bw_set _ ?_ (by omega) | refine bw_then ?_ (by assumption)))⟩
set_option maxHeartbeats 4000000 in
set_option maxRecDepth 100000 in
/-- Of a network and what was copied from it. -/
theorem laws_eqNet (n : Net) (q p : NA) (w : World) (hr : NetR 142 w n q) (hs : NetR 142 w n p) : Calls Try.prog 13 #[.agg (netCells n q), .agg (netCells n p)] w fun e w' => e = .returned (.bool true) ∧ Below w.heap.size w w' := by
  have H := Lib.hid hr
  have K := Lib.hid hs
  have e9 := bne_self n.time
  clear hr hs
  unfold netCells
  go_enter Try.func13, Try.ntmps13
  go_wp2_with fail
  refine (laws_eqMesh n.mesh n.mesh q.a1 p.a1 q.c1 p.c1 _ (by exact Kd.C_below H.out.br (by with_reducible repeat (first | assumption | exact bw_refl _ | apply bw_alloc | apply bw_drew | apply bw_drewN | refine bw_set _ ?_ (by omega) | refine bw_then ?_ (by assumption)))) H.out.h1 (by exact Kd.C_below K.out.br (by with_reducible repeat (first | assumption | exact bw_refl _ | apply bw_alloc | apply bw_drew | apply bw_drewN | refine bw_set _ ?_ (by omega) | refine bw_then ?_ (by assumption)))) H.out.h1).mono ?_
  rintro e w1 ⟨he, hb1⟩
  rw [show (decide (n.mesh.g = n.mesh.g) && eqL n.mesh.br n.mesh.br) = true by rw [eqL_self]; simp] at he
  subst he
  obtain ⟨hc1, hf1, hz1⟩ := bcell hb1; (try simp only [World.size_alloc, World.size_setCell, World.size_drew, sz_drewN] at hz1); have hb2 := (by first | exact bw_then hb2 hb1 | exact bw_then (bw_drewN _ hb2) hb1 | exact bw_then (bw_alloc _ hb2) hb1 | exact bw_then (bw_drew hb2) hb1 | exact bw_then HB hb1 | exact bw_then (bw_drewN _ HB) hb1 | exact bw_then (bw_alloc _ HB) hb1 | exact bw_then (bw_drew HB) hb1 | exact hb1); obtain ⟨hc2, hf2, hz2⟩ := bcell hb2; (try simp only [World.size_alloc, World.size_setCell, World.size_drew, sz_drewN] at hz2); try (first | obtain ⟨hy1, hy2, hy3, hy4⟩ := lts4 hz2 | obtain ⟨hy1, hy2, hy3⟩ := lts3 hz2 | obtain ⟨hy1, hy2⟩ := lts2 hz2 | have hy1 := lts1 hz2); have hb9 := hb1
  have za1 : w.heap.size < w1.heap.size := by omega
  have zb1 : w.heap.size + 1 < w1.heap.size := by omega
  go_wp2_with fail
  refine (laws_eqClasses n.pa n.pb q.a2 q.a3 p.a2 p.a3 q.c2 q.c3 p.c2 p.c3 _ (by exact Kd.C_below H.out.pa (by with_reducible repeat (first | assumption | exact bw_refl _ | apply bw_alloc | apply bw_drew | apply bw_drewN | refine bw_set _ ?_ (by omega) | refine bw_then ?_ (by assumption)))) H.out.h2 (by exact Kd.C_below H.out.pb (by with_reducible repeat (first | assumption | exact bw_refl _ | apply bw_alloc | apply bw_drew | apply bw_drewN | refine bw_set _ ?_ (by omega) | refine bw_then ?_ (by assumption)))) H.out.h3 (by exact Kd.C_below K.out.pa (by with_reducible repeat (first | assumption | exact bw_refl _ | apply bw_alloc | apply bw_drew | apply bw_drewN | refine bw_set _ ?_ (by omega) | refine bw_then ?_ (by assumption)))) (by exact Kd.C_below K.out.pb (by with_reducible repeat (first | assumption | exact bw_refl _ | apply bw_alloc | apply bw_drew | apply bw_drewN | refine bw_set _ ?_ (by omega) | refine bw_then ?_ (by assumption))))).mono ?_
  rintro e w2 ⟨rfl, hb1⟩
  obtain ⟨hc1, hf1, hz1⟩ := bcell hb1; (try simp only [World.size_alloc, World.size_setCell, World.size_drew, sz_drewN] at hz1); have hb2 := (by first | exact bw_then hb2 hb1 | exact bw_then (bw_drewN _ hb2) hb1 | exact bw_then (bw_alloc _ hb2) hb1 | exact bw_then (bw_drew hb2) hb1 | exact bw_then HB hb1 | exact bw_then (bw_drewN _ HB) hb1 | exact bw_then (bw_alloc _ HB) hb1 | exact bw_then (bw_drew HB) hb1 | exact hb1); obtain ⟨hc2, hf2, hz2⟩ := bcell hb2; (try simp only [World.size_alloc, World.size_setCell, World.size_drew, sz_drewN] at hz2); try (first | obtain ⟨hy1, hy2, hy3, hy4⟩ := lts4 hz2 | obtain ⟨hy1, hy2, hy3⟩ := lts3 hz2 | obtain ⟨hy1, hy2⟩ := lts2 hz2 | have hy1 := lts1 hz2); have hb9 := hb1
  have za2 : w.heap.size < w2.heap.size := by omega
  have zb2 : w.heap.size + 1 < w2.heap.size := by omega
  go_wp2_with fail
  refine (laws_eqFlitSS n.bufs q.a4 p.a4 q.c4 p.c4 _ (by exact Kd.C_below H.out.bufs (by with_reducible repeat (first | assumption | exact bw_refl _ | apply bw_alloc | apply bw_drew | apply bw_drewN | refine bw_set _ ?_ (by omega) | refine bw_then ?_ (by assumption)))) (by exact Kd.C_below K.out.bufs (by with_reducible repeat (first | assumption | exact bw_refl _ | apply bw_alloc | apply bw_drew | apply bw_drewN | refine bw_set _ ?_ (by omega) | refine bw_then ?_ (by assumption)))) H.out.h4 (Lib.hid H.out.h9)).mono ?_
  rintro e w3 ⟨rfl, hb1⟩
  obtain ⟨hc1, hf1, hz1⟩ := bcell hb1; (try simp only [World.size_alloc, World.size_setCell, World.size_drew, sz_drewN] at hz1); have hb2 := (by first | exact bw_then hb2 hb1 | exact bw_then (bw_drewN _ hb2) hb1 | exact bw_then (bw_alloc _ hb2) hb1 | exact bw_then (bw_drew hb2) hb1 | exact bw_then HB hb1 | exact bw_then (bw_drewN _ HB) hb1 | exact bw_then (bw_alloc _ HB) hb1 | exact bw_then (bw_drew HB) hb1 | exact hb1); obtain ⟨hc2, hf2, hz2⟩ := bcell hb2; (try simp only [World.size_alloc, World.size_setCell, World.size_drew, sz_drewN] at hz2); try (first | obtain ⟨hy1, hy2, hy3, hy4⟩ := lts4 hz2 | obtain ⟨hy1, hy2, hy3⟩ := lts3 hz2 | obtain ⟨hy1, hy2⟩ := lts2 hz2 | have hy1 := lts1 hz2); have hb9 := hb1
  have za3 : w.heap.size < w3.heap.size := by omega
  have zb3 : w.heap.size + 1 < w3.heap.size := by omega
  go_wp2_with fail
  refine (laws_eqIntS n.owners n.owners q.a5 p.a5 q.c5 p.c5 _ (by exact Kd.C_below H.out.owners (by with_reducible repeat (first | assumption | exact bw_refl _ | apply bw_alloc | apply bw_drew | apply bw_drewN | refine bw_set _ ?_ (by omega) | refine bw_then ?_ (by assumption)))) (by exact Kd.C_below K.out.owners (by with_reducible repeat (first | assumption | exact bw_refl _ | apply bw_alloc | apply bw_drew | apply bw_drewN | refine bw_set _ ?_ (by omega) | refine bw_then ?_ (by assumption)))) H.out.h5 H.out.h5).mono ?_
  rintro e w4 ⟨he, hb1⟩
  rw [eqL_self] at he
  subst he
  obtain ⟨hc1, hf1, hz1⟩ := bcell hb1; (try simp only [World.size_alloc, World.size_setCell, World.size_drew, sz_drewN] at hz1); have hb2 := (by first | exact bw_then hb2 hb1 | exact bw_then (bw_drewN _ hb2) hb1 | exact bw_then (bw_alloc _ hb2) hb1 | exact bw_then (bw_drew hb2) hb1 | exact bw_then HB hb1 | exact bw_then (bw_drewN _ HB) hb1 | exact bw_then (bw_alloc _ HB) hb1 | exact bw_then (bw_drew HB) hb1 | exact hb1); obtain ⟨hc2, hf2, hz2⟩ := bcell hb2; (try simp only [World.size_alloc, World.size_setCell, World.size_drew, sz_drewN] at hz2); try (first | obtain ⟨hy1, hy2, hy3, hy4⟩ := lts4 hz2 | obtain ⟨hy1, hy2, hy3⟩ := lts3 hz2 | obtain ⟨hy1, hy2⟩ := lts2 hz2 | have hy1 := lts1 hz2); have hb9 := hb1
  have za4 : w.heap.size < w4.heap.size := by omega
  have zb4 : w.heap.size + 1 < w4.heap.size := by omega
  go_wp2_with fail
  refine (laws_eqIntS n.turns n.turns q.a6 p.a6 q.c6 p.c6 _ (by exact Kd.C_below H.out.turns (by with_reducible repeat (first | assumption | exact bw_refl _ | apply bw_alloc | apply bw_drew | apply bw_drewN | refine bw_set _ ?_ (by omega) | refine bw_then ?_ (by assumption)))) (by exact Kd.C_below K.out.turns (by with_reducible repeat (first | assumption | exact bw_refl _ | apply bw_alloc | apply bw_drew | apply bw_drewN | refine bw_set _ ?_ (by omega) | refine bw_then ?_ (by assumption)))) H.out.h6 H.out.h6).mono ?_
  rintro e w5 ⟨he, hb1⟩
  rw [eqL_self] at he
  subst he
  obtain ⟨hc1, hf1, hz1⟩ := bcell hb1; (try simp only [World.size_alloc, World.size_setCell, World.size_drew, sz_drewN] at hz1); have hb2 := (by first | exact bw_then hb2 hb1 | exact bw_then (bw_drewN _ hb2) hb1 | exact bw_then (bw_alloc _ hb2) hb1 | exact bw_then (bw_drew hb2) hb1 | exact bw_then HB hb1 | exact bw_then (bw_drewN _ HB) hb1 | exact bw_then (bw_alloc _ HB) hb1 | exact bw_then (bw_drew HB) hb1 | exact hb1); obtain ⟨hc2, hf2, hz2⟩ := bcell hb2; (try simp only [World.size_alloc, World.size_setCell, World.size_drew, sz_drewN] at hz2); try (first | obtain ⟨hy1, hy2, hy3, hy4⟩ := lts4 hz2 | obtain ⟨hy1, hy2, hy3⟩ := lts3 hz2 | obtain ⟨hy1, hy2⟩ := lts2 hz2 | have hy1 := lts1 hz2); have hb9 := hb1
  have za5 : w.heap.size < w5.heap.size := by omega
  have zb5 : w.heap.size + 1 < w5.heap.size := by omega
  go_wp2_with fail
  refine (laws_eqFlitSS n.srcs q.a7 p.a7 q.c7 p.c7 _ (by exact Kd.C_below H.out.srcs (by with_reducible repeat (first | assumption | exact bw_refl _ | apply bw_alloc | apply bw_drew | apply bw_drewN | refine bw_set _ ?_ (by omega) | refine bw_then ?_ (by assumption)))) (by exact Kd.C_below K.out.srcs (by with_reducible repeat (first | assumption | exact bw_refl _ | apply bw_alloc | apply bw_drew | apply bw_drewN | refine bw_set _ ?_ (by omega) | refine bw_then ?_ (by assumption)))) H.out.h7 (Lib.hid H.out.h10)).mono ?_
  rintro e w6 ⟨rfl, hb1⟩
  obtain ⟨hc1, hf1, hz1⟩ := bcell hb1; (try simp only [World.size_alloc, World.size_setCell, World.size_drew, sz_drewN] at hz1); have hb2 := (by first | exact bw_then hb2 hb1 | exact bw_then (bw_drewN _ hb2) hb1 | exact bw_then (bw_alloc _ hb2) hb1 | exact bw_then (bw_drew hb2) hb1 | exact bw_then HB hb1 | exact bw_then (bw_drewN _ HB) hb1 | exact bw_then (bw_alloc _ HB) hb1 | exact bw_then (bw_drew HB) hb1 | exact hb1); obtain ⟨hc2, hf2, hz2⟩ := bcell hb2; (try simp only [World.size_alloc, World.size_setCell, World.size_drew, sz_drewN] at hz2); try (first | obtain ⟨hy1, hy2, hy3, hy4⟩ := lts4 hz2 | obtain ⟨hy1, hy2, hy3⟩ := lts3 hz2 | obtain ⟨hy1, hy2⟩ := lts2 hz2 | have hy1 := lts1 hz2); have hb9 := hb1
  have za6 : w.heap.size < w6.heap.size := by omega
  have zb6 : w.heap.size + 1 < w6.heap.size := by omega
  go_wp2_with fail
  refine (laws_eqFlitSS n.arrs q.a8 p.a8 q.c8 p.c8 _ (by exact Kd.C_below H.out.arrs (by with_reducible repeat (first | assumption | exact bw_refl _ | apply bw_alloc | apply bw_drew | apply bw_drewN | refine bw_set _ ?_ (by omega) | refine bw_then ?_ (by assumption)))) (by exact Kd.C_below K.out.arrs (by with_reducible repeat (first | assumption | exact bw_refl _ | apply bw_alloc | apply bw_drew | apply bw_drewN | refine bw_set _ ?_ (by omega) | refine bw_then ?_ (by assumption)))) H.out.h8 (Lib.hid H.out.h11)).mono ?_
  rintro e w7 ⟨rfl, hb1⟩
  obtain ⟨hc1, hf1, hz1⟩ := bcell hb1; (try simp only [World.size_alloc, World.size_setCell, World.size_drew, sz_drewN] at hz1); have hb2 := (by first | exact bw_then hb2 hb1 | exact bw_then (bw_drewN _ hb2) hb1 | exact bw_then (bw_alloc _ hb2) hb1 | exact bw_then (bw_drew hb2) hb1 | exact bw_then HB hb1 | exact bw_then (bw_drewN _ HB) hb1 | exact bw_then (bw_alloc _ HB) hb1 | exact bw_then (bw_drew HB) hb1 | exact hb1); obtain ⟨hc2, hf2, hz2⟩ := bcell hb2; (try simp only [World.size_alloc, World.size_setCell, World.size_drew, sz_drewN] at hz2); try (first | obtain ⟨hy1, hy2, hy3, hy4⟩ := lts4 hz2 | obtain ⟨hy1, hy2, hy3⟩ := lts3 hz2 | obtain ⟨hy1, hy2⟩ := lts2 hz2 | have hy1 := lts1 hz2); have hb9 := hb1
  have za7 : w.heap.size < w7.heap.size := by omega
  have zb7 : w.heap.size + 1 < w7.heap.size := by omega
  go_wp2
  try (go_quiet (fail); go_wp2)
  go_ret
  exact ⟨rfl, (by with_reducible repeat (first | assumption | exact bw_refl _ | apply bw_alloc | apply bw_drew | apply bw_drewN | refine bw_set _ ?_ (by omega) | refine bw_then ?_ (by assumption)))⟩
end Go.Proofs.Ytinnfahmfggghaa
