/- A law's network: its measure, and what the reading of it says of its cells. -/
import Derived.Test.YtinnfahmfggghaaNetL
import Derived.Test.YtinnfahmfggghaaOpenP
set_option linter.unusedVariables false
set_option linter.unusedSimpArgs false
namespace Go.Proofs.Ytinnfahmfggghaa
open Go.ChangeShapes Go.WideShapes Go.ChangeAt Go.RowKit Go.Proofs.YtinnfahmfggghaaW.PrintWords
open NoC

theorem szN_says {n : Nat} {left : Int} (h1 : left ≤ 1048576) (h : 0 ≤ szN n left) : n ≤ 1048576 := by
  unfold szN at h
  split at h <;> omega
theorem szFlitS_any (l : List Flit) (left : Int) (A : Option Addr) (c : Nat) (w : World) (hl : l.length ≤ 9223372036854775807) (h0 : -1 ≤ left) (h1 : left ≤ 1048576) :
    Calls Try.prog 120 #[.slice A l.length c, .int .i64 left] w fun e w' => e = .returned (.int .i64 (szN l.length left)) ∧ w = w' := by
  go_enter Try.func120, Try.ntmps120
  by_cases h : left - l.length < 0
  · go_wp2
    go_ret
    exact ⟨ret_int (by simp [szN]; omega), rfl⟩
  · go_wp2
    go_ret
    exact ⟨ret_int (by simp [szN]; omega), rfl⟩
def Sz (left : Int) (p : Prop) (w w' : World) (e : Ending) : Prop := ∃ r : Int, e = .returned (.int .i64 r) ∧ -1 ≤ r ∧ r ≤ 1048576 ∧ Hid (0 ≤ r → p) ∧ Below w.heap.size w w'
theorem laws_szMesh' (m : Mesh) (left : Int) (A : Option Addr) (c : Nat) (w : World) (hl : m.br.length ≤ 140737488355328) (h0 : -1 ≤ left) (h1 : left ≤ 1048576) :
    Calls Try.prog 58 #[.agg #[.int .i64 m.g.w, .int .i64 m.g.h, .slice A m.br.length c], .int .i64 left] w fun e w' => Sz left (m.br.length ≤ 1048576) w w' e :=
  (laws_szMesh m left A c w hl h0 h1).mono fun e w' ⟨he, hb⟩ => ⟨_, he, (szN_range h0 h1).1, (szN_range h0 h1).2, Lib.hid (szN_says h1), hb⟩
theorem laws_szClasses' (pa pb : List Int) (left : Int) (A B : Option Addr) (c d : Nat) (w : World) (hl : pa.length ≤ 140737488355328) (hm : pb.length ≤ 140737488355328) (h0 : -1 ≤ left) (h1 : left ≤ 1048576) :
    Calls Try.prog 59 #[.agg #[.slice A pa.length c, .slice B pb.length d], .int .i64 left] w fun e w' => Sz left (pa.length ≤ 1048576 ∧ pb.length ≤ 1048576) w w' e :=
  (laws_szClasses pa pb left A B c d w hl hm h0 h1).mono fun e w' ⟨he, hb⟩ => by
    have r1 := szN_range (n := pa.length) h0 h1
    have r2 := szN_range (n := pb.length) r1.1 r1.2
    refine ⟨_, he, ?_, ?_, Lib.hid ?_, hb⟩
    · unfold szClsI; split <;> omega
    · unfold szClsI; split <;> omega
    · unfold szClsI
      split
      · omega
      · intro h
        exact ⟨szN_says h1 (by omega), szN_says r1.2 h⟩
theorem laws_szIntS' (l : List Int) (left : Int) (A : Option Addr) (c : Nat) (w : World) (hl : l.length ≤ 140737488355328) (h0 : -1 ≤ left) (h1 : left ≤ 1048576) :
    Calls Try.prog 61 #[.slice A l.length c, .int .i64 left] w fun e w' => Sz left (l.length ≤ 1048576) w w' e :=
  (laws_szIntS l left A c w hl h0 h1).mono fun e w' ⟨he, hw⟩ => ⟨_, he, (szN_range h0 h1).1, (szN_range h0 h1).2, Lib.hid (szN_says h1), bw_self hw⟩
theorem C_max {α : Type} {d : Kd α} {w : World} {A : Option Addr} {n : Nat} {l : List α} (h : d.C w A n l) : n ≤ 9223372036854775807 := h.2.1
set_option maxHeartbeats 1000000 in
theorem laws_szFlitSS (l : List (List Flit)) (left : Int) (A : Option Addr) (c : Nat) (w : World) (hr : (kB 142).C w A l.length l) (h0 : -1 ≤ left) (h1 : left ≤ 1048576) :
    Calls Try.prog 60 #[.slice A l.length c, .int .i64 left] w fun e w' => Sz left (l.length ≤ 1048576 ∧ ∀ x ∈ l, x.length ≤ 1048576) w w' e := by
  have hmax := C_max hr
  go_enter Try.func60, Try.ntmps60
  by_cases h : left - l.length < 0
  · go_wp2
    go_ret
    exact ⟨-1, rfl, by omega, by omega, Lib.hid (fun h => absurd h (by omega)), (by with_reducible repeat (first | assumption | exact bw_refl _ | apply bw_alloc | apply bw_drew | apply bw_drewN | refine bw_set _ ?_ (by omega) | refine bw_then ?_ (by assumption)))⟩
  · go_wp2
    go_loopw [5, 1] (fun i r wr => ∃ (k : Nat) (x : Int), i = .int .i64 k ∧ r = .int .i64 x ∧ k ≤ l.length ∧ 0 ≤ x ∧ x ≤ 1048576 ∧ Hid (∀ j : Nat, j < k → (rl l j).length ≤ 1048576) ∧ wr = w) (fun i _ _ => l.length - (intOf i).toNat)
    case atStart => exact ⟨0, _, rfl, rfl, Nat.zero_le _, by omega, by omega, Lib.hid fun j h => absurd h (Nat.not_lt_zero _), rfl⟩
    case round =>
      obtain ⟨k, x, rfl, rfl, hk, x0, x1, HA, rfl⟩ := hrel
      by_cases hlt : k < l.length
      · obtain ⟨b, off, rfl, hb, Ai, ci, p0, hle, hCi⟩ := rdB_at hr k hlt
        have hmi := C_max hCi
        have y1 := szN_range (n := (rl l k).length) (left := x) (by omega) (by omega)
        by_cases hn : szN (rl l k).length x < 0
        · go_wp2_with (go_at_call 120; refine (szFlitS_any (rl l k) x Ai ci _ hmi (by omega) x1).mono ?_; rintro e w' ⟨rfl, rfl⟩)
          go_ret
          exact ⟨-1, rfl, by omega, by omega, Lib.hid (fun h => absurd h (by omega)), (by with_reducible repeat (first | assumption | exact bw_refl _ | apply bw_alloc | apply bw_drew | apply bw_drewN | refine bw_set _ ?_ (by omega) | refine bw_then ?_ (by assumption)))⟩
        · have hs := szN_says x1 (show 0 ≤ szN (rl l k).length x by omega)
          go_wp2_with (go_at_call 120; refine (szFlitS_any (rl l k) x Ai ci _ hmi (by omega) x1).mono ?_; rintro e w' ⟨rfl, rfl⟩)
          go_roundw
          case rel => exact ⟨k + 1, _, by go_num, rfl, by omega, by omega, by omega, Lib.hid (upto HA.out hs), by trivial⟩
          case measure => simp [intOf]; omega
      · go_wp2
        go_ret
        refine ⟨x, rfl, by omega, x1, Lib.hid (fun _ => ⟨by omega, fun y hy => ?_⟩), (by with_reducible repeat (first | assumption | exact bw_refl _ | apply bw_alloc | apply bw_drew | apply bw_drewN | refine bw_set _ ?_ (by omega) | refine bw_then ?_ (by assumption)))⟩
        obtain ⟨j, hj, rfl⟩ := List.getElem_of_mem hy
        have := HA.out j (by omega)
        simpa [rl, List.getD_eq_getElem?_getD, hj] using this
/-- A network's rows at a law's door: read; no bound yet. -/
structure NetC (w : World) (n : Net) (q : NA) : Prop where
  br : Kd.C (Kd.int .i64) w q.a1 n.mesh.br.length n.mesh.br
  pa : Kd.C (Kd.int .i64) w q.a2 n.pa.length n.pa
  pb : Kd.C (Kd.int .i64) w q.a3 n.pb.length n.pb
  bufs : (kB 142).C w q.a4 n.bufs.length n.bufs
  owners : Kd.C (Kd.int .i64) w q.a5 n.owners.length n.owners
  turns : Kd.C (Kd.int .i64) w q.a6 n.turns.length n.turns
  srcs : (kB 142).C w q.a7 n.srcs.length n.srcs
  arrs : (kB 142).C w q.a8 n.arrs.length n.arrs
  h1 : n.mesh.br.length ≤ 140737488355328
  h2 : n.pa.length ≤ 140737488355328
  h3 : n.pb.length ≤ 140737488355328
  h5 : n.owners.length ≤ 140737488355328
  h6 : n.turns.length ≤ 140737488355328
theorem NetC.below {w w1 : World} {n : Net} {q : NA} (h : NetC w n q) (hb : Below w.heap.size w w1) : NetC w1 n q :=
  ⟨Kd.C_below h.br hb, Kd.C_below h.pa hb, Kd.C_below h.pb hb, Kd.C_below h.bufs hb, Kd.C_below h.owners hb, Kd.C_below h.turns hb, Kd.C_below h.srcs hb, Kd.C_below h.arrs hb, h.h1, h.h2, h.h3, h.h5, h.h6⟩
/-- The bounds of its lengths. -/
structure NetB (n : Net) : Prop where
  h1 : n.mesh.br.length ≤ 1048576
  h2 : n.pa.length ≤ 1048576
  h3 : n.pb.length ≤ 1048576
  h4 : n.bufs.length ≤ 1048576
  h5 : n.owners.length ≤ 1048576
  h6 : n.turns.length ≤ 1048576
  h7 : n.srcs.length ≤ 1048576
  h8 : n.arrs.length ≤ 1048576
  h9 : ∀ l ∈ n.bufs, l.length ≤ 1048576
  h10 : ∀ l ∈ n.srcs, l.length ≤ 1048576
  h11 : ∀ l ∈ n.arrs, l.length ≤ 1048576
theorem NetC.bound {w : World} {n : Net} {q : NA} (h : NetC w n q) (b : NetB n) : NetR 142 w n q :=
  ⟨h.br, h.pa, h.pb, h.bufs, h.owners, h.turns, h.srcs, h.arrs, b.h1, b.h2, b.h3, b.h4, b.h5, b.h6, b.h7, b.h8, b.h9, b.h10, b.h11⟩
set_option maxHeartbeats 4000000 in
set_option maxRecDepth 100000 in
theorem laws_szNet (n : Net) (q : NA) (left : Int) (w : World) (hr : NetC w n q) (h0 : -1 ≤ left) (h1 : left ≤ 1048576) :
    Calls Try.prog 16 #[.agg (netCells n q), .int .i64 left] w fun e w' => Sz left (NetB n) w w' e := by
  have H := Lib.hid hr
  clear hr
  unfold netCells
  go_enter Try.func16, Try.ntmps16
  go_wp2_with fail
  refine (laws_szMesh' n.mesh left q.a1 q.c1 _ H.out.h1 h0 h1).mono ?_
  rintro e w1 ⟨r1, rfl, x1, y1, K1, hb1⟩
  obtain ⟨hc1, hf1, hz1⟩ := bcell hb1; (try simp only [World.size_alloc, World.size_setCell, World.size_drew, sz_drewN] at hz1); have hb2 := (by first | exact bw_then hb2 hb1 | exact bw_then (bw_drewN _ hb2) hb1 | exact bw_then (bw_alloc _ hb2) hb1 | exact bw_then (bw_drew hb2) hb1 | exact bw_then HB hb1 | exact bw_then (bw_drewN _ HB) hb1 | exact bw_then (bw_alloc _ HB) hb1 | exact bw_then (bw_drew HB) hb1 | exact hb1); obtain ⟨hc2, hf2, hz2⟩ := bcell hb2; (try simp only [World.size_alloc, World.size_setCell, World.size_drew, sz_drewN] at hz2); try (first | obtain ⟨hy1, hy2, hy3, hy4⟩ := lts4 hz2 | obtain ⟨hy1, hy2, hy3⟩ := lts3 hz2 | obtain ⟨hy1, hy2⟩ := lts2 hz2 | have hy1 := lts1 hz2); have hb9 := hb1
  by_cases n1 : r1 < 0
  · go_wp2
    go_ret
    exact ⟨-1, rfl, by omega, by omega, Lib.hid (fun h => absurd h (by omega)), (by with_reducible repeat (first | assumption | exact bw_refl _ | apply bw_alloc | apply bw_drew | apply bw_drewN | refine bw_set _ ?_ (by omega) | refine bw_then ?_ (by assumption)))⟩
  go_wp2_with fail
  refine (laws_szClasses' n.pa n.pb r1 q.a2 q.a3 q.c2 q.c3 _ H.out.h2 H.out.h3 x1 y1).mono ?_
  rintro e w2 ⟨r2, rfl, x2, y2, K2, hb1⟩
  obtain ⟨hc1, hf1, hz1⟩ := bcell hb1; (try simp only [World.size_alloc, World.size_setCell, World.size_drew, sz_drewN] at hz1); have hb2 := (by first | exact bw_then hb2 hb1 | exact bw_then (bw_drewN _ hb2) hb1 | exact bw_then (bw_alloc _ hb2) hb1 | exact bw_then (bw_drew hb2) hb1 | exact bw_then HB hb1 | exact bw_then (bw_drewN _ HB) hb1 | exact bw_then (bw_alloc _ HB) hb1 | exact bw_then (bw_drew HB) hb1 | exact hb1); obtain ⟨hc2, hf2, hz2⟩ := bcell hb2; (try simp only [World.size_alloc, World.size_setCell, World.size_drew, sz_drewN] at hz2); try (first | obtain ⟨hy1, hy2, hy3, hy4⟩ := lts4 hz2 | obtain ⟨hy1, hy2, hy3⟩ := lts3 hz2 | obtain ⟨hy1, hy2⟩ := lts2 hz2 | have hy1 := lts1 hz2); have hb9 := hb1
  by_cases n2 : r2 < 0
  · go_wp2
    go_ret
    exact ⟨-1, rfl, by omega, by omega, Lib.hid (fun h => absurd h (by omega)), (by with_reducible repeat (first | assumption | exact bw_refl _ | apply bw_alloc | apply bw_drew | apply bw_drewN | refine bw_set _ ?_ (by omega) | refine bw_then ?_ (by assumption)))⟩
  go_wp2_with fail
  refine (laws_szFlitSS n.bufs r2 q.a4 q.c4 _ (by exact Kd.C_below H.out.bufs (by with_reducible repeat (first | assumption | exact bw_refl _ | apply bw_alloc | apply bw_drew | apply bw_drewN | refine bw_set _ ?_ (by omega) | refine bw_then ?_ (by assumption)))) x2 y2).mono ?_
  rintro e w3 ⟨r3, rfl, x3, y3, K3, hb1⟩
  obtain ⟨hc1, hf1, hz1⟩ := bcell hb1; (try simp only [World.size_alloc, World.size_setCell, World.size_drew, sz_drewN] at hz1); have hb2 := (by first | exact bw_then hb2 hb1 | exact bw_then (bw_drewN _ hb2) hb1 | exact bw_then (bw_alloc _ hb2) hb1 | exact bw_then (bw_drew hb2) hb1 | exact bw_then HB hb1 | exact bw_then (bw_drewN _ HB) hb1 | exact bw_then (bw_alloc _ HB) hb1 | exact bw_then (bw_drew HB) hb1 | exact hb1); obtain ⟨hc2, hf2, hz2⟩ := bcell hb2; (try simp only [World.size_alloc, World.size_setCell, World.size_drew, sz_drewN] at hz2); try (first | obtain ⟨hy1, hy2, hy3, hy4⟩ := lts4 hz2 | obtain ⟨hy1, hy2, hy3⟩ := lts3 hz2 | obtain ⟨hy1, hy2⟩ := lts2 hz2 | have hy1 := lts1 hz2); have hb9 := hb1
  by_cases n3 : r3 < 0
  · go_wp2
    go_ret
    exact ⟨-1, rfl, by omega, by omega, Lib.hid (fun h => absurd h (by omega)), (by with_reducible repeat (first | assumption | exact bw_refl _ | apply bw_alloc | apply bw_drew | apply bw_drewN | refine bw_set _ ?_ (by omega) | refine bw_then ?_ (by assumption)))⟩
  go_wp2_with fail
  refine (laws_szIntS' n.owners r3 q.a5 q.c5 _ H.out.h5 x3 y3).mono ?_
  rintro e w4 ⟨r4, rfl, x4, y4, K4, hb1⟩
  obtain ⟨hc1, hf1, hz1⟩ := bcell hb1; (try simp only [World.size_alloc, World.size_setCell, World.size_drew, sz_drewN] at hz1); have hb2 := (by first | exact bw_then hb2 hb1 | exact bw_then (bw_drewN _ hb2) hb1 | exact bw_then (bw_alloc _ hb2) hb1 | exact bw_then (bw_drew hb2) hb1 | exact bw_then HB hb1 | exact bw_then (bw_drewN _ HB) hb1 | exact bw_then (bw_alloc _ HB) hb1 | exact bw_then (bw_drew HB) hb1 | exact hb1); obtain ⟨hc2, hf2, hz2⟩ := bcell hb2; (try simp only [World.size_alloc, World.size_setCell, World.size_drew, sz_drewN] at hz2); try (first | obtain ⟨hy1, hy2, hy3, hy4⟩ := lts4 hz2 | obtain ⟨hy1, hy2, hy3⟩ := lts3 hz2 | obtain ⟨hy1, hy2⟩ := lts2 hz2 | have hy1 := lts1 hz2); have hb9 := hb1
  by_cases n4 : r4 < 0
  · go_wp2
    go_ret
    exact ⟨-1, rfl, by omega, by omega, Lib.hid (fun h => absurd h (by omega)), (by with_reducible repeat (first | assumption | exact bw_refl _ | apply bw_alloc | apply bw_drew | apply bw_drewN | refine bw_set _ ?_ (by omega) | refine bw_then ?_ (by assumption)))⟩
  go_wp2_with fail
  refine (laws_szIntS' n.turns r4 q.a6 q.c6 _ H.out.h6 x4 y4).mono ?_
  rintro e w5 ⟨r5, rfl, x5, y5, K5, hb1⟩
  obtain ⟨hc1, hf1, hz1⟩ := bcell hb1; (try simp only [World.size_alloc, World.size_setCell, World.size_drew, sz_drewN] at hz1); have hb2 := (by first | exact bw_then hb2 hb1 | exact bw_then (bw_drewN _ hb2) hb1 | exact bw_then (bw_alloc _ hb2) hb1 | exact bw_then (bw_drew hb2) hb1 | exact bw_then HB hb1 | exact bw_then (bw_drewN _ HB) hb1 | exact bw_then (bw_alloc _ HB) hb1 | exact bw_then (bw_drew HB) hb1 | exact hb1); obtain ⟨hc2, hf2, hz2⟩ := bcell hb2; (try simp only [World.size_alloc, World.size_setCell, World.size_drew, sz_drewN] at hz2); try (first | obtain ⟨hy1, hy2, hy3, hy4⟩ := lts4 hz2 | obtain ⟨hy1, hy2, hy3⟩ := lts3 hz2 | obtain ⟨hy1, hy2⟩ := lts2 hz2 | have hy1 := lts1 hz2); have hb9 := hb1
  by_cases n5 : r5 < 0
  · go_wp2
    go_ret
    exact ⟨-1, rfl, by omega, by omega, Lib.hid (fun h => absurd h (by omega)), (by with_reducible repeat (first | assumption | exact bw_refl _ | apply bw_alloc | apply bw_drew | apply bw_drewN | refine bw_set _ ?_ (by omega) | refine bw_then ?_ (by assumption)))⟩
  go_wp2_with fail
  refine (laws_szFlitSS n.srcs r5 q.a7 q.c7 _ (by exact Kd.C_below H.out.srcs (by with_reducible repeat (first | assumption | exact bw_refl _ | apply bw_alloc | apply bw_drew | apply bw_drewN | refine bw_set _ ?_ (by omega) | refine bw_then ?_ (by assumption)))) x5 y5).mono ?_
  rintro e w6 ⟨r6, rfl, x6, y6, K6, hb1⟩
  obtain ⟨hc1, hf1, hz1⟩ := bcell hb1; (try simp only [World.size_alloc, World.size_setCell, World.size_drew, sz_drewN] at hz1); have hb2 := (by first | exact bw_then hb2 hb1 | exact bw_then (bw_drewN _ hb2) hb1 | exact bw_then (bw_alloc _ hb2) hb1 | exact bw_then (bw_drew hb2) hb1 | exact bw_then HB hb1 | exact bw_then (bw_drewN _ HB) hb1 | exact bw_then (bw_alloc _ HB) hb1 | exact bw_then (bw_drew HB) hb1 | exact hb1); obtain ⟨hc2, hf2, hz2⟩ := bcell hb2; (try simp only [World.size_alloc, World.size_setCell, World.size_drew, sz_drewN] at hz2); try (first | obtain ⟨hy1, hy2, hy3, hy4⟩ := lts4 hz2 | obtain ⟨hy1, hy2, hy3⟩ := lts3 hz2 | obtain ⟨hy1, hy2⟩ := lts2 hz2 | have hy1 := lts1 hz2); have hb9 := hb1
  by_cases n6 : r6 < 0
  · go_wp2
    go_ret
    exact ⟨-1, rfl, by omega, by omega, Lib.hid (fun h => absurd h (by omega)), (by with_reducible repeat (first | assumption | exact bw_refl _ | apply bw_alloc | apply bw_drew | apply bw_drewN | refine bw_set _ ?_ (by omega) | refine bw_then ?_ (by assumption)))⟩
  go_wp2_with fail
  refine (laws_szFlitSS n.arrs r6 q.a8 q.c8 _ (by exact Kd.C_below H.out.arrs (by with_reducible repeat (first | assumption | exact bw_refl _ | apply bw_alloc | apply bw_drew | apply bw_drewN | refine bw_set _ ?_ (by omega) | refine bw_then ?_ (by assumption)))) x6 y6).mono ?_
  rintro e w7 ⟨r7, rfl, x7, y7, K7, hb1⟩
  obtain ⟨hc1, hf1, hz1⟩ := bcell hb1; (try simp only [World.size_alloc, World.size_setCell, World.size_drew, sz_drewN] at hz1); have hb2 := (by first | exact bw_then hb2 hb1 | exact bw_then (bw_drewN _ hb2) hb1 | exact bw_then (bw_alloc _ hb2) hb1 | exact bw_then (bw_drew hb2) hb1 | exact bw_then HB hb1 | exact bw_then (bw_drewN _ HB) hb1 | exact bw_then (bw_alloc _ HB) hb1 | exact bw_then (bw_drew HB) hb1 | exact hb1); obtain ⟨hc2, hf2, hz2⟩ := bcell hb2; (try simp only [World.size_alloc, World.size_setCell, World.size_drew, sz_drewN] at hz2); try (first | obtain ⟨hy1, hy2, hy3, hy4⟩ := lts4 hz2 | obtain ⟨hy1, hy2, hy3⟩ := lts3 hz2 | obtain ⟨hy1, hy2⟩ := lts2 hz2 | have hy1 := lts1 hz2); have hb9 := hb1
  by_cases n7 : r7 < 0
  · go_wp2
    go_ret
    exact ⟨-1, rfl, by omega, by omega, Lib.hid (fun h => absurd h (by omega)), (by with_reducible repeat (first | assumption | exact bw_refl _ | apply bw_alloc | apply bw_drew | apply bw_drewN | refine bw_set _ ?_ (by omega) | refine bw_then ?_ (by assumption)))⟩
  go_wp2
  go_ret
  exact ⟨r7, rfl, x7, y7, Lib.hid (fun _ => ⟨K1.out (by omega), (K2.out (by omega)).1, (K2.out (by omega)).2, (K3.out (by omega)).1, K4.out (by omega), K5.out (by omega), (K6.out (by omega)).1, (K7.out (by omega)).1, (K3.out (by omega)).2, (K6.out (by omega)).2, (K7.out (by omega)).2⟩), (by with_reducible repeat (first | assumption | exact bw_refl _ | apply bw_alloc | apply bw_drew | apply bw_drewN | refine bw_set _ ?_ (by omega) | refine bw_then ?_ (by assumption)))⟩
section
variable {H : Type} {enc : TypeId × Value → H} {W : World} {base : Nat} {spare : Nat → Bool} {held : Bool} {fuel : Nat} {cs : List Value} {x : DataW H × List MemPlace}
theorem op_bool (h : DataW.trod enc Try.prog W base spare held fuel 4 cs = some x) : ∃ b, cs = [.bool b] := by
  obtain ⟨b, h, _⟩ := DataW.trod_bool Try.underlying4 h
  exact ⟨b, h⟩
theorem op_flit0 (h : DataW.trod enc Try.prog W base spare held fuel 165 cs = some x) : ∃ p : Flit, cs = fCells p := by
  obtain ⟨hlen, hf⟩ := op_fields0 Try.underlying165 h
  rw [show Try.prog.cellsOf 165 = 5 by kernel_rfl] at hlen
  obtain ⟨a0, a1, a2, a3, a4, rfl⟩ : ∃ a0 a1 a2 a3 a4, cs = [a0, a1, a2, a3, a4] := len5 hlen
  obtain ⟨n0, y0, h0⟩ := hf 0 _ rfl
  obtain ⟨n1, y1, h1⟩ := hf 1 _ rfl
  obtain ⟨n2, y2, h2⟩ := hf 2 _ rfl
  obtain ⟨n3, y3, h3⟩ := hf 3 _ rfl
  obtain ⟨n4, y4, h4⟩ := hf 4 _ rfl
  simp only [List.getElem_toArray, List.getElem_cons_zero, List.getElem_cons_succ] at h0 h1 h2 h3 h4
  rw [show Try.prog.cellsOf 3 = 1 by kernel_rfl] at h0 h1 h2
  rw [show Try.prog.cellsOf 4 = 1 by kernel_rfl] at h3 h4
  obtain ⟨i0, e0⟩ := op_int h0
  obtain ⟨i1, e1⟩ := op_int h1
  obtain ⟨i2, e2⟩ := op_int h2
  obtain ⟨i3, e3⟩ := op_bool h3
  obtain ⟨i4, e4⟩ := op_bool h4
  simp at e0 e1 e2 e3 e4
  subst e0 e1 e2 e3 e4
  exact ⟨⟨i0, i1, i2, i3, i4⟩, rfl⟩
/-- A row of records inside another row: no weight asked. -/
theorem op_rows0 {α : Type} {n : Nat} {en : α → List Value} {hl : ∀ x, (en x).length = n} {h1 : ∀ x, ∀ u ∈ en x, u.oneCell' = true} {t e : TypeId} (ht : Try.prog.underlying t = some (.slice e)) (hc : Try.prog.cellsOf e = n)
    (hel : ∀ {fuel : Nat} {cs : List Value} {x : DataW H × List MemPlace}, DataW.trod enc Try.prog W base spare held fuel e cs = some x → ∃ p, cs = en p)
    (h : DataW.trod enc Try.prog W base spare held fuel t cs = some x) :
    ∃ A c, ∃ l : List α, cs = [.slice A l.length c] ∧ l.length ≤ c ∧ (Kd.flat n en hl h1).C W A l.length l := by
  rcases DataW.trod_slice ht h with ⟨rfl, _⟩ | ⟨a, len, cap, elems, rest, k, _, rfl, hx, hb, hle, hm, hlen, hels, _, _⟩
  · exact ⟨none, 0, [], rfl, Nat.le_refl _, ⟨rfl, by simp, fun h => absurd h (by simp)⟩⟩
  · obtain ⟨l, hll, hq⟩ := build_list (Q := fun i p => W.cells? base (a.add (i * n)) n = some (en p)) len (fun i hi => by
      have e := hels i hi
      rw [List.getElem?_eq_getElem (by omega), Option.bind_eq_some_iff] at e
      obtain ⟨c', hc', hd⟩ := e
      obtain ⟨p, rfl⟩ := hel hd
      rw [hc] at hc'
      exact ⟨p, hc'⟩)
    subst hll
    refine ⟨some a, cap, l, rfl, hle, ⟨rfl, by simp only [maxLen] at hm; omega, fun _ => ⟨a, rfl, ?_⟩⟩⟩
    intro j p hj
    refine ⟨en p, hl p, rfl, fun i u hi => ?_⟩
    have h2 := hq j p hj
    have hin : i < n := by
      have := (List.getElem?_eq_some_iff.1 hi).1
      rwa [hl] at this
    have h3 := (World.cells?_some h2).2.2 i hin
    rw [add_add] at h3
    show W.cell? (a.add (j * n + i)) = some u
    rw [h3, hi]
theorem op_flits0 (h : DataW.trod enc Try.prog W base spare held fuel 138 cs = some x) : ∃ A c, ∃ l : List Flit, cs = [.slice A l.length c] ∧ l.length ≤ c ∧ kF.C W A l.length l :=
  op_rows0 Try.underlying138 (by kernel_rfl) (fun h => op_flit0 h) h
/-- A row of rows of flits. -/
theorem op_flitss (h : DataW.trod enc Try.prog W base spare held fuel 44 cs = some x) : ∃ A c, ∃ l : List (List Flit), cs = [.slice A l.length c] ∧ (kB 142).C W A l.length l := by
  rcases DataW.trod_slice Try.underlying44 h with ⟨rfl, _⟩ | ⟨a, len, cap, elems, rest, k, _, rfl, hx, hb, hle, hm, hlen, hels, _, _⟩
  · exact ⟨none, 0, [], rfl, ⟨rfl, by simp, fun h => absurd h (by simp)⟩⟩
  · obtain ⟨l, hll, hq⟩ := build_list (Q := fun i (p : List Flit) => ∃ A c, W.cells? base (a.add (i * 1)) 1 = some [.slice A p.length c] ∧ p.length ≤ c ∧ kF.C W A p.length p) len (fun i hi => by
      have e := hels i hi
      rw [List.getElem?_eq_getElem (by omega), Option.bind_eq_some_iff] at e
      obtain ⟨c', hc', hd⟩ := e
      obtain ⟨A, c, p, rfl, hpc, hC⟩ := op_flits0 hd
      rw [show Try.prog.cellsOf 138 = 1 by kernel_rfl] at hc'
      exact ⟨p, A, c, hc', hpc, hC⟩)
    subst hll
    refine ⟨some a, cap, l, rfl, ⟨rfl, by simp only [maxLen] at hm; omega, fun _ => ⟨a, rfl, ?_⟩⟩⟩
    intro j p hj
    obtain ⟨A, c, h2, hpc, hC⟩ := hq j p hj
    refine ⟨[.slice A p.length c], rfl, ⟨A, c, rfl, hpc, hC⟩, fun i u hi => ?_⟩
    have hin : i < 1 := by
      have := (List.getElem?_eq_some_iff.1 hi).1
      simpa using this
    have h3 := (World.cells?_some h2).2.2 i hin
    rw [add_add] at h3
    show W.cell? (a.add (j * 1 + i)) = some u
    rw [h3, hi]
theorem len8 {α : Type} {l : List α} (h : l.length = 11) : ∃ a b c d e f g i j k m, l = [a, b, c, d, e, f, g, i, j, k, m] := by match l, h with | [a, b, c, d, e, f, g, i, j, k, m], _ => exact ⟨a, b, c, d, e, f, g, i, j, k, m, rfl⟩
set_option maxHeartbeats 1000000 in
/-- A network at a law's door. -/
theorem op_net (h : DataW.trod enc Try.prog W base spare held fuel 46 cs = some x) (hl : Light 46 x.1) : ∃ (n : Net) (q : NA), cs = (netCells n q).toList ∧ NetC W n q := by
  obtain ⟨hlen, hf⟩ := op_fields Try.underlying46 h hl
  rw [show Try.prog.cellsOf 46 = 11 by kernel_rfl] at hlen
  obtain ⟨a0, a1, a2, a3, a4, a5, a6, a7, a8, a9, a10, rfl⟩ := len8 hlen
  obtain ⟨n0, y0, h0, l0⟩ := hf 0 _ rfl
  simp only [List.getElem_toArray, List.getElem_cons_zero, List.getElem_cons_succ] at h0 l0
  rw [show Try.prog.cellsOf 40 = 3 by kernel_rfl] at h0
  obtain ⟨n1, y1, h1, l1⟩ := hf 1 _ rfl
  simp only [List.getElem_toArray, List.getElem_cons_zero, List.getElem_cons_succ] at h1 l1
  rw [show Try.prog.cellsOf 43 = 2 by kernel_rfl] at h1
  obtain ⟨n2, y2, h2, l2⟩ := hf 2 _ rfl
  simp only [List.getElem_toArray, List.getElem_cons_zero, List.getElem_cons_succ] at h2 l2
  rw [show Try.prog.cellsOf 44 = 1 by kernel_rfl] at h2
  obtain ⟨n3, y3, h3, l3⟩ := hf 3 _ rfl
  simp only [List.getElem_toArray, List.getElem_cons_zero, List.getElem_cons_succ] at h3 l3
  rw [show Try.prog.cellsOf 24 = 1 by kernel_rfl] at h3
  obtain ⟨n4, y4, h4, l4⟩ := hf 4 _ rfl
  simp only [List.getElem_toArray, List.getElem_cons_zero, List.getElem_cons_succ] at h4 l4
  rw [show Try.prog.cellsOf 24 = 1 by kernel_rfl] at h4
  obtain ⟨n5, y5, h5, l5⟩ := hf 5 _ rfl
  simp only [List.getElem_toArray, List.getElem_cons_zero, List.getElem_cons_succ] at h5 l5
  rw [show Try.prog.cellsOf 44 = 1 by kernel_rfl] at h5
  obtain ⟨n6, y6, h6, l6⟩ := hf 6 _ rfl
  simp only [List.getElem_toArray, List.getElem_cons_zero, List.getElem_cons_succ] at h6 l6
  rw [show Try.prog.cellsOf 44 = 1 by kernel_rfl] at h6
  obtain ⟨n7, y7, h7, l7⟩ := hf 7 _ rfl
  simp only [List.getElem_toArray, List.getElem_cons_zero, List.getElem_cons_succ] at h7 l7
  rw [show Try.prog.cellsOf 3 = 1 by kernel_rfl] at h7
  obtain ⟨m, A1, c1, e0, hr1, hn1⟩ := op_mesh h0 l0
  simp at e0
  obtain ⟨rfl, rfl, rfl⟩ := e0
  obtain ⟨A2, c2, pa, A3, c3, pb, e1, hr2, hn2, hr3, hn3⟩ := op_classes h1 l1
  simp at e1
  obtain ⟨rfl, rfl⟩ := e1
  obtain ⟨A4, c4, bufs, e2, hr4⟩ := op_flitss h2
  obtain ⟨A5, c5, owners, e3, hr5, hn5⟩ := op_ints h3 l3
  obtain ⟨A6, c6, turns, e4, hr6, hn6⟩ := op_ints h4 l4
  obtain ⟨A7, c7, srcs, e5, hr7⟩ := op_flitss h5
  obtain ⟨A8, c8, arrs, e6, hr8⟩ := op_flitss h6
  obtain ⟨tm, e7⟩ := op_int h7
  simp at e2 e3 e4 e5 e6 e7
  subst e2 e3 e4 e5 e6 e7
  exact ⟨⟨m, pa, pb, bufs, owners, turns, srcs, arrs, tm⟩, ⟨A1, A2, A3, A4, A5, A6, A7, A8, c1, c2, c3, c4, c5, c6, c7, c8⟩, rfl, ⟨hr1, hr2, hr3, hr4, hr5, hr6, hr7, hr8, hn1, hn2, hn3, hn5, hn6⟩⟩
end
end Go.Proofs.Ytinnfahmfggghaa
