/- Lemmas for laws of this seat, for all inputs: NetS NetM NetK. -/
import Derived.Test.YteeebfeljjghhaaG4
import Derived.Test.YteeebfeljjghhaaG11
import Derived.Test.YteeebfeljjghhaaG6
/- A law's network: its measure, and what the reading of it says of its cells. -/
set_option linter.unusedVariables false
set_option linter.unusedSimpArgs false
namespace Go.Proofs.Yteeebfeljjghhaa
open Go.ChangeShapes Go.WideShapes Go.ChangeAt Go.RowKit Go.Proofs.YteeebfeljjghhaaW.PrintWords
open NoC

theorem szN_says {n : Nat} {left : Int} (h1 : left ≤ 2097152) (h : 0 ≤ szN n left) : n ≤ 2097152 := by
  unfold szN at h
  split at h <;> omega
theorem szFlitS_any (l : List Flit) (left : Int) (A : Option Addr) (c : Nat) (w : World) (hl : l.length ≤ 9223372036854775807) (h0 : -1 ≤ left) (h1 : left ≤ 2097152) :
    Calls Try.prog 40 #[.slice A l.length c, .int .i64 left] w fun e w' => e = .returned (.int .i64 (szN l.length left)) ∧ w = w' := by
  go_enter Try.func40, Try.ntmps40
  by_cases h : left - l.length < 0
  · go_wp2
    go_ret
    exact ⟨ret_int (by simp [szN]; omega), rfl⟩
  · go_wp2
    go_ret
    exact ⟨ret_int (by simp [szN]; omega), rfl⟩
theorem szN_le {n : Nat} {left : Int} (h0 : -1 ≤ left) : szN n left ≤ left := by
  unfold szN
  split <;> omega
theorem szN_fits {n : Nat} {left : Int} (h : 0 ≤ szN n left) : (n : Int) ≤ left := by
  unfold szN at h
  split at h <;> omega
def Sz (left : Int) (p : Prop) (w w' : World) (e : Ending) : Prop := ∃ r : Int, e = .returned (.int .i64 r) ∧ -1 ≤ r ∧ r ≤ left ∧ Hid (0 ≤ r → p) ∧ Below w.heap.size w w'
theorem laws_szMesh' (m : Mesh) (left : Int) (A : Option Addr) (c : Nat) (w : World) (hl : m.br.length ≤ 140737488355328) (h0 : -1 ≤ left) (h1 : left ≤ 2097152) :
    Calls Try.prog 12 #[.agg #[.int .i64 m.g.w, .int .i64 m.g.h, .slice A m.br.length c], .int .i64 left] w fun e w' => Sz left (m.br.length ≤ 2097152) w w' e :=
  (laws_szMesh m left A c w hl h0 h1).mono fun e w' ⟨he, hb⟩ => ⟨_, he, (szN_range h0 h1).1, szN_le h0, Lib.hid (szN_says h1), hb⟩
theorem laws_szClasses' (pa pb : List Int) (left : Int) (A B : Option Addr) (c d : Nat) (w : World) (hl : pa.length ≤ 140737488355328) (hm : pb.length ≤ 140737488355328) (h0 : -1 ≤ left) (h1 : left ≤ 2097152) :
    Calls Try.prog 13 #[.agg #[.slice A pa.length c, .slice B pb.length d], .int .i64 left] w fun e w' => Sz left (pa.length ≤ 2097152 ∧ pb.length ≤ 2097152) w w' e :=
  (laws_szClasses pa pb left A B c d w hl hm h0 h1).mono fun e w' ⟨he, hb⟩ => by
    have r1 := szN_range (n := pa.length) h0 h1
    have r2 := szN_range (n := pb.length) r1.1 r1.2
    have s1 := szN_le (n := pa.length) h0
    have s2 := szN_le (n := pb.length) r1.1
    refine ⟨_, he, ?_, ?_, Lib.hid ?_, hb⟩
    · unfold szClsI; split <;> omega
    · unfold szClsI; split <;> omega
    · unfold szClsI
      split
      · omega
      · intro h
        exact ⟨szN_says h1 (by omega), szN_says r1.2 h⟩
theorem laws_szIntS' (l : List Int) (left : Int) (A : Option Addr) (c : Nat) (w : World) (hl : l.length ≤ 140737488355328) (h0 : -1 ≤ left) (h1 : left ≤ 2097152) :
    Calls Try.prog 15 #[.slice A l.length c, .int .i64 left] w fun e w' => Sz left (l.length ≤ 2097152) w w' e :=
  (laws_szIntS l left A c w hl h0 h1).mono fun e w' ⟨he, hw⟩ => ⟨_, he, (szN_range h0 h1).1, szN_le h0, Lib.hid (szN_says h1), bw_self hw⟩
theorem C_max {α : Type} {d : Kd α} {w : World} {A : Option Addr} {n : Nat} {l : List α} (h : d.C w A n l) : n ≤ 9223372036854775807 := h.2.1
set_option maxHeartbeats 1000000 in
theorem laws_szFlitSS (l : List (List Flit)) (left : Int) (A : Option Addr) (c : Nat) (w : World) (hr : (kB 83).C w A l.length l) (h0 : -1 ≤ left) (h1 : left ≤ 2097152) :
    Calls Try.prog 14 #[.slice A l.length c, .int .i64 left] w fun e w' => Sz left (l.length ≤ 2097152 ∧ (∀ x ∈ l, x.length ≤ 2097152) ∧ ∀ x ∈ l, (x.length : Int) ≤ left) w w' e := by
  have hmax := C_max hr
  go_enter Try.func14, Try.ntmps14
  by_cases h : left - l.length < 0
  · go_wp2
    go_ret
    exact ⟨-1, rfl, by omega, by omega, Lib.hid (fun h => absurd h (by omega)), bel⟩
  · go_wp2
    go_loopw [5, 1] (fun i r wr => ∃ (k : Nat) (x : Int), i = .int .i64 k ∧ r = .int .i64 x ∧ k ≤ l.length ∧ 0 ≤ x ∧ x ≤ left ∧ Hid (∀ j : Nat, j < k → ((rl l j).length : Int) ≤ left) ∧ wr = w) (fun i _ _ => l.length - (intOf i).toNat)
    case atStart => exact ⟨0, _, rfl, rfl, Nat.zero_le _, by omega, by omega, Lib.hid fun j h => absurd h (Nat.not_lt_zero _), rfl⟩
    case round =>
      obtain ⟨k, x, rfl, rfl, hk, x0, x1, HA, rfl⟩ := hrel
      by_cases hlt : k < l.length
      · obtain ⟨b, off, rfl, hb, Ai, ci, p0, hle, hCi⟩ := rdB_at hr k hlt
        have hmi := C_max hCi
        have y1 := szN_range (n := (rl l k).length) (left := x) (by omega) (by omega)
        by_cases hn : szN (rl l k).length x < 0
        · go_wp2_with (go_at_call 40; refine (szFlitS_any (rl l k) x Ai ci _ hmi (by omega) (by omega)).mono ?_; rintro e w' ⟨rfl, rfl⟩)
          go_ret
          exact ⟨-1, rfl, by omega, by omega, Lib.hid (fun h => absurd h (by omega)), bel⟩
        · have hs := szN_fits (show 0 ≤ szN (rl l k).length x by omega)
          have hle2 := szN_le (n := (rl l k).length) (left := x) (by omega)
          have HS2 : Hid (∀ j : Nat, j < k + 1 → ((rl l j).length : Int) ≤ left) := Lib.hid (fun j hj => by
            rcases Nat.lt_or_ge j k with h1 | h1
            · exact HA.out j h1
            · obtain rfl : j = k := by omega
              omega)
          go_wp2_with (go_at_call 40; refine (szFlitS_any (rl l k) x Ai ci _ hmi (by omega) (by omega)).mono ?_; rintro e w' ⟨rfl, rfl⟩)
          go_roundw
          case rel => exact ⟨k + 1, _, by go_num, rfl, by omega, by omega, by omega, Lib.hid HS2.out, by trivial⟩
          case measure => simp [intOf]; omega
      · go_wp2
        go_ret
        have hall : ∀ y ∈ l, (y.length : Int) ≤ left := fun y hy => by
          obtain ⟨j, hj, rfl⟩ := List.getElem_of_mem hy
          have := HA.out j (by omega)
          simpa [rl, List.getD_eq_getElem?_getD, hj] using this
        exact ⟨x, rfl, by omega, x1, Lib.hid (fun _ => ⟨by omega, fun y hy => by have := hall y hy; omega, hall⟩), bel⟩
structure NetC (w : World) (n : Net) (q : NA) : Prop where
  br : Kd.C (Kd.int .i64) w q.a1 n.mesh.br.length n.mesh.br
  pa : Kd.C (Kd.int .i64) w q.a2 n.pa.length n.pa
  pb : Kd.C (Kd.int .i64) w q.a3 n.pb.length n.pb
  bufs : (kB 83).C w q.a4 n.bufs.length n.bufs
  owners : Kd.C (Kd.int .i64) w q.a5 n.owners.length n.owners
  turns : Kd.C (Kd.int .i64) w q.a6 n.turns.length n.turns
  srcs : (kB 83).C w q.a7 n.srcs.length n.srcs
  arrs : (kB 83).C w q.a8 n.arrs.length n.arrs
  h1 : n.mesh.br.length ≤ 140737488355328
  h2 : n.pa.length ≤ 140737488355328
  h3 : n.pb.length ≤ 140737488355328
  h5 : n.owners.length ≤ 140737488355328
  h6 : n.turns.length ≤ 140737488355328
theorem NetC.below {w w1 : World} {n : Net} {q : NA} (h : NetC w n q) (hb : Below w.heap.size w w1) : NetC w1 n q :=
  ⟨Kd.C_below h.br hb, Kd.C_below h.pa hb, Kd.C_below h.pb hb, Kd.C_below h.bufs hb, Kd.C_below h.owners hb, Kd.C_below h.turns hb, Kd.C_below h.srcs hb, Kd.C_below h.arrs hb, h.h1, h.h2, h.h3, h.h5, h.h6⟩
structure NetB (n : Net) : Prop where
  h1 : n.mesh.br.length ≤ 2097152
  h2 : n.pa.length ≤ 2097152
  h3 : n.pb.length ≤ 2097152
  h4 : n.bufs.length ≤ 2097152
  h5 : n.owners.length ≤ 2097152
  h6 : n.turns.length ≤ 2097152
  h7 : n.srcs.length ≤ 2097152
  h8 : n.arrs.length ≤ 2097152
  h9 : ∀ l ∈ n.bufs, l.length ≤ 2097152
  h10 : ∀ l ∈ n.srcs, l.length ≤ 2097152
  h11 : ∀ l ∈ n.arrs, l.length ≤ 2097152
theorem NetC.bound {w : World} {n : Net} {q : NA} (h : NetC w n q) (b : NetB n) : NetR 83 w n q :=
  ⟨h.br, h.pa, h.pb, h.bufs, h.owners, h.turns, h.srcs, h.arrs, b.h1, b.h2, b.h3, b.h4, b.h5, b.h6, b.h7, b.h8, b.h9, b.h10, b.h11⟩
set_option maxHeartbeats 4000000 in
set_option maxRecDepth 100000 in
theorem laws_szNet (n : Net) (q : NA) (left : Int) (w : World) (hr : NetC w n q) (h0 : -1 ≤ left) (h1 : left ≤ 2097152) :
    Calls Try.prog 4 #[.agg (netCells n q), .int .i64 left] w fun e w' => Sz left (NetB n ∧ ∀ l ∈ n.arrs, (l.length : Int) ≤ left) w w' e := by
  have H := Lib.hid hr
  clear hr
  unfold netCells
  go_enter Try.func4, Try.ntmps4
  go_wp2_with fail
  refine (laws_szMesh' n.mesh left q.a1 q.c1 _ H.out.h1 h0 h1).mono ?_
  rintro e w1 ⟨r1, rfl, x1, y1, K1, hb1⟩
  obtain ⟨hc1, hf1, hz1⟩ := bcell hb1; (try simp only [szs] at hz1); have hb2 := (by first | exact bw_then hb2 hb1 | exact bw_then (bw_drewN _ hb2) hb1 | exact bw_then (bw_alloc _ hb2) hb1 | exact bw_then (bw_drew hb2) hb1 | exact bw_then HB hb1 | exact bw_then (bw_drewN _ HB) hb1 | exact bw_then (bw_alloc _ HB) hb1 | exact bw_then (bw_drew HB) hb1 | exact hb1); obtain ⟨hc2, hf2, hz2⟩ := bcell hb2; (try simp only [szs] at hz2); try (first | obtain ⟨hy1, hy2, hy3, hy4⟩ := lts4 hz2 | obtain ⟨hy1, hy2, hy3⟩ := lts3 hz2 | obtain ⟨hy1, hy2⟩ := lts2 hz2 | have hy1 := lts1 hz2); have hb9 := hb1
  by_cases n1 : r1 < 0
  · go_wp2
    go_ret
    exact ⟨-1, rfl, by omega, by omega, Lib.hid (fun h => absurd h (by omega)), bel⟩
  go_wp2_with fail
  refine (laws_szClasses' n.pa n.pb r1 q.a2 q.a3 q.c2 q.c3 _ H.out.h2 H.out.h3 x1 (by omega)).mono ?_
  rintro e w2 ⟨r2, rfl, x2, y2, K2, hb1⟩
  obtain ⟨hc1, hf1, hz1⟩ := bcell hb1; (try simp only [szs] at hz1); have hb2 := (by first | exact bw_then hb2 hb1 | exact bw_then (bw_drewN _ hb2) hb1 | exact bw_then (bw_alloc _ hb2) hb1 | exact bw_then (bw_drew hb2) hb1 | exact bw_then HB hb1 | exact bw_then (bw_drewN _ HB) hb1 | exact bw_then (bw_alloc _ HB) hb1 | exact bw_then (bw_drew HB) hb1 | exact hb1); obtain ⟨hc2, hf2, hz2⟩ := bcell hb2; (try simp only [szs] at hz2); try (first | obtain ⟨hy1, hy2, hy3, hy4⟩ := lts4 hz2 | obtain ⟨hy1, hy2, hy3⟩ := lts3 hz2 | obtain ⟨hy1, hy2⟩ := lts2 hz2 | have hy1 := lts1 hz2); have hb9 := hb1
  by_cases n2 : r2 < 0
  · go_wp2
    go_ret
    exact ⟨-1, rfl, by omega, by omega, Lib.hid (fun h => absurd h (by omega)), bel⟩
  go_wp2_with fail
  refine (laws_szFlitSS n.bufs r2 q.a4 q.c4 _ (by exact Kd.C_below H.out.bufs bel) x2 (by omega)).mono ?_
  rintro e w3 ⟨r3, rfl, x3, y3, K3, hb1⟩
  obtain ⟨hc1, hf1, hz1⟩ := bcell hb1; (try simp only [szs] at hz1); have hb2 := (by first | exact bw_then hb2 hb1 | exact bw_then (bw_drewN _ hb2) hb1 | exact bw_then (bw_alloc _ hb2) hb1 | exact bw_then (bw_drew hb2) hb1 | exact bw_then HB hb1 | exact bw_then (bw_drewN _ HB) hb1 | exact bw_then (bw_alloc _ HB) hb1 | exact bw_then (bw_drew HB) hb1 | exact hb1); obtain ⟨hc2, hf2, hz2⟩ := bcell hb2; (try simp only [szs] at hz2); try (first | obtain ⟨hy1, hy2, hy3, hy4⟩ := lts4 hz2 | obtain ⟨hy1, hy2, hy3⟩ := lts3 hz2 | obtain ⟨hy1, hy2⟩ := lts2 hz2 | have hy1 := lts1 hz2); have hb9 := hb1
  by_cases n3 : r3 < 0
  · go_wp2
    go_ret
    exact ⟨-1, rfl, by omega, by omega, Lib.hid (fun h => absurd h (by omega)), bel⟩
  go_wp2_with fail
  refine (laws_szIntS' n.owners r3 q.a5 q.c5 _ H.out.h5 x3 (by omega)).mono ?_
  rintro e w4 ⟨r4, rfl, x4, y4, K4, hb1⟩
  obtain ⟨hc1, hf1, hz1⟩ := bcell hb1; (try simp only [szs] at hz1); have hb2 := (by first | exact bw_then hb2 hb1 | exact bw_then (bw_drewN _ hb2) hb1 | exact bw_then (bw_alloc _ hb2) hb1 | exact bw_then (bw_drew hb2) hb1 | exact bw_then HB hb1 | exact bw_then (bw_drewN _ HB) hb1 | exact bw_then (bw_alloc _ HB) hb1 | exact bw_then (bw_drew HB) hb1 | exact hb1); obtain ⟨hc2, hf2, hz2⟩ := bcell hb2; (try simp only [szs] at hz2); try (first | obtain ⟨hy1, hy2, hy3, hy4⟩ := lts4 hz2 | obtain ⟨hy1, hy2, hy3⟩ := lts3 hz2 | obtain ⟨hy1, hy2⟩ := lts2 hz2 | have hy1 := lts1 hz2); have hb9 := hb1
  by_cases n4 : r4 < 0
  · go_wp2
    go_ret
    exact ⟨-1, rfl, by omega, by omega, Lib.hid (fun h => absurd h (by omega)), bel⟩
  go_wp2_with fail
  refine (laws_szIntS' n.turns r4 q.a6 q.c6 _ H.out.h6 x4 (by omega)).mono ?_
  rintro e w5 ⟨r5, rfl, x5, y5, K5, hb1⟩
  obtain ⟨hc1, hf1, hz1⟩ := bcell hb1; (try simp only [szs] at hz1); have hb2 := (by first | exact bw_then hb2 hb1 | exact bw_then (bw_drewN _ hb2) hb1 | exact bw_then (bw_alloc _ hb2) hb1 | exact bw_then (bw_drew hb2) hb1 | exact bw_then HB hb1 | exact bw_then (bw_drewN _ HB) hb1 | exact bw_then (bw_alloc _ HB) hb1 | exact bw_then (bw_drew HB) hb1 | exact hb1); obtain ⟨hc2, hf2, hz2⟩ := bcell hb2; (try simp only [szs] at hz2); try (first | obtain ⟨hy1, hy2, hy3, hy4⟩ := lts4 hz2 | obtain ⟨hy1, hy2, hy3⟩ := lts3 hz2 | obtain ⟨hy1, hy2⟩ := lts2 hz2 | have hy1 := lts1 hz2); have hb9 := hb1
  by_cases n5 : r5 < 0
  · go_wp2
    go_ret
    exact ⟨-1, rfl, by omega, by omega, Lib.hid (fun h => absurd h (by omega)), bel⟩
  go_wp2_with fail
  refine (laws_szFlitSS n.srcs r5 q.a7 q.c7 _ (by exact Kd.C_below H.out.srcs bel) x5 (by omega)).mono ?_
  rintro e w6 ⟨r6, rfl, x6, y6, K6, hb1⟩
  obtain ⟨hc1, hf1, hz1⟩ := bcell hb1; (try simp only [szs] at hz1); have hb2 := (by first | exact bw_then hb2 hb1 | exact bw_then (bw_drewN _ hb2) hb1 | exact bw_then (bw_alloc _ hb2) hb1 | exact bw_then (bw_drew hb2) hb1 | exact bw_then HB hb1 | exact bw_then (bw_drewN _ HB) hb1 | exact bw_then (bw_alloc _ HB) hb1 | exact bw_then (bw_drew HB) hb1 | exact hb1); obtain ⟨hc2, hf2, hz2⟩ := bcell hb2; (try simp only [szs] at hz2); try (first | obtain ⟨hy1, hy2, hy3, hy4⟩ := lts4 hz2 | obtain ⟨hy1, hy2, hy3⟩ := lts3 hz2 | obtain ⟨hy1, hy2⟩ := lts2 hz2 | have hy1 := lts1 hz2); have hb9 := hb1
  by_cases n6 : r6 < 0
  · go_wp2
    go_ret
    exact ⟨-1, rfl, by omega, by omega, Lib.hid (fun h => absurd h (by omega)), bel⟩
  go_wp2_with fail
  refine (laws_szFlitSS n.arrs r6 q.a8 q.c8 _ (by exact Kd.C_below H.out.arrs bel) x6 (by omega)).mono ?_
  rintro e w7 ⟨r7, rfl, x7, y7, K7, hb1⟩
  obtain ⟨hc1, hf1, hz1⟩ := bcell hb1; (try simp only [szs] at hz1); have hb2 := (by first | exact bw_then hb2 hb1 | exact bw_then (bw_drewN _ hb2) hb1 | exact bw_then (bw_alloc _ hb2) hb1 | exact bw_then (bw_drew hb2) hb1 | exact bw_then HB hb1 | exact bw_then (bw_drewN _ HB) hb1 | exact bw_then (bw_alloc _ HB) hb1 | exact bw_then (bw_drew HB) hb1 | exact hb1); obtain ⟨hc2, hf2, hz2⟩ := bcell hb2; (try simp only [szs] at hz2); try (first | obtain ⟨hy1, hy2, hy3, hy4⟩ := lts4 hz2 | obtain ⟨hy1, hy2, hy3⟩ := lts3 hz2 | obtain ⟨hy1, hy2⟩ := lts2 hz2 | have hy1 := lts1 hz2); have hb9 := hb1
  by_cases n7 : r7 < 0
  · go_wp2
    go_ret
    exact ⟨-1, rfl, by omega, by omega, Lib.hid (fun h => absurd h (by omega)), bel⟩
  go_wp2
  go_ret
  exact ⟨r7, rfl, x7, by omega, Lib.hid (fun _ => ⟨⟨K1.out (by omega), (K2.out (by omega)).1, (K2.out (by omega)).2, (K3.out (by omega)).1, K4.out (by omega), K5.out (by omega), (K6.out (by omega)).1, (K7.out (by omega)).1, (K3.out (by omega)).2.1, (K6.out (by omega)).2.1, (K7.out (by omega)).2.1⟩, fun l hl => by have := (K7.out (by omega)).2.2 l hl; omega⟩), bel⟩
section
variable {H : Type} {enc : TypeId × Value → H} {W : World} {base : Nat} {spare : Nat → Bool} {held : Bool} {fuel : Nat} {cs : List Value} {x : DataW H × List MemPlace}
theorem op_bool (h : DataW.trod enc Try.prog W base spare held fuel 4 cs = some x) : ∃ b, cs = [.bool b] := by
  obtain ⟨b, h, _⟩ := DataW.trod_bool Try.underlying4 h
  exact ⟨b, h⟩
theorem op_flit0 (h : DataW.trod enc Try.prog W base spare held fuel 104 cs = some x) : ∃ p : Flit, cs = fCells p := by
  obtain ⟨hlen, hf⟩ := op_fields0 Try.underlying104 h
  rw [show Try.prog.cellsOf 104 = 5 by kernel_rfl] at hlen
  obtain ⟨a0, a1, a2, a3, a4, rfl⟩ : ∃ a0 a1 a2 a3 a4, cs = [a0, a1, a2, a3, a4] := len5 hlen
  obtain ⟨n0, y0, h0⟩ := hf 0 _ rfl
  obtain ⟨n1, y1, h1⟩ := hf 1 _ rfl
  obtain ⟨n2, y2, h2⟩ := hf 2 _ rfl
  obtain ⟨n3, y3, h3⟩ := hf 3 _ rfl
  obtain ⟨n4, y4, h4⟩ := hf 4 _ rfl
  simp only [List.getElem_toArray, List.getElem_cons_zero, List.getElem_cons_succ] at h0 h1 h2 h3 h4
  rw [show Try.prog.cellsOf 3 = 1 by kernel_rfl] at h0 h1 h2
  rw [show Try.prog.cellsOf 4 = 1 by kernel_rfl] at h3 h4
  obtain ⟨i0, e0⟩ := op_int h0
  obtain ⟨i1, e1⟩ := op_int h1
  obtain ⟨i2, e2⟩ := op_int h2
  obtain ⟨i3, e3⟩ := op_bool h3
  obtain ⟨i4, e4⟩ := op_bool h4
  simp at e0 e1 e2 e3 e4
  subst e0 e1 e2 e3 e4
  exact ⟨⟨i0, i1, i2, i3, i4⟩, rfl⟩
theorem op_rows0 {α : Type} {n : Nat} {en : α → List Value} {hl : ∀ x, (en x).length = n} {h1 : ∀ x, ∀ u ∈ en x, u.oneCell' = true} {t e : TypeId} (ht : Try.prog.underlying t = some (.slice e)) (hc : Try.prog.cellsOf e = n)
    (hel : ∀ {fuel : Nat} {cs : List Value} {x : DataW H × List MemPlace}, DataW.trod enc Try.prog W base spare held fuel e cs = some x → ∃ p, cs = en p)
    (h : DataW.trod enc Try.prog W base spare held fuel t cs = some x) :
    ∃ A c, ∃ l : List α, cs = [.slice A l.length c] ∧ l.length ≤ c ∧ (Kd.flat n en hl h1).C W A l.length l := by
  rcases DataW.trod_slice ht h with ⟨rfl, _⟩ | ⟨a, len, cap, elems, rest, k, _, rfl, hx, hb, hle, hm, hlen, hels, _, _⟩
  · exact ⟨none, 0, [], rfl, Nat.le_refl _, ⟨rfl, by simp, fun h => absurd h (by simp)⟩⟩
  · obtain ⟨l, hll, hq⟩ := build_list (Q := fun i p => W.cells? base (a.add (i * n)) n = some (en p)) len (fun i hi => by
      have e := hels i hi
      rw [List.getElem?_eq_getElem (by omega), Option.bind_eq_some_iff] at e
      obtain ⟨c', hc', hd⟩ := e
      obtain ⟨p, rfl⟩ := hel hd
      rw [hc] at hc'
      exact ⟨p, hc'⟩)
    subst hll
    refine ⟨some a, cap, l, rfl, hle, ⟨rfl, by simp only [maxLen] at hm; omega, fun _ => ⟨a, rfl, ?_⟩⟩⟩
    intro j p hj
    refine ⟨en p, hl p, rfl, fun i u hi => ?_⟩
    have h2 := hq j p hj
    have hin : i < n := by
      have := (List.getElem?_eq_some_iff.1 hi).1
      rwa [hl] at this
    have h3 := (World.cells?_some h2).2.2 i hin
    rw [add_add] at h3
    show W.cell? (a.add (j * n + i)) = some u
    rw [h3, hi]
theorem op_flits0 (h : DataW.trod enc Try.prog W base spare held fuel 77 cs = some x) : ∃ A c, ∃ l : List Flit, cs = [.slice A l.length c] ∧ l.length ≤ c ∧ kF.C W A l.length l :=
  op_rows0 Try.underlying77 (by kernel_rfl) (fun h => op_flit0 h) h
theorem op_flitss (h : DataW.trod enc Try.prog W base spare held fuel 31 cs = some x) : ∃ A c, ∃ l : List (List Flit), cs = [.slice A l.length c] ∧ (kB 83).C W A l.length l := by
  rcases DataW.trod_slice Try.underlying31 h with ⟨rfl, _⟩ | ⟨a, len, cap, elems, rest, k, _, rfl, hx, hb, hle, hm, hlen, hels, _, _⟩
  · exact ⟨none, 0, [], rfl, ⟨rfl, by simp, fun h => absurd h (by simp)⟩⟩
  · obtain ⟨l, hll, hq⟩ := build_list (Q := fun i (p : List Flit) => ∃ A c, W.cells? base (a.add (i * 1)) 1 = some [.slice A p.length c] ∧ p.length ≤ c ∧ kF.C W A p.length p) len (fun i hi => by
      have e := hels i hi
      rw [List.getElem?_eq_getElem (by omega), Option.bind_eq_some_iff] at e
      obtain ⟨c', hc', hd⟩ := e
      obtain ⟨A, c, p, rfl, hpc, hC⟩ := op_flits0 hd
      rw [show Try.prog.cellsOf 77 = 1 by kernel_rfl] at hc'
      exact ⟨p, A, c, hc', hpc, hC⟩)
    subst hll
    refine ⟨some a, cap, l, rfl, ⟨rfl, by simp only [maxLen] at hm; omega, fun _ => ⟨a, rfl, ?_⟩⟩⟩
    intro j p hj
    obtain ⟨A, c, h2, hpc, hC⟩ := hq j p hj
    refine ⟨[.slice A p.length c], rfl, ⟨A, c, rfl, hpc, hC⟩, fun i u hi => ?_⟩
    have hin : i < 1 := by
      have := (List.getElem?_eq_some_iff.1 hi).1
      simpa using this
    have h3 := (World.cells?_some h2).2.2 i hin
    rw [add_add] at h3
    show W.cell? (a.add (j * 1 + i)) = some u
    rw [h3, hi]
theorem len8 {α : Type} {l : List α} (h : l.length = 11) : ∃ a b c d e f g i j k m, l = [a, b, c, d, e, f, g, i, j, k, m] := by match l, h with | [a, b, c, d, e, f, g, i, j, k, m], _ => exact ⟨a, b, c, d, e, f, g, i, j, k, m, rfl⟩
set_option maxHeartbeats 1000000 in
/-- A network at a law's door. -/
theorem op_net (h : DataW.trod enc Try.prog W base spare held fuel 33 cs = some x) (hl : Light 33 x.1) : ∃ (n : Net) (q : NA), cs = (netCells n q).toList ∧ NetC W n q := by
  obtain ⟨hlen, hf⟩ := op_fields Try.underlying33 h hl
  rw [show Try.prog.cellsOf 33 = 11 by kernel_rfl] at hlen
  obtain ⟨a0, a1, a2, a3, a4, a5, a6, a7, a8, a9, a10, rfl⟩ := len8 hlen
  obtain ⟨n0, y0, h0, l0⟩ := hf 0 _ rfl
  simp only [List.getElem_toArray, List.getElem_cons_zero, List.getElem_cons_succ] at h0 l0
  rw [show Try.prog.cellsOf 26 = 3 by kernel_rfl] at h0
  obtain ⟨n1, y1, h1, l1⟩ := hf 1 _ rfl
  simp only [List.getElem_toArray, List.getElem_cons_zero, List.getElem_cons_succ] at h1 l1
  rw [show Try.prog.cellsOf 30 = 2 by kernel_rfl] at h1
  obtain ⟨n2, y2, h2, l2⟩ := hf 2 _ rfl
  simp only [List.getElem_toArray, List.getElem_cons_zero, List.getElem_cons_succ] at h2 l2
  rw [show Try.prog.cellsOf 31 = 1 by kernel_rfl] at h2
  obtain ⟨n3, y3, h3, l3⟩ := hf 3 _ rfl
  simp only [List.getElem_toArray, List.getElem_cons_zero, List.getElem_cons_succ] at h3 l3
  rw [show Try.prog.cellsOf 24 = 1 by kernel_rfl] at h3
  obtain ⟨n4, y4, h4, l4⟩ := hf 4 _ rfl
  simp only [List.getElem_toArray, List.getElem_cons_zero, List.getElem_cons_succ] at h4 l4
  rw [show Try.prog.cellsOf 24 = 1 by kernel_rfl] at h4
  obtain ⟨n5, y5, h5, l5⟩ := hf 5 _ rfl
  simp only [List.getElem_toArray, List.getElem_cons_zero, List.getElem_cons_succ] at h5 l5
  rw [show Try.prog.cellsOf 31 = 1 by kernel_rfl] at h5
  obtain ⟨n6, y6, h6, l6⟩ := hf 6 _ rfl
  simp only [List.getElem_toArray, List.getElem_cons_zero, List.getElem_cons_succ] at h6 l6
  rw [show Try.prog.cellsOf 31 = 1 by kernel_rfl] at h6
  obtain ⟨n7, y7, h7, l7⟩ := hf 7 _ rfl
  simp only [List.getElem_toArray, List.getElem_cons_zero, List.getElem_cons_succ] at h7 l7
  rw [show Try.prog.cellsOf 3 = 1 by kernel_rfl] at h7
  obtain ⟨m, A1, c1, e0, hr1, hn1⟩ := op_mesh h0 l0
  simp at e0
  obtain ⟨rfl, rfl, rfl⟩ := e0
  obtain ⟨A2, c2, pa, A3, c3, pb, e1, hr2, hn2, hr3, hn3⟩ := op_classes h1 l1
  simp at e1
  obtain ⟨rfl, rfl⟩ := e1
  obtain ⟨A4, c4, bufs, e2, hr4⟩ := op_flitss h2
  obtain ⟨A5, c5, owners, e3, hr5, hn5⟩ := op_ints h3 l3
  obtain ⟨A6, c6, turns, e4, hr6, hn6⟩ := op_ints h4 l4
  obtain ⟨A7, c7, srcs, e5, hr7⟩ := op_flitss h5
  obtain ⟨A8, c8, arrs, e6, hr8⟩ := op_flitss h6
  obtain ⟨tm, e7⟩ := op_int h7
  simp at e2 e3 e4 e5 e6 e7
  subst e2 e3 e4 e5 e6 e7
  exact ⟨⟨m, pa, pb, bufs, owners, turns, srcs, arrs, tm⟩, ⟨A1, A2, A3, A4, A5, A6, A7, A8, c1, c2, c3, c4, c5, c6, c7, c8⟩, rfl, ⟨hr1, hr2, hr3, hr4, hr5, hr6, hr7, hr8, hn1, hn2, hn3, hn5, hn6⟩⟩
end
end Go.Proofs.Yteeebfeljjghhaa
/- Networks of one's own: copied by the laws, marked by them. -/
set_option linter.unusedVariables false
set_option linter.unusedSimpArgs false
namespace Go.Proofs.Yteeebfeljjghhaa
open Go.RowKit Go.Proofs.YteeebfeljjghhaaW.PrintWords
open NoC

theorem RU.off {α : Type} {d : Kd α} {e : Nat} {w : World} {lo hi : Nat} {v : Value} {xs : List α} (h : RU d e w lo hi v xs) {g : Nat} (hg : g < lo) (j : Nat) (u : Value) : RU d e (w.setCell ⟨g, j, none⟩ u) lo hi v xs :=
  h.step (fun k h1 _ _ => Below.heap_setCell w ⟨g, j, none⟩ u k (by show k ≠ g; omega))
theorem OB.off {w : World} {lo hi : Nat} {v : Value} {l : List (List Flit)} {vs : List Value} (h : OB w lo hi v l vs) {g : Nat} (hg : g < lo) (j : Nat) (u : Value) : OB (w.setCell ⟨g, j, none⟩ u) lo hi v l vs :=
  h.step (fun k h1 _ _ => Below.heap_setCell w ⟨g, j, none⟩ u k (by show k ≠ g; omega))
theorem RU.bel {α : Type} {d : Kd α} {e : Nat} {w w1 : World} {lo hi : Nat} {v : Value} {xs : List α} (hb : Below w.heap.size w w1) (h : RU d e w lo hi v xs) : RU d e w1 lo hi v xs := h.below hb
theorem OB.bel {w w1 : World} {lo hi : Nat} {v : Value} {l : List (List Flit)} {vs : List Value} (hb : Below w.heap.size w w1) (h : OB w lo hi v l vs) : OB w1 lo hi v l vs := h.below hb
set_option maxHeartbeats 4000000 in
set_option maxRecDepth 100000 in
theorem laws_toNet2 (n : Net) (q : NA) (w : World) (hr : NetR 83 w n q) : Calls Try.prog 6 #[.agg (netCells n q)] w fun e w' => GotNI w w' n e ∧ Below w.heap.size w w' := by
  have H := Lib.hid hr
  clear hr
  unfold netCells
  go_enter Try.func6, Try.ntmps6
  go_wp2_with fail
  refine (laws_toMesh n.mesh q.a1 q.c1 _ (by exact Kd.C_below H.out.br bel) H.out.h1).mono ?_
  rintro e w1 ⟨hg1, hb1⟩
  obtain ⟨v1, rfl, HO1⟩ := hg1
  obtain ⟨A1, c1, rfl⟩ := Kd.R_slice HO1
  obtain ⟨hc1, hf1, hz1⟩ := bcell hb1; (try simp only [szs] at hz1); have hb2 := (by first | exact bw_then hb2 hb1 | exact bw_then (bw_drewN _ hb2) hb1 | exact bw_then (bw_alloc _ hb2) hb1 | exact bw_then (bw_drew hb2) hb1 | exact bw_then HB hb1 | exact bw_then (bw_drewN _ HB) hb1 | exact bw_then (bw_alloc _ HB) hb1 | exact bw_then (bw_drew HB) hb1 | exact hb1); obtain ⟨hc2, hf2, hz2⟩ := bcell hb2; (try simp only [szs] at hz2); try (first | obtain ⟨hy1, hy2, hy3, hy4⟩ := lts4 hz2 | obtain ⟨hy1, hy2, hy3⟩ := lts3 hz2 | obtain ⟨hy1, hy2⟩ := lts2 hz2 | have hy1 := lts1 hz2); have hb9 := hb1
  have za1 : w.heap.size < w1.heap.size := by omega
  have zb1 : w.heap.size + 1 < w1.heap.size := by omega
  have zc1 : w.heap.size + 1 + 1 < w1.heap.size := by omega
  have U1 : RU (Kd.int .i64) 3 w1 (w.heap.size + 1 + 1 + 1) w1.heap.size _ _ := RU.of HO1 (by simp only [szs]; omega) (Nat.le_refl _)
  clear HO1
  go_wp2_with fail
  refine (laws_toClasses n.pa n.pb q.a2 q.a3 q.c2 q.c3 _ (by exact Kd.C_below H.out.pa bel) H.out.h2 (by exact Kd.C_below H.out.pb bel) H.out.h3).mono ?_
  rintro e w2 ⟨hg1, hb1⟩
  obtain ⟨v2, v3, rfl, HO2, HO3, hap⟩ := hg1
  obtain ⟨A2, c2, rfl⟩ := Kd.R_slice HO2
  obtain ⟨A3, c3, rfl⟩ := Kd.R_slice HO3
  obtain ⟨hc1, hf1, hz1⟩ := bcell hb1; (try simp only [szs] at hz1); have hb2 := (by first | exact bw_then hb2 hb1 | exact bw_then (bw_drewN _ hb2) hb1 | exact bw_then (bw_alloc _ hb2) hb1 | exact bw_then (bw_drew hb2) hb1 | exact bw_then HB hb1 | exact bw_then (bw_drewN _ HB) hb1 | exact bw_then (bw_alloc _ HB) hb1 | exact bw_then (bw_drew HB) hb1 | exact hb1); obtain ⟨hc2, hf2, hz2⟩ := bcell hb2; (try simp only [szs] at hz2); try (first | obtain ⟨hy1, hy2, hy3, hy4⟩ := lts4 hz2 | obtain ⟨hy1, hy2, hy3⟩ := lts3 hz2 | obtain ⟨hy1, hy2⟩ := lts2 hz2 | have hy1 := lts1 hz2); have hb9 := hb1
  have za2 : w.heap.size < w2.heap.size := by omega
  have zb2 : w.heap.size + 1 < w2.heap.size := by omega
  have zc2 : w.heap.size + 1 + 1 < w2.heap.size := by omega
  have U2 : RU (Kd.int .i64) 3 w2 w1.heap.size w2.heap.size _ _ := RU.of HO2 (by simp only [szs]; omega) (Nat.le_refl _)
  have U3 : RU (Kd.int .i64) 3 w2 w1.heap.size w2.heap.size _ _ := RU.of HO3 (by simp only [szs]; omega) (Nat.le_refl _)
  have zz2 : w1.heap.size ≤ w2.heap.size := by omega
  clear HO2 HO3
  go_wp2_with fail
  refine (laws_toFlitSS2 n.bufs q.a4 q.c4 _ (by exact Kd.C_below H.out.bufs bel) H.out.h4 (Lib.hid H.out.h9)).mono ?_
  rintro e w3 ⟨hg1, hb1⟩
  obtain ⟨v4, vs4, rfl, HO4⟩ := hg1
  obtain ⟨A4, c4, rfl⟩ := HO4.slice
  obtain ⟨hc1, hf1, hz1⟩ := bcell hb1; (try simp only [szs] at hz1); have hb2 := (by first | exact bw_then hb2 hb1 | exact bw_then (bw_drewN _ hb2) hb1 | exact bw_then (bw_alloc _ hb2) hb1 | exact bw_then (bw_drew hb2) hb1 | exact bw_then HB hb1 | exact bw_then (bw_drewN _ HB) hb1 | exact bw_then (bw_alloc _ HB) hb1 | exact bw_then (bw_drew HB) hb1 | exact hb1); obtain ⟨hc2, hf2, hz2⟩ := bcell hb2; (try simp only [szs] at hz2); try (first | obtain ⟨hy1, hy2, hy3, hy4⟩ := lts4 hz2 | obtain ⟨hy1, hy2, hy3⟩ := lts3 hz2 | obtain ⟨hy1, hy2⟩ := lts2 hz2 | have hy1 := lts1 hz2); have hb9 := hb1
  have za3 : w.heap.size < w3.heap.size := by omega
  have zb3 : w.heap.size + 1 < w3.heap.size := by omega
  have zc3 : w.heap.size + 1 + 1 < w3.heap.size := by omega
  have U4 : OB w3 w2.heap.size w3.heap.size _ _ vs4 := HO4.wide (by simp only [szs]; omega) (Nat.le_refl _)
  have zz3 : w2.heap.size ≤ w3.heap.size := by omega
  clear HO4
  go_wp2_with fail
  refine (laws_toIntS n.owners q.a5 q.c5 _ (by exact Kd.C_below H.out.owners bel) H.out.h5).mono ?_
  rintro e w4 ⟨hg1, hb1⟩
  obtain ⟨v5, rfl, HO5⟩ := hg1
  obtain ⟨A5, c5, rfl⟩ := Kd.R_slice HO5
  obtain ⟨hc1, hf1, hz1⟩ := bcell hb1; (try simp only [szs] at hz1); have hb2 := (by first | exact bw_then hb2 hb1 | exact bw_then (bw_drewN _ hb2) hb1 | exact bw_then (bw_alloc _ hb2) hb1 | exact bw_then (bw_drew hb2) hb1 | exact bw_then HB hb1 | exact bw_then (bw_drewN _ HB) hb1 | exact bw_then (bw_alloc _ HB) hb1 | exact bw_then (bw_drew HB) hb1 | exact hb1); obtain ⟨hc2, hf2, hz2⟩ := bcell hb2; (try simp only [szs] at hz2); try (first | obtain ⟨hy1, hy2, hy3, hy4⟩ := lts4 hz2 | obtain ⟨hy1, hy2, hy3⟩ := lts3 hz2 | obtain ⟨hy1, hy2⟩ := lts2 hz2 | have hy1 := lts1 hz2); have hb9 := hb1
  have za4 : w.heap.size < w4.heap.size := by omega
  have zb4 : w.heap.size + 1 < w4.heap.size := by omega
  have zc4 : w.heap.size + 1 + 1 < w4.heap.size := by omega
  have U5 : RU (Kd.int .i64) 3 w4 w3.heap.size w4.heap.size _ _ := RU.of HO5 (by simp only [szs]; omega) (Nat.le_refl _)
  have zz4 : w3.heap.size ≤ w4.heap.size := by omega
  clear HO5
  go_wp2_with fail
  refine (laws_toIntS n.turns q.a6 q.c6 _ (by exact Kd.C_below H.out.turns bel) H.out.h6).mono ?_
  rintro e w5 ⟨hg1, hb1⟩
  obtain ⟨v6, rfl, HO6⟩ := hg1
  obtain ⟨A6, c6, rfl⟩ := Kd.R_slice HO6
  obtain ⟨hc1, hf1, hz1⟩ := bcell hb1; (try simp only [szs] at hz1); have hb2 := (by first | exact bw_then hb2 hb1 | exact bw_then (bw_drewN _ hb2) hb1 | exact bw_then (bw_alloc _ hb2) hb1 | exact bw_then (bw_drew hb2) hb1 | exact bw_then HB hb1 | exact bw_then (bw_drewN _ HB) hb1 | exact bw_then (bw_alloc _ HB) hb1 | exact bw_then (bw_drew HB) hb1 | exact hb1); obtain ⟨hc2, hf2, hz2⟩ := bcell hb2; (try simp only [szs] at hz2); try (first | obtain ⟨hy1, hy2, hy3, hy4⟩ := lts4 hz2 | obtain ⟨hy1, hy2, hy3⟩ := lts3 hz2 | obtain ⟨hy1, hy2⟩ := lts2 hz2 | have hy1 := lts1 hz2); have hb9 := hb1
  have za5 : w.heap.size < w5.heap.size := by omega
  have zb5 : w.heap.size + 1 < w5.heap.size := by omega
  have zc5 : w.heap.size + 1 + 1 < w5.heap.size := by omega
  have U6 : RU (Kd.int .i64) 3 w5 w4.heap.size w5.heap.size _ _ := RU.of HO6 (by simp only [szs]; omega) (Nat.le_refl _)
  have zz5 : w4.heap.size ≤ w5.heap.size := by omega
  clear HO6
  go_wp2_with fail
  refine (laws_toFlitSS2 n.srcs q.a7 q.c7 _ (by exact Kd.C_below H.out.srcs bel) H.out.h7 (Lib.hid H.out.h10)).mono ?_
  rintro e w6 ⟨hg1, hb1⟩
  obtain ⟨v7, vs7, rfl, HO7⟩ := hg1
  obtain ⟨A7, c7, rfl⟩ := HO7.slice
  obtain ⟨hc1, hf1, hz1⟩ := bcell hb1; (try simp only [szs] at hz1); have hb2 := (by first | exact bw_then hb2 hb1 | exact bw_then (bw_drewN _ hb2) hb1 | exact bw_then (bw_alloc _ hb2) hb1 | exact bw_then (bw_drew hb2) hb1 | exact bw_then HB hb1 | exact bw_then (bw_drewN _ HB) hb1 | exact bw_then (bw_alloc _ HB) hb1 | exact bw_then (bw_drew HB) hb1 | exact hb1); obtain ⟨hc2, hf2, hz2⟩ := bcell hb2; (try simp only [szs] at hz2); try (first | obtain ⟨hy1, hy2, hy3, hy4⟩ := lts4 hz2 | obtain ⟨hy1, hy2, hy3⟩ := lts3 hz2 | obtain ⟨hy1, hy2⟩ := lts2 hz2 | have hy1 := lts1 hz2); have hb9 := hb1
  have za6 : w.heap.size < w6.heap.size := by omega
  have zb6 : w.heap.size + 1 < w6.heap.size := by omega
  have zc6 : w.heap.size + 1 + 1 < w6.heap.size := by omega
  have U7 : OB w6 w5.heap.size w6.heap.size _ _ vs7 := HO7.wide (by simp only [szs]; omega) (Nat.le_refl _)
  have zz6 : w5.heap.size ≤ w6.heap.size := by omega
  clear HO7
  go_wp2_with fail
  refine (laws_toFlitSS2 n.arrs q.a8 q.c8 _ (by exact Kd.C_below H.out.arrs bel) H.out.h8 (Lib.hid H.out.h11)).mono ?_
  rintro e w7 ⟨hg1, hb1⟩
  obtain ⟨v8, vs8, rfl, HO8⟩ := hg1
  obtain ⟨A8, c8, rfl⟩ := HO8.slice
  obtain ⟨hc1, hf1, hz1⟩ := bcell hb1; (try simp only [szs] at hz1); have hb2 := (by first | exact bw_then hb2 hb1 | exact bw_then (bw_drewN _ hb2) hb1 | exact bw_then (bw_alloc _ hb2) hb1 | exact bw_then (bw_drew hb2) hb1 | exact bw_then HB hb1 | exact bw_then (bw_drewN _ HB) hb1 | exact bw_then (bw_alloc _ HB) hb1 | exact bw_then (bw_drew HB) hb1 | exact hb1); obtain ⟨hc2, hf2, hz2⟩ := bcell hb2; (try simp only [szs] at hz2); try (first | obtain ⟨hy1, hy2, hy3, hy4⟩ := lts4 hz2 | obtain ⟨hy1, hy2, hy3⟩ := lts3 hz2 | obtain ⟨hy1, hy2⟩ := lts2 hz2 | have hy1 := lts1 hz2); have hb9 := hb1
  have za7 : w.heap.size < w7.heap.size := by omega
  have zb7 : w.heap.size + 1 < w7.heap.size := by omega
  have zc7 : w.heap.size + 1 + 1 < w7.heap.size := by omega
  have U8 : OB w7 w6.heap.size w7.heap.size _ _ vs8 := HO8.wide (by simp only [szs]; omega) (Nat.le_refl _)
  have zz7 : w6.heap.size ≤ w7.heap.size := by omega
  clear HO8
  go_wp2
  refine bodyPost_ret (v := .agg (netCells n ⟨A1, A2, A3, A4, A5, A6, A7, A8, c1, c2, c3, c4, c5, c6, c7, c8⟩)) (by simp [results, Try.results6, go_sem, netCells, *]) rfl ⟨⟨_, seven (w.heap.size + 1 + 1 + 1) w1.heap.size w2.heap.size w3.heap.size w4.heap.size w5.heap.size w6.heap.size, seven w1.heap.size w2.heap.size w3.heap.size w4.heap.size w5.heap.size w6.heap.size w7.heap.size, vs4, vs7, vs8, rfl, lay_seq (by omega) zz2 zz3 zz4 zz5 zz6 zz7 (by omega) (by simp only [szs]; omega), ?_⟩, bel⟩
  refine ⟨?_, ?_, ?_, apart_comm hap, ?_, ?_, ?_, ?_, ?_⟩
  all_goals (simp only [seven]; with_reducible repeat (first | exact U1 | exact U2 | exact U3 | exact U4 | exact U5 | exact U6 | exact U7 | exact U8 | (refine RU.off ?_ (by omega) _ _) | (refine OB.off ?_ (by omega) _ _) | (refine RU.bel (by assumption) ?_) | (refine OB.bel (by assumption) ?_)))
end Go.Proofs.Yteeebfeljjghhaa
/- Marks on a network of one's own: what is written lies in its own stretch. -/
set_option linter.unusedVariables false
set_option linter.unusedSimpArgs false
namespace Go.Proofs.Yteeebfeljjghhaa
open Go.RowKit Go.Proofs.YteeebfeljjghhaaW.PrintWords
open NoC

set_option maxHeartbeats 8000000 in
set_option maxRecDepth 100000 in
theorem laws_markNet2 (n : Net) (q : NA) (k : Int) (lo hi : Nat) (a b : Nat → Nat) (v4 v7 v8 : List Value) (w w0 : World) (q0 : NA) (hN : NetI w a b n q v4 v7 v8) (hr : NetR 83 w0 n q0) (D : Lay lo hi a b) (hhi : hi ≤ w.heap.size) (k0 : 0 ≤ k) (k1 : k ≤ 1000000) :
    Calls Try.prog 10 #[.agg (netCells n q), .int .i64 k] w fun e w' => (∃ r, e = .returned (.int .i64 r) ∧ 0 ≤ r ∧ r ≤ 200000000000000) ∧ Chg lo hi w w' := by
  have H := Lib.hid hr
  clear hr
  obtain ⟨U1, U2, U3, ap, U4, U5, U6, U7, U8⟩ := hN
  have d0 := D.inn 0 (by decide)
  have d1 := D.inn 1 (by decide)
  have d2 := D.inn 2 (by decide)
  have d3 := D.inn 3 (by decide)
  have d4 := D.inn 4 (by decide)
  have d5 := D.inn 5 (by decide)
  have d6 := D.inn 6 (by decide)
  have l1 := H.out.h1
  have l2 := H.out.h2
  have l3 := H.out.h3
  have l4 := H.out.h4
  have l5 := H.out.h5
  have l6 := H.out.h6
  have l7 := H.out.h7
  have l8 := H.out.h8
  have m4 := totTo_le H.out.h9 n.bufs.length (Nat.le_refl _)
  have m7 := totTo_le H.out.h10 n.srcs.length (Nat.le_refl _)
  have m8 := totTo_le H.out.h11 n.arrs.length (Nat.le_refl _)
  have B : Box (w.alloc (.cells #[.int .i64 n.mesh.g.w, .int .i64 n.mesh.g.h, .slice q.a1 n.mesh.br.length q.c1, .slice q.a2 n.pa.length q.c2, .slice q.a3 n.pb.length q.c3, .slice q.a4 n.bufs.length q.c4, .slice q.a5 n.owners.length q.c5, .slice q.a6 n.turns.length q.c6, .slice q.a7 n.srcs.length q.c7, .slice q.a8 n.arrs.length q.c8, .int .i64 n.time] 45)) w.heap.size #[.int .i64 n.mesh.g.w, .int .i64 n.mesh.g.h, .slice q.a1 n.mesh.br.length q.c1, .slice q.a2 n.pa.length q.c2, .slice q.a3 n.pb.length q.c3, .slice q.a4 n.bufs.length q.c4, .slice q.a5 n.owners.length q.c5, .slice q.a6 n.turns.length q.c6, .slice q.a7 n.srcs.length q.c7, .slice q.a8 n.arrs.length q.c8, .int .i64 n.time] := Box.new w _ _ _ rfl
  have G : Chg lo hi w (w.alloc (.cells #[.int .i64 n.mesh.g.w, .int .i64 n.mesh.g.h, .slice q.a1 n.mesh.br.length q.c1, .slice q.a2 n.pa.length q.c2, .slice q.a3 n.pb.length q.c3, .slice q.a4 n.bufs.length q.c4, .slice q.a5 n.owners.length q.c5, .slice q.a6 n.turns.length q.c6, .slice q.a7 n.srcs.length q.c7, .slice q.a8 n.arrs.length q.c8, .int .i64 n.time] 45)) := Chg.of_below (bw_alloc _ (bw_refl w))
  replace U1 := RU.bel (bw_alloc (.cells #[.int .i64 n.mesh.g.w, .int .i64 n.mesh.g.h, .slice q.a1 n.mesh.br.length q.c1, .slice q.a2 n.pa.length q.c2, .slice q.a3 n.pb.length q.c3, .slice q.a4 n.bufs.length q.c4, .slice q.a5 n.owners.length q.c5, .slice q.a6 n.turns.length q.c6, .slice q.a7 n.srcs.length q.c7, .slice q.a8 n.arrs.length q.c8, .int .i64 n.time] 45) (bw_refl w)) U1
  replace U2 := RU.bel (bw_alloc (.cells #[.int .i64 n.mesh.g.w, .int .i64 n.mesh.g.h, .slice q.a1 n.mesh.br.length q.c1, .slice q.a2 n.pa.length q.c2, .slice q.a3 n.pb.length q.c3, .slice q.a4 n.bufs.length q.c4, .slice q.a5 n.owners.length q.c5, .slice q.a6 n.turns.length q.c6, .slice q.a7 n.srcs.length q.c7, .slice q.a8 n.arrs.length q.c8, .int .i64 n.time] 45) (bw_refl w)) U2
  replace U3 := RU.bel (bw_alloc (.cells #[.int .i64 n.mesh.g.w, .int .i64 n.mesh.g.h, .slice q.a1 n.mesh.br.length q.c1, .slice q.a2 n.pa.length q.c2, .slice q.a3 n.pb.length q.c3, .slice q.a4 n.bufs.length q.c4, .slice q.a5 n.owners.length q.c5, .slice q.a6 n.turns.length q.c6, .slice q.a7 n.srcs.length q.c7, .slice q.a8 n.arrs.length q.c8, .int .i64 n.time] 45) (bw_refl w)) U3
  replace U4 := OB.bel (bw_alloc (.cells #[.int .i64 n.mesh.g.w, .int .i64 n.mesh.g.h, .slice q.a1 n.mesh.br.length q.c1, .slice q.a2 n.pa.length q.c2, .slice q.a3 n.pb.length q.c3, .slice q.a4 n.bufs.length q.c4, .slice q.a5 n.owners.length q.c5, .slice q.a6 n.turns.length q.c6, .slice q.a7 n.srcs.length q.c7, .slice q.a8 n.arrs.length q.c8, .int .i64 n.time] 45) (bw_refl w)) U4
  replace U5 := RU.bel (bw_alloc (.cells #[.int .i64 n.mesh.g.w, .int .i64 n.mesh.g.h, .slice q.a1 n.mesh.br.length q.c1, .slice q.a2 n.pa.length q.c2, .slice q.a3 n.pb.length q.c3, .slice q.a4 n.bufs.length q.c4, .slice q.a5 n.owners.length q.c5, .slice q.a6 n.turns.length q.c6, .slice q.a7 n.srcs.length q.c7, .slice q.a8 n.arrs.length q.c8, .int .i64 n.time] 45) (bw_refl w)) U5
  replace U6 := RU.bel (bw_alloc (.cells #[.int .i64 n.mesh.g.w, .int .i64 n.mesh.g.h, .slice q.a1 n.mesh.br.length q.c1, .slice q.a2 n.pa.length q.c2, .slice q.a3 n.pb.length q.c3, .slice q.a4 n.bufs.length q.c4, .slice q.a5 n.owners.length q.c5, .slice q.a6 n.turns.length q.c6, .slice q.a7 n.srcs.length q.c7, .slice q.a8 n.arrs.length q.c8, .int .i64 n.time] 45) (bw_refl w)) U6
  replace U7 := OB.bel (bw_alloc (.cells #[.int .i64 n.mesh.g.w, .int .i64 n.mesh.g.h, .slice q.a1 n.mesh.br.length q.c1, .slice q.a2 n.pa.length q.c2, .slice q.a3 n.pb.length q.c3, .slice q.a4 n.bufs.length q.c4, .slice q.a5 n.owners.length q.c5, .slice q.a6 n.turns.length q.c6, .slice q.a7 n.srcs.length q.c7, .slice q.a8 n.arrs.length q.c8, .int .i64 n.time] 45) (bw_refl w)) U7
  replace U8 := OB.bel (bw_alloc (.cells #[.int .i64 n.mesh.g.w, .int .i64 n.mesh.g.h, .slice q.a1 n.mesh.br.length q.c1, .slice q.a2 n.pa.length q.c2, .slice q.a3 n.pb.length q.c3, .slice q.a4 n.bufs.length q.c4, .slice q.a5 n.owners.length q.c5, .slice q.a6 n.turns.length q.c6, .slice q.a7 n.srcs.length q.c7, .slice q.a8 n.arrs.length q.c8, .int .i64 n.time] 45) (bw_refl w)) U8
  unfold netCells
  go_enter Try.func10, Try.ntmps10
  obtain ⟨y, g⟩ := B
  go_wp2_with fail
  refine (laws_markMesh n.mesh k q.a1 q.c1 (a 0) _ U1.row l1 k0 (by omega)).mono ?_
  rintro e w1 ⟨rfl, hg1⟩
  have G1 := Chg.of_grown hg1 U1.within
  replace U2 := U2.chg G1 (D.dis 1 0 (by decide) (by decide) (by decide))
  replace U3 := U3.chg G1 (D.dis 1 0 (by decide) (by decide) (by decide))
  replace U4 := U4.chg G1 (D.dis 2 0 (by decide) (by decide) (by decide))
  replace U5 := U5.chg G1 (D.dis 3 0 (by decide) (by decide) (by decide))
  replace U6 := U6.chg G1 (D.dis 4 0 (by decide) (by decide) (by decide))
  replace U7 := U7.chg G1 (D.dis 5 0 (by decide) (by decide) (by decide))
  replace U8 := U8.chg G1 (D.dis 6 0 (by decide) (by decide) (by decide))
  have B := Box.chg ⟨y, g⟩ G1 (.inr (by omega))
  replace G := G.trans (G1.wide (by omega) (by omega))
  clear y g hg1 G1 U1
  obtain ⟨y, g⟩ := B
  obtain ⟨r1, er1⟩ : ∃ r, k + (n.mesh.br.length : Int) = r := ⟨_, rfl⟩
  have rl1 : 0 ≤ r1 := by omega
  have ru1 : r1 ≤ 4000000 := by omega
  rw [er1]
  clear er1
  go_wp2_with fail
  refine (laws_markClasses n.pa n.pb r1 q.a2 q.a3 q.c2 q.c3 (a 1) _ U2.row U3.row ap l2 l3 rl1 (by omega)).mono ?_
  rintro e w2 ⟨rfl, wm, hg1, hg2⟩
  have G1 := (Chg.of_grown hg1 U2.within).trans (Chg.of_grown hg2 U3.within)
  replace U4 := U4.chg G1 (D.dis 2 1 (by decide) (by decide) (by decide))
  replace U5 := U5.chg G1 (D.dis 3 1 (by decide) (by decide) (by decide))
  replace U6 := U6.chg G1 (D.dis 4 1 (by decide) (by decide) (by decide))
  replace U7 := U7.chg G1 (D.dis 5 1 (by decide) (by decide) (by decide))
  replace U8 := U8.chg G1 (D.dis 6 1 (by decide) (by decide) (by decide))
  have B := Box.chg ⟨y, g⟩ G1 (.inr (by omega))
  replace G := G.trans (G1.wide (by omega) (by omega))
  clear y g hg1 hg2 G1 U2 U3
  obtain ⟨y, g⟩ := B
  obtain ⟨r2, er2⟩ : ∃ r, r1 + (n.pa.length : Int) + (n.pb.length : Int) = r := ⟨_, rfl⟩
  have rl2 : 0 ≤ r2 := by omega
  have ru2 : r2 ≤ 10000000 := by omega
  rw [er2]
  clear er2
  go_wp2_with fail
  refine (laws_markFlitSS n.bufs v4 r2 q.a4 q.c4 (a 2) (b 2) _ U4 (by omega) l4 (Lib.hid H.out.h9) rl2 (by omega)).mono ?_
  rintro e w3 ⟨rfl, _, G1⟩
  replace U5 := U5.chg G1 (D.dis 3 2 (by decide) (by decide) (by decide))
  replace U6 := U6.chg G1 (D.dis 4 2 (by decide) (by decide) (by decide))
  replace U7 := U7.chg G1 (D.dis 5 2 (by decide) (by decide) (by decide))
  replace U8 := U8.chg G1 (D.dis 6 2 (by decide) (by decide) (by decide))
  have B := Box.chg ⟨y, g⟩ G1 (.inr (by omega))
  replace G := G.trans (G1.wide (by omega) (by omega))
  clear y g G1 U4
  obtain ⟨y, g⟩ := B
  obtain ⟨r3, er3⟩ : ∃ r, r2 + 5 * (totTo n.bufs n.bufs.length : Int) = r := ⟨_, rfl⟩
  have rl3 : 0 ≤ r3 := by omega
  have ru3 : r3 ≤ 40000000000000 := by omega
  rw [er3]
  clear er3
  go_wp2_with fail
  refine (laws_markIntS n.owners r3 q.a5 q.c5 (a 3) _ U5.row l5 rl3 (by omega)).mono ?_
  rintro e w4 ⟨rfl, _, hg1⟩
  have G1 := Chg.of_grown hg1 U5.within
  replace U6 := U6.chg G1 (D.dis 4 3 (by decide) (by decide) (by decide))
  replace U7 := U7.chg G1 (D.dis 5 3 (by decide) (by decide) (by decide))
  replace U8 := U8.chg G1 (D.dis 6 3 (by decide) (by decide) (by decide))
  have B := Box.chg ⟨y, g⟩ G1 (.inr (by omega))
  replace G := G.trans (G1.wide (by omega) (by omega))
  clear y g hg1 G1 U5
  obtain ⟨y, g⟩ := B
  obtain ⟨r4, er4⟩ : ∃ r, r3 + (n.owners.length : Int) = r := ⟨_, rfl⟩
  have rl4 : 0 ≤ r4 := by omega
  have ru4 : r4 ≤ 80000000000000 := by omega
  rw [er4]
  clear er4
  go_wp2_with fail
  refine (laws_markIntS n.turns r4 q.a6 q.c6 (a 4) _ U6.row l6 rl4 (by omega)).mono ?_
  rintro e w5 ⟨rfl, _, hg1⟩
  have G1 := Chg.of_grown hg1 U6.within
  replace U7 := U7.chg G1 (D.dis 5 4 (by decide) (by decide) (by decide))
  replace U8 := U8.chg G1 (D.dis 6 4 (by decide) (by decide) (by decide))
  have B := Box.chg ⟨y, g⟩ G1 (.inr (by omega))
  replace G := G.trans (G1.wide (by omega) (by omega))
  clear y g hg1 G1 U6
  obtain ⟨y, g⟩ := B
  obtain ⟨r5, er5⟩ : ∃ r, r4 + (n.turns.length : Int) = r := ⟨_, rfl⟩
  have rl5 : 0 ≤ r5 := by omega
  have ru5 : r5 ≤ 120000000000000 := by omega
  rw [er5]
  clear er5
  go_wp2_with fail
  refine (laws_markFlitSS n.srcs v7 r5 q.a7 q.c7 (a 5) (b 5) _ U7 (by omega) l7 (Lib.hid H.out.h10) rl5 (by omega)).mono ?_
  rintro e w6 ⟨rfl, _, G1⟩
  replace U8 := U8.chg G1 (D.dis 6 5 (by decide) (by decide) (by decide))
  have B := Box.chg ⟨y, g⟩ G1 (.inr (by omega))
  replace G := G.trans (G1.wide (by omega) (by omega))
  clear y g G1 U7
  obtain ⟨y, g⟩ := B
  obtain ⟨r6, er6⟩ : ∃ r, r5 + 5 * (totTo n.srcs n.srcs.length : Int) = r := ⟨_, rfl⟩
  have rl6 : 0 ≤ r6 := by omega
  have ru6 : r6 ≤ 160000000000000 := by omega
  rw [er6]
  clear er6
  go_wp2_with fail
  refine (laws_markFlitSS n.arrs v8 r6 q.a8 q.c8 (a 6) (b 6) _ U8 (by omega) l8 (Lib.hid H.out.h11) rl6 (by omega)).mono ?_
  rintro e w7 ⟨rfl, _, G1⟩
  have B := Box.chg ⟨y, g⟩ G1 (.inr (by omega))
  replace G := G.trans (G1.wide (by omega) (by omega))
  clear y g G1 U8
  obtain ⟨y, g⟩ := B
  go_wp2
  go_ret
  exact ⟨⟨_, rfl, by omega, by omega⟩, G⟩
theorem laws_markNet (n : Net) (q : NA) (k : Int) (lo hi : Nat) (a b : Nat → Nat) (v4 v7 v8 : List Value) (w w0 : World) (q0 : NA) (hN : NetI w a b n q v4 v7 v8) (hr : NetR 83 w0 n q0) (D : Lay lo hi a b) (hhi : hi ≤ w.heap.size) (k0 : 0 ≤ k) (k1 : k ≤ 1000000) :
    Calls Try.prog 10 #[.agg (netCells n q), .int .i64 k] w fun e w' => (∃ r, e = .returned (.int .i64 r) ∧ 0 ≤ r) ∧ Chg lo hi w w' :=
  (laws_markNet2 n q k lo hi a b v4 v7 v8 w w0 q0 hN hr D hhi k0 k1).mono fun e w' h => ⟨let ⟨r, h1, h2, _⟩ := h.1; ⟨r, h1, h2⟩, h.2⟩
end Go.Proofs.Yteeebfeljjghhaa
