/- Lemmas for laws of this seat, for all inputs: Idle NX StW CpW. -/
import Derived.Test.YtmkbmddgkdoaiaaGreatG7
import Derived.Test.YtmkbmddgkdoaiaaGreatG1
import Derived.Test.YtmkbmddgkdoaiaaGreatG2
import Derived.ArgAppend
import Derived.Deep.Upon
/- Idle and stuck networks: both sides. -/
set_option linter.unusedVariables false
set_option linter.unusedSimpArgs false
namespace Go.Proofs.YtmkbmddgkdoaiaaGreat
open Go.RowKit Go.Proofs.YtmkbmddgkdoaiaaGreatW.PrintWords
open NoC

def idleN (n : Net) : Bool := decide (totTo n.bufs n.bufs.length = 0) && decide (totTo n.srcs n.srcs.length = 0)
def movesV (n : Net) : Int := ((allGrants n).length : Int) + ((enteringN n).length : Int)
def stuckN (n : Net) : Bool := !idleN n && (movesV n == 0)
theorem tot_bound {l : List (List Flit)} (hn : l.length ≤ 2097152) (h : ∀ x ∈ l, x.length ≤ 2097152) (k : Nat) (hk : k ≤ l.length) : (totTo l k : Int) ≤ 4398046511104 := by
  have := totTo_le h k hk
  omega
theorem impl_flitsIn (l : List (List Flit)) (A : Option Addr) (c : Nat) (w : World) (hr : (kB 121).C w A l.length l) (hn : l.length ≤ 2097152) (hm : Hid (∀ x ∈ l, x.length ≤ 2097152)) :
    Calls Tryz.prog 140 #[.slice A l.length c] w fun e w' => e = .returned (.int .i64 (totTo l l.length : Int)) ∧ w = w' := by
  go_enter Tryz.func140, Tryz.ntmps140
  go_wp2
  go_loop [3, 8] (fun s i => ∃ k : Nat, i = .int .i64 k ∧ k ≤ l.length ∧ s = .int .i64 (totTo l k : Int)) (fun _ i => l.length - (intOf i).toNat)
  case atStart => exact ⟨0, rfl, Nat.zero_le _, rfl⟩
  case round =>
    obtain ⟨k, rfl, hk, rfl⟩ := hrel
    have hb := tot_bound hn hm.out k hk
    by_cases hlt : k < l.length
    · obtain ⟨b, off, rfl, hb, Ai, ci, p0, hle, hCi⟩ := rdB_at hr k hlt
      have hki := hm.out _ (rl_mem hlt)
      have hs : ((totTo l (k + 1) : Nat) : Int) = (totTo l k : Int) + ((rl l k).length : Int) := by simp [totTo]
      have HS := Lib.hid hs
      clear hs
      go_wp2
      go_round
      case rel => exact ⟨k + 1, by go_num, by omega, by rw [HS.out]⟩
      case measure => simp [intOf]; omega
    · obtain rfl : k = l.length := by omega
      go_wp2
      go_ret
      exact ⟨rfl, rfl⟩
theorem spec_l15Sum (l : List (List Flit)) (A : Option Addr) (c : Nat) (w : World) (hr : (kB 121).C w A l.length l) (hn : l.length ≤ 2097152) (hm : Hid (∀ x ∈ l, x.length ≤ 2097152)) :
    Calls Tryz.prog 135 #[.slice A l.length c] w fun e w' => e = .returned (.int .i64 (totTo l l.length : Int)) ∧ w = w' := by
  go_enter Tryz.func135, Tryz.ntmps135
  go_wp2
  go_loop [3, 4] (fun s i => ∃ k : Nat, i = .int .i64 k ∧ k ≤ l.length ∧ s = .int .i64 (totTo l k : Int)) (fun _ i => l.length - (intOf i).toNat)
  case atStart => exact ⟨0, rfl, Nat.zero_le _, rfl⟩
  case round =>
    obtain ⟨k, rfl, hk, rfl⟩ := hrel
    have hb := tot_bound hn hm.out k hk
    by_cases hlt : k < l.length
    · obtain ⟨b, off, rfl, hb, Ai, ci, p0, hle, hCi⟩ := rdB_at hr k hlt
      have hki := hm.out _ (rl_mem hlt)
      have hs : ((totTo l (k + 1) : Nat) : Int) = (totTo l k : Int) + ((rl l k).length : Int) := by simp [totTo]
      have HS := Lib.hid hs
      clear hs
      go_wp2
      go_round
      case rel => exact ⟨k + 1, by go_num, by omega, by rw [HS.out]⟩
      case measure => simp [intOf]; omega
    · obtain rfl : k = l.length := by omega
      go_wp2
      go_ret
      exact ⟨rfl, rfl⟩
theorem idle_1 {n : Net} (h : ¬ totTo n.bufs n.bufs.length = 0) : idleN n = false := by simp [idleN, h]
theorem idle_2 {n : Net} (h : totTo n.bufs n.bufs.length = 0) : idleN n = decide (totTo n.srcs n.srcs.length = 0) := by simp [idleN, h]
set_option maxHeartbeats 1000000 in
theorem impl_isIdle (n : Net) (q : NA) (bx : Nat) (w : World) (hr : NetR 121 w n q) (hx : Box w bx (netCells n q)) :
    Calls Tryz.prog 104 #[.pointer (some ⟨bx, 0, none⟩)] w fun e w' => e = .returned (.bool (idleN n)) ∧ w = w' := by
  obtain ⟨a1, a2, a3, a4, a5, a6, a7, a8, c1, c2, c3, c4, c5, c6, c7, c8⟩ := q; obtain ⟨Rbr, Rpa, Rpb, Rbu, Row, Rtu, Rso, Rar, L1, L2, L3, L4, L5, L6, L7, L8, L9, L10, L11⟩ := hr; have M9 := Lib.hid L9; have M10 := Lib.hid L10; have M11 := Lib.hid L11; clear L9 L10 L11; dsimp only [netCells] at *
  have xl := hx.lt; have x0 : w.cell? ⟨bx, 0, none⟩ = some (.int .i64 n.mesh.g.w) := hx.get 0; have x1 : w.cell? ⟨bx, 1, none⟩ = some (.int .i64 n.mesh.g.h) := hx.get 1; have x2 : w.cell? ⟨bx, 2, none⟩ = some (.slice a1 n.mesh.br.length c1) := hx.get 2; have x3 : w.cell? ⟨bx, 3, none⟩ = some (.slice a2 n.pa.length c2) := hx.get 3; have x4 : w.cell? ⟨bx, 4, none⟩ = some (.slice a3 n.pb.length c3) := hx.get 4; have x5 : w.cell? ⟨bx, 5, none⟩ = some (.slice a4 n.bufs.length c4) := hx.get 5; have x6 : w.cell? ⟨bx, 6, none⟩ = some (.slice a5 n.owners.length c5) := hx.get 6; have x7 : w.cell? ⟨bx, 7, none⟩ = some (.slice a6 n.turns.length c6) := hx.get 7; have x8 : w.cell? ⟨bx, 8, none⟩ = some (.slice a7 n.srcs.length c7) := hx.get 8; have x9 : w.cell? ⟨bx, 9, none⟩ = some (.slice a8 n.arrs.length c8) := hx.get 9; have x10 : w.cell? ⟨bx, 10, none⟩ = some (.int .i64 n.time) := hx.get 10; clear hx
  obtain ⟨s, es⟩ : ∃ s, totTo n.bufs n.bufs.length = s := ⟨_, rfl⟩
  obtain ⟨t, et⟩ : ∃ t, totTo n.srcs n.srcs.length = t := ⟨_, rfl⟩
  have ES := Lib.hid es
  have ET := Lib.hid et
  clear es et
  by_cases hs : s = 0
  · have HI : Hid (idleN n = decide (t = 0)) := Lib.hid (by rw [idle_2 (ES.out.trans hs), ET.out])
    have f1 : ((s : Int) == 0) = true := by simp [hs]
    clear hs
    go_enter Tryz.func104, Tryz.ntmps104
    go_wp2_with (first | (go_at_call_of 140 n.srcs; refine (impl_flitsIn n.srcs a7 c7 _ Rso L7 M10).mono ?_; rintro e w' ⟨he, rfl⟩; rw [ET.out] at he; subst he) | (go_at_call_of 140 n.bufs; refine (impl_flitsIn n.bufs a4 c4 _ Rbu L4 M9).mono ?_; rintro e w' ⟨he, rfl⟩; rw [ES.out] at he; subst he))
    go_ret
    exact ⟨ret_bool (by rw [HI.out]; by_cases h : t = 0 <;> simp [h]), rfl⟩
  · have HI : Hid (idleN n = false) := Lib.hid (idle_1 (by rw [ES.out]; exact hs))
    have f1 : ((s : Int) == 0) = false := by simp [hs]
    clear hs
    go_enter Tryz.func104, Tryz.ntmps104
    go_wp2_with (go_at_call_of 140 n.bufs; refine (impl_flitsIn n.bufs a4 c4 _ Rbu L4 M9).mono ?_; rintro e w' ⟨he, rfl⟩; rw [ES.out] at he; subst he)
    go_ret
    exact ⟨ret_bool HI.out.symm, rfl⟩
set_option maxHeartbeats 1000000 in
theorem spec_l20Idle (n : Net) (q : NA) (w : World) (hr : NetR 121 w n q) :
    Calls Tryz.prog 98 #[.agg (netCells n q)] w fun e w' => e = .returned (.bool (idleN n)) ∧ Below w.heap.size w w' := by
  obtain ⟨a1, a2, a3, a4, a5, a6, a7, a8, c1, c2, c3, c4, c5, c6, c7, c8⟩ := q; obtain ⟨Rbr, Rpa, Rpb, Rbu, Row, Rtu, Rso, Rar, L1, L2, L3, L4, L5, L6, L7, L8, L9, L10, L11⟩ := hr; have M9 := Lib.hid L9; have M10 := Lib.hid L10; have M11 := Lib.hid L11; clear L9 L10 L11; dsimp only [netCells] at *
  obtain ⟨s, es⟩ : ∃ s, totTo n.bufs n.bufs.length = s := ⟨_, rfl⟩
  obtain ⟨t, et⟩ : ∃ t, totTo n.srcs n.srcs.length = t := ⟨_, rfl⟩
  have ES := Lib.hid es
  have ET := Lib.hid et
  clear es et
  by_cases hs : s = 0
  · have HI : Hid (idleN n = decide (t = 0)) := Lib.hid (by rw [idle_2 (ES.out.trans hs), ET.out])
    have f1 : ((s : Int) == 0) = true := by simp [hs]
    clear hs
    go_enter Tryz.func98, Tryz.ntmps98
    go_wp2_with (first | (go_at_call_of 135 n.srcs; refine (spec_l15Sum n.srcs a7 c7 _ (by exact Kd.C_below Rso bel) L7 M10).mono ?_; rintro e w' ⟨he, rfl⟩; rw [ET.out] at he; subst he) | (go_at_call_of 135 n.bufs; refine (spec_l15Sum n.bufs a4 c4 _ (by exact Kd.C_below Rbu bel) L4 M9).mono ?_; rintro e w' ⟨he, rfl⟩; rw [ES.out] at he; subst he))
    go_ret
    exact ⟨ret_bool (by rw [HI.out]; by_cases h : t = 0 <;> simp [h]), bel⟩
  · have HI : Hid (idleN n = false) := Lib.hid (idle_1 (by rw [ES.out]; exact hs))
    have f1 : ((s : Int) == 0) = false := by simp [hs]
    clear hs
    go_enter Tryz.func98, Tryz.ntmps98
    go_wp2_with (go_at_call_of 135 n.bufs; refine (spec_l15Sum n.bufs a4 c4 _ (by exact Kd.C_below Rbu bel) L4 M9).mono ?_; rintro e w' ⟨he, rfl⟩; rw [ES.out] at he; subst he)
    go_ret
    exact ⟨ret_bool HI.out.symm, bel⟩
set_option maxHeartbeats 2000000 in
theorem impl_isStuck (n : Net) (q : NA) (bx : Nat) (w : World) (hr : NetR 121 w n q) (hx : Box w bx (netCells n q)) (ok : netOk n = true) :
    Calls Tryz.prog 62 #[.pointer (some ⟨bx, 0, none⟩)] w fun e w' => e = .returned (.bool (stuckN n)) ∧ Below w.heap.size w w' := by
  have R := Lib.hid hr
  have X := Lib.hid hx
  have OK := Lib.hid ok
  clear hr hx ok
  cases hi : idleN n
  · have HI : Hid (stuckN n = (movesV n == 0)) := Lib.hid (by simp [stuckN, hi])
    obtain ⟨m, em⟩ : ∃ m, movesV n = m := ⟨_, rfl⟩
    rw [em] at HI
    have EM := Lib.hid (show ((allGrants n).length : Int) + ((enteringN n).length : Int) = m from em)
    have H2 := Lib.hid hi
    clear em hi
    go_enter Tryz.func62, Tryz.ntmps62
    go_wp2_with (first | (go_at_call 104; refine (impl_isIdle n q bx _ R.out X.out).mono ?_; rintro e w' ⟨he, rfl⟩; rw [H2.out] at he; subst he) | (go_at_call 105; refine (impl_moves n q bx _ (R.out.below bel) (X.out.below bel) OK.out).mono ?_; rintro e w1 ⟨he, hb1⟩; rw [EM.out] at he; subst he; obtain ⟨hc1, hf1, hz1⟩ := bcell hb1; (try simp only [szs] at hz1); have hb2 := (by first | exact bw_then hb2 hb1 | exact bw_then (bw_drewN _ hb2) hb1 | exact bw_then (bw_alloc _ hb2) hb1 | exact bw_then (bw_drew hb2) hb1 | exact bw_then HB hb1 | exact bw_then (bw_drewN _ HB) hb1 | exact bw_then (bw_alloc _ HB) hb1 | exact bw_then (bw_drew HB) hb1 | exact hb1); obtain ⟨hc2, hf2, hz2⟩ := bcell hb2; (try simp only [szs] at hz2); try (first | obtain ⟨hy1, hy2, hy3, hy4⟩ := lts4 hz2 | obtain ⟨hy1, hy2, hy3⟩ := lts3 hz2 | obtain ⟨hy1, hy2⟩ := lts2 hz2 | have hy1 := lts1 hz2); have hb9 := hb1))
    go_ret
    exact ⟨ret_bool HI.out.symm, bel⟩
  · have HI : Hid (stuckN n = false) := Lib.hid (by simp [stuckN, hi])
    have H2 := Lib.hid hi
    clear hi
    go_enter Tryz.func62, Tryz.ntmps62
    go_wp2_with (go_at_call 104; refine (impl_isIdle n q bx _ R.out X.out).mono ?_; rintro e w' ⟨he, rfl⟩; rw [H2.out] at he; subst he)
    go_ret
    exact ⟨ret_bool HI.out.symm, bel⟩
set_option maxHeartbeats 4000000 in
set_option maxRecDepth 100000 in
theorem spec_l24Stuck (n : Net) (q : NA) (w : World) (hr : NetR 121 w n q) (ok : netOk n = true) :
    Calls Tryz.prog 58 #[.agg (netCells n q)] w fun e w' => e = .returned (.bool (stuckN n)) ∧ Below w.heap.size w w' := by
  have R := Lib.hid hr
  have OK := Lib.hid ok
  obtain ⟨hw1, hw2⟩ := moves_wrap ok
  obtain ⟨a1, a2, a3, a4, a5, a6, a7, a8, c1, c2, c3, c4, c5, c6, c7, c8⟩ := q
  clear hr ok
  dsimp only [netCells]
  cases hi : idleN n
  · have HI : Hid (stuckN n = (movesV n == 0)) := Lib.hid (by simp [stuckN, hi])
    have H2 := Lib.hid hi
    clear hi
    go_enter Tryz.func58, Tryz.ntmps58
    go_wp2_with fail
    go_region_held3 (fun w' => Below ((w.alloc (.cells #[.int .i64 n.mesh.g.w, .int .i64 n.mesh.g.h, .slice a1 n.mesh.br.length c1, .slice a2 n.pa.length c2, .slice a3 n.pb.length c3, .slice a4 n.bufs.length c4, .slice a5 n.owners.length c5, .slice a6 n.turns.length c6, .slice a7 n.srcs.length c7, .slice a8 n.arrs.length c8, .int .i64 n.time] 44))).heap.size ((w.alloc (.cells #[.int .i64 n.mesh.g.w, .int .i64 n.mesh.g.h, .slice a1 n.mesh.br.length c1, .slice a2 n.pa.length c2, .slice a3 n.pb.length c3, .slice a4 n.bufs.length c4, .slice a5 n.owners.length c5, .slice a6 n.turns.length c6, .slice a7 n.srcs.length c7, .slice a8 n.arrs.length c8, .int .i64 n.time] 44))) w' ∧ ∀ bq oq, bq < ((w.alloc (.cells #[.int .i64 n.mesh.g.w, .int .i64 n.mesh.g.h, .slice a1 n.mesh.br.length c1, .slice a2 n.pa.length c2, .slice a3 n.pb.length c3, .slice a4 n.bufs.length c4, .slice a5 n.owners.length c5, .slice a6 n.turns.length c6, .slice a7 n.srcs.length c7, .slice a8 n.arrs.length c8, .int .i64 n.time] 44))).heap.size → w'.cell? ⟨bq, oq, none⟩ = ((w.alloc (.cells #[.int .i64 n.mesh.g.w, .int .i64 n.mesh.g.h, .slice a1 n.mesh.br.length c1, .slice a2 n.pa.length c2, .slice a3 n.pb.length c3, .slice a4 n.bufs.length c4, .slice a5 n.owners.length c5, .slice a6 n.turns.length c6, .slice a7 n.srcs.length c7, .slice a8 n.arrs.length c8, .int .i64 n.time] 44))).cell? ⟨bq, oq, none⟩) (first | exact far_of bel) ( first | (go_at_call 98; refine (spec_l20Idle n _ _ (R.out.below bel)).mono ?_; rintro e w1 ⟨he, hb1⟩; rw [H2.out] at he; subst he; obtain ⟨hc1, hf1, hz1⟩ := bcell hb1; (try simp only [szs] at hz1); have hb2 := (by first | exact bw_then hb2 hb1 | exact bw_then (bw_drewN _ hb2) hb1 | exact bw_then (bw_alloc _ hb2) hb1 | exact bw_then (bw_drew hb2) hb1 | exact bw_then HB hb1 | exact bw_then (bw_drewN _ HB) hb1 | exact bw_then (bw_alloc _ HB) hb1 | exact bw_then (bw_drew HB) hb1 | exact hb1); obtain ⟨hc2, hf2, hz2⟩ := bcell hb2; (try simp only [szs] at hz2); try (first | obtain ⟨hy1, hy2, hy3, hy4⟩ := lts4 hz2 | obtain ⟨hy1, hy2, hy3⟩ := lts3 hz2 | obtain ⟨hy1, hy2⟩ := lts2 hz2 | have hy1 := lts1 hz2); have hb9 := hb1) | (go_at_call 80; refine (spec_l18All n _ _ (R.out.below bel) OK.out).mono ?_; rintro e w1 ⟨hg1, hb1⟩; obtain ⟨A1, d1, rfl, hk1, hC1⟩ := hg1.read; obtain ⟨hc1, hf1, hz1⟩ := bcell hb1; (try simp only [szs] at hz1); have hb2 := (by first | exact bw_then hb2 hb1 | exact bw_then (bw_drewN _ hb2) hb1 | exact bw_then (bw_alloc _ hb2) hb1 | exact bw_then (bw_drew hb2) hb1 | exact bw_then HB hb1 | exact bw_then (bw_drewN _ HB) hb1 | exact bw_then (bw_alloc _ HB) hb1 | exact bw_then (bw_drew HB) hb1 | exact hb1); obtain ⟨hc2, hf2, hz2⟩ := bcell hb2; (try simp only [szs] at hz2); try (first | obtain ⟨hy1, hy2, hy3, hy4⟩ := lts4 hz2 | obtain ⟨hy1, hy2, hy3⟩ := lts3 hz2 | obtain ⟨hy1, hy2⟩ := lts2 hz2 | have hy1 := lts1 hz2); have hb9 := hb1) | (go_at_call 99; refine (spec_l19Entering n _ _ (R.out.below bel) OK.out).mono ?_; rintro e w1 ⟨hg1, hb1⟩; obtain ⟨A1, c1, rfl, hk1, hr1⟩ := hg1.read; obtain ⟨hc1, hf1, hz1⟩ := bcell hb1; (try simp only [szs] at hz1); have hb2 := (by first | exact bw_then hb2 hb1 | exact bw_then (bw_drewN _ hb2) hb1 | exact bw_then (bw_alloc _ hb2) hb1 | exact bw_then (bw_drew hb2) hb1 | exact bw_then HB hb1 | exact bw_then (bw_drewN _ HB) hb1 | exact bw_then (bw_alloc _ HB) hb1 | exact bw_then (bw_drew HB) hb1 | exact hb1); obtain ⟨hc2, hf2, hz2⟩ := bcell hb2; (try simp only [szs] at hz2); try (first | obtain ⟨hy1, hy2, hy3, hy4⟩ := lts4 hz2 | obtain ⟨hy1, hy2, hy3⟩ := lts3 hz2 | obtain ⟨hy1, hy2⟩ := lts2 hz2 | have hy1 := lts1 hz2); have hb9 := hb1))
    go_wp2
    go_ret
    exact ⟨ret_bool (by rw [HI.out]; unfold movesV; first | rfl | (rw [hw1]) | (rw [hw2])), bel⟩
  · have HI : Hid (stuckN n = false) := Lib.hid (by simp [stuckN, hi])
    have H2 := Lib.hid hi
    clear hi hw1 hw2
    have HCALL : Hid (∀ W : World, Below (w.alloc (.cells #[.int .i64 n.mesh.g.w, .int .i64 n.mesh.g.h, .slice a1 n.mesh.br.length c1, .slice a2 n.pa.length c2, .slice a3 n.pb.length c3, .slice a4 n.bufs.length c4, .slice a5 n.owners.length c5, .slice a6 n.turns.length c6, .slice a7 n.srcs.length c7, .slice a8 n.arrs.length c8, .int .i64 n.time] 44)).heap.size (w.alloc (.cells #[.int .i64 n.mesh.g.w, .int .i64 n.mesh.g.h, .slice a1 n.mesh.br.length c1, .slice a2 n.pa.length c2, .slice a3 n.pb.length c3, .slice a4 n.bufs.length c4, .slice a5 n.owners.length c5, .slice a6 n.turns.length c6, .slice a7 n.srcs.length c7, .slice a8 n.arrs.length c8, .int .i64 n.time] 44)) W → Calls Tryz.prog 98 #[.agg #[.int .i64 n.mesh.g.w, .int .i64 n.mesh.g.h, .slice a1 n.mesh.br.length c1, .slice a2 n.pa.length c2, .slice a3 n.pb.length c3, .slice a4 n.bufs.length c4, .slice a5 n.owners.length c5, .slice a6 n.turns.length c6, .slice a7 n.srcs.length c7, .slice a8 n.arrs.length c8, .int .i64 n.time]] W fun e w' => e = .returned (.bool true) ∧ Below W.heap.size W w') := Lib.hid (fun W hb => Calls.says (spec_l20Idle n ⟨a1, a2, a3, a4, a5, a6, a7, a8, c1, c2, c3, c4, c5, c6, c7, c8⟩ W ((R.out.below (bw_alloc _ (bw_refl _))).below hb)) (congrArg Value.bool H2.out))
    go_enter Tryz.func58, Tryz.ntmps58
    go_wp2_with fail
    refine wp_region_far ((w.alloc (.cells #[.int .i64 n.mesh.g.w, .int .i64 n.mesh.g.h, .slice a1 n.mesh.br.length c1, .slice a2 n.pa.length c2, .slice a3 n.pb.length c3, .slice a4 n.bufs.length c4, .slice a5 n.owners.length c5, .slice a6 n.turns.length c6, .slice a7 n.srcs.length c7, .slice a8 n.arrs.length c8, .int .i64 n.time] 44))) (by kernel_rfl) (by kernel_rfl) bel ?_
    have hqc := far_cell ((w.alloc (.cells #[.int .i64 n.mesh.g.w, .int .i64 n.mesh.g.h, .slice a1 n.mesh.br.length c1, .slice a2 n.pa.length c2, .slice a3 n.pb.length c3, .slice a4 n.bufs.length c4, .slice a5 n.owners.length c5, .slice a6 n.turns.length c6, .slice a7 n.srcs.length c7, .slice a8 n.arrs.length c8, .int .i64 n.time] 44)))
    have hqf := far_frozen ((w.alloc (.cells #[.int .i64 n.mesh.g.w, .int .i64 n.mesh.g.h, .slice a1 n.mesh.br.length c1, .slice a2 n.pa.length c2, .slice a3 n.pb.length c3, .slice a4 n.bufs.length c4, .slice a5 n.owners.length c5, .slice a6 n.turns.length c6, .slice a7 n.srcs.length c7, .slice a8 n.arrs.length c8, .int .i64 n.time] 44)))
    repeat (first | go_big_quiet_step ((go_at_call 98; exact far_call (HCALL.out _ (Far.h _)))) | quiet_step ((go_at_call 98; exact far_call (HCALL.out _ (Far.h _)))))
    refine wpQuiet_nil ?_
    intro wq hbq
    clear hqc hqf
    obtain ⟨hcq, hfq, hzq⟩ := bcell hbq
    try simp only [szs] at hzq
    go_wp2
    go_ret
    exact ⟨ret_bool HI.out.symm, bel⟩
end Go.Proofs.YtmkbmddgkdoaiaaGreat
/- A network of one's own: its rows, no two the same, wherever they lie; what stays of it where one of them is written. -/
set_option linter.unusedVariables false
set_option linter.unusedSimpArgs false
namespace Go.Proofs.YtmkbmddgkdoaiaaGreat
open Go.RowKit Go.Proofs.YtmkbmddgkdoaiaaGreatW.PrintWords
open NoC

def BlkT (w : World) (g t : Nat) : Prop := ∃ cells, w.heap[g]? = some (.cells cells t (0, 0))
theorem BlkT.below {w w1 : World} {g t : Nat} (h : BlkT w g t) (hb : Below w.heap.size w w1) : BlkT w1 g t := let ⟨c, hc⟩ := h; ⟨c, blk_below hc hb⟩
theorem BlkT.set {w : World} {g t : Nat} (h : BlkT w g t) (b o : Nat) (u : Value) : BlkT (w.setCell ⟨b, o, none⟩ u) g t := by
  obtain ⟨c, hc⟩ := h
  by_cases e : g = b
  · subst e; exact ⟨_, blk_set hc o u⟩
  · exact ⟨c, blk_far (p := ⟨b, o, none⟩) hc e u⟩
structure FR (w : World) (lo : Nat) (vs : List Value) (l : List (List Flit)) : Prop where
  len : vs.length = l.length
  row : ∀ i : Nat, i < l.length → kF.R 121 w lo (fun _ => True) (vr vs i) (rl l i)
  ap : ∀ i j : Nat, i < j → j < l.length → Apart (vr vs i) (vr vs j)
theorem FR.ap' {w : World} {lo : Nat} {vs : List Value} {l : List (List Flit)} (h : FR w lo vs l) {i j : Nat} (hne : i ≠ j) (hi : i < l.length) (hj : j < l.length) : Apart (vr vs i) (vr vs j) := by
  rcases Nat.lt_or_gt_of_ne hne with h1 | h1
  · exact h.ap i j h1 hj
  · exact apart_comm (h.ap j i h1 hi)
theorem FR.below {w w1 : World} {lo : Nat} {vs : List Value} {l : List (List Flit)} (h : FR w lo vs l) (hb : Below w.heap.size w w1) : FR w1 lo vs l := ⟨h.len, fun i hi => Kd.R_below (h.row i hi) hb, h.ap⟩
theorem FR.lower {w : World} {lo lo' : Nat} {vs : List Value} {l : List (List Flit)} (h : FR w lo vs l) (hl : lo' ≤ lo) : FR w lo' vs l := ⟨h.len, fun i hi => Kd.R_lower (h.row i hi) hl, h.ap⟩
theorem FR.typed {w : World} {lo : Nat} {vs : List Value} {l : List (List Flit)} (h : FR w lo vs l) {g t : Nat} (hb : BlkT w g t) (ht : 121 ≠ t) (j : Nat) (u : Value) : FR (w.setCell ⟨g, j, none⟩ u) lo vs l := by
  obtain ⟨c, hc⟩ := hb
  refine ⟨h.len, fun i hi => Kd.R_set (h.row i hi) hc (fun q hq => ?_) j u, h.ap⟩
  have e : q = 121 := by simpa [kF, Kd.flat] using hq
  rw [e]
  exact ht
def Anew (w : World) (u v : Value) : Prop := u.ownBlock = none ∨ u.ownBlock = v.ownBlock ∨ ∃ b, u.ownBlock = some b ∧ w.heap.size ≤ b
theorem FR.upd {w w1 : World} {lo : Nat} {vs : List Value} {l : List (List Flit)} (h : FR w lo vs l) (k : Nat) (hk : k < l.length) (hg : w.grownBy w1 (vr vs k).ownBlock) {u : Value} {y : List Flit} (hu : kF.R 121 w1 lo (fun _ => True) u y) (hat : Anew w u (vr vs k)) : FR w1 lo (vs.set k u) (l.set k y) := by
  have hl := h.len
  have other : ∀ i : Nat, i < l.length → i ≠ k → Apart (vr vs i) u := by
    intro i hi hne
    have ha := h.ap' hne hi hk
    rcases hat with h1 | h1 | ⟨b, h1, h2⟩
    · exact apart_comm (.inl h1)
    · unfold Apart at ha ⊢
      rwa [h1]
    · have hw := within_R (h.row i hi)
      cases e : (vr vs i).ownBlock with
      | none => exact .inl e
      | some g =>
        right
        rw [h1, e]
        intro e2
        have := hw g e
        have := Option.some.inj e2
        omega
  refine ⟨by rw [List.length_set, List.length_set, hl], fun i hi => ?_, fun i j hij hj => ?_⟩
  · rw [List.length_set] at hi
    rw [vr_set (by omega), set_getB hk i hi]
    by_cases e : i = k
    · subst e
      rw [if_pos rfl, if_pos rfl]
      exact hu
    · rw [if_neg e, if_neg (fun h => e h.symm)]
      exact R_grownF (h.row i hi) hg (h.ap' e hi hk)
  · rw [List.length_set] at hj
    rw [vr_set (by omega), vr_set (by omega)]
    by_cases e1 : i = k
    · rw [if_pos e1, if_neg (by omega)]
      exact apart_comm (other j hj (by omega))
    · rw [if_neg e1]
      by_cases e2 : j = k
      · rw [if_pos e2]
        exact other i (by omega) e1
      · rw [if_neg e2]
        exact h.ap i j hij hj
structure NB (n : Net) : Prop where
  h1 : n.mesh.br.length ≤ 2097152
  h2 : n.pa.length ≤ 2097152
  h3 : n.pb.length ≤ 2097152
  h4 : n.bufs.length ≤ 2097152
  h5 : n.owners.length ≤ 2097152
  h6 : n.turns.length ≤ 2097152
  h7 : n.srcs.length ≤ 2097152
  h8 : n.arrs.length ≤ 2097152
  h9 : ∀ l ∈ n.bufs, l.length ≤ 2097152
  h10 : ∀ l ∈ n.srcs, l.length ≤ 2097152
  h11 : ∀ l ∈ n.arrs, l.length ≤ 2097152
theorem NetR.nb {e : Nat} {w : World} {n : Net} {q : NA} (k : NetR e w n q) : NB n := ⟨k.h1, k.h2, k.h3, k.h4, k.h5, k.h6, k.h7, k.h8, k.h9, k.h10, k.h11⟩
def iv (n : Net) (q : NA) : List Value := [.slice q.a1 n.mesh.br.length q.c1, .slice q.a2 n.pa.length q.c2, .slice q.a3 n.pb.length q.c3, .slice q.a5 n.owners.length q.c5, .slice q.a6 n.turns.length q.c6]
def ov (n : Net) (q : NA) : List Value := [.slice q.a4 n.bufs.length q.c4, .slice q.a7 n.srcs.length q.c7, .slice q.a8 n.arrs.length q.c8]
def AllAp (m : Nat) (vs : List Value) : Prop := ∀ i j : Nat, i < j → j < m → Apart (vr vs i) (vr vs j)
theorem AllAp.of {m : Nat} {vs : List Value} (h : AllAp m vs) {i j : Nat} (hne : i ≠ j) (hi : i < m) (hj : j < m) : Apart (vr vs i) (vr vs j) := by
  rcases Nat.lt_or_gt_of_ne hne with h1 | h1
  · exact h i j h1 hj
  · exact apart_comm (h j i h1 hi)
def vlen : Value → Nat
  | .slice _ n _ => n
  | _ => 0
def Ap0 (u v : Value) : Prop := vlen u = 0 ∨ vlen v = 0 ∨ Apart u v
theorem Ap0.comm {u v : Value} (h : Ap0 u v) : Ap0 v u := by
  rcases h with h | h | h
  · exact .inr (.inl h)
  · exact .inl h
  · exact .inr (.inr (apart_comm h))
def AllAp0 (m : Nat) (vs : List Value) : Prop := ∀ i j : Nat, i < j → j < m → Ap0 (vr vs i) (vr vs j)
theorem AllAp0.of {m : Nat} {vs : List Value} (h : AllAp0 m vs) {i j : Nat} (hne : i ≠ j) (hi : i < m) (hj : j < m) : Ap0 (vr vs i) (vr vs j) := by
  rcases Nat.lt_or_gt_of_ne hne with h1 | h1
  · exact h i j h1 hj
  · exact (h j i h1 hi).comm
theorem R_empty_set {w : World} {lo e g k c : Nat} {A : Option Addr} (h : Kd.R (Kd.int .i64) e w lo (fun _ => True) (.slice A 0 c) []) (u : Value) : Kd.R (Kd.int .i64) e (w.setCell ⟨g, k, none⟩ u) lo (fun _ => True) (.slice A 0 c) [] := by
  obtain ⟨_, inner, ho, hr⟩ := h
  have hi : inner = [] := List.eq_nil_of_length_eq_zero (by have := ho.1; simpa using this)
  subst hi
  refine ⟨fun _ _ => trivial, [], ?_, Reps.none _ _⟩
  by_cases e2 : some g = (Value.slice A 0 c).ownBlock
  · rcases ho.2 with ⟨e3, _⟩ | ⟨g', cap, cur, e3, hb, hc, h1, h2, h3, h4⟩
    · rw [e3] at e2; simp [Value.ownBlock] at e2
    · rw [e3] at e2
      simp only [Value.ownBlock, Option.some.injEq] at e2
      subst e2
      rw [e3]
      exact ⟨by simp, .inr ⟨g, cap, cur.setIfInBounds k u, rfl, hb, blk_set hc k u, h1, h2, by simp [h3], by simp⟩⟩
  · exact own_setCell ho (p := ⟨g, k, none⟩) e2 u
structure NX (w : World) (lo : Nat) (n : Net) (q : NA) (v4 v7 v8 : List Value) : Prop where
  br : Kd.R (Kd.int .i64) 3 w lo (fun _ => True) (.slice q.a1 n.mesh.br.length q.c1) n.mesh.br
  pa : Kd.R (Kd.int .i64) 3 w lo (fun _ => True) (.slice q.a2 n.pa.length q.c2) n.pa
  pb : Kd.R (Kd.int .i64) 3 w lo (fun _ => True) (.slice q.a3 n.pb.length q.c3) n.pb
  owners : Kd.R (Kd.int .i64) 3 w lo (fun _ => True) (.slice q.a5 n.owners.length q.c5) n.owners
  turns : Kd.R (Kd.int .i64) 3 w lo (fun _ => True) (.slice q.a6 n.turns.length q.c6) n.turns
  bufs : w.ownsRow lo 108 1 (.slice q.a4 n.bufs.length q.c4) n.bufs.length v4
  srcs : w.ownsRow lo 108 1 (.slice q.a7 n.srcs.length q.c7) n.srcs.length v7
  arrs : w.ownsRow lo 108 1 (.slice q.a8 n.arrs.length q.c8) n.arrs.length v8
  rows : FR w lo (v4 ++ (v7 ++ v8)) (n.bufs ++ (n.srcs ++ n.arrs))
  apI : AllAp0 5 (iv n q)
  apO : AllAp 3 (ov n q)
section
variable {w w1 : World} {lo : Nat} {n : Net} {q : NA} {v4 v7 v8 : List Value}
theorem NX.l4 (h : NX w lo n q v4 v7 v8) : v4.length = n.bufs.length := by have := h.bufs.1; omega
theorem NX.l7 (h : NX w lo n q v4 v7 v8) : v7.length = n.srcs.length := by have := h.srcs.1; omega
theorem NX.l8 (h : NX w lo n q v4 v7 v8) : v8.length = n.arrs.length := by have := h.arrs.1; omega
theorem vr_left {a b : List Value} {i : Nat} (h : i < a.length) : vr (a ++ b) i = vr a i := by simp [vr, List.getD_eq_getElem?_getD, List.getElem?_append, h]
theorem vr_right {a b : List Value} {i : Nat} : vr (a ++ b) (a.length + i) = vr b i := by
  have h : ¬ a.length + i < a.length := by omega
  simp [vr, List.getD_eq_getElem?_getD, List.getElem?_append, h]
theorem rl_left {a b : List (List Flit)} {i : Nat} (h : i < a.length) : rl (a ++ b) i = rl a i := by simp [rl, List.getD_eq_getElem?_getD, List.getElem?_append, h]
theorem rl_right {a b : List (List Flit)} {i : Nat} : rl (a ++ b) ((a.length + i : Nat) : Int) = rl b i := by
  have h : ¬ a.length + i < a.length := by omega
  simp only [rl, Int.toNat_natCast]
  simp [List.getD_eq_getElem?_getD, List.getElem?_append, h]
theorem set_mid {α : Type} (a b c : List α) (k : Nat) (u : α) (hk : k < b.length) : (a ++ (b ++ c)).set (a.length + k) u = a ++ (b.set k u ++ c) := by
  rw [List.set_append_right _ _ (by omega), Nat.add_sub_cancel_left, List.set_append_left _ _ hk]
theorem set_end {α : Type} (a b c : List α) (k : Nat) (u : α) : (a ++ (b ++ c)).set (a.length + (b.length + k)) u = a ++ (b ++ c.set k u) := by
  rw [List.set_append_right _ _ (by omega), Nat.add_sub_cancel_left, List.set_append_right _ _ (by omega), Nat.add_sub_cancel_left]
theorem NX.row4 (h : NX w lo n q v4 v7 v8) (k : Nat) (hk : k < n.bufs.length) : kF.R 121 w lo (fun _ => True) (vr v4 k) (rl n.bufs k) := by
  have := h.rows.row k (by simp; omega)
  rwa [vr_left (by rw [h.l4]; exact hk), rl_left hk] at this
theorem NX.row7 (h : NX w lo n q v4 v7 v8) (k : Nat) (hk : k < n.srcs.length) : kF.R 121 w lo (fun _ => True) (vr v7 k) (rl n.srcs k) := by
  have := h.rows.row (n.bufs.length + k) (by simp; omega)
  rw [rl_right, ← h.l4, vr_right] at this
  rwa [vr_left (by rw [h.l7]; exact hk), rl_left hk] at this
theorem NX.row8 (h : NX w lo n q v4 v7 v8) (k : Nat) (hk : k < n.arrs.length) : kF.R 121 w lo (fun _ => True) (vr v8 k) (rl n.arrs k) := by
  have := h.rows.row (n.bufs.length + (n.srcs.length + k)) (by simp; omega)
  rw [rl_right, rl_right, ← h.l4, vr_right, ← h.l7, vr_right] at this
  exact this
theorem NX.below (h : NX w lo n q v4 v7 v8) (hb : Below w.heap.size w w1) : NX w1 lo n q v4 v7 v8 :=
  ⟨Kd.R_below h.br hb, Kd.R_below h.pa hb, Kd.R_below h.pb hb, Kd.R_below h.owners hb, Kd.R_below h.turns hb, pw_own_below h.bufs hb, pw_own_below h.srcs hb, pw_own_below h.arrs hb, h.rows.below hb, h.apI, h.apO⟩
theorem NX.lower (h : NX w lo n q v4 v7 v8) {lo' : Nat} (hl : lo' ≤ lo) : NX w lo' n q v4 v7 v8 :=
  ⟨Kd.R_lower h.br hl, Kd.R_lower h.pa hl, Kd.R_lower h.pb hl, Kd.R_lower h.owners hl, Kd.R_lower h.turns hl, own_weaken h.bufs hl, own_weaken h.srcs hl, own_weaken h.arrs hl, h.rows.lower hl, h.apI, h.apO⟩
theorem NX.typed (h : NX w lo n q v4 v7 v8) {g t : Nat} (hb : BlkT w g t) (h1 : 3 ≠ t) (h2 : 108 ≠ t) (h3 : 121 ≠ t) (j : Nat) (u : Value) : NX (w.setCell ⟨g, j, none⟩ u) lo n q v4 v7 v8 := by
  have hb' := hb
  obtain ⟨c, hc⟩ := hb
  have hI : ∀ x, x ∈ 3 :: (Kd.int .i64).E → x ≠ t := fun x hx => by
    have e : x = 3 := by simpa [Kd.int, Kd.scalar] using hx
    rw [e]
    exact h1
  exact ⟨Kd.R_set h.br hc hI j u, Kd.R_set h.pa hc hI j u, Kd.R_set h.pb hc hI j u, Kd.R_set h.owners hc hI j u, Kd.R_set h.turns hc hI j u, own_setCell h.bufs (p := ⟨g, j, none⟩) (own_ne h.bufs hc h2) u, own_setCell h.srcs (p := ⟨g, j, none⟩) (own_ne h.srcs hc h2) u, own_setCell h.arrs (p := ⟨g, j, none⟩) (own_ne h.arrs hc h2) u, h.rows.typed hb' h3 j u, h.apI, h.apO⟩
theorem NX.kept (h : NX w lo n q v4 v7 v8) {k : Nat} (hk : k < (n.bufs ++ (n.srcs ++ n.arrs)).length) (hg : w.grownBy w1 (vr (v4 ++ (v7 ++ v8)) k).ownBlock) : Kd.R (Kd.int .i64) 3 w1 lo (fun _ => True) (.slice q.a1 n.mesh.br.length q.c1) n.mesh.br ∧ Kd.R (Kd.int .i64) 3 w1 lo (fun _ => True) (.slice q.a2 n.pa.length q.c2) n.pa ∧ Kd.R (Kd.int .i64) 3 w1 lo (fun _ => True) (.slice q.a3 n.pb.length q.c3) n.pb ∧ Kd.R (Kd.int .i64) 3 w1 lo (fun _ => True) (.slice q.a5 n.owners.length q.c5) n.owners ∧ Kd.R (Kd.int .i64) 3 w1 lo (fun _ => True) (.slice q.a6 n.turns.length q.c6) n.turns ∧ w1.ownsRow lo 108 1 (.slice q.a4 n.bufs.length q.c4) n.bufs.length v4 ∧ w1.ownsRow lo 108 1 (.slice q.a7 n.srcs.length q.c7) n.srcs.length v7 ∧ w1.ownsRow lo 108 1 (.slice q.a8 n.arrs.length q.c8) n.arrs.length v8 := by
  obtain ⟨inner, hin⟩ := Kd.R_own (h.rows.row k hk)
  have keepI : ∀ {v : Value} {xs : List Int}, Kd.R (Kd.int .i64) 3 w lo (fun _ => True) v xs → Kd.R (Kd.int .i64) 3 w1 lo (fun _ => True) v xs := fun hr => by
    obtain ⟨i2, hi2⟩ := Kd.R_own hr
    exact R_grownI hr hg (own_type_ne hi2 hin (by decide))
  exact ⟨keepI h.br, keepI h.pa, keepI h.pb, keepI h.owners, keepI h.turns, own_other h.bufs hg (own_type_ne h.bufs hin (by decide)), own_other h.srcs hg (own_type_ne h.srcs hin (by decide)), own_other h.arrs hg (own_type_ne h.arrs hin (by decide))⟩
theorem own_put {W : World} {base g m cap k : Nat} {vs : List Value} (h : W.ownsRow base 108 1 (.slice (some ⟨g, 0, none⟩) m cap) m vs) (u : Value) : (W.setCell ⟨g, k, none⟩ u).ownsRow base 108 1 (.slice (some ⟨g, 0, none⟩) m cap) m (vs.set k u) := (h.stored k u).1
theorem NX.setBuf {g : Nat} (h : NX w lo n q v4 v7 v8) (ea : q.a4 = some ⟨g, 0, none⟩) (k : Nat) (hk : k < n.bufs.length) (hg : w.grownBy w1 (vr v4 k).ownBlock) {u : Value} {y : List Flit} (hu : kF.R 121 w1 lo (fun _ => True) u y) (hat : Anew w u (vr v4 k)) :
    NX (w1.setCell ⟨g, k, none⟩ u) lo { n with bufs := n.bufs.set k y } q (v4.set k u) v7 v8 := by
  have e1 : vr (v4 ++ (v7 ++ v8)) k = vr v4 k := vr_left (by rw [h.l4]; exact hk)
  have hk2 : k < (n.bufs ++ (n.srcs ++ n.arrs)).length := by simp; omega
  obtain ⟨i1, i2, i3, i4, i5, o4, o7, o8⟩ := h.kept hk2 (by rw [e1]; exact hg)
  have hb : BlkT w1 g 108 := own_typed o4 g (by rw [ea]; rfl)
  obtain ⟨c, hc⟩ := hb
  have hI : ∀ x, x ∈ 3 :: (Kd.int .i64).E → x ≠ 108 := fun x hx => by
    have e : x = 3 := by simpa [Kd.int, Kd.scalar] using hx
    rw [e]
    decide
  have hF := h.rows.upd k hk2 (by rw [e1]; exact hg) hu (by rw [e1]; exact hat)
  rw [List.set_append_left _ _ (by rw [h.l4]; exact hk), List.set_append_left _ _ hk] at hF
  have a7 : some g ≠ (Value.slice q.a7 n.srcs.length q.c7).ownBlock := by
    have := h.apO 0 1 (by omega) (by omega)
    rcases this with h0 | h0
    · rw [show vr (ov n q) 0 = .slice q.a4 n.bufs.length q.c4 from rfl, ea] at h0; cases h0
    · rw [show vr (ov n q) 0 = .slice q.a4 n.bufs.length q.c4 from rfl, ea] at h0
      exact h0
  have a8 : some g ≠ (Value.slice q.a8 n.arrs.length q.c8).ownBlock := by
    have := h.apO 0 2 (by omega) (by omega)
    rcases this with h0 | h0
    · rw [show vr (ov n q) 0 = .slice q.a4 n.bufs.length q.c4 from rfl, ea] at h0; cases h0
    · rw [show vr (ov n q) 0 = .slice q.a4 n.bufs.length q.c4 from rfl, ea] at h0
      exact h0
  refine ⟨Kd.R_set i1 hc hI k u, Kd.R_set i2 hc hI k u, Kd.R_set i3 hc hI k u, Kd.R_set i4 hc hI k u, Kd.R_set i5 hc hI k u, ?_, own_setCell o7 (p := ⟨g, k, none⟩) a7 u, own_setCell o8 (p := ⟨g, k, none⟩) a8 u, hF.typed ⟨c, hc⟩ (by decide) k u, h.apI, ?_⟩
  · rw [ea] at o4 ⊢
    simp only [List.length_set]
    exact own_put o4 u
  · have : ov { n with bufs := n.bufs.set k y } q = ov n q := by simp [ov]
    rw [this]
    exact h.apO
theorem NX.setSrc {g : Nat} (h : NX w lo n q v4 v7 v8) (ea : q.a7 = some ⟨g, 0, none⟩) (k : Nat) (hk : k < n.srcs.length) (hg : w.grownBy w1 (vr v7 k).ownBlock) {u : Value} {y : List Flit} (hu : kF.R 121 w1 lo (fun _ => True) u y) (hat : Anew w u (vr v7 k)) :
    NX (w1.setCell ⟨g, k, none⟩ u) lo { n with srcs := n.srcs.set k y } q v4 (v7.set k u) v8 := by
  have e1 : vr (v4 ++ (v7 ++ v8)) (n.bufs.length + k) = vr v7 k := by rw [← h.l4, vr_right, vr_left (by rw [h.l7]; exact hk)]
  have hk2 : n.bufs.length + k < (n.bufs ++ (n.srcs ++ n.arrs)).length := by simp; omega
  obtain ⟨i1, i2, i3, i4, i5, o4, o7, o8⟩ := h.kept hk2 (by rw [e1]; exact hg)
  obtain ⟨c, hc⟩ := own_typed o7 g (by rw [ea]; rfl)
  have hI : ∀ x, x ∈ 3 :: (Kd.int .i64).E → x ≠ 108 := fun x hx => by
    have e : x = 3 := by simpa [Kd.int, Kd.scalar] using hx
    rw [e]
    decide
  have hF := h.rows.upd (n.bufs.length + k) hk2 (by rw [e1]; exact hg) hu (by rw [e1]; exact hat)
  rw [set_mid n.bufs n.srcs n.arrs k y hk, show (v4 ++ (v7 ++ v8)).set (n.bufs.length + k) u = v4 ++ (v7.set k u ++ v8) by rw [← h.l4]; exact set_mid _ _ _ _ _ (by rw [h.l7]; exact hk)] at hF
  have a4 : some g ≠ (Value.slice q.a4 n.bufs.length q.c4).ownBlock := by
    have := h.apO.of (i := 1) (j := 0) (by omega) (by omega) (by omega)
    rcases this with h0 | h0
    · rw [show vr (ov n q) 1 = .slice q.a7 n.srcs.length q.c7 from rfl, ea] at h0; cases h0
    · rw [show vr (ov n q) 1 = .slice q.a7 n.srcs.length q.c7 from rfl, ea] at h0
      exact h0
  have a8 : some g ≠ (Value.slice q.a8 n.arrs.length q.c8).ownBlock := by
    have := h.apO 1 2 (by omega) (by omega)
    rcases this with h0 | h0
    · rw [show vr (ov n q) 1 = .slice q.a7 n.srcs.length q.c7 from rfl, ea] at h0; cases h0
    · rw [show vr (ov n q) 1 = .slice q.a7 n.srcs.length q.c7 from rfl, ea] at h0
      exact h0
  refine ⟨Kd.R_set i1 hc hI k u, Kd.R_set i2 hc hI k u, Kd.R_set i3 hc hI k u, Kd.R_set i4 hc hI k u, Kd.R_set i5 hc hI k u, own_setCell o4 (p := ⟨g, k, none⟩) a4 u, ?_, own_setCell o8 (p := ⟨g, k, none⟩) a8 u, hF.typed ⟨c, hc⟩ (by decide) k u, h.apI, ?_⟩
  · rw [ea] at o7 ⊢
    simp only [List.length_set]
    exact own_put o7 u
  · have : ov { n with srcs := n.srcs.set k y } q = ov n q := by simp [ov]
    rw [this]
    exact h.apO
theorem NX.setArr {g : Nat} (h : NX w lo n q v4 v7 v8) (ea : q.a8 = some ⟨g, 0, none⟩) (k : Nat) (hk : k < n.arrs.length) (hg : w.grownBy w1 (vr v8 k).ownBlock) {u : Value} {y : List Flit} (hu : kF.R 121 w1 lo (fun _ => True) u y) (hat : Anew w u (vr v8 k)) :
    NX (w1.setCell ⟨g, k, none⟩ u) lo { n with arrs := n.arrs.set k y } q v4 v7 (v8.set k u) := by
  have e1 : vr (v4 ++ (v7 ++ v8)) (n.bufs.length + (n.srcs.length + k)) = vr v8 k := by rw [← h.l4, vr_right, ← h.l7, vr_right]
  have hk2 : n.bufs.length + (n.srcs.length + k) < (n.bufs ++ (n.srcs ++ n.arrs)).length := by simp; omega
  obtain ⟨i1, i2, i3, i4, i5, o4, o7, o8⟩ := h.kept hk2 (by rw [e1]; exact hg)
  obtain ⟨c, hc⟩ := own_typed o8 g (by rw [ea]; rfl)
  have hI : ∀ x, x ∈ 3 :: (Kd.int .i64).E → x ≠ 108 := fun x hx => by
    have e : x = 3 := by simpa [Kd.int, Kd.scalar] using hx
    rw [e]
    decide
  have hF := h.rows.upd (n.bufs.length + (n.srcs.length + k)) hk2 (by rw [e1]; exact hg) hu (by rw [e1]; exact hat)
  rw [set_end n.bufs n.srcs n.arrs k y, show (v4 ++ (v7 ++ v8)).set (n.bufs.length + (n.srcs.length + k)) u = v4 ++ (v7 ++ v8.set k u) by rw [← h.l4, ← h.l7]; exact set_end _ _ _ _ _] at hF
  have a4 : some g ≠ (Value.slice q.a4 n.bufs.length q.c4).ownBlock := by
    have := h.apO.of (i := 2) (j := 0) (by omega) (by omega) (by omega)
    rcases this with h0 | h0
    · rw [show vr (ov n q) 2 = .slice q.a8 n.arrs.length q.c8 from rfl, ea] at h0; cases h0
    · rw [show vr (ov n q) 2 = .slice q.a8 n.arrs.length q.c8 from rfl, ea] at h0
      exact h0
  have a7 : some g ≠ (Value.slice q.a7 n.srcs.length q.c7).ownBlock := by
    have := h.apO.of (i := 2) (j := 1) (by omega) (by omega) (by omega)
    rcases this with h0 | h0
    · rw [show vr (ov n q) 2 = .slice q.a8 n.arrs.length q.c8 from rfl, ea] at h0; cases h0
    · rw [show vr (ov n q) 2 = .slice q.a8 n.arrs.length q.c8 from rfl, ea] at h0
      exact h0
  refine ⟨Kd.R_set i1 hc hI k u, Kd.R_set i2 hc hI k u, Kd.R_set i3 hc hI k u, Kd.R_set i4 hc hI k u, Kd.R_set i5 hc hI k u, own_setCell o4 (p := ⟨g, k, none⟩) a4 u, own_setCell o7 (p := ⟨g, k, none⟩) a7 u, ?_, hF.typed ⟨c, hc⟩ (by decide) k u, h.apI, ?_⟩
  · rw [ea] at o8 ⊢
    simp only [List.length_set]
    exact own_put o8 u
  · have : ov { n with arrs := n.arrs.set k y } q = ov n q := by simp [ov]
    rw [this]
    exact h.apO
theorem NX.ints (h : NX w lo n q v4 v7 v8) {g i : Nat} (hi : i < 5) (eg : (vr (iv n q) i).ownBlock = some g) (hl : vlen (vr (iv n q) i) ≠ 0) (hb : BlkT w g 3) (k : Nat) (u : Value) :
    (∀ j, j < 5 → j ≠ i → ∀ (A : Option Addr) (m c : Nat) (xs : List Int), vr (iv n q) j = .slice A m c → Kd.R (Kd.int .i64) 3 w lo (fun _ => True) (.slice A m c) xs → Kd.R (Kd.int .i64) 3 (w.setCell ⟨g, k, none⟩ u) lo (fun _ => True) (.slice A m c) xs) ∧ (w.setCell ⟨g, k, none⟩ u).ownsRow lo 108 1 (.slice q.a4 n.bufs.length q.c4) n.bufs.length v4 ∧ (w.setCell ⟨g, k, none⟩ u).ownsRow lo 108 1 (.slice q.a7 n.srcs.length q.c7) n.srcs.length v7 ∧ (w.setCell ⟨g, k, none⟩ u).ownsRow lo 108 1 (.slice q.a8 n.arrs.length q.c8) n.arrs.length v8 ∧ FR (w.setCell ⟨g, k, none⟩ u) lo (v4 ++ (v7 ++ v8)) (n.bufs ++ (n.srcs ++ n.arrs)) := by
  have hb' := hb
  obtain ⟨c, hc⟩ := hb
  refine ⟨fun j hj hne A m cc xs ev hr => ?_, own_setCell h.bufs (p := ⟨g, k, none⟩) (own_ne h.bufs hc (by decide)) u, own_setCell h.srcs (p := ⟨g, k, none⟩) (own_ne h.srcs hc (by decide)) u, own_setCell h.arrs (p := ⟨g, k, none⟩) (own_ne h.arrs hc (by decide)) u, h.rows.typed hb' (by decide) k u⟩
  have ha := h.apI.of hne hj hi
  rw [ev] at ha
  rcases ha with h0 | h0 | ha
  · have hm := (Kd.R_rowX hr).1
    have e0 : m = 0 := h0
    subst e0
    obtain rfl : xs = [] := List.eq_nil_of_length_eq_zero hm.symm
    exact R_empty_set hr u
  · exact absurd h0 hl
  · refine Kd.R_mono (Kd.R_far (p := ⟨g, k, none⟩) (ok := fun x => x ≠ g) ?_ (fun x hx => hx) u) (fun _ _ => trivial)
    obtain ⟨_, inner, ho, hrr⟩ := hr
    refine ⟨fun x hx => ?_, inner, ho, hrr⟩
    rcases ha with h0 | h0
    · rw [h0] at hx; cases hx
    · intro e
      subst e
      exact h0 (hx.trans eg.symm)
theorem NX.setOwner {g : Nat} (h : NX w lo n q v4 v7 v8) (ea : q.a5 = some ⟨g, 0, none⟩) (k : Nat) (hk : k < n.owners.length) (x : Int) : NX (w.setCell ⟨g, k, none⟩ (.int .i64 x)) lo { n with owners := n.owners.set k x } q v4 v7 v8 := by
  have ho := h.owners
  rw [ea] at ho
  have hb : BlkT w g 3 := by obtain ⟨i, hin⟩ := Kd.R_own ho; exact own_typed hin g rfl
  obtain ⟨hI, o4, o7, o8, hF⟩ := h.ints (i := 3) (by omega) (g := g) (by show (Value.slice q.a5 n.owners.length q.c5).ownBlock = some g; rw [ea]; rfl) (by show n.owners.length ≠ 0; omega) hb k (.int .i64 x)
  refine ⟨hI 0 (by omega) (by omega) _ _ _ _ rfl h.br, hI 1 (by omega) (by omega) _ _ _ _ rfl h.pa, hI 2 (by omega) (by omega) _ _ _ _ rfl h.pb, ?_, hI 4 (by omega) (by omega) _ _ _ _ rfl h.turns, o4, o7, o8, hF, ?_, h.apO⟩
  · rw [ea]
    simp only [List.length_set]
    exact rowI_set ho k x
  · have : iv { n with owners := n.owners.set k x } q = iv n q := by simp [iv]
    rw [this]
    exact h.apI
theorem NX.setTurn {g : Nat} (h : NX w lo n q v4 v7 v8) (ea : q.a6 = some ⟨g, 0, none⟩) (k : Nat) (hk : k < n.turns.length) (x : Int) : NX (w.setCell ⟨g, k, none⟩ (.int .i64 x)) lo { n with turns := n.turns.set k x } q v4 v7 v8 := by
  have ho := h.turns
  rw [ea] at ho
  have hb : BlkT w g 3 := by obtain ⟨i, hin⟩ := Kd.R_own ho; exact own_typed hin g rfl
  obtain ⟨hI, o4, o7, o8, hF⟩ := h.ints (i := 4) (by omega) (g := g) (by show (Value.slice q.a6 n.turns.length q.c6).ownBlock = some g; rw [ea]; rfl) (by show n.turns.length ≠ 0; omega) hb k (.int .i64 x)
  refine ⟨hI 0 (by omega) (by omega) _ _ _ _ rfl h.br, hI 1 (by omega) (by omega) _ _ _ _ rfl h.pa, hI 2 (by omega) (by omega) _ _ _ _ rfl h.pb, hI 3 (by omega) (by omega) _ _ _ _ rfl h.owners, ?_, o4, o7, o8, hF, ?_, h.apO⟩
  · rw [ea]
    simp only [List.length_set]
    exact rowI_set ho k x
  · have : iv { n with turns := n.turns.set k x } q = iv n q := by simp [iv]
    rw [this]
    exact h.apI
theorem NX.time (h : NX w lo n q v4 v7 v8) (t : Int) : NX w lo { n with time := t } q v4 v7 v8 := ⟨h.br, h.pa, h.pb, h.owners, h.turns, h.bufs, h.srcs, h.arrs, h.rows, h.apI, h.apO⟩
theorem own_readsB {w : World} {lo m c : Nat} {A : Option Addr} {vs : List Value} {l : List (List Flit)} (ho : w.ownsRow lo 108 1 (.slice A m c) l.length vs) (hr : ∀ i : Nat, i < l.length → kF.R 121 w lo (fun _ => True) (vr vs i) (rl l i)) : m = l.length ∧ m ≤ c ∧ (kB 121).C w A m l := by
  have hl := ho.1
  refine Kd.R_rowX (e := 108) (base := lo) (d := kB 121) ⟨fun _ _ => trivial, vs, ho, by show vs.length = l.length * 1; omega, fun j p hj => ?_⟩
  have hlt := (List.getElem?_eq_some_iff.1 hj).1
  have hp : rl l j = p := by simp [rl, List.getD_eq_getElem?_getD, hj]
  have hr2 := hr j hlt
  rw [hp] at hr2
  refine ⟨vr vs j, ?_, ?_⟩
  · have hjv : j < vs.length := by omega
    have e : vr vs j = vs[j] := by simp [vr, List.getD_eq_getElem?_getD, hjv]
    show (vs.drop (j * 1)).take 1 = _
    rw [e, Nat.mul_one, List.drop_eq_getElem_cons hjv]
    rfl
  · cases hv : (Value.slice A m c).ownBlock with
    | none => exact Kd.R_mono hr2 (fun k hk => ⟨hk, by simp⟩)
    | some g =>
      obtain ⟨cells, hc⟩ := own_typed ho g hv
      refine Kd.R_mono (Kd.R_types hr2 hc (by decide)) (fun k hk => ⟨hk.1, fun e => hk.2 (Option.some.inj e)⟩)
theorem NX.reads (h : NX w lo n q v4 v7 v8) (k : NB n) : NetR 121 w n q :=
  ⟨(Kd.R_rowX h.br).2.2, (Kd.R_rowX h.pa).2.2, (Kd.R_rowX h.pb).2.2, (own_readsB h.bufs h.row4).2.2, (Kd.R_rowX h.owners).2.2, (Kd.R_rowX h.turns).2.2, (own_readsB h.srcs h.row7).2.2, (own_readsB h.arrs h.row8).2.2, k.h1, k.h2, k.h3, k.h4, k.h5, k.h6, k.h7, k.h8, k.h9, k.h10, k.h11⟩
theorem own_cell {W : World} {base g m cap k : Nat} {vs : List Value} (h : W.ownsRow base 108 1 (.slice (some ⟨g, 0, none⟩) m cap) m vs) (hk : k < m) : W.cell? ⟨g, k, none⟩ = some (vr vs k) ∧ W.frozen? ⟨g, k, none⟩ = false := by
  have hl := h.1
  constructor
  · have hc := h.cells (g := g) rfl k (vr vs k) (vr_get (by omega))
    rwa [add_plain] at hc
  · obtain ⟨cells, hc⟩ := own_typed h g rfl
    exact blk_frozen hc k
theorem NX.form4 (h : NX w lo n q v4 v7 v8) (h0 : 0 < n.bufs.length) : ∃ g, q.a4 = some ⟨g, 0, none⟩ ∧ lo ≤ g ∧ g < w.heap.size := by
  obtain ⟨g, cap, e, hb, hl⟩ := h.bufs.form h0
  injection e with e1 _ _
  exact ⟨g, e1, hb, hl⟩
theorem NX.form7 (h : NX w lo n q v4 v7 v8) (h0 : 0 < n.srcs.length) : ∃ g, q.a7 = some ⟨g, 0, none⟩ ∧ lo ≤ g ∧ g < w.heap.size := by
  obtain ⟨g, cap, e, hb, hl⟩ := h.srcs.form h0
  injection e with e1 _ _
  exact ⟨g, e1, hb, hl⟩
theorem NX.form8 (h : NX w lo n q v4 v7 v8) (h0 : 0 < n.arrs.length) : ∃ g, q.a8 = some ⟨g, 0, none⟩ ∧ lo ≤ g ∧ g < w.heap.size := by
  obtain ⟨g, cap, e, hb, hl⟩ := h.arrs.form h0
  injection e with e1 _ _
  exact ⟨g, e1, hb, hl⟩
theorem rowI_form {W : World} {base : Nat} {A : Option Addr} {m c : Nat} {xs : List Int} (h : Kd.R (Kd.int .i64) 3 W base (fun _ => True) (.slice A m c) xs) (h0 : 0 < xs.length) : ∃ g, A = some ⟨g, 0, none⟩ ∧ base ≤ g ∧ g < W.heap.size := by
  obtain ⟨inner, hin⟩ := Kd.R_own h
  obtain ⟨g, cap, e, hb, hl⟩ := hin.form h0
  injection e with e1 _ _
  exact ⟨g, e1, hb, hl⟩
end
def BT (w : World) (bx : Nat) (n : Net) (q : NA) : Prop := w.heap[bx]? = some (.cells (netCells n q) 44 (0, 0))
section
variable {w w1 : World} {bx : Nat} {n : Net} {q : NA}
theorem BT.box (h : BT w bx n q) : Box w bx (netCells n q) := ⟨blk_lt h, fun o => blk_cell h o⟩
theorem BT.frozen (h : BT w bx n q) (o : Nat) : w.frozen? ⟨bx, o, none⟩ = false := blk_frozen h o
theorem BT.lt (h : BT w bx n q) : bx < w.heap.size := blk_lt h
theorem BT.blk (h : BT w bx n q) : BlkT w bx 44 := ⟨_, h⟩
theorem BT.below (h : BT w bx n q) (hb : Below w.heap.size w w1) : BT w1 bx n q := blk_below h hb
theorem BT.far {g t : Nat} (h : BT w bx n q) (hb : BlkT w g t) (ht : 44 ≠ t) (j : Nat) (u : Value) : BT (w.setCell ⟨g, j, none⟩ u) bx n q := by
  obtain ⟨c, hc⟩ := hb
  exact blk_far (p := ⟨g, j, none⟩) h (blk_ne h hc ht) u
theorem BT.grown {v : Value} {lo : Nat} {y : List Flit} (h : BT w bx n q) (hg : w.grownBy w1 v.ownBlock) (hr : kF.R 121 w lo (fun _ => True) v y) : BT w1 bx n q := by
  obtain ⟨inner, hin⟩ := Kd.R_own hr
  exact blk_grown h hg (own_ne hin h (by decide))
theorem BT.new (w : World) (n : Net) (q : NA) : BT (w.alloc (.cells (netCells n q) 44)) w.heap.size n q := blk_new w _
theorem BT.eq {m : Net} (h : BT w bx n q) (e : netCells m q = netCells n q) : BT w bx m q := by unfold BT; rw [e]; exact h
end
end Go.Proofs.YtmkbmddgkdoaiaaGreat
/- The state of a step's walk: the network in its box, its rows, and the step's own rows; what each store and append leaves. -/
set_option linter.unusedVariables false
set_option linter.unusedSimpArgs false
namespace Go.Proofs.YtmkbmddgkdoaiaaGreat
open Go.RowKit Go.Proofs.YtmkbmddgkdoaiaaGreatW.PrintWords
open NoC

structure SV where
  q : NA
  v4 : List Value
  v7 : List Value
  v8 : List Value
  vg : Value
  vt : Value
  ve : Value
  vm : Value
  gs : List Grant
  ts : List Int
  es : List Int
  ms : List Flit
def allV (s : SV) : List Value := s.v4 ++ (s.v7 ++ s.v8)
def allR (x : Net) : List (List Flit) := x.bufs ++ (x.srcs ++ x.arrs)
structure ST (w0 : World) (lo bx : Nat) (n0 : Net) (s : SV) (x : Net) (w : World) : Prop where
  nx : NX w lo x s.q s.v4 s.v7 s.v8
  bt : BT w bx n0 s.q
  g : kG.R 76 w w0.heap.size (fun _ => True) s.vg s.gs
  t : Kd.R (Kd.int .i64) 3 w w0.heap.size (fun _ => True) s.vt s.ts
  e : Kd.R (Kd.int .i64) 3 w w0.heap.size (fun _ => True) s.ve s.es
  m : kF.R 121 w w0.heap.size (fun _ => True) s.vm s.ms
  ma : ∀ i : Nat, i < (allR x).length → Apart (vr (allV s) i) s.vm
  blw : Below lo w0 w
  low : lo ≤ w0.heap.size
  box : lo ≤ bx ∧ bx < w0.heap.size
  top : ∀ g, (s.q.a4 = some ⟨g, 0, none⟩ ∨ s.q.a5 = some ⟨g, 0, none⟩ ∨ s.q.a6 = some ⟨g, 0, none⟩ ∨ s.q.a7 = some ⟨g, 0, none⟩ ∨ s.q.a8 = some ⟨g, 0, none⟩) → lo ≤ g ∧ g < w0.heap.size
section
variable {w0 w w1 : World} {lo bx : Nat} {n0 : Net} {s : SV} {x : Net}
theorem ST.size (h : ST w0 lo bx n0 s x w) : w0.heap.size ≤ w.heap.size := h.blw.size
theorem ST.below (h : ST w0 lo bx n0 s x w) (hb : Below w.heap.size w w1) : ST w0 lo bx n0 s x w1 :=
  ⟨h.nx.below hb, h.bt.below hb, Kd.R_below h.g hb, Kd.R_below h.t hb, Kd.R_below h.e hb, Kd.R_below h.m hb, h.ma, below_then h.blw (Nat.le_trans h.low h.size) hb, h.low, h.box, h.top⟩
theorem Below.cut {B C : Nat} {w w1 : World} (h : Below C w w1) (hB : B ≤ C) : Below B w w1 := ⟨h.os, h.tape, h.output, h.size, fun i hi => h.block i (by omega)⟩
theorem Below.grownRow {B : Nat} {w w1 w2 : World} {v : Value} (h : Below B w w1) (hg : w1.grownBy w2 v.ownBlock) (hB : B ≤ w1.heap.size) (hv : ∀ k, v.ownBlock = some k → B ≤ k) : Below B w w2 := h.grown hg hB hv
theorem below_setc {B : Nat} {w w1 : World} (h : Below B w w1) {g : Nat} (hg : B ≤ g) (o : Nat) (u : Value) : Below B w (w1.setCell ⟨g, o, none⟩ u) := h.setCell hg _
theorem RI_grownF {w w1 : World} {e1 b1 b2 : Nat} {α : Type} {d : Kd α} {v u : Value} {xs : List α} {ys : List Flit} (h : d.R e1 w b1 (fun _ => True) v xs) (hu : kF.R 121 w b2 (fun _ => True) u ys) (hne : e1 ≠ 121) (hE : d.E = []) (hg : w.grownBy w1 u.ownBlock) : d.R e1 w1 b1 (fun _ => True) v xs := by
  obtain ⟨i2, hi2⟩ := Kd.R_own hu
  have hb := Kd.R_bound h
  refine Kd.R_mono (Kd.R_move hb (fun k hk => ?_)) (fun _ _ => trivial)
  obtain ⟨_, h1, h2, q, hq, cells, hc⟩ := hk
  rw [hE] at hq
  have eq : q = e1 := by simpa using hq
  subst eq
  refine hg.block k h2 (fun e => ?_)
  obtain ⟨cells2, hc2⟩ := own_typed hi2 k e.symm
  rw [hc] at hc2
  have := (Obj.cells.inj (Option.some.inj hc2)).2.1
  exact hne this
theorem ST.grownF (h : ST w0 lo bx n0 s x w) {k : Nat} (hk : k < (allR x).length) (hg : w.grownBy w1 (vr (allV s) k).ownBlock) :
    BT w1 bx n0 s.q ∧ kG.R 76 w1 w0.heap.size (fun _ => True) s.vg s.gs ∧ Kd.R (Kd.int .i64) 3 w1 w0.heap.size (fun _ => True) s.vt s.ts ∧ Kd.R (Kd.int .i64) 3 w1 w0.heap.size (fun _ => True) s.ve s.es ∧ kF.R 121 w1 w0.heap.size (fun _ => True) s.vm s.ms ∧ Below lo w0 w1 := by
  have hr := h.nx.rows.row k hk
  exact ⟨h.bt.grown hg hr, RI_grownF h.g hr (by decide) rfl hg, RI_grownF h.t hr (by decide) rfl hg, RI_grownF h.e hr (by decide) rfl hg, R_grownF h.m hg (apart_comm (h.ma k hk)), Below.grownRow h.blw hg (Nat.le_trans h.low h.size) (fun j hj => Kd.R_base hr j hj)⟩
theorem G_off {α : Type} {d : Kd α} {e base : Nat} {w : World} {v : Value} {xs : List α} {g : Nat} (h : d.R e w base (fun _ => True) v xs) (hg : g < base) (j : Nat) (u : Value) : d.R e (w.setCell ⟨g, j, none⟩ u) base (fun _ => True) v xs := R_off h hg j u
theorem apart_new {w1 : World} {e base : Nat} {u v vm : Value} {xs : List Flit} (ha : Apart v vm) (hat : Anew w u v) (hm : kF.R 121 w base (fun _ => True) vm xs) : Apart u vm := by
  rcases hat with h | h | ⟨b, h, hb⟩
  · exact .inl h
  · unfold Apart at ha ⊢
    rwa [h]
  · right
    rw [h]
    intro e
    have := Kd.R_lt hm b e.symm
    omega
theorem ma_set {s : SV} {L k : Nat} {vm u : Value} {vs : List Value} (hl : vs.length = L) (hk : k < L) (h : ∀ i : Nat, i < L → Apart (vr vs i) vm) (hu : Apart u vm) : ∀ i : Nat, i < L → Apart (vr (vs.set k u) i) vm := by
  intro i hi
  rw [vr_set (by omega)]
  split
  · exact hu
  · exact h i hi
theorem ST.setBuf {g k : Nat} {u : Value} {y : List Flit} (h : ST w0 lo bx n0 s x w) (ea : s.q.a4 = some ⟨g, 0, none⟩) (hk : k < x.bufs.length) (hg : w.grownBy w1 (vr s.v4 k).ownBlock) (hu : kF.R 121 w1 lo (fun _ => True) u y) (hat : Anew w u (vr s.v4 k)) :
    ST w0 lo bx n0 { s with v4 := s.v4.set k u } { x with bufs := x.bufs.set k y } (w1.setCell ⟨g, k, none⟩ u) := by
  have e1 : vr (allV s) k = vr s.v4 k := vr_left (by rw [h.nx.l4]; exact hk)
  have hk2 : k < (allR x).length := by simp [allR]; omega
  obtain ⟨b, p1, p2, p3, p4, p5⟩ := h.grownF hk2 (by rw [e1]; exact hg)
  obtain ⟨g1, g2⟩ := h.top g (.inl ea)
  have hbl : BlkT w1 g 108 := by
    obtain ⟨_, _, _, _, _, o4, _⟩ := h.nx.kept (k := k) hk2 (by show w.grownBy w1 (vr (allV s) k).ownBlock; rw [e1]; exact hg)
    exact own_typed o4 g (by rw [ea]; rfl)
  refine ⟨h.nx.setBuf ea k hk hg hu hat, b.far hbl (by decide) _ _, G_off p1 g2 _ _, G_off p2 g2 _ _, G_off p3 g2 _ _, G_off p4 g2 _ _, ?_, below_setc p5 g1 _ _, h.low, h.box, h.top⟩
  have e2 : allV { s with v4 := s.v4.set k u } = (allV s).set k u := by
    unfold allV
    rw [List.set_append_left _ _ (by rw [h.nx.l4]; exact hk)]
  have e3 : (allR { x with bufs := x.bufs.set k y }).length = (allR x).length := by simp [allR]
  rw [e2, e3]
  exact ma_set (s := s) (by unfold allV allR; simp [h.nx.l4, h.nx.l7, h.nx.l8]) hk2 h.ma (apart_new (w1 := w1) (e := 0) (by rw [← e1]; exact h.ma k hk2) hat h.m)
theorem ST.setSrc {g k : Nat} {u : Value} {y : List Flit} (h : ST w0 lo bx n0 s x w) (ea : s.q.a7 = some ⟨g, 0, none⟩) (hk : k < x.srcs.length) (hg : w.grownBy w1 (vr s.v7 k).ownBlock) (hu : kF.R 121 w1 lo (fun _ => True) u y) (hat : Anew w u (vr s.v7 k)) :
    ST w0 lo bx n0 { s with v7 := s.v7.set k u } { x with srcs := x.srcs.set k y } (w1.setCell ⟨g, k, none⟩ u) := by
  have e1 : vr (allV s) (x.bufs.length + k) = vr s.v7 k := by unfold allV; rw [← h.nx.l4, vr_right, vr_left (by rw [h.nx.l7]; exact hk)]
  have hk2 : x.bufs.length + k < (allR x).length := by simp [allR]; omega
  obtain ⟨b, p1, p2, p3, p4, p5⟩ := h.grownF hk2 (by rw [e1]; exact hg)
  obtain ⟨g1, g2⟩ := h.top g (.inr (.inr (.inr (.inl ea))))
  have hbl : BlkT w1 g 108 := by
    obtain ⟨_, _, _, _, _, _, o7, _⟩ := h.nx.kept (k := x.bufs.length + k) hk2 (by show w.grownBy w1 (vr (allV s) (x.bufs.length + k)).ownBlock; rw [e1]; exact hg)
    exact own_typed o7 g (by rw [ea]; rfl)
  refine ⟨h.nx.setSrc ea k hk hg hu hat, b.far hbl (by decide) _ _, G_off p1 g2 _ _, G_off p2 g2 _ _, G_off p3 g2 _ _, G_off p4 g2 _ _, ?_, below_setc p5 g1 _ _, h.low, h.box, h.top⟩
  have e2 : allV { s with v7 := s.v7.set k u } = (allV s).set (x.bufs.length + k) u := by
    unfold allV
    rw [← h.nx.l4]
    exact (set_mid s.v4 s.v7 s.v8 k u (by rw [h.nx.l7]; exact hk)).symm
  have e3 : (allR { x with srcs := x.srcs.set k y }).length = (allR x).length := by simp [allR]
  rw [e2, e3]
  exact ma_set (s := s) (by unfold allV allR; simp [h.nx.l4, h.nx.l7, h.nx.l8]) hk2 h.ma (apart_new (w1 := w1) (e := 0) (by rw [← e1]; exact h.ma _ hk2) hat h.m)
theorem ST.setArr {g k : Nat} {u : Value} {y : List Flit} (h : ST w0 lo bx n0 s x w) (ea : s.q.a8 = some ⟨g, 0, none⟩) (hk : k < x.arrs.length) (hg : w.grownBy w1 (vr s.v8 k).ownBlock) (hu : kF.R 121 w1 lo (fun _ => True) u y) (hat : Anew w u (vr s.v8 k)) :
    ST w0 lo bx n0 { s with v8 := s.v8.set k u } { x with arrs := x.arrs.set k y } (w1.setCell ⟨g, k, none⟩ u) := by
  have e1 : vr (allV s) (x.bufs.length + (x.srcs.length + k)) = vr s.v8 k := by unfold allV; rw [← h.nx.l4, vr_right, ← h.nx.l7, vr_right]
  have hk2 : x.bufs.length + (x.srcs.length + k) < (allR x).length := by simp [allR]; omega
  obtain ⟨b, p1, p2, p3, p4, p5⟩ := h.grownF hk2 (by rw [e1]; exact hg)
  obtain ⟨g1, g2⟩ := h.top g (.inr (.inr (.inr (.inr ea))))
  have hbl : BlkT w1 g 108 := by
    obtain ⟨_, _, _, _, _, _, _, o8⟩ := h.nx.kept (k := x.bufs.length + (x.srcs.length + k)) hk2 (by show w.grownBy w1 (vr (allV s) (x.bufs.length + (x.srcs.length + k))).ownBlock; rw [e1]; exact hg)
    exact own_typed o8 g (by rw [ea]; rfl)
  refine ⟨h.nx.setArr ea k hk hg hu hat, b.far hbl (by decide) _ _, G_off p1 g2 _ _, G_off p2 g2 _ _, G_off p3 g2 _ _, G_off p4 g2 _ _, ?_, below_setc p5 g1 _ _, h.low, h.box, h.top⟩
  have e2 : allV { s with v8 := s.v8.set k u } = (allV s).set (x.bufs.length + (x.srcs.length + k)) u := by
    unfold allV
    rw [← h.nx.l4, ← h.nx.l7]
    exact (set_end s.v4 s.v7 s.v8 k u).symm
  have e3 : (allR { x with arrs := x.arrs.set k y }).length = (allR x).length := by simp [allR]
  rw [e2, e3]
  exact ma_set (s := s) (by unfold allV allR; simp [h.nx.l4, h.nx.l7, h.nx.l8]) hk2 h.ma (apart_new (w1 := w1) (e := 0) (by rw [← e1]; exact h.ma _ hk2) hat h.m)
theorem ST.setOwner {g k : Nat} (h : ST w0 lo bx n0 s x w) (ea : s.q.a5 = some ⟨g, 0, none⟩) (hk : k < x.owners.length) (v : Int) : ST w0 lo bx n0 s { x with owners := x.owners.set k v } (w.setCell ⟨g, k, none⟩ (.int .i64 v)) := by
  obtain ⟨g1, g2⟩ := h.top g (.inr (.inl ea))
  have hbl : BlkT w g 3 := by
    have ho := h.nx.owners
    obtain ⟨i, hin⟩ := Kd.R_own ho
    exact own_typed hin g (by rw [ea]; rfl)
  exact ⟨h.nx.setOwner ea k hk v, h.bt.far hbl (by decide) _ _, G_off h.g g2 _ _, G_off h.t g2 _ _, G_off h.e g2 _ _, G_off h.m g2 _ _, h.ma, below_setc h.blw g1 _ _, h.low, h.box, h.top⟩
theorem ST.setTurn {g k : Nat} (h : ST w0 lo bx n0 s x w) (ea : s.q.a6 = some ⟨g, 0, none⟩) (hk : k < x.turns.length) (v : Int) : ST w0 lo bx n0 s { x with turns := x.turns.set k v } (w.setCell ⟨g, k, none⟩ (.int .i64 v)) := by
  obtain ⟨g1, g2⟩ := h.top g (.inr (.inr (.inl ea)))
  have hbl : BlkT w g 3 := by
    have ho := h.nx.turns
    obtain ⟨i, hin⟩ := Kd.R_own ho
    exact own_typed hin g (by rw [ea]; rfl)
  exact ⟨h.nx.setTurn ea k hk v, h.bt.far hbl (by decide) _ _, G_off h.g g2 _ _, G_off h.t g2 _ _, G_off h.e g2 _ _, G_off h.m g2 _ _, h.ma, below_setc h.blw g1 _ _, h.low, h.box, h.top⟩
theorem ST.moved {vm : Value} {ms : List Flit} (h : ST w0 lo bx n0 s x w) (hg : w.grownBy w1 s.vm.ownBlock) (hm : kF.R 121 w1 w0.heap.size (fun _ => True) vm ms) (hat : Anew w vm s.vm) : ST w0 lo bx n0 { s with vm := vm, ms := ms } x w1 := by
  have own : ∀ {e n : Nat} {v : Value} {xs : List Value} {b : Nat}, w.ownsRow b e 1 v n xs → e ≠ 121 → w1.ownsRow b e 1 v n xs := fun ho hne => by
    obtain ⟨i, hin⟩ := Kd.R_own h.m
    exact own_other ho hg (own_type_ne ho hin hne)
  refine ⟨⟨RI_grownF h.nx.br h.m (by decide) rfl hg, RI_grownF h.nx.pa h.m (by decide) rfl hg, RI_grownF h.nx.pb h.m (by decide) rfl hg, RI_grownF h.nx.owners h.m (by decide) rfl hg, RI_grownF h.nx.turns h.m (by decide) rfl hg, own h.nx.bufs (by decide), own h.nx.srcs (by decide), own h.nx.arrs (by decide), ⟨h.nx.rows.len, fun i hi => R_grownF (h.nx.rows.row i hi) hg (h.ma i hi), h.nx.rows.ap⟩, h.nx.apI, h.nx.apO⟩, h.bt.grown hg h.m, RI_grownF h.g h.m (by decide) rfl hg, RI_grownF h.t h.m (by decide) rfl hg, RI_grownF h.e h.m (by decide) rfl hg, hm, fun i hi => ?_, ?_, h.low, h.box, h.top⟩
  · exact apart_comm (apart_new (w1 := w1) (e := 0) (apart_comm (h.ma i hi)) hat (h.nx.rows.row i hi))
  · exact Below.grownRow h.blw hg (Nat.le_trans h.low h.size) (fun j hj => Nat.le_trans h.low (Kd.R_base h.m j hj))
end
theorem kb_alloc {w w1 : World} {g : Nat} {r : Option Nat} (o : Obj) (h : KeepBut w w1 g r) : KeepBut w (w1.alloc o) g r := ⟨by rw [World.size_alloc]; exact Nat.le_succ_of_le h.1, fun i hi h1 h2 => ((bw_alloc o (bw_refl w1)).block i (Nat.lt_of_lt_of_le hi h.1)).trans (h.2 i hi h1 h2)⟩
theorem kb_drew {w w1 : World} {g : Nat} {r : Option Nat} (h : KeepBut w w1 g r) : KeepBut w w1.drew g r := h
theorem kb_below {w w1 w2 : World} {g : Nat} {r : Option Nat} (h : KeepBut w w1 g r) (hb : Below w1.heap.size w1 w2) : KeepBut w w2 g r := ⟨Nat.le_trans h.1 hb.size, fun i hi h1 h2 => (hb.block i (Nat.lt_of_lt_of_le hi h.1)).trans (h.2 i hi h1 h2)⟩
theorem kb_grown {w w1 w2 : World} {g : Nat} {r : Option Nat} (h : KeepBut w w1 g r) (hb : w1.grownBy w2 r) : KeepBut w w2 g r := ⟨Nat.le_trans h.1 hb.size, fun i hi h1 h2 => (hb.block i (Nat.lt_of_lt_of_le hi h.1) h2).trans (h.2 i hi h1 h2)⟩
theorem kb_of {W w : World} {g : Nat} {r : Option Nat} (h : KeepBut W w g r) : KeepBut W w g r ∧ ∀ b o, b < W.heap.size → b ≠ g → some b ≠ r → w.cell? ⟨b, o, none⟩ = W.cell? ⟨b, o, none⟩ :=
  ⟨h, fun b o h1 h2 h3 => World.cell?_of_block (a := ⟨b, o, none⟩) (h.2 b h1 h2 h3)⟩
end Go.Proofs.YtmkbmddgkdoaiaaGreat
/- Words on copies: an empty literal's block; append(lit, xs...) walked in order and inside a region that draws its order. -/
set_option linter.unusedVariables false
set_option linter.unusedSimpArgs false
namespace Go.Proofs.YtmkbmddgkdoaiaaGreat
open Go.RowKit Go.Proofs.YtmkbmddgkdoaiaaGreatW.PrintWords
open NoC

def Lit (e : Nat) (w : World) (g : Nat) : Prop := w.heap[g]? = some (.cells #[] e (0, 0))
theorem lit_new {e g : Nat} {w : World} (h : g = w.heap.size) : Lit e (w.alloc (.cells #[] e)) g := by subst h; exact blk_new w _
theorem lit_alloc {e g : Nat} {w : World} (o : Obj) (h : Lit e w g) : Lit e (w.alloc o) g := blk_alloc h o
theorem lit_drew {e g : Nat} {w : World} (h : Lit e w g) : Lit e w.drew g := h
structure Stp (w w1 : World) : Prop where
  h : Below w.heap.size w w1
theorem lit_stp {e g : Nat} {w w1 : World} (hs : Stp w w1) (h : Lit e w g) : Lit e w1 g := blk_below h hs.h
theorem R_lit {α : Type} (d : Kd α) {e g B : Nat} {w : World} (h : Lit e w g) (hB : B ≤ g) : d.R e w B (fun _ => True) (.slice (some ⟨g, 0, none⟩) 0 0) [] := by
  refine ⟨fun _ _ => trivial, [], ?_, Reps.none _ _⟩
  exact ⟨by simp, .inr ⟨g, 0, #[], rfl, hB, h, Nat.le_refl _, Nat.zero_le _, by simp, by simp⟩⟩
def At2 (g lo hi : Nat) (v : Value) : Prop := ∀ k, v.ownBlock = some k → k = g ∨ (lo ≤ k ∧ k < hi)
theorem apart_of {u v : Value} {p r : Nat → Prop} (hu : ∀ k, u.ownBlock = some k → p k) (hv : ∀ k, v.ownBlock = some k → r k) (h : ∀ k, p k → r k → False) : Apart u v := by
  cases e : u.ownBlock with
  | none => exact .inl e
  | some k =>
    right
    rw [e]
    intro e2
    exact h k (hu k e) (hv k e2.symm)
section
variable {ops : Array Oper} {rest : List Oper} {o : Oper} {a : Act} {Q : Exit → Act → World → Prop} {Kc : Act → World → Prop} {α : Type}
theorem run_copy (d : Kd α) {B : Nat} {W : World} (t ty e : TypeId) (z : Value) (bytes : Nat)
    (ht : Tryz.prog.underlying t = some (.slice e)) (hinfo : (Tryz.prog.info? e).map (fun i => (i.zero, i.size, i.bytes)) = some (some z, d.sz, bytes)) (hz : z.cells.size = d.sz) (hs0 : 0 < d.sz) (hb1 : bytes ≤ 1000)
    (hKM : ∀ (w1 : World) (b : Nat) (ok : Nat → Prop) x cs, d.K W x cs → d.M w1 b ok x cs) (hK1 : ∀ x cs, d.K W x cs → ∀ u ∈ cs, u.oneCell' = true)
    (g : Nat) (ys : List α) (A : Option Addr) (m c : Nat) (HL : Lit e W g) (hg : B ≤ g) (HR : d.C W A m ys) (hB : B ≤ W.heap.size) (hl : m ≤ 10000000) :
    ∃ v1 w1, (Builtin.append_ #[t, t] ty #[.slice (some ⟨g, 0, none⟩) 0 0, .slice A m c]).run Tryz.prog W = .ok v1 w1 ∧ d.R e w1 B (fun _ => True) v1 ys ∧ Below W.heap.size W w1 ∧ At2 g W.heap.size w1.heap.size v1 := by
  obtain ⟨i0, hi, hzz⟩ := Option.map_eq_some_iff.1 hinfo
  simp only [Prod.mk.injEq] at hzz
  obtain ⟨hz0, hz1, hz2⟩ := hzz
  have hm : ys.length = m := HR.1
  have nothing : ∀ (_ : m = 0), Src Tryz.prog i0.size t (.slice A m c) 0 [] W → ∃ v1 w1, (Builtin.append_ #[t, t] ty #[.slice (some ⟨g, 0, none⟩) 0 0, .slice A m c]).run Tryz.prog W = .ok v1 w1 ∧ d.R e w1 B (fun _ => True) v1 ys ∧ Below W.heap.size W w1 ∧ At2 g W.heap.size w1.heap.size v1 := by
    intro h0 hs
    obtain rfl : ys = [] := List.eq_nil_of_length_eq_zero (hm.trans h0)
    exact ⟨_, W, run_append_nothing W t t ty e i0 ht hi (some ⟨g, 0, none⟩) 0 0 (Nat.le_refl _) _ hs, R_lit d HL hg, Below.refl _ _, fun k hk => .inl (Option.some.inj hk).symm⟩
  rcases A with _ | ad
  · have h0 : m = 0 := by
      rcases Nat.eq_zero_or_pos m with h0 | h0
      · exact h0
      · obtain ⟨ad, h, _⟩ := HR.2.2 h0
        cases h
    subst h0
    exact nothing rfl (Src.ofNil W ht c)
  · by_cases h0 : m = 0
    · subst h0
      exact nothing rfl (Src.ofSlice W ht ad 0 c [] (by simp) (fun j u h => by simp at h) (fun u h => by cases h))
    · obtain ⟨news, hnr, hnc⟩ := ReadsRow.inner_ HR
      obtain ⟨v1, w1, hrun, hown, hgr⟩ := run_append_arg_grows (P := Tryz.prog) W t ty e i0 z d.sz bytes ht hi hz0 hz1 hz2 hz hs0 ⟨g, 0, none⟩ 0 0 [] (by simp) (fun j u h => by simp at h) ad m c news (by rw [hnr.1, hm]) hnc (by omega) (by simp only [maxLen]; omega) (by simp only [Nat.zero_add]; exact Nat.le_trans (Nat.mul_le_mul hl hb1) (by omega))
      have hb : Below W.heap.size W w1 := ⟨hgr.os, hgr.tape, hgr.output, hgr.size, fun i hi2 => hgr.block i hi2 (by simp)⟩
      rw [List.nil_append, Nat.zero_add] at hown
      refine ⟨v1, w1, hrun, ⟨fun _ _ => trivial, news, ?_, hnr.imp_ (fun p cs hp => hKM _ _ _ p cs hp)⟩, hb, fun k hk => .inr ⟨own_base hown k hk, own_lt hown k hk⟩⟩
      rw [hm]
      exact own_weaken hown hB
theorem copy_row (d : Kd α) {B : Nat} {W : World} (hgd : o.guard = none) (s x : Operand) (t e : TypeId) (z : Value) (bytes : Nat)
    (ho : o.op = .call { callee := .builtin .append, args := #[s, x], argTypes := #[t, t] })
    (ht : Tryz.prog.underlying t = some (.slice e)) (hinfo : (Tryz.prog.info? e).map (fun i => (i.zero, i.size, i.bytes)) = some (some z, d.sz, bytes)) (hz : z.cells.size = d.sz) (hs0 : 0 < d.sz) (hb1 : bytes ≤ 1000)
    (hKM : ∀ (w1 : World) (b : Nat) (ok : Nat → Prop) x cs, d.K W x cs → d.M w1 b ok x cs) (hK1 : ∀ x cs, d.K W x cs → ∀ u ∈ cs, u.oneCell' = true)
    (g : Nat) (ys : List α) (A : Option Addr) (m c : Nat) (hs : a.eval s = .slice (some ⟨g, 0, none⟩) 0 0) (hx : a.eval x = .slice A m c)
    (HL : Lit e W g) (hg : B ≤ g) (HR : d.C W A m ys) (hB : B ≤ W.heap.size) (hl : m ≤ 10000000)
    (h : ∀ v1 w1, d.R e w1 B (fun _ => True) v1 ys → Below W.heap.size W w1 → At2 g W.heap.size w1.heap.size v1 → wpList Tryz.prog ops Q rest (a.put o.dst v1) w1) : wpList Tryz.prog ops Q (o :: rest) a W := by
  obtain ⟨v1, w1, hr1, h1, h2, h3⟩ := run_copy d t o.type e z bytes ht hinfo hz hs0 hb1 hKM hK1 g ys A m c HL hg HR hB hl
  refine wpList_plain hgd fun K hK => ?_
  unfold Oper.wp execOp
  simp only [ho, resolve, invoke, builtin, Sem.run_bind, Sem.run_pure, Result.andThen_ok, List.map_toArray, List.map_cons, List.map_nil, hs, hx, hr1]
  exact hK _ _ (h v1 w1 h1 h2 h3)
theorem copy_row_step (d : Kd α) {B : Nat} {W : World} {Q' : Exit → Act → World → Prop} {E : Prop} (hw : Region.wanted o (yielded ops a.tmps) = true) (s x : Operand) (t e : TypeId) (z : Value) (bytes : Nat)
    (ho : o.op = .call { callee := .builtin .append, args := #[s, x], argTypes := #[t, t] })
    (ht : Tryz.prog.underlying t = some (.slice e)) (hinfo : (Tryz.prog.info? e).map (fun i => (i.zero, i.size, i.bytes)) = some (some z, d.sz, bytes)) (hz : z.cells.size = d.sz) (hs0 : 0 < d.sz) (hb1 : bytes ≤ 1000)
    (hKM : ∀ (w1 : World) (b : Nat) (ok : Nat → Prop) x cs, d.K W x cs → d.M w1 b ok x cs) (hK1 : ∀ x cs, d.K W x cs → ∀ u ∈ cs, u.oneCell' = true)
    (g : Nat) (ys : List α) (A : Option Addr) (m c : Nat) (hs : a.eval s = .slice (some ⟨g, 0, none⟩) 0 0) (hx : a.eval x = .slice A m c)
    (HL : Lit e W g) (hg : B ≤ g) (HR : d.C W A m ys) (hB : B ≤ W.heap.size) (hl : m ≤ 10000000)
    (h : ∀ v1 w1, d.R e w1 B (fun _ => True) v1 ys → Below W.heap.size W w1 → At2 g W.heap.size w1.heap.size v1 → Kc (a.put o.dst v1) w1) : if Region.wanted o (yielded ops a.tmps) = true then Oper.wp Tryz.prog o a W Kc Q' else E := by
  obtain ⟨v1, w1, hr1, h1, h2, h3⟩ := run_copy d t o.type e z bytes ht hinfo hz hs0 hb1 hKM hK1 g ys A m c HL hg HR hB hl
  rw [if_pos hw]
  unfold Oper.wp execOp
  simp only [ho, resolve, invoke, builtin, Sem.run_bind, Sem.run_pure, Result.andThen_ok, List.map_toArray, List.map_cons, List.map_nil, hs, hx, hr1]
  exact h v1 w1 h1 h2 h3
theorem KM_int {W : World} : ∀ (w1 : World) (b : Nat) (ok : Nat → Prop) (x : Int) cs, (Kd.int .i64).K W x cs → (Kd.int .i64).M w1 b ok x cs := fun _ _ _ _ _ h => h
theorem K1_int {W : World} : ∀ (x : Int) cs, (Kd.int .i64).K W x cs → ∀ u ∈ cs, u.oneCell' = true := fun _ _ h => (Kd.int .i64).K_one h
theorem KM_F {W : World} : ∀ (w1 : World) (b : Nat) (ok : Nat → Prop) (x : Flit) cs, kF.K W x cs → kF.M w1 b ok x cs := fun _ _ _ _ _ h => h
theorem K1_F {W : World} : ∀ (x : Flit) cs, kF.K W x cs → ∀ u ∈ cs, u.oneCell' = true := fun _ _ h => kF.K_one h
theorem copy_int {B : Nat} {W : World} (hgd : o.guard = none) (s x : Operand)
    (ho : o.op = .call { callee := .builtin .append, args := #[s, x], argTypes := #[24, 24] })
    (g : Nat) (ys : List Int) (A : Option Addr) (c : Nat) (hs : a.eval s = .slice (some ⟨g, 0, none⟩) 0 0) (hx : a.eval x = .slice A ys.length c)
    (HL : Lit 3 W g) (hg : B ≤ g) (HR : (Kd.int .i64).C W A ys.length ys) (hB : B ≤ W.heap.size) (hl : ys.length ≤ 10000000)
    (h : ∀ v1 w1, (Kd.int .i64).R 3 w1 B (fun _ => True) v1 ys → Below W.heap.size W w1 → At2 g W.heap.size w1.heap.size v1 → wpList Tryz.prog ops Q rest (a.put o.dst v1) w1) : wpList Tryz.prog ops Q (o :: rest) a W :=
  copy_row (Kd.int .i64) hgd s x 24 3 (.int .i64 0) 8 ho Tryz.underlying24 info_int rfl (by decide) (by omega) KM_int K1_int g ys A ys.length c hs hx HL hg HR hB hl h
theorem copyS_int {B : Nat} {W : World} {Q' : Exit → Act → World → Prop} {E : Prop} (hw : Region.wanted o (yielded ops a.tmps) = true) (s x : Operand)
    (ho : o.op = .call { callee := .builtin .append, args := #[s, x], argTypes := #[24, 24] })
    (g : Nat) (ys : List Int) (A : Option Addr) (c : Nat) (hs : a.eval s = .slice (some ⟨g, 0, none⟩) 0 0) (hx : a.eval x = .slice A ys.length c)
    (HL : Lit 3 W g) (hg : B ≤ g) (HR : (Kd.int .i64).C W A ys.length ys) (hB : B ≤ W.heap.size) (hl : ys.length ≤ 10000000)
    (h : ∀ v1 w1, (Kd.int .i64).R 3 w1 B (fun _ => True) v1 ys → Below W.heap.size W w1 → At2 g W.heap.size w1.heap.size v1 → Kc (a.put o.dst v1) w1) : if Region.wanted o (yielded ops a.tmps) = true then Oper.wp Tryz.prog o a W Kc Q' else E :=
  copy_row_step (Kd.int .i64) hw s x 24 3 (.int .i64 0) 8 ho Tryz.underlying24 info_int rfl (by decide) (by omega) KM_int K1_int g ys A ys.length c hs hx HL hg HR hB hl h
theorem copy_F {B : Nat} {W : World} (hgd : o.guard = none) (s x : Operand)
    (ho : o.op = .call { callee := .builtin .append, args := #[s, x], argTypes := #[108, 108] })
    (g : Nat) (ys : List Flit) (A : Option Addr) (c : Nat) (hs : a.eval s = .slice (some ⟨g, 0, none⟩) 0 0) (hx : a.eval x = .slice A ys.length c)
    (HL : Lit 121 W g) (hg : B ≤ g) (HR : kF.C W A ys.length ys) (hB : B ≤ W.heap.size) (hl : ys.length ≤ 10000000)
    (h : ∀ v1 w1, kF.R 121 w1 B (fun _ => True) v1 ys → Below W.heap.size W w1 → At2 g W.heap.size w1.heap.size v1 → wpList Tryz.prog ops Q rest (a.put o.dst v1) w1) : wpList Tryz.prog ops Q (o :: rest) a W :=
  copy_row kF hgd s x 108 121 (.agg #[.int .i64 0, .int .i64 0, .int .i64 0, .bool false, .bool false]) 32 ho Tryz.underlying108 info_F rfl (by decide) (by omega) KM_F K1_F g ys A ys.length c hs hx HL hg HR hB hl h
theorem copyS_F {B : Nat} {W : World} {Q' : Exit → Act → World → Prop} {E : Prop} (hw : Region.wanted o (yielded ops a.tmps) = true) (s x : Operand)
    (ho : o.op = .call { callee := .builtin .append, args := #[s, x], argTypes := #[108, 108] })
    (g : Nat) (ys : List Flit) (A : Option Addr) (c : Nat) (hs : a.eval s = .slice (some ⟨g, 0, none⟩) 0 0) (hx : a.eval x = .slice A ys.length c)
    (HL : Lit 121 W g) (hg : B ≤ g) (HR : kF.C W A ys.length ys) (hB : B ≤ W.heap.size) (hl : ys.length ≤ 10000000)
    (h : ∀ v1 w1, kF.R 121 w1 B (fun _ => True) v1 ys → Below W.heap.size W w1 → At2 g W.heap.size w1.heap.size v1 → Kc (a.put o.dst v1) w1) : if Region.wanted o (yielded ops a.tmps) = true then Oper.wp Tryz.prog o a W Kc Q' else E :=
  copy_row_step kF hw s x 108 121 (.agg #[.int .i64 0, .int .i64 0, .int .i64 0, .bool false, .bool false]) 32 ho Tryz.underlying108 info_F rfl (by decide) (by omega) KM_F K1_F g ys A ys.length c hs hx HL hg HR hB hl h
end
end Go.Proofs.YtmkbmddgkdoaiaaGreat
