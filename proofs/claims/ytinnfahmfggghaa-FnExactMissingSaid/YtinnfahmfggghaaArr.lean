/- What arrived at a node in a class: both sides. -/
import Derived.Test.YtinnfahmfggghaaWhP
import Derived.Test.YtinnfahmfggghaaReqJ
import Derived.Test.YtinnfahmfggghaaReqS
set_option linter.unusedVariables false
set_option linter.unusedSimpArgs false
namespace Go.Proofs.Ytinnfahmfggghaa
open Go.RowKit Go.Proofs.YtinnfahmfggghaaW.PrintWords
open NoC

def arrF (n : Net) (a c : Int) : List Flit := trimF (clsOnly (rl n.arrs a) c)
def lenOf : Value → Nat
  | .slice _ m _ => m
  | _ => 0
theorem cut_toF (A : Option Addr) (n c : Nat) (hi : Int) (h0 : 0 ≤ hi) (h2 : hi ≤ n) (hc : n ≤ c) (W : World) :
    (Instr.slice 107 (.slice A n c) none (some (.int .i64 hi)) none).run Try.prog W = .ok (.slice A hi.toNat c) W := by
  obtain ⟨i, hi', hs⟩ := Option.map_eq_some_iff.1 info_F
  exact cut_to (P := Try.prog) 107 142 .i64 Try.underlying107 hi' A n c hi h0 h2 hc W
theorem trimTo_tail {l : List Flit} {k : Nat} (h : (rf l k).tail = true) : trimTo l (k + 1) = k + 1 := by rw [trimTo, if_pos h]
theorem trimTo_on {l : List Flit} {k : Nat} (h : (rf l k).tail = false) : trimTo l (k + 1) = trimTo l k := by rw [trimTo, if_neg (by simp [h])]
theorem trimF_at {l : List Flit} {m : Nat} (h : trimTo l m = trimTo l l.length) (h2 : trimTo l m = m) : l.take m = trimF l := by rw [trimF, ← h, h2]
theorem node_arrs {n : Net} {a : Int} (ok : netOk n = true) (nd : isNode n.mesh.g a = true) : 0 ≤ a ∧ a < (n.arrs.length : Int) := by
  obtain ⟨_, _, _, _, _, h6, _⟩ := netOk_parts ok
  have := isNode_iff.1 nd
  omega
theorem rl_memI {l : List (List Flit)} {a : Int} (h0 : 0 ≤ a) (h1 : a < (l.length : Int)) : rl l a ∈ l := by
  have := rl_mem (l := l) (k := a.toNat) (by omega)
  rwa [Int.toNat_of_nonneg h0] at this
theorem clsOnly_len (l : List Flit) (c : Int) : (clsOnly l c).length ≤ l.length := List.length_filter_le _ _
set_option maxHeartbeats 4000000 in
set_option maxRecDepth 100000 in
theorem impl_arrived (n : Net) (q : NA) (bx : Nat) (a c : Int) (w : World) (hr : NetR 142 w n q) (hx : Box w bx (netCells n q)) (ok : netOk n = true) (nd : isNode n.mesh.g a = true) :
    Calls Try.prog 77 #[.pointer (some ⟨bx, 0, none⟩), .int .i64 a, .int .i64 c] w fun e w' => GotWP w w' (arrF n a c) e ∧ Below w.heap.size w w' := by
  obtain ⟨i0, i1⟩ := node_arrs ok nd
  clear ok nd
  obtain ⟨a1, a2, a3, a4, a5, a6, a7, a8, c1, c2, c3, c4, c5, c6, c7, c8⟩ := q; obtain ⟨Rbr, Rpa, Rpb, Rbu, Row, Rtu, Rso, Rar, L1, L2, L3, L4, L5, L6, L7, L8, L9, L10, L11⟩ := hr; have M9 := Lib.hid L9; have M10 := Lib.hid L10; have M11 := Lib.hid L11; clear L9 L10 L11; dsimp only [netCells] at *
  have xl := hx.lt; have x0 : w.cell? ⟨bx, 0, none⟩ = some (.int .i64 n.mesh.g.w) := hx.get 0; have x1 : w.cell? ⟨bx, 1, none⟩ = some (.int .i64 n.mesh.g.h) := hx.get 1; have x2 : w.cell? ⟨bx, 2, none⟩ = some (.slice a1 n.mesh.br.length c1) := hx.get 2; have x3 : w.cell? ⟨bx, 3, none⟩ = some (.slice a2 n.pa.length c2) := hx.get 3; have x4 : w.cell? ⟨bx, 4, none⟩ = some (.slice a3 n.pb.length c3) := hx.get 4; have x5 : w.cell? ⟨bx, 5, none⟩ = some (.slice a4 n.bufs.length c4) := hx.get 5; have x6 : w.cell? ⟨bx, 6, none⟩ = some (.slice a5 n.owners.length c5) := hx.get 6; have x7 : w.cell? ⟨bx, 7, none⟩ = some (.slice a6 n.turns.length c6) := hx.get 7; have x8 : w.cell? ⟨bx, 8, none⟩ = some (.slice a7 n.srcs.length c7) := hx.get 8; have x9 : w.cell? ⟨bx, 9, none⟩ = some (.slice a8 n.arrs.length c8) := hx.get 9; have x10 : w.cell? ⟨bx, 10, none⟩ = some (.int .i64 n.time) := hx.get 10; clear hx
  have hki := M11.out _ (rl_memI i0 i1)
  obtain ⟨b8, o8, rfl, hb8, Ai, ci, p0, hle, hCi⟩ := rdB_int Rar a i0 i1
  obtain ⟨z1, z2, z3, z4, z5, z6⟩ := more hb8
  obtain ⟨L, hL⟩ : ∃ L, clsOnly (rl n.arrs a) c = L := ⟨_, rfl⟩
  have hLn : L.length ≤ 1048576 := by rw [← hL]; exact Nat.le_trans (clsOnly_len _ _) hki
  have HE : Hid (arrF n a c = trimF L) := Lib.hid (by rw [arrF, hL])
  have HL := Lib.hid hL
  clear hL
  go_enter Try.func77, Try.ntmps77
  go_wp2_with (go_at_call 132; refine (impl_ClassOnly (rl n.arrs a) c Ai ci _ (by exact Kd.C_below hCi (by with_reducible repeat (first | assumption | exact bw_refl _ | apply bw_alloc | apply bw_drew | apply bw_drewN | refine bw_set _ ?_ (by omega) | refine bw_then ?_ (by assumption)))) hki).mono ?_; rintro e w1 ⟨hg1, hb1⟩; rw [HL.out] at hg1; obtain ⟨v1, rfl, HO1⟩ := hg1; obtain ⟨A1, d1, rfl, hk1, hC1⟩ := Kd.R_reads HO1; obtain ⟨hc1, hf1, hz1⟩ := bcell hb1; (try simp only [World.size_alloc, World.size_setCell, World.size_drew, sz_drewN] at hz1); have hb2 := (by first | exact bw_then hb2 hb1 | exact bw_then (bw_drewN _ hb2) hb1 | exact bw_then (bw_alloc _ hb2) hb1 | exact bw_then (bw_drew hb2) hb1 | exact bw_then HB hb1 | exact bw_then (bw_drewN _ HB) hb1 | exact bw_then (bw_alloc _ HB) hb1 | exact bw_then (bw_drew HB) hb1 | exact hb1); obtain ⟨hc2, hf2, hz2⟩ := bcell hb2; (try simp only [World.size_alloc, World.size_setCell, World.size_drew, sz_drewN] at hz2); try (first | obtain ⟨hy1, hy2, hy3, hy4⟩ := lts4 hz2 | obtain ⟨hy1, hy2, hy3⟩ := lts3 hz2 | obtain ⟨hy1, hy2⟩ := lts2 hz2 | have hy1 := lts1 hz2); have hb9 := hb1)
  go_loopw [8] (fun s wr => ∃ m : Nat, s = .slice A1 m d1 ∧ m ≤ L.length ∧ Hid (trimTo L m = trimTo L L.length) ∧ Hid (kF.C wr A1 L.length L) ∧ Below w.heap.size w wr) (fun s _ => lenOf s)
  case atStart => exact ⟨L.length, rfl, Nat.le_refl _, Lib.hid rfl, Lib.hid hC1, (by with_reducible repeat (first | assumption | exact bw_refl _ | apply bw_alloc | apply bw_drew | apply bw_drewN | refine bw_set _ ?_ (by omega) | refine bw_then ?_ (by assumption)))⟩
  case round =>
    repeat (first | clear hC1 | clear hc1 | clear hf1 | clear hz1 | clear hb1 | clear hb9 | clear hc2 | clear hf2 | clear hz2 | clear hb2 | clear hy1 | clear hy2 | clear hy3 | clear hy4)
    obtain ⟨m, rfl, hm, HT, HC, HB⟩ := hrel
    have hzr := bw_size HB
    rcases m with _ | k
    · have HX := Lib.hid (trimF_at HT.out rfl)
      have HW := Lib.hid (fun (W : World) (h : kF.C W A1 L.length L) => impl_WholePackets (L.take 0) A1 d1 W (Kd.C_take h hm) (by simp) (by simp))
      clear HT
      go_wp2_with (go_at_call 136; refine (HW.out _ (by exact Kd.C_below HC.out (by with_reducible repeat (first | assumption | exact bw_refl _ | apply bw_alloc | apply bw_drew | apply bw_drewN | refine bw_set _ ?_ (by omega) | refine bw_then ?_ (by assumption))))).mono ?_; rintro e w1 ⟨hg1, hb1⟩; rw [HX.out] at hg1; obtain ⟨v1, rfl, HO1⟩ := hg1; obtain ⟨hc1, hf1, hz1⟩ := bcell hb1; (try simp only [World.size_alloc, World.size_setCell, World.size_drew, sz_drewN] at hz1); have hb2 := (by first | exact bw_then hb2 hb1 | exact bw_then (bw_drewN _ hb2) hb1 | exact bw_then (bw_alloc _ hb2) hb1 | exact bw_then (bw_drew hb2) hb1 | exact bw_then HB hb1 | exact bw_then (bw_drewN _ HB) hb1 | exact bw_then (bw_alloc _ HB) hb1 | exact bw_then (bw_drew HB) hb1 | exact hb1); obtain ⟨hc2, hf2, hz2⟩ := bcell hb2; (try simp only [World.size_alloc, World.size_setCell, World.size_drew, sz_drewN] at hz2); try (first | obtain ⟨hy1, hy2, hy3, hy4⟩ := lts4 hz2 | obtain ⟨hy1, hy2, hy3⟩ := lts3 hz2 | obtain ⟨hy1, hy2⟩ := lts2 hz2 | have hy1 := lts1 hz2); have hb9 := hb1)
      exact bodyPost_ret (v := .tuple #[v1, .bool (wholeB (trimF L))]) (by simp [results, Try.results77, go_sem]) rfl ⟨⟨v1, by rw [HE.out], by rw [HE.out]; exact Kd.R_lower (by exact Kd.R_below HO1 (by with_reducible repeat (first | assumption | exact bw_refl _ | apply bw_alloc | apply bw_drew | apply bw_drewN | refine bw_set _ ?_ (by omega) | refine bw_then ?_ (by assumption)))) (by first | omega | (simp only [World.size_alloc, World.size_setCell, World.size_drew, sz_drewN]; omega))⟩, (by with_reducible repeat (first | assumption | exact bw_refl _ | apply bw_alloc | apply bw_drew | apply bw_drewN | refine bw_set _ ?_ (by omega) | refine bw_then ?_ (by assumption)))⟩
    · obtain ⟨b, off, rfl, hb, _, _, _, _, p4⟩ := rdFl_at HC.out k (by omega)
      have i2 : (0 : Int) < (k : Int) + 1 := by omega
      cases ht : (rf L k).tail
      · rw [ht] at p4
        have HV : Hid (trimTo L k = trimTo L L.length) := Lib.hid ((trimTo_on ht).symm.trans HT.out)
        clear ht HT
        have hcut : ∀ W : World, (Instr.slice 107 (.slice (some ⟨b, off, none⟩) (k + 1) d1) none (some (.int .i64 (k : Int))) none).run Try.prog W = .ok (.slice (some ⟨b, off, none⟩) k d1) W := fun W => cut_toF _ _ _ (k : Int) (by omega) (by omega) (by omega) W
        go_wp2
        go_roundw
        case rel => exact ⟨k, rfl, by omega, HV, Lib.hid (by exact Kd.C_below HC.out (by with_reducible repeat (first | assumption | exact bw_refl _ | apply bw_alloc | apply bw_drew | apply bw_drewN | refine bw_set _ ?_ (by omega) | refine bw_then ?_ (by assumption)))), (by with_reducible repeat (first | assumption | exact bw_refl _ | apply bw_alloc | apply bw_drew | apply bw_drewN | refine bw_set _ ?_ (by omega) | refine bw_then ?_ (by assumption)))⟩
        case measure => simp [lenOf]
      · rw [ht] at p4
        have HX := Lib.hid (trimF_at HT.out (trimTo_tail ht))
        have hlm : (L.take (k + 1)).length = k + 1 := by rw [List.length_take]; omega
        have HW : Hid (∀ W : World, kF.C W (some ⟨b, off, none⟩) L.length L → Calls Try.prog 136 #[.slice (some ⟨b, off, none⟩) (k + 1) d1] W fun e w' => GotWP W w' (L.take (k + 1)) e ∧ Below W.heap.size W w') := Lib.hid (fun W h => by
          have h2 := impl_WholePackets (L.take (k + 1)) (some ⟨b, off, none⟩) d1 W (Kd.C_take h hm) (by omega) (by omega)
          rw [hlm] at h2
          exact h2)
        clear HT ht hlm
        go_wp2_with (go_at_call 136; refine (HW.out _ (by exact Kd.C_below HC.out (by with_reducible repeat (first | assumption | exact bw_refl _ | apply bw_alloc | apply bw_drew | apply bw_drewN | refine bw_set _ ?_ (by omega) | refine bw_then ?_ (by assumption))))).mono ?_; rintro e w1 ⟨hg1, hb1⟩; rw [HX.out] at hg1; obtain ⟨v1, rfl, HO1⟩ := hg1; obtain ⟨hc1, hf1, hz1⟩ := bcell hb1; (try simp only [World.size_alloc, World.size_setCell, World.size_drew, sz_drewN] at hz1); have hb2 := (by first | exact bw_then hb2 hb1 | exact bw_then (bw_drewN _ hb2) hb1 | exact bw_then (bw_alloc _ hb2) hb1 | exact bw_then (bw_drew hb2) hb1 | exact bw_then HB hb1 | exact bw_then (bw_drewN _ HB) hb1 | exact bw_then (bw_alloc _ HB) hb1 | exact bw_then (bw_drew HB) hb1 | exact hb1); obtain ⟨hc2, hf2, hz2⟩ := bcell hb2; (try simp only [World.size_alloc, World.size_setCell, World.size_drew, sz_drewN] at hz2); try (first | obtain ⟨hy1, hy2, hy3, hy4⟩ := lts4 hz2 | obtain ⟨hy1, hy2, hy3⟩ := lts3 hz2 | obtain ⟨hy1, hy2⟩ := lts2 hz2 | have hy1 := lts1 hz2); have hb9 := hb1)
        exact bodyPost_ret (v := .tuple #[v1, .bool (wholeB (trimF L))]) (by simp [results, Try.results77, go_sem]) rfl ⟨⟨v1, by rw [HE.out], by rw [HE.out]; exact Kd.R_lower (by exact Kd.R_below HO1 (by with_reducible repeat (first | assumption | exact bw_refl _ | apply bw_alloc | apply bw_drew | apply bw_drewN | refine bw_set _ ?_ (by omega) | refine bw_then ?_ (by assumption)))) (by first | omega | (simp only [World.size_alloc, World.size_setCell, World.size_drew, sz_drewN]; omega))⟩, (by with_reducible repeat (first | assumption | exact bw_refl _ | apply bw_alloc | apply bw_drew | apply bw_drewN | refine bw_set _ ?_ (by omega) | refine bw_then ?_ (by assumption)))⟩
set_option maxHeartbeats 4000000 in
set_option maxRecDepth 100000 in
theorem spec_l22At (n : Net) (q : NA) (a c : Int) (w : World) (hr : NetR 142 w n q) (ok : netOk n = true) (nd : isNode n.mesh.g a = true) :
    Calls Try.prog 72 #[.agg (netCells n q), .int .i64 a, .int .i64 c] w fun e w' => GotWP w w' (arrF n a c) e ∧ Below w.heap.size w w' := by
  obtain ⟨i0, i1⟩ := node_arrs ok nd
  clear ok nd
  obtain ⟨a1, a2, a3, a4, a5, a6, a7, a8, c1, c2, c3, c4, c5, c6, c7, c8⟩ := q; obtain ⟨Rbr, Rpa, Rpb, Rbu, Row, Rtu, Rso, Rar, L1, L2, L3, L4, L5, L6, L7, L8, L9, L10, L11⟩ := hr; have M9 := Lib.hid L9; have M10 := Lib.hid L10; have M11 := Lib.hid L11; clear L9 L10 L11; dsimp only [netCells] at *
  have hki := M11.out _ (rl_memI i0 i1)
  obtain ⟨b8, o8, rfl, hb8, Ai, ci, p0, hle, hCi⟩ := rdB_int Rar a i0 i1
  obtain ⟨z1, z2, z3, z4, z5, z6⟩ := more hb8
  obtain ⟨L, hL⟩ : ∃ L, clsOnly (rl n.arrs a) c = L := ⟨_, rfl⟩
  have hLn : L.length ≤ 1048576 := by rw [← hL]; exact Nat.le_trans (clsOnly_len _ _) hki
  have HE : Hid (arrF n a c = trimF L) := Lib.hid (by rw [arrF, hL])
  have HL := Lib.hid hL
  clear hL
  go_enter Try.func72, Try.ntmps72
  go_wp2_with (go_at_call 130; refine (spec_ClassOnly (rl n.arrs a) c Ai ci _ (by exact Kd.C_below hCi (by with_reducible repeat (first | assumption | exact bw_refl _ | apply bw_alloc | apply bw_drew | apply bw_drewN | refine bw_set _ ?_ (by omega) | refine bw_then ?_ (by assumption)))) hki).mono ?_; rintro e w1 ⟨hg1, hb1⟩; rw [HL.out] at hg1; obtain ⟨v1, rfl, HO1⟩ := hg1; obtain ⟨A1, d1, rfl, hk1, hC1⟩ := Kd.R_reads HO1; obtain ⟨hc1, hf1, hz1⟩ := bcell hb1; (try simp only [World.size_alloc, World.size_setCell, World.size_drew, sz_drewN] at hz1); have hb2 := (by first | exact bw_then hb2 hb1 | exact bw_then (bw_drewN _ hb2) hb1 | exact bw_then (bw_alloc _ hb2) hb1 | exact bw_then (bw_drew hb2) hb1 | exact bw_then HB hb1 | exact bw_then (bw_drewN _ HB) hb1 | exact bw_then (bw_alloc _ HB) hb1 | exact bw_then (bw_drew HB) hb1 | exact hb1); obtain ⟨hc2, hf2, hz2⟩ := bcell hb2; (try simp only [World.size_alloc, World.size_setCell, World.size_drew, sz_drewN] at hz2); try (first | obtain ⟨hy1, hy2, hy3, hy4⟩ := lts4 hz2 | obtain ⟨hy1, hy2, hy3⟩ := lts3 hz2 | obtain ⟨hy1, hy2⟩ := lts2 hz2 | have hy1 := lts1 hz2); have hb9 := hb1)
  go_loopw [8] (fun s wr => ∃ m : Nat, s = .slice A1 m d1 ∧ m ≤ L.length ∧ Hid (trimTo L m = trimTo L L.length) ∧ Hid (kF.C wr A1 L.length L) ∧ Below w.heap.size w wr) (fun s _ => lenOf s)
  case atStart => exact ⟨L.length, rfl, Nat.le_refl _, Lib.hid rfl, Lib.hid hC1, (by with_reducible repeat (first | assumption | exact bw_refl _ | apply bw_alloc | apply bw_drew | apply bw_drewN | refine bw_set _ ?_ (by omega) | refine bw_then ?_ (by assumption)))⟩
  case round =>
    repeat (first | clear hC1 | clear hc1 | clear hf1 | clear hz1 | clear hb1 | clear hb9 | clear hc2 | clear hf2 | clear hz2 | clear hb2 | clear hy1 | clear hy2 | clear hy3 | clear hy4)
    obtain ⟨m, rfl, hm, HT, HC, HB⟩ := hrel
    have hzr := bw_size HB
    rcases m with _ | k
    · have HX := Lib.hid (trimF_at HT.out rfl)
      have HW := Lib.hid (fun (W : World) (h : kF.C W A1 L.length L) => spec_WholePackets (L.take 0) A1 d1 W (Kd.C_take h hm) (by simp) (by simp))
      clear HT
      go_wp2_with (go_at_call 131; refine (HW.out _ (by exact Kd.C_below HC.out (by with_reducible repeat (first | assumption | exact bw_refl _ | apply bw_alloc | apply bw_drew | apply bw_drewN | refine bw_set _ ?_ (by omega) | refine bw_then ?_ (by assumption))))).mono ?_; rintro e w1 ⟨hg1, hb1⟩; rw [HX.out] at hg1; obtain ⟨v1, rfl, HO1⟩ := hg1; obtain ⟨hc1, hf1, hz1⟩ := bcell hb1; (try simp only [World.size_alloc, World.size_setCell, World.size_drew, sz_drewN] at hz1); have hb2 := (by first | exact bw_then hb2 hb1 | exact bw_then (bw_drewN _ hb2) hb1 | exact bw_then (bw_alloc _ hb2) hb1 | exact bw_then (bw_drew hb2) hb1 | exact bw_then HB hb1 | exact bw_then (bw_drewN _ HB) hb1 | exact bw_then (bw_alloc _ HB) hb1 | exact bw_then (bw_drew HB) hb1 | exact hb1); obtain ⟨hc2, hf2, hz2⟩ := bcell hb2; (try simp only [World.size_alloc, World.size_setCell, World.size_drew, sz_drewN] at hz2); try (first | obtain ⟨hy1, hy2, hy3, hy4⟩ := lts4 hz2 | obtain ⟨hy1, hy2, hy3⟩ := lts3 hz2 | obtain ⟨hy1, hy2⟩ := lts2 hz2 | have hy1 := lts1 hz2); have hb9 := hb1)
      exact bodyPost_ret (v := .tuple #[v1, .bool (wholeB (trimF L))]) (by simp [results, Try.results72, go_sem]) rfl ⟨⟨v1, by rw [HE.out], by rw [HE.out]; exact Kd.R_lower (by exact Kd.R_below HO1 (by with_reducible repeat (first | assumption | exact bw_refl _ | apply bw_alloc | apply bw_drew | apply bw_drewN | refine bw_set _ ?_ (by omega) | refine bw_then ?_ (by assumption)))) (by first | omega | (simp only [World.size_alloc, World.size_setCell, World.size_drew, sz_drewN]; omega))⟩, (by with_reducible repeat (first | assumption | exact bw_refl _ | apply bw_alloc | apply bw_drew | apply bw_drewN | refine bw_set _ ?_ (by omega) | refine bw_then ?_ (by assumption)))⟩
    · obtain ⟨b, off, rfl, hb, _, _, _, _, p4⟩ := rdFl_at HC.out k (by omega)
      have i2 : (0 : Int) < (k : Int) + 1 := by omega
      cases ht : (rf L k).tail
      · rw [ht] at p4
        have HV : Hid (trimTo L k = trimTo L L.length) := Lib.hid ((trimTo_on ht).symm.trans HT.out)
        clear ht HT
        have hcut : ∀ W : World, (Instr.slice 107 (.slice (some ⟨b, off, none⟩) (k + 1) d1) none (some (.int .i64 (k : Int))) none).run Try.prog W = .ok (.slice (some ⟨b, off, none⟩) k d1) W := fun W => cut_toF _ _ _ (k : Int) (by omega) (by omega) (by omega) W
        go_wp2
        go_roundw
        case rel => exact ⟨k, rfl, by omega, HV, Lib.hid (by exact Kd.C_below HC.out (by with_reducible repeat (first | assumption | exact bw_refl _ | apply bw_alloc | apply bw_drew | apply bw_drewN | refine bw_set _ ?_ (by omega) | refine bw_then ?_ (by assumption)))), (by with_reducible repeat (first | assumption | exact bw_refl _ | apply bw_alloc | apply bw_drew | apply bw_drewN | refine bw_set _ ?_ (by omega) | refine bw_then ?_ (by assumption)))⟩
        case measure => simp [lenOf]
      · rw [ht] at p4
        have HX := Lib.hid (trimF_at HT.out (trimTo_tail ht))
        have hlm : (L.take (k + 1)).length = k + 1 := by rw [List.length_take]; omega
        have HW : Hid (∀ W : World, kF.C W (some ⟨b, off, none⟩) L.length L → Calls Try.prog 131 #[.slice (some ⟨b, off, none⟩) (k + 1) d1] W fun e w' => GotWP W w' (L.take (k + 1)) e ∧ Below W.heap.size W w') := Lib.hid (fun W h => by
          have h2 := spec_WholePackets (L.take (k + 1)) (some ⟨b, off, none⟩) d1 W (Kd.C_take h hm) (by omega) (by omega)
          rw [hlm] at h2
          exact h2)
        clear HT ht hlm
        go_wp2_with (go_at_call 131; refine (HW.out _ (by exact Kd.C_below HC.out (by with_reducible repeat (first | assumption | exact bw_refl _ | apply bw_alloc | apply bw_drew | apply bw_drewN | refine bw_set _ ?_ (by omega) | refine bw_then ?_ (by assumption))))).mono ?_; rintro e w1 ⟨hg1, hb1⟩; rw [HX.out] at hg1; obtain ⟨v1, rfl, HO1⟩ := hg1; obtain ⟨hc1, hf1, hz1⟩ := bcell hb1; (try simp only [World.size_alloc, World.size_setCell, World.size_drew, sz_drewN] at hz1); have hb2 := (by first | exact bw_then hb2 hb1 | exact bw_then (bw_drewN _ hb2) hb1 | exact bw_then (bw_alloc _ hb2) hb1 | exact bw_then (bw_drew hb2) hb1 | exact bw_then HB hb1 | exact bw_then (bw_drewN _ HB) hb1 | exact bw_then (bw_alloc _ HB) hb1 | exact bw_then (bw_drew HB) hb1 | exact hb1); obtain ⟨hc2, hf2, hz2⟩ := bcell hb2; (try simp only [World.size_alloc, World.size_setCell, World.size_drew, sz_drewN] at hz2); try (first | obtain ⟨hy1, hy2, hy3, hy4⟩ := lts4 hz2 | obtain ⟨hy1, hy2, hy3⟩ := lts3 hz2 | obtain ⟨hy1, hy2⟩ := lts2 hz2 | have hy1 := lts1 hz2); have hb9 := hb1)
        exact bodyPost_ret (v := .tuple #[v1, .bool (wholeB (trimF L))]) (by simp [results, Try.results72, go_sem]) rfl ⟨⟨v1, by rw [HE.out], by rw [HE.out]; exact Kd.R_lower (by exact Kd.R_below HO1 (by with_reducible repeat (first | assumption | exact bw_refl _ | apply bw_alloc | apply bw_drew | apply bw_drewN | refine bw_set _ ?_ (by omega) | refine bw_then ?_ (by assumption)))) (by first | omega | (simp only [World.size_alloc, World.size_setCell, World.size_drew, sz_drewN]; omega))⟩, (by with_reducible repeat (first | assumption | exact bw_refl _ | apply bw_alloc | apply bw_drew | apply bw_drewN | refine bw_set _ ?_ (by omega) | refine bw_then ?_ (by assumption)))⟩
end Go.Proofs.Ytinnfahmfggghaa
