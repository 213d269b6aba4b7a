/- The packets of a list that have not arrived: both sides; for all networks and lists of at most a million entries. -/
import Derived.Test.YtinnfahmfggghaaArF
import Derived.Test.YtinnfahmfggghaaLawI
set_option linter.unusedVariables false
set_option linter.unusedSimpArgs false
namespace Go.Proofs.Ytinnfahmfggghaa
open Go.RowKit Go.Proofs.YtinnfahmfggghaaW.PrintWords
open NoC

def badIdxM (g : Grid) (l : List Packet) : Int := if l.all (packetOk g) then -1 else ((l.findIdx (fun p => !packetOk g p) : Nat) : Int)
theorem badIdxM_yes {g : Grid} {l : List Packet} (j : Nat) (hj : j < l.length) (h : packetOk g (rp l j) = false) (hb : ∀ x : Nat, x < j → packetOk g (rp l x) = true) : badIdxM g l = j := by
  unfold badIdxM
  rw [all_no j hj h]
  have : l.findIdx (fun p => !packetOk g p) = j := by
    rw [List.findIdx_eq hj]
    rw [rp_get l j hj] at h
    refine ⟨by simp [h], fun i hi => ?_⟩
    have := hb i hi
    rw [rp_get l i (by omega)] at this
    simp [this]
  simp [this]
theorem badIdxM_no {g : Grid} {l : List Packet} (h : ∀ x : Nat, x < l.length → packetOk g (rp l x) = true) : badIdxM g l = -1 := by
  unfold badIdxM
  rw [all_yes h]
  rfl
theorem badIdxM_ge (g : Grid) (l : List Packet) : decide (0 ≤ badIdxM g l) = !(l.all (packetOk g)) := by
  unfold badIdxM
  cases h : l.all (packetOk g)
  · simp
  · simp
def missTo (n : Net) (l : List Packet) (k : Nat) : List Int := ((List.range k).filter (fun j : Nat => !has (wholeP (arrF n (rp l j).dst (rp l j).cls)) (rp l j).id)).map (fun j : Nat => (rp l j).id)
def missN (n : Net) (l : List Packet) : List Int := if (netOk n && l.all (packetOk n.mesh.g)) = true then missTo n l l.length else []
theorem miss_no {n : Net} {l : List Packet} {k : Nat} (h : has (wholeP (arrF n (rp l k).dst (rp l k).cls)) (rp l k).id = true) : missTo n l (k + 1) = missTo n l k := by simp [missTo, List.range_succ, List.filter_append, h]
theorem miss_yes {n : Net} {l : List Packet} {k : Nat} (h : has (wholeP (arrF n (rp l k).dst (rp l k).cls)) (rp l k).id = false) : missTo n l (k + 1) = missTo n l k ++ [(rp l k).id] := by simp [missTo, List.range_succ, List.filter_append, h]
theorem miss_len (n : Net) (l : List Packet) (k : Nat) : (missTo n l k).length ≤ k := by
  unfold missTo
  rw [List.length_map]
  exact Nat.le_trans (List.length_filter_le _ _) (by simp)
theorem missN_no {n : Net} {l : List Packet} (h : (netOk n && l.all (packetOk n.mesh.g)) = false) : missN n l = [] := by rw [missN, h]; exact if_neg (by decide)
theorem missN_yes {n : Net} {l : List Packet} (h : (netOk n && l.all (packetOk n.mesh.g)) = true) : missN n l = missTo n l l.length := by rw [missN, if_pos h]
theorem missN_len (n : Net) (l : List Packet) : (missN n l).length ≤ l.length := by
  unfold missN
  split
  · exact miss_len n l l.length
  · simp
theorem Missing_len {e : Nat} {n : Net} {q : NA} {w : World} (hr : NetR e w n q) (l : List Packet) (h : l.length ≤ 1048576) : (missN n l).length ≤ 1048576 := Nat.le_trans (missN_len n l) h
theorem packetOk_node {g : Grid} {p : Packet} (h : packetOk g p = true) : isNode g p.dst = true := by
  simp only [packetOk, Bool.and_eq_true] at h
  exact h.1.1.1.2
theorem impl_Missing_1 (g : Grid) (q : Packet) (gm : Nat) (w : World) (h0 : w.cell? ⟨gm, 0, none⟩ = some (.int .i64 g.w)) (h1 : w.cell? ⟨gm, 1, none⟩ = some (.int .i64 g.h)) :
    Calls Try.prog 89 #[.agg #[.int .i64 q.id, .int .i64 q.src, .int .i64 q.dst, .int .i64 q.cls, .int .i64 q.len], .pointer (some ⟨gm, 0, none⟩)] w fun e w' => e = .returned (.bool (!packetOk g q)) ∧ Below w.heap.size w w' := by
  have g0 := World.block_lt_of_cell? w _ h0
  go_enter Try.func89, Try.ntmps89
  go_wp2_with (go_at_call 90; refine (impl_PacketOk g q _).mono ?_; rintro e w1 ⟨rfl, hb1⟩; obtain ⟨hc1, hf1, hz1⟩ := bcell hb1; (try simp only [World.size_alloc, World.size_setCell, World.size_drew, sz_drewN] at hz1); have hb2 := (by first | exact bw_then hb2 hb1 | exact bw_then (bw_drewN _ hb2) hb1 | exact bw_then (bw_alloc _ hb2) hb1 | exact bw_then (bw_drew hb2) hb1 | exact bw_then HB hb1 | exact bw_then (bw_drewN _ HB) hb1 | exact bw_then (bw_alloc _ HB) hb1 | exact bw_then (bw_drew HB) hb1 | exact hb1); obtain ⟨hc2, hf2, hz2⟩ := bcell hb2; (try simp only [World.size_alloc, World.size_setCell, World.size_drew, sz_drewN] at hz2); try (first | obtain ⟨hy1, hy2, hy3, hy4⟩ := lts4 hz2 | obtain ⟨hy1, hy2, hy3⟩ := lts3 hz2 | obtain ⟨hy1, hy2⟩ := lts2 hz2 | have hy1 := lts1 hz2); have hb9 := hb1)
  go_ret
  exact ⟨rfl, (by with_reducible repeat (first | assumption | exact bw_refl _ | apply bw_alloc | apply bw_drew | apply bw_drewN | refine bw_set _ ?_ (by omega) | refine bw_then ?_ (by assumption)))⟩
set_option maxHeartbeats 1000000 in
theorem slices_IndexFunc_M (g : Grid) (l : List Packet) (D : Option Addr) (n gm : Nat) (w : World) (hp : kP.C w D l.length l) (hkl : l.length ≤ 1048576) (h0 : w.cell? ⟨gm, 0, none⟩ = some (.int .i64 g.w)) (h1 : w.cell? ⟨gm, 1, none⟩ = some (.int .i64 g.h)) :
    Calls Try.prog 143 #[.slice D l.length n, .func (.func 89) #[] #[.pointer (some ⟨gm, 0, none⟩)]] w fun e w' => e = .returned (.int .i64 (badIdxM g l)) ∧ Below w.heap.size w w' := by
  have g0 := World.block_lt_of_cell? w _ h0
  have hcall : ∀ (q : Packet) (w' : World), Below w.heap.size w w' → Calls Try.prog 89 #[.agg #[.int .i64 q.id, .int .i64 q.src, .int .i64 q.dst, .int .i64 q.cls, .int .i64 q.len], .pointer (some ⟨gm, 0, none⟩)] w' fun e w'' => e = .returned (.bool (!packetOk g q)) ∧ Below w'.heap.size w' w'' := by
    intro q w' hb
    obtain ⟨hc, _, _⟩ := bcell hb
    exact impl_Missing_1 g q gm w' ((hc _ _ g0).trans h0) ((hc _ _ g0).trans h1)
  have HCALL := Lib.hid hcall
  clear hcall h0 h1 g0
  go_enter Try.func143, Try.ntmps143
  go_wp2
  go_loopw [8] (fun i wr => ∃ j : Nat, i = .int .i64 j ∧ j ≤ l.length ∧ Hid (∀ x : Nat, x < j → packetOk g (rp l x) = true) ∧ Below w.heap.size w wr) (fun i _ => l.length - (intOf i).toNat)
  case atStart => exact ⟨0, rfl, Nat.zero_le _, Lib.hid fun x h => absurd h (Nat.not_lt_zero _), (by with_reducible repeat (first | assumption | exact bw_refl _ | apply bw_alloc | apply bw_drew | apply bw_drewN | refine bw_set _ ?_ (by omega) | refine bw_then ?_ (by assumption)))⟩
  case round =>
    obtain ⟨j, rfl, hj, HA, HB⟩ := hrel
    obtain ⟨hc0, hf0, hz0⟩ := bcell HB
    by_cases hlt : j < l.length
    · obtain ⟨b, off, rfl, hbl, p0, p1, p2, p3, p4⟩ := rdP_at hp j hlt
      cases hk : packetOk g (rp l j)
      · have HK := Lib.hid hk
        have e1 : (!packetOk g (rp l j)) = true := by rw [hk]; rfl
        have E1 := Lib.hid e1
        clear hk e1
        go_wp2_with (go_at_call 89; refine (HCALL.out (rp l j) _ (by exact (by with_reducible repeat (first | assumption | exact bw_refl _ | apply bw_alloc | apply bw_drew | apply bw_drewN | refine bw_set _ ?_ (by omega) | refine bw_then ?_ (by assumption))))).mono ?_; rintro e w1 ⟨he, hb1⟩; rw [E1.out] at he; subst he; obtain ⟨hc1, hf1, hz1⟩ := bcell hb1; (try simp only [World.size_alloc, World.size_setCell, World.size_drew, sz_drewN] at hz1); have hb2 := (by first | exact bw_then hb2 hb1 | exact bw_then (bw_drewN _ hb2) hb1 | exact bw_then (bw_alloc _ hb2) hb1 | exact bw_then (bw_drew hb2) hb1 | exact bw_then HB hb1 | exact bw_then (bw_drewN _ HB) hb1 | exact bw_then (bw_alloc _ HB) hb1 | exact bw_then (bw_drew HB) hb1 | exact hb1); obtain ⟨hc2, hf2, hz2⟩ := bcell hb2; (try simp only [World.size_alloc, World.size_setCell, World.size_drew, sz_drewN] at hz2); try (first | obtain ⟨hy1, hy2, hy3, hy4⟩ := lts4 hz2 | obtain ⟨hy1, hy2, hy3⟩ := lts3 hz2 | obtain ⟨hy1, hy2⟩ := lts2 hz2 | have hy1 := lts1 hz2); have hb9 := hb1)
        go_ret
        exact ⟨ret_int (badIdxM_yes j hlt HK.out HA.out).symm, (by with_reducible repeat (first | assumption | exact bw_refl _ | apply bw_alloc | apply bw_drew | apply bw_drewN | refine bw_set _ ?_ (by omega) | refine bw_then ?_ (by assumption)))⟩
      · have HK := Lib.hid hk
        have e1 : (!packetOk g (rp l j)) = false := by rw [hk]; rfl
        have E1 := Lib.hid e1
        clear hk e1
        go_wp2_with (go_at_call 89; refine (HCALL.out (rp l j) _ (by exact (by with_reducible repeat (first | assumption | exact bw_refl _ | apply bw_alloc | apply bw_drew | apply bw_drewN | refine bw_set _ ?_ (by omega) | refine bw_then ?_ (by assumption))))).mono ?_; rintro e w1 ⟨he, hb1⟩; rw [E1.out] at he; subst he; obtain ⟨hc1, hf1, hz1⟩ := bcell hb1; (try simp only [World.size_alloc, World.size_setCell, World.size_drew, sz_drewN] at hz1); have hb2 := (by first | exact bw_then hb2 hb1 | exact bw_then (bw_drewN _ hb2) hb1 | exact bw_then (bw_alloc _ hb2) hb1 | exact bw_then (bw_drew hb2) hb1 | exact bw_then HB hb1 | exact bw_then (bw_drewN _ HB) hb1 | exact bw_then (bw_alloc _ HB) hb1 | exact bw_then (bw_drew HB) hb1 | exact hb1); obtain ⟨hc2, hf2, hz2⟩ := bcell hb2; (try simp only [World.size_alloc, World.size_setCell, World.size_drew, sz_drewN] at hz2); try (first | obtain ⟨hy1, hy2, hy3, hy4⟩ := lts4 hz2 | obtain ⟨hy1, hy2, hy3⟩ := lts3 hz2 | obtain ⟨hy1, hy2⟩ := lts2 hz2 | have hy1 := lts1 hz2); have hb9 := hb1)
        go_roundw
        case rel => exact ⟨j + 1, by go_num, by omega, Lib.hid (upto HA.out HK.out), (by with_reducible repeat (first | assumption | exact bw_refl _ | apply bw_alloc | apply bw_drew | apply bw_drewN | refine bw_set _ ?_ (by omega) | refine bw_then ?_ (by assumption)))⟩
        case measure => simp [intOf]; omega
    · go_wp2
      go_ret
      exact ⟨ret_int (badIdxM_no (fun x hx => HA.out x (by omega))).symm, (by with_reducible repeat (first | assumption | exact bw_refl _ | apply bw_alloc | apply bw_drew | apply bw_drewN | refine bw_set _ ?_ (by omega) | refine bw_then ?_ (by assumption)))⟩
theorem slices_ContainsFunc_M (g : Grid) (l : List Packet) (D : Option Addr) (n gm : Nat) (w : World) (hp : kP.C w D l.length l) (hkl : l.length ≤ 1048576) (h0 : w.cell? ⟨gm, 0, none⟩ = some (.int .i64 g.w)) (h1 : w.cell? ⟨gm, 1, none⟩ = some (.int .i64 g.h)) :
    Calls Try.prog 88 #[.slice D l.length n, .func (.func 89) #[] #[.pointer (some ⟨gm, 0, none⟩)]] w fun e w' => e = .returned (.bool (!(l.all (packetOk g)))) ∧ Below w.heap.size w w' := by
  go_enter Try.func88, Try.ntmps88
  go_wp2_with (go_at_call 143; refine (slices_IndexFunc_M g l D n gm _ hp hkl h0 h1).mono ?_; rintro e w1 ⟨rfl, hb1⟩; obtain ⟨hc1, hf1, hz1⟩ := bcell hb1; (try simp only [World.size_alloc, World.size_setCell, World.size_drew, sz_drewN] at hz1); have hb2 := (by first | exact bw_then hb2 hb1 | exact bw_then (bw_drewN _ hb2) hb1 | exact bw_then (bw_alloc _ hb2) hb1 | exact bw_then (bw_drew hb2) hb1 | exact bw_then HB hb1 | exact bw_then (bw_drewN _ HB) hb1 | exact bw_then (bw_alloc _ HB) hb1 | exact bw_then (bw_drew HB) hb1 | exact hb1); obtain ⟨hc2, hf2, hz2⟩ := bcell hb2; (try simp only [World.size_alloc, World.size_setCell, World.size_drew, sz_drewN] at hz2); try (first | obtain ⟨hy1, hy2, hy3, hy4⟩ := lts4 hz2 | obtain ⟨hy1, hy2, hy3⟩ := lts3 hz2 | obtain ⟨hy1, hy2⟩ := lts2 hz2 | have hy1 := lts1 hz2); have hb9 := hb1)
  go_ret
  exact ⟨ret_bool (by simpa using badIdxM_ge g l), (by with_reducible repeat (first | assumption | exact bw_refl _ | apply bw_alloc | apply bw_drew | apply bw_drewN | refine bw_set _ ?_ (by omega) | refine bw_then ?_ (by assumption)))⟩
set_option maxHeartbeats 4000000 in
set_option maxRecDepth 100000 in
theorem impl_Missing (n : Net) (l : List Packet) (q : NA) (D : Option Addr) (d : Nat) (w : World) (hr : NetR 142 w n q) (hp : kP.C w D l.length l) (hkl : l.length ≤ 1048576) :
    Calls Try.prog 32 #[.agg (netCells n q), .slice D l.length d] w fun e w' => GotI w w' (missN n l) e ∧ Below w.heap.size w w' := by
  have R := Lib.hid hr
  have P := Lib.hid hp
  have hal := fun a c => arrIds_len hr a c
  obtain ⟨a1, a2, a3, a4, a5, a6, a7, a8, c1, c2, c3, c4, c5, c6, c7, c8⟩ := q
  clear hr hp
  dsimp only [netCells]
  have X := fun (W : World) hb => Box.below (w1 := W) (Box.new w _ #[.int .i64 n.mesh.g.w, .int .i64 n.mesh.g.h, .slice a1 n.mesh.br.length c1, .slice a2 n.pa.length c2, .slice a3 n.pb.length c3, .slice a4 n.bufs.length c4, .slice a5 n.owners.length c5, .slice a6 n.turns.length c6, .slice a7 n.srcs.length c7, .slice a8 n.arrs.length c8, .int .i64 n.time] 33 rfl) hb
  have E0 := Lib.hid (R_empty' (Kd.int .i64) 3 (W0 := w.alloc (.cells #[.int .i64 n.mesh.g.w, .int .i64 n.mesh.g.h, .slice a1 n.mesh.br.length c1, .slice a2 n.pa.length c2, .slice a3 n.pb.length c3, .slice a4 n.bufs.length c4, .slice a5 n.owners.length c5, .slice a6 n.turns.length c6, .slice a7 n.srcs.length c7, .slice a8 n.arrs.length c8, .int .i64 n.time] 33)) (W := w.alloc (.cells #[.int .i64 n.mesh.g.w, .int .i64 n.mesh.g.h, .slice a1 n.mesh.br.length c1, .slice a2 n.pa.length c2, .slice a3 n.pb.length c3, .slice a4 n.bufs.length c4, .slice a5 n.owners.length c5, .slice a6 n.turns.length c6, .slice a7 n.srcs.length c7, .slice a8 n.arrs.length c8, .int .i64 n.time] 33)) (Nat.le_refl _) (w.heap.size + 1) (by simp only [World.size_alloc, World.size_setCell, World.size_drew, sz_drewN]))
  cases hk : netOk n
  · have HE := Lib.hid (missN_no (n := n) (l := l) (by rw [hk]; rfl))
    go_enter Try.func32, Try.ntmps32
    go_wp2_with (go_at_call 76; refine (impl_NetOk n _ _ (R.out.below (by with_reducible repeat (first | assumption | exact bw_refl _ | apply bw_alloc | apply bw_drew | apply bw_drewN | refine bw_set _ ?_ (by omega) | refine bw_then ?_ (by assumption))))).mono ?_; rintro e w1 ⟨rfl, hb1⟩; obtain ⟨hc1, hf1, hz1⟩ := bcell hb1; (try simp only [World.size_alloc, World.size_setCell, World.size_drew, sz_drewN] at hz1); have hb2 := (by first | exact bw_then hb2 hb1 | exact bw_then (bw_drewN _ hb2) hb1 | exact bw_then (bw_alloc _ hb2) hb1 | exact bw_then (bw_drew hb2) hb1 | exact bw_then HB hb1 | exact bw_then (bw_drewN _ HB) hb1 | exact bw_then (bw_alloc _ HB) hb1 | exact bw_then (bw_drew HB) hb1 | exact hb1); obtain ⟨hc2, hf2, hz2⟩ := bcell hb2; (try simp only [World.size_alloc, World.size_setCell, World.size_drew, sz_drewN] at hz2); try (first | obtain ⟨hy1, hy2, hy3, hy4⟩ := lts4 hz2 | obtain ⟨hy1, hy2, hy3⟩ := lts3 hz2 | obtain ⟨hy1, hy2⟩ := lts2 hz2 | have hy1 := lts1 hz2); have hb9 := hb1)
    go_ret
    exact ⟨by rw [HE.out]; exact ⟨_, rfl, Kd.R_lower (by exact Kd.R_below E0.out (by with_reducible repeat (first | assumption | exact bw_refl _ | apply bw_alloc | apply bw_drew | apply bw_drewN | refine bw_set _ ?_ (by omega) | refine bw_then ?_ (by assumption)))) (by simp only [World.size_alloc, World.size_setCell, World.size_drew, sz_drewN]; omega)⟩, (by with_reducible repeat (first | assumption | exact bw_refl _ | apply bw_alloc | apply bw_drew | apply bw_drewN | refine bw_set _ ?_ (by omega) | refine bw_then ?_ (by assumption)))⟩
  cases ha : l.all (packetOk n.mesh.g)
  · have HE := Lib.hid (missN_no (n := n) (l := l) (by rw [ha, Bool.and_false]))
    go_enter Try.func32, Try.ntmps32
    go_wp2_with (first | (go_at_call 76; refine (impl_NetOk n _ _ (R.out.below (by with_reducible repeat (first | assumption | exact bw_refl _ | apply bw_alloc | apply bw_drew | apply bw_drewN | refine bw_set _ ?_ (by omega) | refine bw_then ?_ (by assumption))))).mono ?_; rintro e w1 ⟨rfl, hb1⟩; obtain ⟨hc1, hf1, hz1⟩ := bcell hb1; (try simp only [World.size_alloc, World.size_setCell, World.size_drew, sz_drewN] at hz1); have hb2 := (by first | exact bw_then hb2 hb1 | exact bw_then (bw_drewN _ hb2) hb1 | exact bw_then (bw_alloc _ hb2) hb1 | exact bw_then (bw_drew hb2) hb1 | exact bw_then HB hb1 | exact bw_then (bw_drewN _ HB) hb1 | exact bw_then (bw_alloc _ HB) hb1 | exact bw_then (bw_drew HB) hb1 | exact hb1); obtain ⟨hc2, hf2, hz2⟩ := bcell hb2; (try simp only [World.size_alloc, World.size_setCell, World.size_drew, sz_drewN] at hz2); try (first | obtain ⟨hy1, hy2, hy3, hy4⟩ := lts4 hz2 | obtain ⟨hy1, hy2, hy3⟩ := lts3 hz2 | obtain ⟨hy1, hy2⟩ := lts2 hz2 | have hy1 := lts1 hz2); have hb9 := hb1) | (go_at_call 88; refine (slices_ContainsFunc_M n.mesh.g l D _ _ _ (by exact Kd.C_below P.out (by with_reducible repeat (first | assumption | exact bw_refl _ | apply bw_alloc | apply bw_drew | apply bw_drewN | refine bw_set _ ?_ (by omega) | refine bw_then ?_ (by assumption)))) hkl ((X _ (by with_reducible repeat (first | assumption | exact bw_refl _ | apply bw_alloc | apply bw_drew | apply bw_drewN | refine bw_set _ ?_ (by omega) | refine bw_then ?_ (by assumption)))).get 0) ((X _ (by with_reducible repeat (first | assumption | exact bw_refl _ | apply bw_alloc | apply bw_drew | apply bw_drewN | refine bw_set _ ?_ (by omega) | refine bw_then ?_ (by assumption)))).get 1)).mono ?_; rintro e w2 ⟨rfl, hb2⟩; have hb1 := hb2; obtain ⟨hc1, hf1, hz1⟩ := bcell hb1; (try simp only [World.size_alloc, World.size_setCell, World.size_drew, sz_drewN] at hz1); have hb2 := (by first | exact bw_then hb2 hb1 | exact bw_then (bw_drewN _ hb2) hb1 | exact bw_then (bw_alloc _ hb2) hb1 | exact bw_then (bw_drew hb2) hb1 | exact bw_then HB hb1 | exact bw_then (bw_drewN _ HB) hb1 | exact bw_then (bw_alloc _ HB) hb1 | exact bw_then (bw_drew HB) hb1 | exact hb1); obtain ⟨hc2, hf2, hz2⟩ := bcell hb2; (try simp only [World.size_alloc, World.size_setCell, World.size_drew, sz_drewN] at hz2); try (first | obtain ⟨hy1, hy2, hy3, hy4⟩ := lts4 hz2 | obtain ⟨hy1, hy2, hy3⟩ := lts3 hz2 | obtain ⟨hy1, hy2⟩ := lts2 hz2 | have hy1 := lts1 hz2); have hb9 := hb1))
    go_ret
    exact ⟨by rw [HE.out]; exact ⟨_, rfl, Kd.R_lower (by exact Kd.R_below E0.out (by with_reducible repeat (first | assumption | exact bw_refl _ | apply bw_alloc | apply bw_drew | apply bw_drewN | refine bw_set _ ?_ (by omega) | refine bw_then ?_ (by assumption)))) (by simp only [World.size_alloc, World.size_setCell, World.size_drew, sz_drewN]; omega)⟩, (by with_reducible repeat (first | assumption | exact bw_refl _ | apply bw_alloc | apply bw_drew | apply bw_drewN | refine bw_set _ ?_ (by omega) | refine bw_then ?_ (by assumption)))⟩
  have HE := Lib.hid (missN_yes (n := n) (l := l) (by rw [ha, hk]; rfl))
  have HK := Lib.hid hk
  have HA := Lib.hid (fun (k : Nat) (h : k < l.length) => packetOk_node (all_get ha k h))
  have HL : Hid (∀ a c, isNode n.mesh.g a = true → (wholeP (arrF n a c)).length ≤ 1048576) := Lib.hid (fun a c h => by
    have h1 := (node_arrs hk h)
    have h2 := (R.out.h11 _ (rl_memI h1.1 h1.2))
    have h3 := wholeP_len (arrF n a c)
    have h4 := arrF_len n a c
    omega)
  have hal2 : (!(l.all (packetOk n.mesh.g))) = false := by rw [ha]; rfl
  clear hal
  go_enter Try.func32, Try.ntmps32
  go_wp2_with (first | (go_at_call 76; refine (impl_NetOk n _ _ (R.out.below (by with_reducible repeat (first | assumption | exact bw_refl _ | apply bw_alloc | apply bw_drew | apply bw_drewN | refine bw_set _ ?_ (by omega) | refine bw_then ?_ (by assumption))))).mono ?_; rintro e w1 ⟨rfl, hb1⟩; obtain ⟨hc1, hf1, hz1⟩ := bcell hb1; (try simp only [World.size_alloc, World.size_setCell, World.size_drew, sz_drewN] at hz1); have hb2 := (by first | exact bw_then hb2 hb1 | exact bw_then (bw_drewN _ hb2) hb1 | exact bw_then (bw_alloc _ hb2) hb1 | exact bw_then (bw_drew hb2) hb1 | exact bw_then HB hb1 | exact bw_then (bw_drewN _ HB) hb1 | exact bw_then (bw_alloc _ HB) hb1 | exact bw_then (bw_drew HB) hb1 | exact hb1); obtain ⟨hc2, hf2, hz2⟩ := bcell hb2; (try simp only [World.size_alloc, World.size_setCell, World.size_drew, sz_drewN] at hz2); try (first | obtain ⟨hy1, hy2, hy3, hy4⟩ := lts4 hz2 | obtain ⟨hy1, hy2, hy3⟩ := lts3 hz2 | obtain ⟨hy1, hy2⟩ := lts2 hz2 | have hy1 := lts1 hz2); have hb9 := hb1) | (go_at_call 88; refine (slices_ContainsFunc_M n.mesh.g l D _ _ _ (by exact Kd.C_below P.out (by with_reducible repeat (first | assumption | exact bw_refl _ | apply bw_alloc | apply bw_drew | apply bw_drewN | refine bw_set _ ?_ (by omega) | refine bw_then ?_ (by assumption)))) hkl ((X _ (by with_reducible repeat (first | assumption | exact bw_refl _ | apply bw_alloc | apply bw_drew | apply bw_drewN | refine bw_set _ ?_ (by omega) | refine bw_then ?_ (by assumption)))).get 0) ((X _ (by with_reducible repeat (first | assumption | exact bw_refl _ | apply bw_alloc | apply bw_drew | apply bw_drewN | refine bw_set _ ?_ (by omega) | refine bw_then ?_ (by assumption)))).get 1)).mono ?_; rintro e w2 ⟨rfl, hb2⟩; have hb1 := hb2; obtain ⟨hc1, hf1, hz1⟩ := bcell hb1; (try simp only [World.size_alloc, World.size_setCell, World.size_drew, sz_drewN] at hz1); have hb2 := (by first | exact bw_then hb2 hb1 | exact bw_then (bw_drewN _ hb2) hb1 | exact bw_then (bw_alloc _ hb2) hb1 | exact bw_then (bw_drew hb2) hb1 | exact bw_then HB hb1 | exact bw_then (bw_drewN _ HB) hb1 | exact bw_then (bw_alloc _ HB) hb1 | exact bw_then (bw_drew HB) hb1 | exact hb1); obtain ⟨hc2, hf2, hz2⟩ := bcell hb2; (try simp only [World.size_alloc, World.size_setCell, World.size_drew, sz_drewN] at hz2); try (first | obtain ⟨hy1, hy2, hy3, hy4⟩ := lts4 hz2 | obtain ⟨hy1, hy2, hy3⟩ := lts3 hz2 | obtain ⟨hy1, hy2⟩ := lts2 hz2 | have hy1 := lts1 hz2); have hb9 := hb1))
  go_loopw [5, 22] (fun v i wr => ∃ k : Nat, i = .int .i64 k ∧ k ≤ l.length ∧ Kd.R (Kd.int .i64) 3 wr (w.alloc (.cells #[.int .i64 n.mesh.g.w, .int .i64 n.mesh.g.h, .slice a1 n.mesh.br.length c1, .slice a2 n.pa.length c2, .slice a3 n.pb.length c3, .slice a4 n.bufs.length c4, .slice a5 n.owners.length c5, .slice a6 n.turns.length c6, .slice a7 n.srcs.length c7, .slice a8 n.arrs.length c8, .int .i64 n.time] 33)).heap.size (fun _ => True) v (missTo n l k) ∧ Below (w.alloc (.cells #[.int .i64 n.mesh.g.w, .int .i64 n.mesh.g.h, .slice a1 n.mesh.br.length c1, .slice a2 n.pa.length c2, .slice a3 n.pb.length c3, .slice a4 n.bufs.length c4, .slice a5 n.owners.length c5, .slice a6 n.turns.length c6, .slice a7 n.srcs.length c7, .slice a8 n.arrs.length c8, .int .i64 n.time] 33)).heap.size (w.alloc (.cells #[.int .i64 n.mesh.g.w, .int .i64 n.mesh.g.h, .slice a1 n.mesh.br.length c1, .slice a2 n.pa.length c2, .slice a3 n.pb.length c3, .slice a4 n.bufs.length c4, .slice a5 n.owners.length c5, .slice a6 n.turns.length c6, .slice a7 n.srcs.length c7, .slice a8 n.arrs.length c8, .int .i64 n.time] 33)) wr) (fun _ i _ => l.length - (intOf i).toNat)
  case atStart => exact ⟨0, rfl, Nat.zero_le _, (by exact Kd.R_below E0.out (by with_reducible repeat (first | assumption | exact bw_refl _ | apply bw_alloc | apply bw_drew | apply bw_drewN | refine bw_set _ ?_ (by omega) | refine bw_then ?_ (by assumption)))), (by with_reducible repeat (first | assumption | exact bw_refl _ | apply bw_alloc | apply bw_drew | apply bw_drewN | refine bw_set _ ?_ (by omega) | refine bw_then ?_ (by assumption)))⟩
  case round =>
    obtain ⟨k, rfl, hk, HO, HB⟩ := hrel
    obtain ⟨Ao, co, rfl⟩ := Kd.R_slice HO
    have hlen := miss_len n l k
    by_cases hlt : k < l.length
    · obtain ⟨b, off, rfl, hbl, p0, p1, p2, p3, p4⟩ := rdP_at (Kd.C_below (Kd.C_below P.out (bw_alloc _ (bw_refl _))) HB) k hlt
      have hnd := HA.out k hlt
      have HN := Lib.hid hnd
      have HL2 := Lib.hid (HL.out _ (rp l k).cls hnd)
      clear hnd
      cases hh : has (wholeP (arrF n (rp l k).dst (rp l k).cls)) (rp l k).id
      · have HS := Lib.hid (miss_yes hh)
        have HH := Lib.hid hh
        clear hh
        go_wp2_with (first | (go_at_call 77; refine (impl_arrived n _ _ _ _ _ (R.out.below (by with_reducible repeat (first | assumption | exact bw_refl _ | apply bw_alloc | apply bw_drew | apply bw_drewN | refine bw_set _ ?_ (by omega) | refine bw_then ?_ (by assumption)))) (X _ (by with_reducible repeat (first | assumption | exact bw_refl _ | apply bw_alloc | apply bw_drew | apply bw_drewN | refine bw_set _ ?_ (by omega) | refine bw_then ?_ (by assumption)))) HK.out HN.out).mono ?_; rintro e w1 ⟨hg1, hb1⟩; obtain ⟨v1, rfl, HO1⟩ := hg1; obtain ⟨A1, d1, rfl, hk1, hC1⟩ := Kd.R_reads HO1; obtain ⟨hc1, hf1, hz1⟩ := bcell hb1; (try simp only [World.size_alloc, World.size_setCell, World.size_drew, sz_drewN] at hz1); have hb2 := (by first | exact bw_then hb2 hb1 | exact bw_then (bw_drewN _ hb2) hb1 | exact bw_then (bw_alloc _ hb2) hb1 | exact bw_then (bw_drew hb2) hb1 | exact bw_then HB hb1 | exact bw_then (bw_drewN _ HB) hb1 | exact bw_then (bw_alloc _ HB) hb1 | exact bw_then (bw_drew HB) hb1 | exact hb1); obtain ⟨hc2, hf2, hz2⟩ := bcell hb2; (try simp only [World.size_alloc, World.size_setCell, World.size_drew, sz_drewN] at hz2); try (first | obtain ⟨hy1, hy2, hy3, hy4⟩ := lts4 hz2 | obtain ⟨hy1, hy2, hy3⟩ := lts3 hz2 | obtain ⟨hy1, hy2⟩ := lts2 hz2 | have hy1 := lts1 hz2); have hb9 := hb1) | (go_at_call 91; refine (slices_Contains_int (wholeP (arrF n (rp l k).dst (rp l k).cls)) _ A1 d1 _ (by exact Kd.C_below hC1 (by with_reducible repeat (first | assumption | exact bw_refl _ | apply bw_alloc | apply bw_drew | apply bw_drewN | refine bw_set _ ?_ (by omega) | refine bw_then ?_ (by assumption)))) HL2.out).mono ?_; rintro e w' ⟨he, rfl⟩; rw [HH.out] at he; subst he) | (at_builtin; refine app_int (W0 := w.alloc (.cells #[.int .i64 n.mesh.g.w, .int .i64 n.mesh.g.h, .slice a1 n.mesh.br.length c1, .slice a2 n.pa.length c2, .slice a3 n.pb.length c3, .slice a4 n.bufs.length c4, .slice a5 n.owners.length c5, .slice a6 n.turns.length c6, .slice a7 n.srcs.length c7, .slice a8 n.arrs.length c8, .int .i64 n.time] 33)) rfl (.tmp 39) (.tmp 42) 24 3 rfl Try.underlying24 info_int _ (missTo n l k) _ rfl (by first | rfl | exact congrArg (fun z => Value.slice (some ⟨z, 0, none⟩) 1 1) (World.size_alloc _ _).symm) (by exact Kd.R_below HO (by with_reducible repeat (first | assumption | exact bw_refl _ | apply bw_alloc | apply bw_drew | apply bw_drewN | refine bw_set _ ?_ (by omega) | refine bw_then ?_ (by assumption)))) (by with_reducible repeat (first | assumption | exact bw_refl _ | apply bw_alloc | apply bw_drew | apply bw_drewN | refine bw_set _ ?_ (by omega) | refine bw_then ?_ (by assumption))) (by omega) ?_; intro v1 w1 HO1 HB1; obtain ⟨hc1, hf1, hz1⟩ := bcell HB1; (try simp only [World.size_alloc, World.size_setCell, World.size_drew, sz_drewN] at hz1); have hb2 := HB1; have hb9 := HB1))
        go_roundw
        case rel => exact ⟨k + 1, by go_num, by omega, by rw [HS.out]; exact (by exact Kd.R_below HO1 (by with_reducible repeat (first | assumption | exact bw_refl _ | apply bw_alloc | apply bw_drew | apply bw_drewN | refine bw_set _ ?_ (by omega) | refine bw_then ?_ (by assumption)))), (by with_reducible repeat (first | assumption | exact bw_refl _ | apply bw_alloc | apply bw_drew | apply bw_drewN | refine bw_set _ ?_ (by omega) | refine bw_then ?_ (by assumption)))⟩
        case measure => simp [intOf]; omega
      · have HS := Lib.hid (miss_no hh)
        have HH := Lib.hid hh
        clear hh
        go_wp2_with (first | (go_at_call 77; refine (impl_arrived n _ _ _ _ _ (R.out.below (by with_reducible repeat (first | assumption | exact bw_refl _ | apply bw_alloc | apply bw_drew | apply bw_drewN | refine bw_set _ ?_ (by omega) | refine bw_then ?_ (by assumption)))) (X _ (by with_reducible repeat (first | assumption | exact bw_refl _ | apply bw_alloc | apply bw_drew | apply bw_drewN | refine bw_set _ ?_ (by omega) | refine bw_then ?_ (by assumption)))) HK.out HN.out).mono ?_; rintro e w1 ⟨hg1, hb1⟩; obtain ⟨v1, rfl, HO1⟩ := hg1; obtain ⟨A1, d1, rfl, hk1, hC1⟩ := Kd.R_reads HO1; obtain ⟨hc1, hf1, hz1⟩ := bcell hb1; (try simp only [World.size_alloc, World.size_setCell, World.size_drew, sz_drewN] at hz1); have hb2 := (by first | exact bw_then hb2 hb1 | exact bw_then (bw_drewN _ hb2) hb1 | exact bw_then (bw_alloc _ hb2) hb1 | exact bw_then (bw_drew hb2) hb1 | exact bw_then HB hb1 | exact bw_then (bw_drewN _ HB) hb1 | exact bw_then (bw_alloc _ HB) hb1 | exact bw_then (bw_drew HB) hb1 | exact hb1); obtain ⟨hc2, hf2, hz2⟩ := bcell hb2; (try simp only [World.size_alloc, World.size_setCell, World.size_drew, sz_drewN] at hz2); try (first | obtain ⟨hy1, hy2, hy3, hy4⟩ := lts4 hz2 | obtain ⟨hy1, hy2, hy3⟩ := lts3 hz2 | obtain ⟨hy1, hy2⟩ := lts2 hz2 | have hy1 := lts1 hz2); have hb9 := hb1) | (go_at_call 91; refine (slices_Contains_int (wholeP (arrF n (rp l k).dst (rp l k).cls)) _ A1 d1 _ (by exact Kd.C_below hC1 (by with_reducible repeat (first | assumption | exact bw_refl _ | apply bw_alloc | apply bw_drew | apply bw_drewN | refine bw_set _ ?_ (by omega) | refine bw_then ?_ (by assumption)))) HL2.out).mono ?_; rintro e w' ⟨he, rfl⟩; rw [HH.out] at he; subst he))
        go_roundw
        case rel => exact ⟨k + 1, by go_num, by omega, by rw [HS.out]; exact (by exact Kd.R_below HO (by with_reducible repeat (first | assumption | exact bw_refl _ | apply bw_alloc | apply bw_drew | apply bw_drewN | refine bw_set _ ?_ (by omega) | refine bw_then ?_ (by assumption)))), (by with_reducible repeat (first | assumption | exact bw_refl _ | apply bw_alloc | apply bw_drew | apply bw_drewN | refine bw_set _ ?_ (by omega) | refine bw_then ?_ (by assumption)))⟩
        case measure => simp [intOf]; omega
    · obtain rfl : k = l.length := by omega
      go_wp2
      go_ret
      exact ⟨by rw [HE.out]; exact ⟨_, rfl, Kd.R_lower HO (by simp only [World.size_alloc, World.size_setCell, World.size_drew, sz_drewN]; omega)⟩, (by with_reducible repeat (first | assumption | exact bw_refl _ | apply bw_alloc | apply bw_drew | apply bw_drewN | refine bw_set _ ?_ (by omega) | refine bw_then ?_ (by assumption)))⟩
set_option maxHeartbeats 4000000 in
set_option maxRecDepth 100000 in
theorem spec_Missing (n : Net) (l : List Packet) (q : NA) (D : Option Addr) (d : Nat) (w : World) (hr : NetR 142 w n q) (hp : kP.C w D l.length l) (hkl : l.length ≤ 1048576) :
    Calls Try.prog 31 #[.agg (netCells n q), .slice D l.length d] w fun e w' => GotI w w' (missN n l) e ∧ Below w.heap.size w w' := by
  have R := Lib.hid hr
  have P := Lib.hid hp
  obtain ⟨a1, a2, a3, a4, a5, a6, a7, a8, c1, c2, c3, c4, c5, c6, c7, c8⟩ := q
  clear hr hp
  dsimp only [netCells]
  have X := fun (W : World) hb => Box.below (w1 := W) (Box.new w _ #[.int .i64 n.mesh.g.w, .int .i64 n.mesh.g.h, .slice a1 n.mesh.br.length c1, .slice a2 n.pa.length c2, .slice a3 n.pb.length c3, .slice a4 n.bufs.length c4, .slice a5 n.owners.length c5, .slice a6 n.turns.length c6, .slice a7 n.srcs.length c7, .slice a8 n.arrs.length c8, .int .i64 n.time] 33 rfl) hb
  have E0 := Lib.hid (R_empty' (Kd.int .i64) 3 (W0 := w.alloc (.cells #[.int .i64 n.mesh.g.w, .int .i64 n.mesh.g.h, .slice a1 n.mesh.br.length c1, .slice a2 n.pa.length c2, .slice a3 n.pb.length c3, .slice a4 n.bufs.length c4, .slice a5 n.owners.length c5, .slice a6 n.turns.length c6, .slice a7 n.srcs.length c7, .slice a8 n.arrs.length c8, .int .i64 n.time] 33)) (W := w.alloc (.cells #[.int .i64 n.mesh.g.w, .int .i64 n.mesh.g.h, .slice a1 n.mesh.br.length c1, .slice a2 n.pa.length c2, .slice a3 n.pb.length c3, .slice a4 n.bufs.length c4, .slice a5 n.owners.length c5, .slice a6 n.turns.length c6, .slice a7 n.srcs.length c7, .slice a8 n.arrs.length c8, .int .i64 n.time] 33)) (Nat.le_refl _) (w.heap.size + 1) (by simp only [World.size_alloc, World.size_setCell, World.size_drew, sz_drewN]))
  cases hk : netOk n
  · have HE := Lib.hid (missN_no (n := n) (l := l) (by rw [hk]; rfl))
    go_enter Try.func31, Try.ntmps31
    go_wp2_with (go_at_call 70; refine (spec_NetOk n _ _ (R.out.below (by with_reducible repeat (first | assumption | exact bw_refl _ | apply bw_alloc | apply bw_drew | apply bw_drewN | refine bw_set _ ?_ (by omega) | refine bw_then ?_ (by assumption))))).mono ?_; rintro e w1 ⟨rfl, hb1⟩; obtain ⟨hc1, hf1, hz1⟩ := bcell hb1; (try simp only [World.size_alloc, World.size_setCell, World.size_drew, sz_drewN] at hz1); have hb2 := (by first | exact bw_then hb2 hb1 | exact bw_then (bw_drewN _ hb2) hb1 | exact bw_then (bw_alloc _ hb2) hb1 | exact bw_then (bw_drew hb2) hb1 | exact bw_then HB hb1 | exact bw_then (bw_drewN _ HB) hb1 | exact bw_then (bw_alloc _ HB) hb1 | exact bw_then (bw_drew HB) hb1 | exact hb1); obtain ⟨hc2, hf2, hz2⟩ := bcell hb2; (try simp only [World.size_alloc, World.size_setCell, World.size_drew, sz_drewN] at hz2); try (first | obtain ⟨hy1, hy2, hy3, hy4⟩ := lts4 hz2 | obtain ⟨hy1, hy2, hy3⟩ := lts3 hz2 | obtain ⟨hy1, hy2⟩ := lts2 hz2 | have hy1 := lts1 hz2); have hb9 := hb1)
    go_loopw [5, 7] (fun v i wr => i = .int .i64 0 ∧ v = .slice (some ⟨w.heap.size + 1, 0, none⟩) 0 0 ∧ Kd.R (Kd.int .i64) 3 wr (w.alloc (.cells #[.int .i64 n.mesh.g.w, .int .i64 n.mesh.g.h, .slice a1 n.mesh.br.length c1, .slice a2 n.pa.length c2, .slice a3 n.pb.length c3, .slice a4 n.bufs.length c4, .slice a5 n.owners.length c5, .slice a6 n.turns.length c6, .slice a7 n.srcs.length c7, .slice a8 n.arrs.length c8, .int .i64 n.time] 33)).heap.size (fun _ => True) v [] ∧ Below w.heap.size w wr) (fun _ i _ => 0)
    case atStart => exact ⟨rfl, rfl, (by exact Kd.R_below E0.out (by with_reducible repeat (first | assumption | exact bw_refl _ | apply bw_alloc | apply bw_drew | apply bw_drewN | refine bw_set _ ?_ (by omega) | refine bw_then ?_ (by assumption)))), (by with_reducible repeat (first | assumption | exact bw_refl _ | apply bw_alloc | apply bw_drew | apply bw_drewN | refine bw_set _ ?_ (by omega) | refine bw_then ?_ (by assumption)))⟩
    case round =>
      obtain ⟨rfl, rfl, HO, HB⟩ := hrel
      by_cases hlt : 0 < l.length
      · have i0 : (0 : Int) < (l.length : Int) := by omega
        go_wp2_with fail
        refine wp_region_far (w) (by kernel_rfl) (by kernel_rfl) (by with_reducible repeat (first | assumption | exact bw_refl _ | apply bw_alloc | apply bw_drew | apply bw_drewN | refine bw_set _ ?_ (by omega) | refine bw_then ?_ (by assumption))) ?_
        have hqc := far_cell (w)
        have hqf := far_frozen (w)
        repeat (first | go_big_quiet_step (fail) | quiet_step (fail))
        refine wpQuiet_nil ?_
        intro wq hbq
        clear hqc hqf
        obtain ⟨hcq, hfq, hzq⟩ := bcell hbq
        try simp only [World.size_alloc, World.size_setCell, World.size_drew, sz_drewN] at hzq
        go_wp2
        go_ret
        exact ⟨by rw [HE.out]; exact ⟨_, rfl, R_empty (W0 := w) _ _ (bw_size (by with_reducible repeat (first | assumption | exact bw_refl _ | apply bw_alloc | apply bw_drew | apply bw_drewN | refine bw_set _ ?_ (by omega) | refine bw_then ?_ (by assumption))))⟩, (by with_reducible repeat (first | assumption | exact bw_refl _ | apply bw_alloc | apply bw_drew | apply bw_drewN | refine bw_set _ ?_ (by omega) | refine bw_then ?_ (by assumption)))⟩
      · have i0 : ¬ (0 : Int) < (l.length : Int) := by omega
        go_wp2
        go_ret
        exact ⟨by rw [HE.out]; exact ⟨_, rfl, Kd.R_lower HO (by simp only [World.size_alloc, World.size_setCell, World.size_drew, sz_drewN]; omega)⟩, (by with_reducible repeat (first | assumption | exact bw_refl _ | apply bw_alloc | apply bw_drew | apply bw_drewN | refine bw_set _ ?_ (by omega) | refine bw_then ?_ (by assumption)))⟩
  have HK := Lib.hid hk
  have HL : Hid (∀ a c, isNode n.mesh.g a = true → (wholeP (arrF n a c)).length ≤ 1048576) := Lib.hid (fun a c h => by
    have h1 := (node_arrs hk h)
    have h2 := (R.out.h11 _ (rl_memI h1.1 h1.2))
    have h3 := wholeP_len (arrF n a c)
    have h4 := arrF_len n a c
    omega)
  go_enter Try.func31, Try.ntmps31
  go_wp2_with (go_at_call 70; refine (spec_NetOk n _ _ (R.out.below (by with_reducible repeat (first | assumption | exact bw_refl _ | apply bw_alloc | apply bw_drew | apply bw_drewN | refine bw_set _ ?_ (by omega) | refine bw_then ?_ (by assumption))))).mono ?_; rintro e w1 ⟨rfl, hb1⟩; obtain ⟨hc1, hf1, hz1⟩ := bcell hb1; (try simp only [World.size_alloc, World.size_setCell, World.size_drew, sz_drewN] at hz1); have hb2 := (by first | exact bw_then hb2 hb1 | exact bw_then (bw_drewN _ hb2) hb1 | exact bw_then (bw_alloc _ hb2) hb1 | exact bw_then (bw_drew hb2) hb1 | exact bw_then HB hb1 | exact bw_then (bw_drewN _ HB) hb1 | exact bw_then (bw_alloc _ HB) hb1 | exact bw_then (bw_drew HB) hb1 | exact hb1); obtain ⟨hc2, hf2, hz2⟩ := bcell hb2; (try simp only [World.size_alloc, World.size_setCell, World.size_drew, sz_drewN] at hz2); try (first | obtain ⟨hy1, hy2, hy3, hy4⟩ := lts4 hz2 | obtain ⟨hy1, hy2, hy3⟩ := lts3 hz2 | obtain ⟨hy1, hy2⟩ := lts2 hz2 | have hy1 := lts1 hz2); have hb9 := hb1)
  go_loopw [5, 7] (fun v i wr => ∃ k : Nat, i = .int .i64 k ∧ k ≤ l.length ∧ Hid (∀ x : Nat, x < k → packetOk n.mesh.g (rp l x) = true) ∧ Kd.R (Kd.int .i64) 3 wr (w.alloc (.cells #[.int .i64 n.mesh.g.w, .int .i64 n.mesh.g.h, .slice a1 n.mesh.br.length c1, .slice a2 n.pa.length c2, .slice a3 n.pb.length c3, .slice a4 n.bufs.length c4, .slice a5 n.owners.length c5, .slice a6 n.turns.length c6, .slice a7 n.srcs.length c7, .slice a8 n.arrs.length c8, .int .i64 n.time] 33)).heap.size (fun _ => True) v (missTo n l k) ∧ Below (w.alloc (.cells #[.int .i64 n.mesh.g.w, .int .i64 n.mesh.g.h, .slice a1 n.mesh.br.length c1, .slice a2 n.pa.length c2, .slice a3 n.pb.length c3, .slice a4 n.bufs.length c4, .slice a5 n.owners.length c5, .slice a6 n.turns.length c6, .slice a7 n.srcs.length c7, .slice a8 n.arrs.length c8, .int .i64 n.time] 33)).heap.size (w.alloc (.cells #[.int .i64 n.mesh.g.w, .int .i64 n.mesh.g.h, .slice a1 n.mesh.br.length c1, .slice a2 n.pa.length c2, .slice a3 n.pb.length c3, .slice a4 n.bufs.length c4, .slice a5 n.owners.length c5, .slice a6 n.turns.length c6, .slice a7 n.srcs.length c7, .slice a8 n.arrs.length c8, .int .i64 n.time] 33)) wr) (fun _ i _ => l.length - (intOf i).toNat)
  case atStart => exact ⟨0, rfl, Nat.zero_le _, Lib.hid fun x h => absurd h (Nat.not_lt_zero _), (by exact Kd.R_below E0.out (by with_reducible repeat (first | assumption | exact bw_refl _ | apply bw_alloc | apply bw_drew | apply bw_drewN | refine bw_set _ ?_ (by omega) | refine bw_then ?_ (by assumption)))), (by with_reducible repeat (first | assumption | exact bw_refl _ | apply bw_alloc | apply bw_drew | apply bw_drewN | refine bw_set _ ?_ (by omega) | refine bw_then ?_ (by assumption)))⟩
  case round =>
    obtain ⟨k, rfl, hk2, HP, HO, HB⟩ := hrel
    obtain ⟨Ao, co, rfl⟩ := Kd.R_slice HO
    have hlen := miss_len n l k
    by_cases hlt : k < l.length
    · have i0 : (k : Int) < (l.length : Int) := by omega
      have k0 : (0 : Int) ≤ (k : Int) := by omega
      obtain ⟨b, off, rfl, hbl, p0, p1, p2, p3, p4⟩ := rdP_at (Kd.C_below (Kd.C_below P.out (bw_alloc _ (bw_refl _))) HB) k hlt
      have hx := X wr HB
      have xl := hx.lt
      have x0 : wr.cell? ⟨w.heap.size, 0, none⟩ = some (.int .i64 n.mesh.g.w) := hx.get 0
      have x1 : wr.cell? ⟨w.heap.size, 1, none⟩ = some (.int .i64 n.mesh.g.h) := hx.get 1
      have x2 : wr.cell? ⟨w.heap.size, 2, none⟩ = some (.slice a1 n.mesh.br.length c1) := hx.get 2
      have x3 : wr.cell? ⟨w.heap.size, 3, none⟩ = some (.slice a2 n.pa.length c2) := hx.get 3
      have x4 : wr.cell? ⟨w.heap.size, 4, none⟩ = some (.slice a3 n.pb.length c3) := hx.get 4
      have x5 : wr.cell? ⟨w.heap.size, 5, none⟩ = some (.slice a4 n.bufs.length c4) := hx.get 5
      have x6 : wr.cell? ⟨w.heap.size, 6, none⟩ = some (.slice a5 n.owners.length c5) := hx.get 6
      have x7 : wr.cell? ⟨w.heap.size, 7, none⟩ = some (.slice a6 n.turns.length c6) := hx.get 7
      have x8 : wr.cell? ⟨w.heap.size, 8, none⟩ = some (.slice a7 n.srcs.length c7) := hx.get 8
      have x9 : wr.cell? ⟨w.heap.size, 9, none⟩ = some (.slice a8 n.arrs.length c8) := hx.get 9
      have x10 : wr.cell? ⟨w.heap.size, 10, none⟩ = some (.int .i64 n.time) := hx.get 10
      clear hx
      cases hok : packetOk n.mesh.g (rp l k)
      · have HE := Lib.hid (missN_no (n := n) (l := l) (by rw [all_no k hlt hok, Bool.and_false]))
        have HCALL : Hid (∀ W : World, Calls Try.prog 82 #[.agg #[.int .i64 n.mesh.g.w, .int .i64 n.mesh.g.h], .agg #[.int .i64 (rp l k).id, .int .i64 (rp l k).src, .int .i64 (rp l k).dst, .int .i64 (rp l k).cls, .int .i64 (rp l k).len]] W fun e w' => e = .returned (.bool false) ∧ Below W.heap.size W w') := Lib.hid (fun W => Calls.says (spec_PacketOk n.mesh.g (rp l k) W) (congrArg Value.bool hok))
        clear hok
        go_wp2_with fail
        refine wp_region_far (wr) (by kernel_rfl) (by kernel_rfl) (by with_reducible repeat (first | assumption | exact bw_refl _ | apply bw_alloc | apply bw_drew | apply bw_drewN | refine bw_set _ ?_ (by omega) | refine bw_then ?_ (by assumption))) ?_
        have hqc := far_cell (wr)
        have hqf := far_frozen (wr)
        repeat (first | go_big_quiet_step ((go_at_call 82; exact far_call (HCALL.out _))) | quiet_step ((go_at_call 82; exact far_call (HCALL.out _))))
        refine wpQuiet_nil ?_
        intro wq hbq
        clear hqc hqf
        obtain ⟨hcq, hfq, hzq⟩ := bcell hbq
        try simp only [World.size_alloc, World.size_setCell, World.size_drew, sz_drewN] at hzq
        go_wp2
        go_ret
        exact ⟨by rw [HE.out]; exact ⟨_, rfl, R_empty (W0 := w) _ _ (bw_size (by with_reducible repeat (first | assumption | exact bw_refl _ | apply bw_alloc | apply bw_drew | apply bw_drewN | refine bw_set _ ?_ (by omega) | refine bw_then ?_ (by assumption))))⟩, (by with_reducible repeat (first | assumption | exact bw_refl _ | apply bw_alloc | apply bw_drew | apply bw_drewN | refine bw_set _ ?_ (by omega) | refine bw_then ?_ (by assumption)))⟩
      · have hnd := packetOk_node hok
        have HN := Lib.hid hnd
        have HL2 := Lib.hid (HL.out _ (rp l k).cls hnd)
        have HO2 := Lib.hid hok
        have HCALL : Hid (∀ W : World, Calls Try.prog 82 #[.agg #[.int .i64 n.mesh.g.w, .int .i64 n.mesh.g.h], .agg #[.int .i64 (rp l k).id, .int .i64 (rp l k).src, .int .i64 (rp l k).dst, .int .i64 (rp l k).cls, .int .i64 (rp l k).len]] W fun e w' => e = .returned (.bool true) ∧ Below W.heap.size W w') := Lib.hid (fun W => Calls.says (spec_PacketOk n.mesh.g (rp l k) W) (congrArg Value.bool hok))
        have HNX := Lib.hid (upto HP.out hok)
        clear hok hnd
        cases hh : has (wholeP (arrF n (rp l k).dst (rp l k).cls)) (rp l k).id
        · have HS := Lib.hid (miss_yes hh)
          have HH := Lib.hid hh
          clear hh
          go_wp2_with fail
          refine wp_region_far (wr) (by kernel_rfl) (by kernel_rfl) (by with_reducible repeat (first | assumption | exact bw_refl _ | apply bw_alloc | apply bw_drew | apply bw_drewN | refine bw_set _ ?_ (by omega) | refine bw_then ?_ (by assumption))) ?_
          have hqc := far_cell (wr)
          have hqf := far_frozen (wr)
          repeat (first | go_big_quiet_step ((go_at_call 82; exact far_call (HCALL.out _))) | quiet_step ((go_at_call 82; exact far_call (HCALL.out _))))
          refine wpQuiet_nil ?_
          intro wq hbq
          clear hqc hqf
          obtain ⟨hcq, hfq, hzq⟩ := bcell hbq
          try simp only [World.size_alloc, World.size_setCell, World.size_drew, sz_drewN] at hzq
          go_wp2_with fail
          go_region_held3 (fun w' => Below (wr).heap.size (wr) w' ∧ ∀ bq oq, bq < (wr).heap.size → w'.cell? ⟨bq, oq, none⟩ = (wr).cell? ⟨bq, oq, none⟩) (first | exact far_of (by with_reducible repeat (first | assumption | exact bw_refl _ | apply bw_alloc | apply bw_drew | apply bw_drewN | refine bw_set _ ?_ (by omega) | refine bw_then ?_ (by assumption)))) ( first | (go_at_call 72; refine (spec_l22At n _ _ _ _ (R.out.below (by with_reducible repeat (first | assumption | exact bw_refl _ | apply bw_alloc | apply bw_drew | apply bw_drewN | refine bw_set _ ?_ (by omega) | refine bw_then ?_ (by assumption)))) HK.out HN.out).mono ?_; rintro e w1 ⟨hg1, hb1⟩; obtain ⟨v1, rfl, HO1⟩ := hg1; obtain ⟨A1, d1, rfl, hk1, hC1⟩ := Kd.R_reads HO1; obtain ⟨hc1, hf1, hz1⟩ := bcell hb1; (try simp only [World.size_alloc, World.size_setCell, World.size_drew, sz_drewN] at hz1); have hb2 := (by first | exact bw_then hb2 hb1 | exact bw_then (bw_drewN _ hb2) hb1 | exact bw_then (bw_alloc _ hb2) hb1 | exact bw_then (bw_drew hb2) hb1 | exact bw_then HB hb1 | exact bw_then (bw_drewN _ HB) hb1 | exact bw_then (bw_alloc _ HB) hb1 | exact bw_then (bw_drew HB) hb1 | exact hb1); obtain ⟨hc2, hf2, hz2⟩ := bcell hb2; (try simp only [World.size_alloc, World.size_setCell, World.size_drew, sz_drewN] at hz2); try (first | obtain ⟨hy1, hy2, hy3, hy4⟩ := lts4 hz2 | obtain ⟨hy1, hy2, hy3⟩ := lts3 hz2 | obtain ⟨hy1, hy2⟩ := lts2 hz2 | have hy1 := lts1 hz2); have hb9 := hb1))
          go_wp2_with (first | (go_at_call 87; refine (spec_l03Find (wholeP (arrF n (rp l k).dst (rp l k).cls)) _ A1 d1 _ (by exact Kd.C_below hC1 (by with_reducible repeat (first | assumption | exact bw_refl _ | apply bw_alloc | apply bw_drew | apply bw_drewN | refine bw_set _ ?_ (by omega) | refine bw_then ?_ (by assumption)))) HL2.out).mono ?_; rintro e w' ⟨he, rfl⟩; rw [HH.out] at he; subst he) | (at_builtin; refine app_int (W0 := w.alloc (.cells #[.int .i64 n.mesh.g.w, .int .i64 n.mesh.g.h, .slice a1 n.mesh.br.length c1, .slice a2 n.pa.length c2, .slice a3 n.pb.length c3, .slice a4 n.bufs.length c4, .slice a5 n.owners.length c5, .slice a6 n.turns.length c6, .slice a7 n.srcs.length c7, .slice a8 n.arrs.length c8, .int .i64 n.time] 33)) rfl (.tmp 56) (.tmp 62) 24 3 rfl Try.underlying24 info_int _ (missTo n l k) _ rfl (by first | rfl | exact congrArg (fun z => Value.slice (some ⟨z, 0, none⟩) 1 1) (World.size_alloc _ _).symm) (by exact Kd.R_below HO (by with_reducible repeat (first | assumption | exact bw_refl _ | apply bw_alloc | apply bw_drew | apply bw_drewN | refine bw_set _ ?_ (by omega) | refine bw_then ?_ (by assumption)))) (by with_reducible repeat (first | assumption | exact bw_refl _ | apply bw_alloc | apply bw_drew | apply bw_drewN | refine bw_set _ ?_ (by omega) | refine bw_then ?_ (by assumption))) (by omega) ?_; intro v1 w1 HO1 HB1; obtain ⟨hc1, hf1, hz1⟩ := bcell HB1; (try simp only [World.size_alloc, World.size_setCell, World.size_drew, sz_drewN] at hz1); have hb2 := HB1; have hb9 := HB1))
          go_roundw
          case rel => exact ⟨k + 1, by go_num, by omega, HNX, by rw [HS.out]; exact (by exact Kd.R_below HO1 (by with_reducible repeat (first | assumption | exact bw_refl _ | apply bw_alloc | apply bw_drew | apply bw_drewN | refine bw_set _ ?_ (by omega) | refine bw_then ?_ (by assumption)))), (by with_reducible repeat (first | assumption | exact bw_refl _ | apply bw_alloc | apply bw_drew | apply bw_drewN | refine bw_set _ ?_ (by omega) | refine bw_then ?_ (by assumption)))⟩
          case measure => simp [intOf]; omega
        · have HS := Lib.hid (miss_no hh)
          have HH := Lib.hid hh
          clear hh
          go_wp2_with fail
          refine wp_region_far (wr) (by kernel_rfl) (by kernel_rfl) (by with_reducible repeat (first | assumption | exact bw_refl _ | apply bw_alloc | apply bw_drew | apply bw_drewN | refine bw_set _ ?_ (by omega) | refine bw_then ?_ (by assumption))) ?_
          have hqc := far_cell (wr)
          have hqf := far_frozen (wr)
          repeat (first | go_big_quiet_step ((go_at_call 82; exact far_call (HCALL.out _))) | quiet_step ((go_at_call 82; exact far_call (HCALL.out _))))
          refine wpQuiet_nil ?_
          intro wq hbq
          clear hqc hqf
          obtain ⟨hcq, hfq, hzq⟩ := bcell hbq
          try simp only [World.size_alloc, World.size_setCell, World.size_drew, sz_drewN] at hzq
          go_wp2_with fail
          go_region_held3 (fun w' => Below (wr).heap.size (wr) w' ∧ ∀ bq oq, bq < (wr).heap.size → w'.cell? ⟨bq, oq, none⟩ = (wr).cell? ⟨bq, oq, none⟩) (first | exact far_of (by with_reducible repeat (first | assumption | exact bw_refl _ | apply bw_alloc | apply bw_drew | apply bw_drewN | refine bw_set _ ?_ (by omega) | refine bw_then ?_ (by assumption)))) ( first | (go_at_call 72; refine (spec_l22At n _ _ _ _ (R.out.below (by with_reducible repeat (first | assumption | exact bw_refl _ | apply bw_alloc | apply bw_drew | apply bw_drewN | refine bw_set _ ?_ (by omega) | refine bw_then ?_ (by assumption)))) HK.out HN.out).mono ?_; rintro e w1 ⟨hg1, hb1⟩; obtain ⟨v1, rfl, HO1⟩ := hg1; obtain ⟨A1, d1, rfl, hk1, hC1⟩ := Kd.R_reads HO1; obtain ⟨hc1, hf1, hz1⟩ := bcell hb1; (try simp only [World.size_alloc, World.size_setCell, World.size_drew, sz_drewN] at hz1); have hb2 := (by first | exact bw_then hb2 hb1 | exact bw_then (bw_drewN _ hb2) hb1 | exact bw_then (bw_alloc _ hb2) hb1 | exact bw_then (bw_drew hb2) hb1 | exact bw_then HB hb1 | exact bw_then (bw_drewN _ HB) hb1 | exact bw_then (bw_alloc _ HB) hb1 | exact bw_then (bw_drew HB) hb1 | exact hb1); obtain ⟨hc2, hf2, hz2⟩ := bcell hb2; (try simp only [World.size_alloc, World.size_setCell, World.size_drew, sz_drewN] at hz2); try (first | obtain ⟨hy1, hy2, hy3, hy4⟩ := lts4 hz2 | obtain ⟨hy1, hy2, hy3⟩ := lts3 hz2 | obtain ⟨hy1, hy2⟩ := lts2 hz2 | have hy1 := lts1 hz2); have hb9 := hb1))
          go_wp2_with (first | (go_at_call 87; refine (spec_l03Find (wholeP (arrF n (rp l k).dst (rp l k).cls)) _ A1 d1 _ (by exact Kd.C_below hC1 (by with_reducible repeat (first | assumption | exact bw_refl _ | apply bw_alloc | apply bw_drew | apply bw_drewN | refine bw_set _ ?_ (by omega) | refine bw_then ?_ (by assumption)))) HL2.out).mono ?_; rintro e w' ⟨he, rfl⟩; rw [HH.out] at he; subst he))
          go_roundw
          case rel => exact ⟨k + 1, by go_num, by omega, HNX, by rw [HS.out]; exact (by exact Kd.R_below HO (by with_reducible repeat (first | assumption | exact bw_refl _ | apply bw_alloc | apply bw_drew | apply bw_drewN | refine bw_set _ ?_ (by omega) | refine bw_then ?_ (by assumption)))), (by with_reducible repeat (first | assumption | exact bw_refl _ | apply bw_alloc | apply bw_drew | apply bw_drewN | refine bw_set _ ?_ (by omega) | refine bw_then ?_ (by assumption)))⟩
          case measure => simp [intOf]; omega
    · obtain rfl : k = l.length := by omega
      have HE := Lib.hid (missN_yes (n := n) (l := l) (by rw [all_yes HP.out, hk]; rfl))
      go_wp2
      go_ret
      exact ⟨by rw [HE.out]; exact ⟨_, rfl, Kd.R_lower HO (by simp only [World.size_alloc, World.size_setCell, World.size_drew, sz_drewN]; omega)⟩, (by with_reducible repeat (first | assumption | exact bw_refl _ | apply bw_alloc | apply bw_drew | apply bw_drewN | refine bw_set _ ?_ (by omega) | refine bw_then ?_ (by assumption)))⟩
end Go.Proofs.Ytinnfahmfggghaa
