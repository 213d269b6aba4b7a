/- Lemmas for laws of this seat, for all inputs: Mis Dl Dv DvI NwS. -/
import Derived.Test.YtmkbmddgkdoaiaaGreatD19
import Derived.Test.YtmkbmddgkdoaiaaGreatD3
import Derived.Test.YtmkbmddgkdoaiaaGreatD11
import Derived.Test.YtmkbmddgkdoaiaaGreatD6
import Derived.Test.YtmkbmddgkdoaiaaGreatD16
import Derived.Test.YtmkbmddgkdoaiaaGreatD17
set_option linter.unusedVariables false
set_option linter.unusedSimpArgs false
namespace Go.Proofs.YtmkbmddgkdoaiaaGreat
open Go.RowKit Go.Proofs.YtmkbmddgkdoaiaaGreatW.PrintWords
open NoC
def badIdxM (g : Grid) (l : List Packet) : Int := if l.all (packetOk g) then -1 else ((l.findIdx (fun p => !packetOk g p) : Nat) : Int)
theorem badIdxM_yes {g : Grid} {l : List Packet} (j : Nat) (hj : j < l.length) (h : packetOk g (rp l j) = false) (hb : ∀ x : Nat, x < j → packetOk g (rp l x) = true) : badIdxM g l = j := by
  unfold badIdxM
  rw [all_no j hj h]
  have : l.findIdx (fun p => !packetOk g p) = j := by
    rw [List.findIdx_eq hj]
    rw [rp_get l j hj] at h
    refine ⟨by simp [h], fun i hi => ?_⟩
    have := hb i hi
    rw [rp_get l i (by omega)] at this
    simp [this]
  simp [this]
theorem badIdxM_no {g : Grid} {l : List Packet} (h : ∀ x : Nat, x < l.length → packetOk g (rp l x) = true) : badIdxM g l = -1 := by
  unfold badIdxM
  rw [all_yes h]
  rfl
theorem badIdxM_ge (g : Grid) (l : List Packet) : decide (0 ≤ badIdxM g l) = !(l.all (packetOk g)) := by
  unfold badIdxM
  cases h : l.all (packetOk g)
  · simp
  · simp
def missTo (n : Net) (l : List Packet) (k : Nat) : List Int := ((List.range k).filter (fun j : Nat => !has (wholeP (arrF n (rp l j).dst (rp l j).cls)) (rp l j).id)).map (fun j : Nat => (rp l j).id)
def missN (n : Net) (l : List Packet) : List Int := if (netOk n && l.all (packetOk n.mesh.g)) = true then missTo n l l.length else []
theorem miss_no {n : Net} {l : List Packet} {k : Nat} (h : has (wholeP (arrF n (rp l k).dst (rp l k).cls)) (rp l k).id = true) : missTo n l (k + 1) = missTo n l k := by simp [missTo, List.range_succ, List.filter_append, h]
theorem miss_yes {n : Net} {l : List Packet} {k : Nat} (h : has (wholeP (arrF n (rp l k).dst (rp l k).cls)) (rp l k).id = false) : missTo n l (k + 1) = missTo n l k ++ [(rp l k).id] := by simp [missTo, List.range_succ, List.filter_append, h]
theorem miss_len (n : Net) (l : List Packet) (k : Nat) : (missTo n l k).length ≤ k := by
  unfold missTo
  rw [List.length_map]
  exact Nat.le_trans (List.length_filter_le _ _) (by simp)
theorem missN_no {n : Net} {l : List Packet} (h : (netOk n && l.all (packetOk n.mesh.g)) = false) : missN n l = [] := by rw [missN, h]; exact if_neg (by decide)
theorem missN_yes {n : Net} {l : List Packet} (h : (netOk n && l.all (packetOk n.mesh.g)) = true) : missN n l = missTo n l l.length := by rw [missN, if_pos h]
theorem packetOk_node {g : Grid} {p : Packet} (h : packetOk g p = true) : isNode g p.dst = true := by
  simp only [packetOk, Bool.and_eq_true] at h
  exact h.1.1.1.2
theorem impl_Missing_1 (g : Grid) (q : Packet) (gm : Nat) (w : World) (h0 : w.cell? ⟨gm, 0, none⟩ = some (.int .i64 g.w)) (h1 : w.cell? ⟨gm, 1, none⟩ = some (.int .i64 g.h)) :
    Calls Tryz.prog 150 #[.agg #[.int .i64 q.id, .int .i64 q.src, .int .i64 q.dst, .int .i64 q.cls, .int .i64 q.len], .pointer (some ⟨gm, 0, none⟩)] w fun e w' => e = .returned (.bool (!packetOk g q)) ∧ Below w.heap.size w w' := by
  have g0 := World.block_lt_of_cell? w _ h0
  go_enter Tryz.func150, Tryz.ntmps150
  go_wp2_with (go_at_call 120; refine (impl_PacketOk g q _).mono ?_; rintro e w1 ⟨rfl, hb1⟩; obtain ⟨hc1, hf1, hz1⟩ := bcell hb1; (try simp only [szs] at hz1); have hb2 := far2; obtain ⟨hc2, hf2, hz2⟩ := bcell hb2; (try simp only [szs] at hz2); try (first | obtain ⟨hy1, hy2, hy3, hy4⟩ := lts4 hz2 | obtain ⟨hy1, hy2, hy3⟩ := lts3 hz2 | obtain ⟨hy1, hy2⟩ := lts2 hz2 | have hy1 := lts1 hz2); have hb9 := hb1)
  go_ret
  exact ⟨rfl, bel⟩
set_option maxHeartbeats 1000000 in
theorem slices_IndexFunc_M (g : Grid) (l : List Packet) (D : Option Addr) (n gm : Nat) (w : World) (hp : kP.C w D l.length l) (hkl : l.length ≤ 2097152) (h0 : w.cell? ⟨gm, 0, none⟩ = some (.int .i64 g.w)) (h1 : w.cell? ⟨gm, 1, none⟩ = some (.int .i64 g.h)) :
    Calls Tryz.prog 169 #[.slice D l.length n, .func (.func 150) #[] #[.pointer (some ⟨gm, 0, none⟩)]] w fun e w' => e = .returned (.int .i64 (badIdxM g l)) ∧ Below w.heap.size w w' := by
  have g0 := World.block_lt_of_cell? w _ h0
  have hcall : ∀ (q : Packet) (w' : World), Below w.heap.size w w' → Calls Tryz.prog 150 #[.agg #[.int .i64 q.id, .int .i64 q.src, .int .i64 q.dst, .int .i64 q.cls, .int .i64 q.len], .pointer (some ⟨gm, 0, none⟩)] w' fun e w'' => e = .returned (.bool (!packetOk g q)) ∧ Below w'.heap.size w' w'' := by
    intro q w' hb
    obtain ⟨hc, _, _⟩ := bcell hb
    exact impl_Missing_1 g q gm w' ((hc _ _ g0).trans h0) ((hc _ _ g0).trans h1)
  have HCALL := Lib.hid hcall
  clear hcall h0 h1 g0
  go_enter Tryz.func169, Tryz.ntmps169
  go_wp2
  go_loopw [8] (fun i wr => ∃ j : Nat, i = .int .i64 j ∧ j ≤ l.length ∧ Hid (∀ x : Nat, x < j → packetOk g (rp l x) = true) ∧ Below w.heap.size w wr) (fun i _ => l.length - (intOf i).toNat)
  case atStart => exact ⟨0, rfl, Nat.zero_le _, Lib.hid fun x h => absurd h (Nat.not_lt_zero _), bel⟩
  case round =>
    obtain ⟨j, rfl, hj, HA, HB⟩ := hrel
    obtain ⟨hc0, hf0, hz0⟩ := bcell HB
    by_cases hlt : j < l.length
    · obtain ⟨b, off, rfl, hbl, p0, p1, p2, p3, p4⟩ := rdP_at hp j hlt
      cases hk : packetOk g (rp l j)
      · have HK := Lib.hid hk
        have e1 : (!packetOk g (rp l j)) = true := by rw [hk]; rfl
        have E1 := Lib.hid e1
        clear hk e1
        go_wp2_with (go_at_call 150; refine (HCALL.out (rp l j) _ (by exact bel)).mono ?_; rintro e w1 ⟨he, hb1⟩; rw [E1.out] at he; subst he; obtain ⟨hc1, hf1, hz1⟩ := bcell hb1; (try simp only [szs] at hz1); have hb2 := far2; obtain ⟨hc2, hf2, hz2⟩ := bcell hb2; (try simp only [szs] at hz2); try (first | obtain ⟨hy1, hy2, hy3, hy4⟩ := lts4 hz2 | obtain ⟨hy1, hy2, hy3⟩ := lts3 hz2 | obtain ⟨hy1, hy2⟩ := lts2 hz2 | have hy1 := lts1 hz2); have hb9 := hb1)
        go_ret
        exact ⟨ret_int (badIdxM_yes j hlt HK.out HA.out).symm, bel⟩
      · have HK := Lib.hid hk
        have e1 : (!packetOk g (rp l j)) = false := by rw [hk]; rfl
        have E1 := Lib.hid e1
        clear hk e1
        go_wp2_with (go_at_call 150; refine (HCALL.out (rp l j) _ (by exact bel)).mono ?_; rintro e w1 ⟨he, hb1⟩; rw [E1.out] at he; subst he; obtain ⟨hc1, hf1, hz1⟩ := bcell hb1; (try simp only [szs] at hz1); have hb2 := far2; obtain ⟨hc2, hf2, hz2⟩ := bcell hb2; (try simp only [szs] at hz2); try (first | obtain ⟨hy1, hy2, hy3, hy4⟩ := lts4 hz2 | obtain ⟨hy1, hy2, hy3⟩ := lts3 hz2 | obtain ⟨hy1, hy2⟩ := lts2 hz2 | have hy1 := lts1 hz2); have hb9 := hb1)
        go_roundw
        case rel => exact ⟨j + 1, by go_num, by omega, Lib.hid (upto HA.out HK.out), bel⟩
        case measure => simp [intOf]; omega
    · go_wp2
      go_ret
      exact ⟨ret_int (badIdxM_no (fun x hx => HA.out x (by omega))).symm, bel⟩
theorem slices_ContainsFunc_M (g : Grid) (l : List Packet) (D : Option Addr) (n gm : Nat) (w : World) (hp : kP.C w D l.length l) (hkl : l.length ≤ 2097152) (h0 : w.cell? ⟨gm, 0, none⟩ = some (.int .i64 g.w)) (h1 : w.cell? ⟨gm, 1, none⟩ = some (.int .i64 g.h)) :
    Calls Tryz.prog 149 #[.slice D l.length n, .func (.func 150) #[] #[.pointer (some ⟨gm, 0, none⟩)]] w fun e w' => e = .returned (.bool (!(l.all (packetOk g)))) ∧ Below w.heap.size w w' := by
  go_enter Tryz.func149, Tryz.ntmps149
  go_wp2_with (go_at_call 169; refine (slices_IndexFunc_M g l D n gm _ hp hkl h0 h1).mono ?_; rintro e w1 ⟨rfl, hb1⟩; obtain ⟨hc1, hf1, hz1⟩ := bcell hb1; (try simp only [szs] at hz1); have hb2 := far2; obtain ⟨hc2, hf2, hz2⟩ := bcell hb2; (try simp only [szs] at hz2); try (first | obtain ⟨hy1, hy2, hy3, hy4⟩ := lts4 hz2 | obtain ⟨hy1, hy2, hy3⟩ := lts3 hz2 | obtain ⟨hy1, hy2⟩ := lts2 hz2 | have hy1 := lts1 hz2); have hb9 := hb1)
  go_ret
  exact ⟨ret_bool (by simpa using badIdxM_ge g l), bel⟩
set_option maxHeartbeats 4000000 in
set_option maxRecDepth 100000 in
theorem impl_Missing (n : Net) (l : List Packet) (q : NA) (D : Option Addr) (d : Nat) (w : World) (hr : NetR 121 w n q) (hp : kP.C w D l.length l) (hkl : l.length ≤ 2097152) :
    Calls Tryz.prog 118 #[.agg (netCells n q), .slice D l.length d] w fun e w' => GotI w w' (missN n l) e ∧ Below w.heap.size w w' := by
  have R := Lib.hid hr
  have P := Lib.hid hp
  have hal := fun a c => arrIds_len hr a c
  obtain ⟨a1, a2, a3, a4, a5, a6, a7, a8, c1, c2, c3, c4, c5, c6, c7, c8⟩ := q
  clear hr hp
  dsimp only [netCells]
  have X := fun (W : World) hb => Box.below (w1 := W) (Box.new w _ #[.int .i64 n.mesh.g.w, .int .i64 n.mesh.g.h, .slice a1 n.mesh.br.length c1, .slice a2 n.pa.length c2, .slice a3 n.pb.length c3, .slice a4 n.bufs.length c4, .slice a5 n.owners.length c5, .slice a6 n.turns.length c6, .slice a7 n.srcs.length c7, .slice a8 n.arrs.length c8, .int .i64 n.time] 44 rfl) hb
  have E0 := Lib.hid (R_empty' (Kd.int .i64) 3 (W0 := w.alloc (.cells #[.int .i64 n.mesh.g.w, .int .i64 n.mesh.g.h, .slice a1 n.mesh.br.length c1, .slice a2 n.pa.length c2, .slice a3 n.pb.length c3, .slice a4 n.bufs.length c4, .slice a5 n.owners.length c5, .slice a6 n.turns.length c6, .slice a7 n.srcs.length c7, .slice a8 n.arrs.length c8, .int .i64 n.time] 44)) (W := w.alloc (.cells #[.int .i64 n.mesh.g.w, .int .i64 n.mesh.g.h, .slice a1 n.mesh.br.length c1, .slice a2 n.pa.length c2, .slice a3 n.pb.length c3, .slice a4 n.bufs.length c4, .slice a5 n.owners.length c5, .slice a6 n.turns.length c6, .slice a7 n.srcs.length c7, .slice a8 n.arrs.length c8, .int .i64 n.time] 44)) (Nat.le_refl _) (w.heap.size + 1) (by simp only [szs]))
  cases hk : netOk n
  · have HE := Lib.hid (missN_no (n := n) (l := l) (by rw [hk]; rfl))
    go_enter Tryz.func118, Tryz.ntmps118
    go_wp2_with (go_at_call 46; refine (impl_NetOk n _ _ (R.out.below bel)).mono ?_; rintro e w1 ⟨rfl, hb1⟩; obtain ⟨hc1, hf1, hz1⟩ := bcell hb1; (try simp only [szs] at hz1); have hb2 := far2; obtain ⟨hc2, hf2, hz2⟩ := bcell hb2; (try simp only [szs] at hz2); try (first | obtain ⟨hy1, hy2, hy3, hy4⟩ := lts4 hz2 | obtain ⟨hy1, hy2, hy3⟩ := lts3 hz2 | obtain ⟨hy1, hy2⟩ := lts2 hz2 | have hy1 := lts1 hz2); have hb9 := hb1)
    go_ret
    exact ⟨by rw [HE.out]; exact ⟨_, rfl, Kd.R_lower (by exact Kd.R_below E0.out bel) (by simp only [szs]; omega)⟩, bel⟩
  cases ha : l.all (packetOk n.mesh.g)
  · have HE := Lib.hid (missN_no (n := n) (l := l) (by rw [ha, Bool.and_false]))
    go_enter Tryz.func118, Tryz.ntmps118
    go_wp2_with (first | (go_at_call 46; refine (impl_NetOk n _ _ (R.out.below bel)).mono ?_; rintro e w1 ⟨rfl, hb1⟩; obtain ⟨hc1, hf1, hz1⟩ := bcell hb1; (try simp only [szs] at hz1); have hb2 := far2; obtain ⟨hc2, hf2, hz2⟩ := bcell hb2; (try simp only [szs] at hz2); try (first | obtain ⟨hy1, hy2, hy3, hy4⟩ := lts4 hz2 | obtain ⟨hy1, hy2, hy3⟩ := lts3 hz2 | obtain ⟨hy1, hy2⟩ := lts2 hz2 | have hy1 := lts1 hz2); have hb9 := hb1) | (go_at_call 149; refine (slices_ContainsFunc_M n.mesh.g l D _ _ _ (by exact Kd.C_below P.out bel) hkl ((X _ bel).get 0) ((X _ bel).get 1)).mono ?_; rintro e w2 ⟨rfl, hb2⟩; have hb1 := hb2; obtain ⟨hc1, hf1, hz1⟩ := bcell hb1; (try simp only [szs] at hz1); have hb2 := far2; obtain ⟨hc2, hf2, hz2⟩ := bcell hb2; (try simp only [szs] at hz2); try (first | obtain ⟨hy1, hy2, hy3, hy4⟩ := lts4 hz2 | obtain ⟨hy1, hy2, hy3⟩ := lts3 hz2 | obtain ⟨hy1, hy2⟩ := lts2 hz2 | have hy1 := lts1 hz2); have hb9 := hb1))
    go_ret
    exact ⟨by rw [HE.out]; exact ⟨_, rfl, Kd.R_lower (by exact Kd.R_below E0.out bel) (by simp only [szs]; omega)⟩, bel⟩
  have HE := Lib.hid (missN_yes (n := n) (l := l) (by rw [ha, hk]; rfl))
  have HK := Lib.hid hk
  have HA := Lib.hid (fun (k : Nat) (h : k < l.length) => packetOk_node (all_get ha k h))
  have HL : Hid (∀ a c, isNode n.mesh.g a = true → (wholeP (arrF n a c)).length ≤ 2097152) := Lib.hid (fun a c h => by
    have h1 := (node_arrs hk h)
    have h2 := (R.out.h11 _ (rl_memI h1.1 h1.2))
    have h3 := wholeP_len (arrF n a c)
    have h4 := arrF_len n a c
    omega)
  have hal2 : (!(l.all (packetOk n.mesh.g))) = false := by rw [ha]; rfl
  clear hal
  go_enter Tryz.func118, Tryz.ntmps118
  go_wp2_with (first | (go_at_call 46; refine (impl_NetOk n _ _ (R.out.below bel)).mono ?_; rintro e w1 ⟨rfl, hb1⟩; obtain ⟨hc1, hf1, hz1⟩ := bcell hb1; (try simp only [szs] at hz1); have hb2 := far2; obtain ⟨hc2, hf2, hz2⟩ := bcell hb2; (try simp only [szs] at hz2); try (first | obtain ⟨hy1, hy2, hy3, hy4⟩ := lts4 hz2 | obtain ⟨hy1, hy2, hy3⟩ := lts3 hz2 | obtain ⟨hy1, hy2⟩ := lts2 hz2 | have hy1 := lts1 hz2); have hb9 := hb1) | (go_at_call 149; refine (slices_ContainsFunc_M n.mesh.g l D _ _ _ (by exact Kd.C_below P.out bel) hkl ((X _ bel).get 0) ((X _ bel).get 1)).mono ?_; rintro e w2 ⟨rfl, hb2⟩; have hb1 := hb2; obtain ⟨hc1, hf1, hz1⟩ := bcell hb1; (try simp only [szs] at hz1); have hb2 := far2; obtain ⟨hc2, hf2, hz2⟩ := bcell hb2; (try simp only [szs] at hz2); try (first | obtain ⟨hy1, hy2, hy3, hy4⟩ := lts4 hz2 | obtain ⟨hy1, hy2, hy3⟩ := lts3 hz2 | obtain ⟨hy1, hy2⟩ := lts2 hz2 | have hy1 := lts1 hz2); have hb9 := hb1))
  go_loopw [5, 22] (fun v i wr => ∃ k : Nat, i = .int .i64 k ∧ k ≤ l.length ∧ Kd.R (Kd.int .i64) 3 wr (w.alloc (.cells #[.int .i64 n.mesh.g.w, .int .i64 n.mesh.g.h, .slice a1 n.mesh.br.length c1, .slice a2 n.pa.length c2, .slice a3 n.pb.length c3, .slice a4 n.bufs.length c4, .slice a5 n.owners.length c5, .slice a6 n.turns.length c6, .slice a7 n.srcs.length c7, .slice a8 n.arrs.length c8, .int .i64 n.time] 44)).heap.size (fun _ => True) v (missTo n l k) ∧ Below (w.alloc (.cells #[.int .i64 n.mesh.g.w, .int .i64 n.mesh.g.h, .slice a1 n.mesh.br.length c1, .slice a2 n.pa.length c2, .slice a3 n.pb.length c3, .slice a4 n.bufs.length c4, .slice a5 n.owners.length c5, .slice a6 n.turns.length c6, .slice a7 n.srcs.length c7, .slice a8 n.arrs.length c8, .int .i64 n.time] 44)).heap.size (w.alloc (.cells #[.int .i64 n.mesh.g.w, .int .i64 n.mesh.g.h, .slice a1 n.mesh.br.length c1, .slice a2 n.pa.length c2, .slice a3 n.pb.length c3, .slice a4 n.bufs.length c4, .slice a5 n.owners.length c5, .slice a6 n.turns.length c6, .slice a7 n.srcs.length c7, .slice a8 n.arrs.length c8, .int .i64 n.time] 44)) wr) (fun _ i _ => l.length - (intOf i).toNat)
  case atStart => exact ⟨0, rfl, Nat.zero_le _, (by exact Kd.R_below E0.out bel), bel⟩
  case round =>
    obtain ⟨k, rfl, hk, HO, HB⟩ := hrel
    obtain ⟨Ao, co, rfl⟩ := Kd.R_slice HO
    have hlen := miss_len n l k
    by_cases hlt : k < l.length
    · obtain ⟨b, off, rfl, hbl, p0, p1, p2, p3, p4⟩ := rdP_at (Kd.C_below (Kd.C_below P.out (bw_alloc _ (bw_refl _))) HB) k hlt
      have hnd := HA.out k hlt
      have HN := Lib.hid hnd
      have HL2 := Lib.hid (HL.out _ (rp l k).cls hnd)
      clear hnd
      cases hh : has (wholeP (arrF n (rp l k).dst (rp l k).cls)) (rp l k).id
      · have HS := Lib.hid (miss_yes hh)
        have HH := Lib.hid hh
        clear hh
        go_wp2_with (first | (go_at_call 151; refine (impl_arrived n _ _ _ _ _ (R.out.below bel) (X _ bel) HK.out HN.out).mono ?_; rintro e w1 ⟨hg1, hb1⟩; obtain ⟨v1, rfl, HO1⟩ := hg1; obtain ⟨A1, d1, rfl, hk1, hC1⟩ := Kd.R_reads HO1; obtain ⟨hc1, hf1, hz1⟩ := bcell hb1; (try simp only [szs] at hz1); have hb2 := far2; obtain ⟨hc2, hf2, hz2⟩ := bcell hb2; (try simp only [szs] at hz2); try (first | obtain ⟨hy1, hy2, hy3, hy4⟩ := lts4 hz2 | obtain ⟨hy1, hy2, hy3⟩ := lts3 hz2 | obtain ⟨hy1, hy2⟩ := lts2 hz2 | have hy1 := lts1 hz2); have hb9 := hb1) | (go_at_call 152; refine (slices_Contains_int (wholeP (arrF n (rp l k).dst (rp l k).cls)) _ A1 d1 _ (by exact Kd.C_below hC1 bel) HL2.out).mono ?_; rintro e w' ⟨he, rfl⟩; rw [HH.out] at he; subst he) | (at_builtin; refine app_int (W0 := w.alloc (.cells #[.int .i64 n.mesh.g.w, .int .i64 n.mesh.g.h, .slice a1 n.mesh.br.length c1, .slice a2 n.pa.length c2, .slice a3 n.pb.length c3, .slice a4 n.bufs.length c4, .slice a5 n.owners.length c5, .slice a6 n.turns.length c6, .slice a7 n.srcs.length c7, .slice a8 n.arrs.length c8, .int .i64 n.time] 44)) rfl (.tmp 39) (.tmp 42) 24 3 rfl Tryz.underlying24 info_int _ (missTo n l k) _ rfl (by first | rfl | exact congrArg (fun z => Value.slice (some ⟨z, 0, none⟩) 1 1) (World.size_alloc _ _).symm) (by exact Kd.R_below HO bel) bel (by omega) ?_; intro v1 w1 HO1 HB1; obtain ⟨hc1, hf1, hz1⟩ := bcell HB1; (try simp only [szs] at hz1); have hb2 := HB1; have hb9 := HB1))
        go_roundw
        case rel => exact ⟨k + 1, by go_num, by omega, by rw [HS.out]; exact (by exact Kd.R_below HO1 bel), bel⟩
        case measure => simp [intOf]; omega
      · have HS := Lib.hid (miss_no hh)
        have HH := Lib.hid hh
        clear hh
        go_wp2_with (first | (go_at_call 151; refine (impl_arrived n _ _ _ _ _ (R.out.below bel) (X _ bel) HK.out HN.out).mono ?_; rintro e w1 ⟨hg1, hb1⟩; obtain ⟨v1, rfl, HO1⟩ := hg1; obtain ⟨A1, d1, rfl, hk1, hC1⟩ := Kd.R_reads HO1; obtain ⟨hc1, hf1, hz1⟩ := bcell hb1; (try simp only [szs] at hz1); have hb2 := far2; obtain ⟨hc2, hf2, hz2⟩ := bcell hb2; (try simp only [szs] at hz2); try (first | obtain ⟨hy1, hy2, hy3, hy4⟩ := lts4 hz2 | obtain ⟨hy1, hy2, hy3⟩ := lts3 hz2 | obtain ⟨hy1, hy2⟩ := lts2 hz2 | have hy1 := lts1 hz2); have hb9 := hb1) | (go_at_call 152; refine (slices_Contains_int (wholeP (arrF n (rp l k).dst (rp l k).cls)) _ A1 d1 _ (by exact Kd.C_below hC1 bel) HL2.out).mono ?_; rintro e w' ⟨he, rfl⟩; rw [HH.out] at he; subst he))
        go_roundw
        case rel => exact ⟨k + 1, by go_num, by omega, by rw [HS.out]; exact (by exact Kd.R_below HO bel), bel⟩
        case measure => simp [intOf]; omega
    · obtain rfl : k = l.length := by omega
      go_wp2
      go_ret
      exact ⟨by rw [HE.out]; exact ⟨_, rfl, Kd.R_lower HO (by simp only [szs]; omega)⟩, bel⟩
set_option maxHeartbeats 4000000 in
set_option maxRecDepth 100000 in
theorem spec_Missing (n : Net) (l : List Packet) (q : NA) (D : Option Addr) (d : Nat) (w : World) (hr : NetR 121 w n q) (hp : kP.C w D l.length l) (hkl : l.length ≤ 2097152) :
  Calls Tryz.prog 71 #[.agg (netCells n q), .slice D l.length d] w fun e w' => GotI w w' (missN n l) e ∧ Below w.heap.size w w' := by
 have R := Lib.hid hr
 have P := Lib.hid hp
 obtain ⟨a1, a2, a3, a4, a5, a6, a7, a8, c1, c2, c3, c4, c5, c6, c7, c8⟩ := q
 clear hr hp
 dsimp only [netCells]
 have X := fun (W : World) hb => Box.below (w1 := W) (Box.new w _ #[.int .i64 n.mesh.g.w, .int .i64 n.mesh.g.h, .slice a1 n.mesh.br.length c1, .slice a2 n.pa.length c2, .slice a3 n.pb.length c3, .slice a4 n.bufs.length c4, .slice a5 n.owners.length c5, .slice a6 n.turns.length c6, .slice a7 n.srcs.length c7, .slice a8 n.arrs.length c8, .int .i64 n.time] 44 rfl) hb
 have E0 := Lib.hid (R_empty' (Kd.int .i64) 3 (W0 := w.alloc (.cells #[.int .i64 n.mesh.g.w, .int .i64 n.mesh.g.h, .slice a1 n.mesh.br.length c1, .slice a2 n.pa.length c2, .slice a3 n.pb.length c3, .slice a4 n.bufs.length c4, .slice a5 n.owners.length c5, .slice a6 n.turns.length c6, .slice a7 n.srcs.length c7, .slice a8 n.arrs.length c8, .int .i64 n.time] 44)) (W := w.alloc (.cells #[.int .i64 n.mesh.g.w, .int .i64 n.mesh.g.h, .slice a1 n.mesh.br.length c1, .slice a2 n.pa.length c2, .slice a3 n.pb.length c3, .slice a4 n.bufs.length c4, .slice a5 n.owners.length c5, .slice a6 n.turns.length c6, .slice a7 n.srcs.length c7, .slice a8 n.arrs.length c8, .int .i64 n.time] 44)) (Nat.le_refl _) (w.heap.size + 1) (by simp only [szs]))
 cases hk : netOk n
 ·have HE := Lib.hid (missN_no (n := n) (l := l) (by rw [hk]; rfl))
  go_enter Tryz.func71, Tryz.ntmps71
  go_wp2_with (go_at_call 57; refine (spec_NetOk n _ _ (R.out.below bel)).mono ?_; rintro e w1 ⟨rfl, hb1⟩; obtain ⟨hc1, hf1, hz1⟩ := bcell hb1; (try simp only [szs] at hz1); have hb2 := far2; obtain ⟨hc2, hf2, hz2⟩ := bcell hb2; (try simp only [szs] at hz2); try (first | obtain ⟨hy1, hy2, hy3, hy4⟩ := lts4 hz2 | obtain ⟨hy1, hy2, hy3⟩ := lts3 hz2 | obtain ⟨hy1, hy2⟩ := lts2 hz2 | have hy1 := lts1 hz2); have hb9 := hb1)
  go_loopw [5, 7] (fun v i wr => i = .int .i64 0 ∧ v = .slice (some ⟨w.heap.size + 1, 0, none⟩) 0 0 ∧ Kd.R (Kd.int .i64) 3 wr (w.alloc (.cells #[.int .i64 n.mesh.g.w, .int .i64 n.mesh.g.h, .slice a1 n.mesh.br.length c1, .slice a2 n.pa.length c2, .slice a3 n.pb.length c3, .slice a4 n.bufs.length c4, .slice a5 n.owners.length c5, .slice a6 n.turns.length c6, .slice a7 n.srcs.length c7, .slice a8 n.arrs.length c8, .int .i64 n.time] 44)).heap.size (fun _ => True) v [] ∧ Below w.heap.size w wr) (fun _ i _ => 0)
  case atStart => exact ⟨rfl, rfl, (by exact Kd.R_below E0.out bel), bel⟩
  case round =>
   obtain ⟨rfl, rfl, HO, HB⟩ := hrel
   by_cases hlt : 0 < l.length
   ·have i0 : (0 : Int) < (l.length : Int) := by omega
    go_wp2_with fail
    refine wp_region_far (w) (by kernel_rfl) (by kernel_rfl) bel ?_
    have hqc := far_cell (w)
    have hqf := far_frozen (w)
    repeat (first | go_big_quiet_step (fail) | quiet_step (fail))
    refine wpQuiet_nil ?_
    intro wq hbq
    clear hqc hqf
    obtain ⟨hcq, hfq, hzq⟩ := bcell hbq
    try simp only [szs] at hzq
    go_wp2
    go_ret
    exact ⟨by rw [HE.out]; exact ⟨_, rfl, R_empty (W0 := w) _ _ (bw_size bel)⟩, bel⟩
   ·have i0 : ¬ (0 : Int) < (l.length : Int) := by omega
    go_wp2
    go_ret
    exact ⟨by rw [HE.out]; exact ⟨_, rfl, Kd.R_lower HO (by simp only [szs]; omega)⟩, bel⟩
 have HK := Lib.hid hk
 have HL : Hid (∀ a c, isNode n.mesh.g a = true → (wholeP (arrF n a c)).length ≤ 2097152) := Lib.hid (fun a c h => by
  have h1 := (node_arrs hk h)
  have h2 := (R.out.h11 _ (rl_memI h1.1 h1.2))
  have h3 := wholeP_len (arrF n a c)
  have h4 := arrF_len n a c
  omega)
 go_enter Tryz.func71, Tryz.ntmps71
 go_wp2_with (go_at_call 57; refine (spec_NetOk n _ _ (R.out.below bel)).mono ?_; rintro e w1 ⟨rfl, hb1⟩; obtain ⟨hc1, hf1, hz1⟩ := bcell hb1; (try simp only [szs] at hz1); have hb2 := far2; obtain ⟨hc2, hf2, hz2⟩ := bcell hb2; (try simp only [szs] at hz2); try (first | obtain ⟨hy1, hy2, hy3, hy4⟩ := lts4 hz2 | obtain ⟨hy1, hy2, hy3⟩ := lts3 hz2 | obtain ⟨hy1, hy2⟩ := lts2 hz2 | have hy1 := lts1 hz2); have hb9 := hb1)
 go_loopw [5, 7] (fun v i wr => ∃ k : Nat, i = .int .i64 k ∧ k ≤ l.length ∧ Hid (∀ x : Nat, x < k → packetOk n.mesh.g (rp l x) = true) ∧ Kd.R (Kd.int .i64) 3 wr (w.alloc (.cells #[.int .i64 n.mesh.g.w, .int .i64 n.mesh.g.h, .slice a1 n.mesh.br.length c1, .slice a2 n.pa.length c2, .slice a3 n.pb.length c3, .slice a4 n.bufs.length c4, .slice a5 n.owners.length c5, .slice a6 n.turns.length c6, .slice a7 n.srcs.length c7, .slice a8 n.arrs.length c8, .int .i64 n.time] 44)).heap.size (fun _ => True) v (missTo n l k) ∧ Below (w.alloc (.cells #[.int .i64 n.mesh.g.w, .int .i64 n.mesh.g.h, .slice a1 n.mesh.br.length c1, .slice a2 n.pa.length c2, .slice a3 n.pb.length c3, .slice a4 n.bufs.length c4, .slice a5 n.owners.length c5, .slice a6 n.turns.length c6, .slice a7 n.srcs.length c7, .slice a8 n.arrs.length c8, .int .i64 n.time] 44)).heap.size (w.alloc (.cells #[.int .i64 n.mesh.g.w, .int .i64 n.mesh.g.h, .slice a1 n.mesh.br.length c1, .slice a2 n.pa.length c2, .slice a3 n.pb.length c3, .slice a4 n.bufs.length c4, .slice a5 n.owners.length c5, .slice a6 n.turns.length c6, .slice a7 n.srcs.length c7, .slice a8 n.arrs.length c8, .int .i64 n.time] 44)) wr) (fun _ i _ => l.length - (intOf i).toNat)
 case atStart => exact ⟨0, rfl, Nat.zero_le _, Lib.hid fun x h => absurd h (Nat.not_lt_zero _), (by exact Kd.R_below E0.out bel), bel⟩
 case round =>
  obtain ⟨k, rfl, hk2, HP, HO, HB⟩ := hrel
  obtain ⟨Ao, co, rfl⟩ := Kd.R_slice HO
  have hlen := miss_len n l k
  by_cases hlt : k < l.length
  ·have i0 : (k : Int) < (l.length : Int) := by omega
   have k0 : (0 : Int) ≤ (k : Int) := by omega
   obtain ⟨b, off, rfl, hbl, p0, p1, p2, p3, p4⟩ := rdP_at (Kd.C_below (Kd.C_below P.out (bw_alloc _ (bw_refl _))) HB) k hlt
   have hx := X wr HB
   have xl := hx.lt
   have box11 : Box wr w.heap.size #[.int .i64 n.mesh.g.w, .int .i64 n.mesh.g.h, .slice a1 n.mesh.br.length c1, .slice a2 n.pa.length c2, .slice a3 n.pb.length c3, .slice a4 n.bufs.length c4, .slice a5 n.owners.length c5, .slice a6 n.turns.length c6, .slice a7 n.srcs.length c7, .slice a8 n.arrs.length c8, .int .i64 n.time] := hx
   obtain ⟨x0, x1, x2, x3, x4, x5, x6, x7, x8, x9, x10⟩ := all11 box11
   clear box11
   clear hx
   cases hok : packetOk n.mesh.g (rp l k)
   ·have HE := Lib.hid (missN_no (n := n) (l := l) (by rw [all_no k hlt hok, Bool.and_false]))
    have HCALL : Hid (∀ W : World, Calls Tryz.prog 112 #[.agg #[.int .i64 n.mesh.g.w, .int .i64 n.mesh.g.h], .agg #[.int .i64 (rp l k).id, .int .i64 (rp l k).src, .int .i64 (rp l k).dst, .int .i64 (rp l k).cls, .int .i64 (rp l k).len]] W fun e w' => e = .returned (.bool false) ∧ Below W.heap.size W w') := Lib.hid (fun W => Calls.says (spec_PacketOk n.mesh.g (rp l k) W) (congrArg Value.bool hok))
    clear hok
    go_wp2_with fail
    refine wp_region_far (wr) (by kernel_rfl) (by kernel_rfl) bel ?_
    have hqc := far_cell (wr)
    have hqf := far_frozen (wr)
    repeat (first | go_big_quiet_step ((go_at_call 112; exact far_call (HCALL.out _))) | quiet_step ((go_at_call 112; exact far_call (HCALL.out _))))
    refine wpQuiet_nil ?_
    intro wq hbq
    clear hqc hqf
    obtain ⟨hcq, hfq, hzq⟩ := bcell hbq
    try simp only [szs] at hzq
    go_wp2
    go_ret
    exact ⟨by rw [HE.out]; exact ⟨_, rfl, R_empty (W0 := w) _ _ (bw_size bel)⟩, bel⟩
   ·have hnd := packetOk_node hok
    have HN := Lib.hid hnd
    have HL2 := Lib.hid (HL.out _ (rp l k).cls hnd)
    have HO2 := Lib.hid hok
    have HCALL : Hid (∀ W : World, Calls Tryz.prog 112 #[.agg #[.int .i64 n.mesh.g.w, .int .i64 n.mesh.g.h], .agg #[.int .i64 (rp l k).id, .int .i64 (rp l k).src, .int .i64 (rp l k).dst, .int .i64 (rp l k).cls, .int .i64 (rp l k).len]] W fun e w' => e = .returned (.bool true) ∧ Below W.heap.size W w') := Lib.hid (fun W => Calls.says (spec_PacketOk n.mesh.g (rp l k) W) (congrArg Value.bool hok))
    have HNX := Lib.hid (upto HP.out hok)
    clear hok hnd
    cases hh : has (wholeP (arrF n (rp l k).dst (rp l k).cls)) (rp l k).id
    ·have HS := Lib.hid (miss_yes hh)
     have HH := Lib.hid hh
     clear hh
     go_wp2_with fail
     refine wp_region_far (wr) (by kernel_rfl) (by kernel_rfl) bel ?_
     have hqc := far_cell (wr)
     have hqf := far_frozen (wr)
     repeat (first | go_big_quiet_step ((go_at_call 112; exact far_call (HCALL.out _))) | quiet_step ((go_at_call 112; exact far_call (HCALL.out _))))
     refine wpQuiet_nil ?_
     intro wq hbq
     clear hqc hqf
     obtain ⟨hcq, hfq, hzq⟩ := bcell hbq
     try simp only [szs] at hzq
     go_wp2_with fail
     go_region_held3 (fun w' => Below (wr).heap.size (wr) w' ∧ ∀ bq oq, bq < (wr).heap.size → w'.cell? ⟨bq, oq, none⟩ = (wr).cell? ⟨bq, oq, none⟩) (first | exact far_of bel) ( first | (go_at_call 113; refine (spec_l22At n _ _ _ _ (R.out.below bel) HK.out HN.out).mono ?_; rintro e w1 ⟨hg1, hb1⟩; obtain ⟨v1, rfl, HO1⟩ := hg1; obtain ⟨A1, d1, rfl, hk1, hC1⟩ := Kd.R_reads HO1; obtain ⟨hc1, hf1, hz1⟩ := bcell hb1; (try simp only [szs] at hz1); have hb2 := far2; obtain ⟨hc2, hf2, hz2⟩ := bcell hb2; (try simp only [szs] at hz2); try (first | obtain ⟨hy1, hy2, hy3, hy4⟩ := lts4 hz2 | obtain ⟨hy1, hy2, hy3⟩ := lts3 hz2 | obtain ⟨hy1, hy2⟩ := lts2 hz2 | have hy1 := lts1 hz2); have hb9 := hb1))
     go_wp2_with (first | (go_at_call 114; refine (spec_l03Find (wholeP (arrF n (rp l k).dst (rp l k).cls)) _ A1 d1 _ (by exact Kd.C_below hC1 bel) HL2.out).mono ?_; rintro e w' ⟨he, rfl⟩; rw [HH.out] at he; subst he) | (at_builtin; refine app_int (W0 := w.alloc (.cells #[.int .i64 n.mesh.g.w, .int .i64 n.mesh.g.h, .slice a1 n.mesh.br.length c1, .slice a2 n.pa.length c2, .slice a3 n.pb.length c3, .slice a4 n.bufs.length c4, .slice a5 n.owners.length c5, .slice a6 n.turns.length c6, .slice a7 n.srcs.length c7, .slice a8 n.arrs.length c8, .int .i64 n.time] 44)) rfl (.tmp 56) (.tmp 62) 24 3 rfl Tryz.underlying24 info_int _ (missTo n l k) _ rfl (by first | rfl | exact congrArg (fun z => Value.slice (some ⟨z, 0, none⟩) 1 1) (World.size_alloc _ _).symm) (by exact Kd.R_below HO bel) bel (by omega) ?_; intro v1 w1 HO1 HB1; obtain ⟨hc1, hf1, hz1⟩ := bcell HB1; (try simp only [szs] at hz1); have hb2 := HB1; have hb9 := HB1))
     go_roundw
     case rel => exact ⟨k + 1, by go_num, by omega, HNX, by rw [HS.out]; exact (by exact Kd.R_below HO1 bel), bel⟩
     case measure => simp [intOf]; omega
    ·have HS := Lib.hid (miss_no hh)
     have HH := Lib.hid hh
     clear hh
     go_wp2_with fail
     refine wp_region_far (wr) (by kernel_rfl) (by kernel_rfl) bel ?_
     have hqc := far_cell (wr)
     have hqf := far_frozen (wr)
     repeat (first | go_big_quiet_step ((go_at_call 112; exact far_call (HCALL.out _))) | quiet_step ((go_at_call 112; exact far_call (HCALL.out _))))
     refine wpQuiet_nil ?_
     intro wq hbq
     clear hqc hqf
     obtain ⟨hcq, hfq, hzq⟩ := bcell hbq
     try simp only [szs] at hzq
     go_wp2_with fail
     go_region_held3 (fun w' => Below (wr).heap.size (wr) w' ∧ ∀ bq oq, bq < (wr).heap.size → w'.cell? ⟨bq, oq, none⟩ = (wr).cell? ⟨bq, oq, none⟩) (first | exact far_of bel) ( first | (go_at_call 113; refine (spec_l22At n _ _ _ _ (R.out.below bel) HK.out HN.out).mono ?_; rintro e w1 ⟨hg1, hb1⟩; obtain ⟨v1, rfl, HO1⟩ := hg1; obtain ⟨A1, d1, rfl, hk1, hC1⟩ := Kd.R_reads HO1; obtain ⟨hc1, hf1, hz1⟩ := bcell hb1; (try simp only [szs] at hz1); have hb2 := far2; obtain ⟨hc2, hf2, hz2⟩ := bcell hb2; (try simp only [szs] at hz2); try (first | obtain ⟨hy1, hy2, hy3, hy4⟩ := lts4 hz2 | obtain ⟨hy1, hy2, hy3⟩ := lts3 hz2 | obtain ⟨hy1, hy2⟩ := lts2 hz2 | have hy1 := lts1 hz2); have hb9 := hb1))
     go_wp2_with (first | (go_at_call 114; refine (spec_l03Find (wholeP (arrF n (rp l k).dst (rp l k).cls)) _ A1 d1 _ (by exact Kd.C_below hC1 bel) HL2.out).mono ?_; rintro e w' ⟨he, rfl⟩; rw [HH.out] at he; subst he))
     go_roundw
     case rel => exact ⟨k + 1, by go_num, by omega, HNX, by rw [HS.out]; exact (by exact Kd.R_below HO bel), bel⟩
     case measure => simp [intOf]; omega
  ·obtain rfl : k = l.length := by omega
   have HE := Lib.hid (missN_yes (n := n) (l := l) (by rw [all_yes HP.out, hk]; rfl))
   go_wp2
   go_ret
   exact ⟨by rw [HE.out]; exact ⟨_, rfl, Kd.R_lower HO (by simp only [szs]; omega)⟩, bel⟩
end Go.Proofs.YtmkbmddgkdoaiaaGreat
namespace Go.Proofs.YtmkbmddgkdoaiaaGreat
open NoC
def startN (m : Mesh) (pa pb : List Int) (l : List Packet) : Net := sendAllN (newN m pa pb) l
def deliverN (m : Mesh) (pa pb : List Int) (l : List Packet) : Int :=
  if classesOk m pa pb = true then
    if sendAllK (newN m pa pb) l = (l.length : Int) then
      if 0 ≤ toIdleN (startN m pa pb l) then
        if (missN (runIdleN (startN m pa pb l)) l).length = 0 then toIdleN (startN m pa pb l) else -1
      else -1
    else -1
  else -1
theorem deliver_no1 {m : Mesh} {pa pb : List Int} {l : List Packet} (h : classesOk m pa pb = false) : deliverN m pa pb l = -1 := by unfold deliverN; rw [h]; rfl
theorem deliver_no2 {m : Mesh} {pa pb : List Int} {l : List Packet} (h : ¬ sendAllK (newN m pa pb) l = (l.length : Int)) : deliverN m pa pb l = -1 := by
  unfold deliverN
  rw [if_neg h]
  split <;> rfl
theorem deliver_no3 {m : Mesh} {pa pb : List Int} {l : List Packet} (h : ¬ 0 ≤ toIdleN (startN m pa pb l)) : deliverN m pa pb l = -1 := by
  unfold deliverN
  rw [if_neg h]
  split
  · split <;> rfl
  · rfl
theorem deliver_no4 {m : Mesh} {pa pb : List Int} {l : List Packet} (h : ¬ (missN (runIdleN (startN m pa pb l)) l).length = 0) : deliverN m pa pb l = -1 := by
  unfold deliverN
  rw [if_neg h]
  split
  · split
    · split <;> rfl
    · rfl
  · rfl
theorem deliver_yes {m : Mesh} {pa pb : List Int} {l : List Packet} (h1 : classesOk m pa pb = true) (h2 : sendAllK (newN m pa pb) l = (l.length : Int)) (h3 : 0 ≤ toIdleN (startN m pa pb l)) (h4 : (missN (runIdleN (startN m pa pb l)) l).length = 0) : deliverN m pa pb l = toIdleN (startN m pa pb l) := by
  unfold deliverN
  rw [if_pos h1, if_pos h2, if_pos h3, if_pos h4]
theorem start_nb {m : Mesh} {pa pb : List Int} {l : List Packet} (h1 : m.br.length ≤ 2097152) (h2 : pa.length ≤ 2097152) (h3 : pb.length ≤ 2097152) : NB (startN m pa pb l) := sendAll_nb (newN_nb h1 h2 h3)
theorem snd_arrs (n : Net) (l : List Packet) : ∀ k, (sndTo n l k).arrs = n.arrs := by
  intro k
  induction k with
  | zero => rfl
  | succ k ih =>
    show (sndN (sndTo n l k) (rp l k)).arrs = _
    unfold sndN
    split
    · exact ih
    · exact ih
theorem start_arrs (m : Mesh) (pa pb : List Int) (l : List Packet) : ∀ x ∈ (startN m pa pb l).arrs, x.length ≤ 1048576 := by
  have e : (startN m pa pb l).arrs = (newN m pa pb).arrs := by
    unfold startN sendAllN
    split
    · exact snd_arrs _ _ _
    · rfl
  rw [e]
  intro x hx
  rw [(List.mem_replicate.1 hx).2]
  simp
end Go.Proofs.YtmkbmddgkdoaiaaGreat
namespace Go.Proofs.YtmkbmddgkdoaiaaGreat
open Go.RowKit Go.Proofs.YtmkbmddgkdoaiaaGreatW.PrintWords
open NoC
theorem C_oneP (W : World) (p : Packet) : kP.C (W.alloc (.cells #[.int .i64 p.id, .int .i64 p.src, .int .i64 p.dst, .int .i64 p.cls, .int .i64 p.len] 59)) (some ⟨W.heap.size, 0, none⟩) [p].length [p] := by
  have hb : Box (W.alloc (.cells #[.int .i64 p.id, .int .i64 p.src, .int .i64 p.dst, .int .i64 p.cls, .int .i64 p.len] 59)) W.heap.size #[.int .i64 p.id, .int .i64 p.src, .int .i64 p.dst, .int .i64 p.cls, .int .i64 p.len] := Box.new W _ _ _ rfl
  refine ⟨rfl, by simp, fun _ => ⟨_, rfl, fun j q hj => ⟨pkCells q, rfl, rfl, fun i u hu => ?_⟩⟩⟩
  have hj0 : j = 0 := by
    have := (List.getElem?_eq_some_iff.1 hj).1
    simp at this
    exact this
  subst hj0
  simp only [List.getElem?_cons_zero, Option.some.injEq] at hj
  subst hj
  have hi : i < 5 := by
    have := (List.getElem?_eq_some_iff.1 hu).1
    simpa [pkCells] using this
  have hg := hb.get i
  have e : ((⟨W.heap.size, 0, none⟩ : Addr).add (0 * kP.sz + i)) = ⟨W.heap.size, i, none⟩ := by
    simp [Addr.add]
    intro h
    exact h.symm
  rw [e, hg, ← hu]
  rcases (by omega : i = 0 ∨ i = 1 ∨ i = 2 ∨ i = 3 ∨ i = 4) with rfl | rfl | rfl | rfl | rfl <;> rfl
theorem zeroLoad_range (m : Mesh) (pa pb : List Int) (p : Packet) : -1 ≤ zeroLoad m pa pb p ∧ zeroLoad m pa pb p ≤ 1000 := by
  unfold zeroLoad
  split
  · rename_i h
    simp only [Bool.and_eq_true] at h
    have h2 := packetOk_len h.2
    have hwl := wt_len m (tabOf pa pb p.cls) p.src p.dst
    unfold walkP
    omega
  · omega
def slowTo (m : Mesh) (pa pb : List Int) (l : List Packet) : Nat → Int
  | 0 => 0
  | j + 1 => max (slowTo m pa pb l j) (zeroLoad m pa pb (rp l j))
theorem slowTo_range (m : Mesh) (pa pb : List Int) (l : List Packet) : ∀ j, 0 ≤ slowTo m pa pb l j ∧ slowTo m pa pb l j ≤ 1000 := by
  intro j
  induction j with
  | zero => exact ⟨Int.le_refl _, by simp [slowTo]⟩
  | succ j ih =>
    have := zeroLoad_range m pa pb (rp l j)
    simp only [slowTo]
    omega
def slowN (m : Mesh) (pa pb : List Int) (l : List Packet) : Int := if deliverN m pa pb l < 0 ∨ l.length = 0 then -1 else deliverN m pa pb l - slowTo m pa pb l l.length
theorem deliver_range (m : Mesh) (pa pb : List Int) (l : List Packet) : -1 ≤ deliverN m pa pb l ∧ deliverN m pa pb l ≤ 400 := by
  have h := toIdle_range (startN m pa pb l)
  unfold deliverN
  split
  · split
    · split
      · split
        · omega
        · omega
      · omega
    · omega
  · omega
theorem deliver_pos {m : Mesh} {pa pb : List Int} {l : List Packet} (h : 0 ≤ deliverN m pa pb l) : classesOk m pa pb = true ∧ sendAllK (newN m pa pb) l = (l.length : Int) := by
  constructor
  · by_cases e : classesOk m pa pb = true
    · exact e
    · have := deliver_no1 (l := l) (by simpa using e : classesOk m pa pb = false)
      omega
  · by_cases e : sendAllK (newN m pa pb) l = (l.length : Int)
    · exact e
    · have := deliver_no2 e
      omega
theorem cntTo_le (n : Net) (l : List Packet) : ∀ k : Nat, cntTo n l k ≤ (k : Int) := by
  intro k
  induction k with
  | zero => exact Int.le_refl _
  | succ k ih =>
    simp only [cntTo]
    split <;> omega
theorem snd_mesh (n : Net) (l : List Packet) : ∀ k, (sndTo n l k).mesh = n.mesh := by
  intro k
  induction k with
  | zero => rfl
  | succ k ih =>
    show (sndN (sndTo n l k) (rp l k)).mesh = _
    unfold sndN
    split
    · exact ih
    · exact ih
theorem cnt_all (n : Net) (l : List Packet) : ∀ k : Nat, cntTo n l k = (k : Int) → ∀ i : Nat, i < k → packetOk n.mesh.g (rp l i) = true := by
  intro k
  induction k with
  | zero => intro _ i hi; omega
  | succ k ih =>
    intro h i hi
    have hl := cntTo_le n l k
    simp only [cntTo] at h
    by_cases e : sendOk (sndTo n l k) (rp l k) = true
    · rw [if_pos e] at h
      by_cases e2 : i = k
      · subst e2
        simp only [sendOk, Bool.and_eq_true] at e
        rw [snd_mesh] at e
        exact e.1
      · exact ih (by omega) i (by omega)
    · rw [if_neg e] at h
      omega
theorem deliver_packets {m : Mesh} {pa pb : List Int} {l : List Packet} (h : 0 ≤ deliverN m pa pb l) {i : Nat} (hi : i < l.length) : packetOk m.g (rp l i) = true := by
  obtain ⟨h1, h2⟩ := deliver_pos h
  unfold sendAllK at h2
  split at h2
  · exact cnt_all (newN m pa pb) l l.length h2 i hi
  · omega
set_option maxHeartbeats 8000000 in
set_option maxRecDepth 100000 in
theorem impl_delivery (m : Mesh) (pa pb : List Int) (l : List Packet) (A B C D : Option Addr) (c d k n : Nat) (w : World) (hr : Kd.C (Kd.int .i64) w A m.br.length m.br) (hn : m.br.length ≤ 2097152) (ha : Kd.C (Kd.int .i64) w B pa.length pa) (hka : pa.length ≤ 2097152) (hb : Kd.C (Kd.int .i64) w C pb.length pb) (hkb : pb.length ≤ 2097152) (hp : kP.C w D l.length l) (hkl : l.length ≤ 2097152) :
    Calls Tryz.prog 72 #[.agg #[.int .i64 m.g.w, .int .i64 m.g.h, .slice A m.br.length c], .agg #[.slice B pa.length d, .slice C pb.length k], .slice D l.length n] w fun e w' => e = .returned (.int .i64 (deliverN m pa pb l)) ∧ Below w.heap.size w w' := by
  have HR := Lib.hid hr
  have HA := Lib.hid ha
  have HB := Lib.hid hb
  have HP := Lib.hid hp
  clear hr ha hb hp
  go_enter Tryz.func72, Tryz.ntmps72
  go_wp2_with fail
  refine (impl_NetNew m pa pb A B C c d k _ (by exact Kd.C_below HR.out bel) hn (by exact Kd.C_below HA.out bel) hka (by exact Kd.C_below HB.out bel) hkb).mono ?_
  rintro e w2 ⟨hg, hb2⟩
  obtain ⟨uq, u4, u7, u8, rfl, HNu⟩ := hg
  have HNu := Lib.hid HNu
  obtain ⟨N0, hN0⟩ : ∃ z, netNewN m pa pb = z := ⟨_, rfl⟩
  have HNB0 : Hid (NB N0) := Lib.hid (by rw [← hN0]; exact netNew_nb hn hka hkb)
  rw [hN0] at HNu
  rw [hN0]
  have HE0 := Lib.hid hN0
  clear hN0
  obtain ⟨u1, u2, u3, u4, u5, u6, u7, u8, v1, v2, v3, v4, v5, v6, v7, v8⟩ := uq
  dsimp only [netCells]
  have hbw2 : Below w.heap.size w w2 := bw_then (bw_alloc _ (bw_alloc _ (bw_refl w))) hb2
  clear hb2
  cases hk : classesOk m pa pb
  · have HE := Lib.hid (deliver_no1 (l := l) hk)
    go_wp2
    go_ret
    exact ⟨ret_int HE.out.symm, bel⟩
  have HK := Lib.hid hk
  have HE1 : Hid (N0 = newN m pa pb) := Lib.hid (by rw [← HE0.out]; unfold netNewN; rw [hk]; rfl)
  clear hk
  go_wp2_with fail
  refine (impl_SendAll N0 l ⟨u1, u2, u3, u4, u5, u6, u7, u8, v1, v2, v3, v4, v5, v6, v7, v8⟩ D n _ ((HNu.out.reads HNB0.out).below bel) (by exact Kd.C_below HP.out bel) hkl).mono ?_
  rintro e w4 ⟨hg, hb4⟩
  obtain ⟨sq, s4, s7, s8, rfl, HNs⟩ := hg
  have HNs := Lib.hid HNs
  obtain ⟨N1, hN1⟩ : ∃ z, sendAllN N0 l = z := ⟨_, rfl⟩
  obtain ⟨k1, hk1⟩ : ∃ z, sendAllK N0 l = z := ⟨_, rfl⟩
  have HNB1 : Hid (NB N1) := Lib.hid (by rw [← hN1]; exact sendAll_nb HNB0.out)
  rw [hN1] at HNs
  rw [hN1, hk1]
  have HS : Hid (startN m pa pb l = N1) := Lib.hid (by unfold startN; rw [← HE1.out]; exact hN1)
  have HK1 : Hid (sendAllK (newN m pa pb) l = k1) := Lib.hid (by rw [← HE1.out]; exact hk1)
  clear hN1 hk1
  obtain ⟨s1, s2, s3, s4, s5, s6, s7, s8, t1, t2, t3, t4, t5, t6, t7, t8⟩ := sq
  dsimp only [netCells]
  have hbw4 : Below w.heap.size w w4 := bw_then (bw_alloc _ hbw2) hb4
  clear hb4 hbw2
  by_cases h2 : k1 = (l.length : Int)
  case neg =>
    have HE := Lib.hid (deliver_no2 (pa := pa) (pb := pb) (m := m) (l := l) (by rw [HK1.out]; exact h2))
    go_wp2
    go_ret
    exact ⟨ret_int HE.out.symm, bel⟩
  have H2 := Lib.hid h2
  subst h2
  go_wp2_with fail
  refine (impl_toIdle N1 ⟨s1, s2, s3, s4, s5, s6, s7, s8, t1, t2, t3, t4, t5, t6, t7, t8⟩ _ ((HNs.out.reads HNB1.out).below bel) (by rw [← HS.out]; exact start_arrs m pa pb l)).mono ?_
  rintro e w6 ⟨hg, hb6⟩
  obtain ⟨pq, p4, p7, p8, rfl, HNp⟩ := hg
  have HNp := Lib.hid HNp
  obtain ⟨N2, hN2⟩ : ∃ z, runIdleN N1 = z := ⟨_, rfl⟩
  obtain ⟨t, ht⟩ : ∃ z, toIdleN N1 = z := ⟨_, rfl⟩
  have HNB2 : Hid (NB N2) := Lib.hid (by rw [← hN2]; exact runIdle_nb HNB1.out (by rw [← HS.out]; exact start_arrs m pa pb l))
  rw [hN2] at HNp
  rw [hN2, ht]
  have HT : Hid (toIdleN (startN m pa pb l) = t) := Lib.hid (by rw [HS.out]; exact ht)
  have HI : Hid (runIdleN (startN m pa pb l) = N2) := Lib.hid (by rw [HS.out]; exact hN2)
  clear hN2 ht
  obtain ⟨p1, p2, p3, p4, p5, p6, p7, p8, r1, r2, r3, r4, r5, r6, r7, r8⟩ := pq
  dsimp only [netCells]
  have hbw6 : Below w.heap.size w w6 := bw_then (bw_alloc _ hbw4) hb6
  clear hb6 hbw4
  by_cases h3 : t < 0
  · have HE := Lib.hid (deliver_no3 (m := m) (pa := pa) (pb := pb) (l := l) (by rw [HT.out]; omega))
    go_wp2
    go_ret
    exact ⟨ret_int HE.out.symm, bel⟩
  go_wp2_with fail
  refine (impl_Missing N2 l ⟨p1, p2, p3, p4, p5, p6, p7, p8, r1, r2, r3, r4, r5, r6, r7, r8⟩ D n _ ((HNp.out.reads HNB2.out).below bel) (by exact Kd.C_below HP.out bel) hkl).mono ?_
  rintro e w8 ⟨hg, hb8⟩
  obtain ⟨v8, rfl, HM⟩ := hg
  obtain ⟨Am, cm, rfl⟩ := Kd.R_slice HM
  have hbw8 : Below w.heap.size w w8 := bw_then (bw_alloc _ hbw6) hb8
  clear hb8 hbw6 HM
  obtain ⟨ml, hml⟩ : ∃ z, (missN N2 l).length = z := ⟨_, rfl⟩
  have HML : Hid ((missN (runIdleN (startN m pa pb l)) l).length = ml) := Lib.hid (by rw [HI.out]; exact hml)
  rw [hml]
  clear hml
  by_cases h4 : ml = 0
  · subst h4
    have HE := Lib.hid (deliver_yes HK.out (by rw [HK1.out]) (by rw [HT.out]; omega) HML.out)
    rw [HT.out] at HE
    go_wp2
    go_ret
    exact ⟨ret_int HE.out.symm, bel⟩
  · have HE := Lib.hid (deliver_no4 (m := m) (pa := pa) (pb := pb) (l := l) (by rw [HML.out]; exact h4))
    have h5 : (0 : Int) < (ml : Int) := by omega
    go_wp2
    go_ret
    exact ⟨ret_int HE.out.symm, bel⟩
set_option maxHeartbeats 8000000 in
set_option maxRecDepth 100000 in
theorem impl_Delivers (m : Mesh) (pa pb : List Int) (l : List Packet) (A B C D : Option Addr) (c d k n : Nat) (w : World) (hr : Kd.C (Kd.int .i64) w A m.br.length m.br) (hn : m.br.length ≤ 2097152) (ha : Kd.C (Kd.int .i64) w B pa.length pa) (hka : pa.length ≤ 2097152) (hb : Kd.C (Kd.int .i64) w C pb.length pb) (hkb : pb.length ≤ 2097152) (hp : kP.C w D l.length l) (hkl : l.length ≤ 2097152) :
    Calls Tryz.prog 32 #[.agg #[.int .i64 m.g.w, .int .i64 m.g.h, .slice A m.br.length c], .agg #[.slice B pa.length d, .slice C pb.length k], .slice D l.length n] w fun e w' => e = .returned (.bool (decide (0 ≤ deliverN m pa pb l))) ∧ Below w.heap.size w w' := by
  go_enter Tryz.func32, Tryz.ntmps32
  go_wp2_with (go_at_call 72; refine (impl_delivery m pa pb l _ _ _ _ _ _ _ _ _ (by exact Kd.C_below hr bel) hn (by exact Kd.C_below ha bel) hka (by exact Kd.C_below hb bel) hkb (by exact Kd.C_below hp bel) hkl).mono ?_; rintro e w1 ⟨rfl, hb1⟩; obtain ⟨hc1, hf1, hz1⟩ := bcell hb1; (try simp only [szs] at hz1); have hb2 := far2; obtain ⟨hc2, hf2, hz2⟩ := bcell hb2; (try simp only [szs] at hz2); try (first | obtain ⟨hy1, hy2, hy3, hy4⟩ := lts4 hz2 | obtain ⟨hy1, hy2, hy3⟩ := lts3 hz2 | obtain ⟨hy1, hy2⟩ := lts2 hz2 | have hy1 := lts1 hz2); have hb9 := hb1)
  go_ret
  exact ⟨ret_bool (by simp), bel⟩
set_option maxHeartbeats 8000000 in
set_option maxRecDepth 100000 in
theorem impl_DrainTime (m : Mesh) (pa pb : List Int) (l : List Packet) (A B C D : Option Addr) (c d k n : Nat) (w : World) (hr : Kd.C (Kd.int .i64) w A m.br.length m.br) (hn : m.br.length ≤ 2097152) (ha : Kd.C (Kd.int .i64) w B pa.length pa) (hka : pa.length ≤ 2097152) (hb : Kd.C (Kd.int .i64) w C pb.length pb) (hkb : pb.length ≤ 2097152) (hp : kP.C w D l.length l) (hkl : l.length ≤ 2097152) :
    Calls Tryz.prog 35 #[.agg #[.int .i64 m.g.w, .int .i64 m.g.h, .slice A m.br.length c], .agg #[.slice B pa.length d, .slice C pb.length k], .slice D l.length n] w fun e w' => e = .returned (.int .i64 (deliverN m pa pb l)) ∧ Below w.heap.size w w' := by
  go_enter Tryz.func35, Tryz.ntmps35
  go_wp2_with (go_at_call 72; refine (impl_delivery m pa pb l _ _ _ _ _ _ _ _ _ (by exact Kd.C_below hr bel) hn (by exact Kd.C_below ha bel) hka (by exact Kd.C_below hb bel) hkb (by exact Kd.C_below hp bel) hkl).mono ?_; rintro e w1 ⟨rfl, hb1⟩; obtain ⟨hc1, hf1, hz1⟩ := bcell hb1; (try simp only [szs] at hz1); have hb2 := far2; obtain ⟨hc2, hf2, hz2⟩ := bcell hb2; (try simp only [szs] at hz2); try (first | obtain ⟨hy1, hy2, hy3, hy4⟩ := lts4 hz2 | obtain ⟨hy1, hy2, hy3⟩ := lts3 hz2 | obtain ⟨hy1, hy2⟩ := lts2 hz2 | have hy1 := lts1 hz2); have hb9 := hb1)
  go_ret
  exact ⟨rfl, bel⟩
set_option maxHeartbeats 8000000 in
set_option maxRecDepth 100000 in
theorem impl_SoloTime (m : Mesh) (pa pb : List Int) (p : Packet) (A B C : Option Addr) (c d k : Nat) (w : World) (hr : Kd.C (Kd.int .i64) w A m.br.length m.br) (hn : m.br.length ≤ 2097152) (ha : Kd.C (Kd.int .i64) w B pa.length pa) (hka : pa.length ≤ 2097152) (hb : Kd.C (Kd.int .i64) w C pb.length pb) (hkb : pb.length ≤ 2097152) :
    Calls Tryz.prog 26 #[.agg #[.int .i64 m.g.w, .int .i64 m.g.h, .slice A m.br.length c], .agg #[.slice B pa.length d, .slice C pb.length k], .agg #[.int .i64 p.id, .int .i64 p.src, .int .i64 p.dst, .int .i64 p.cls, .int .i64 p.len]] w fun e w' => e = .returned (.int .i64 (deliverN m pa pb [p])) ∧ Below w.heap.size w w' := by
  have HR := Lib.hid hr
  have HA := Lib.hid ha
  have HB := Lib.hid hb
  clear hr ha hb
  have HC : Hid (kP.C ((((w.alloc (.cells #[.int .i64 m.g.w, .int .i64 m.g.h, .slice A m.br.length c] 38)).alloc (.cells #[.slice B pa.length d, .slice C pb.length k] 41)).alloc (.cells #[.int .i64 p.id, .int .i64 p.src, .int .i64 p.dst, .int .i64 p.cls, .int .i64 p.len] 59)).alloc (.cells #[.int .i64 p.id, .int .i64 p.src, .int .i64 p.dst, .int .i64 p.cls, .int .i64 p.len] 59)) (some ⟨w.heap.size + 1 + 1 + 1, 0, none⟩) [p].length [p]) := Lib.hid (by
    have h := C_oneP (((w.alloc (.cells #[.int .i64 m.g.w, .int .i64 m.g.h, .slice A m.br.length c] 38)).alloc (.cells #[.slice B pa.length d, .slice C pb.length k] 41)).alloc (.cells #[.int .i64 p.id, .int .i64 p.src, .int .i64 p.dst, .int .i64 p.cls, .int .i64 p.len] 59)) p
    simp only [szs] at h
    exact h)
  have hbw : Below w.heap.size w ((((w.alloc (.cells #[.int .i64 m.g.w, .int .i64 m.g.h, .slice A m.br.length c] 38)).alloc (.cells #[.slice B pa.length d, .slice C pb.length k] 41)).alloc (.cells #[.int .i64 p.id, .int .i64 p.src, .int .i64 p.dst, .int .i64 p.cls, .int .i64 p.len] 59)).alloc (.cells #[.int .i64 p.id, .int .i64 p.src, .int .i64 p.dst, .int .i64 p.cls, .int .i64 p.len] 59)) := bw_alloc _ (bw_alloc _ (bw_alloc _ (bw_alloc _ (bw_refl w))))
  obtain ⟨W, eW⟩ : ∃ z, z = ((((w.alloc (.cells #[.int .i64 m.g.w, .int .i64 m.g.h, .slice A m.br.length c] 38)).alloc (.cells #[.slice B pa.length d, .slice C pb.length k] 41)).alloc (.cells #[.int .i64 p.id, .int .i64 p.src, .int .i64 p.dst, .int .i64 p.cls, .int .i64 p.len] 59)).alloc (.cells #[.int .i64 p.id, .int .i64 p.src, .int .i64 p.dst, .int .i64 p.cls, .int .i64 p.len] 59)) := ⟨_, rfl⟩
  rw [← eW] at HC hbw
  have HBW := Lib.hid hbw
  have HCALL := impl_DrainTime m pa pb [p] A B C (some ⟨w.heap.size + 1 + 1 + 1, 0, none⟩) c d k 1 W (Kd.C_below HR.out HBW.out) hn (Kd.C_below HA.out HBW.out) hka (Kd.C_below HB.out HBW.out) hkb HC.out (by simp)
  simp only [List.length_singleton] at HCALL
  have HCL := Lib.hid HCALL
  clear HCALL hbw HC
  go_enter Tryz.func26, Tryz.ntmps26
  go_wp2_with fail
  rw [← eW]
  clear eW
  refine HCL.out.mono ?_
  rintro e w1 ⟨rfl, hb1⟩
  have hbw : Below w.heap.size w w1 := bw_then HBW.out hb1
  clear hb1
  go_wp2
  go_ret
  exact ⟨rfl, bel⟩
set_option maxHeartbeats 8000000 in
set_option maxRecDepth 100000 in
theorem impl_Slowdown (m : Mesh) (pa pb : List Int) (l : List Packet) (A B C D : Option Addr) (c d k n : Nat) (w : World) (hr : Kd.C (Kd.int .i64) w A m.br.length m.br) (hn : m.br.length ≤ 2097152) (ha : Kd.C (Kd.int .i64) w B pa.length pa) (hka : pa.length ≤ 2097152) (hb : Kd.C (Kd.int .i64) w C pb.length pb) (hkb : pb.length ≤ 2097152) (hp : kP.C w D l.length l) (hkl : l.length ≤ 2097152) :
    Calls Tryz.prog 37 #[.agg #[.int .i64 m.g.w, .int .i64 m.g.h, .slice A m.br.length c], .agg #[.slice B pa.length d, .slice C pb.length k], .slice D l.length n] w fun e w' => e = .returned (.int .i64 (slowN m pa pb l)) ∧ Below w.heap.size w w' := by
  have HR := Lib.hid hr
  have HA := Lib.hid ha
  have HB := Lib.hid hb
  have HP := Lib.hid hp
  clear hr ha hb hp
  have HSB : Hid (∀ j : Nat, 0 ≤ slowTo m pa pb l j ∧ slowTo m pa pb l j ≤ 1000) := Lib.hid (slowTo_range m pa pb l)
  have HZB : Hid (∀ p : Packet, -1 ≤ zeroLoad m pa pb p ∧ zeroLoad m pa pb p ≤ 1000) := Lib.hid (zeroLoad_range m pa pb)
  go_enter Tryz.func37, Tryz.ntmps37
  go_wp2_with fail
  refine (impl_DrainTime m pa pb l A B C D c d k n _ (by exact Kd.C_below HR.out bel) hn (by exact Kd.C_below HA.out bel) hka (by exact Kd.C_below HB.out bel) hkb (by exact Kd.C_below HP.out bel) hkl).mono ?_
  rintro e w2 ⟨rfl, hb2⟩
  have hdr := deliver_range m pa pb l
  obtain ⟨t, ht⟩ : ∃ z, deliverN m pa pb l = z := ⟨_, rfl⟩
  rw [ht] at hdr
  rw [ht]
  have HT := Lib.hid ht
  clear ht
  by_cases h0 : t < 0
  · have HE : Hid (slowN m pa pb l = -1) := Lib.hid (by unfold slowN; rw [if_pos (by rw [HT.out]; exact .inl h0)])
    go_wp2
    go_ret
    exact ⟨ret_int HE.out.symm, bel⟩
  by_cases h1 : l.length = 0
  · have HE : Hid (slowN m pa pb l = -1) := Lib.hid (by unfold slowN; rw [if_pos (.inr h1)])
    have h2 : (l.length : Int) = 0 := by omega
    go_wp2
    go_ret
    exact ⟨ret_int HE.out.symm, bel⟩
  have HE : Hid (slowN m pa pb l = t - slowTo m pa pb l l.length) := Lib.hid (by unfold slowN; rw [if_neg (by rw [HT.out]; omega), HT.out])
  have h2 : ((l.length : Int) == 0) = false := beq_eq_false_iff_ne.2 (by omega)
  have h0b : decide (t < 0) = false := decide_eq_false (by omega)
  have hbw : Below w.heap.size w w2 := bw_then (bw_alloc _ (bw_alloc _ (bw_refl w))) hb2
  have bm := (Box.alloc (Box.new w w.heap.size #[.int .i64 m.g.w, .int .i64 m.g.h, .slice A m.br.length c] 38 rfl) (.cells #[.slice B pa.length d, .slice C pb.length k] 41)).below hb2
  have bc := (Box.new (w.alloc (.cells #[.int .i64 m.g.w, .int .i64 m.g.h, .slice A m.br.length c] 38)) (w.heap.size + 1) #[.slice B pa.length d, .slice C pb.length k] 41 (by simp only [szs])).below hb2
  have HBM := Lib.hid bm
  have HBC := Lib.hid bc
  have HBW := Lib.hid hbw
  have sz2 := bw_size hb2
  clear bm bc hb2 hbw
  go_wp2_with fail
  go_loopw [8, 24] (fun v i wr => ∃ j : Nat, i = .int .i64 j ∧ v = .int .i64 (slowTo m pa pb l j) ∧ j ≤ l.length ∧ Hid (Below w2.heap.size w2 wr)) (fun _ i _ => l.length - (intOf i).toNat)
  case atStart => exact ⟨0, rfl, rfl, Nat.zero_le _, Lib.hid (bw_refl w2)⟩
  case round =>
    obtain ⟨j, rfl, rfl, hj, HBr⟩ := hrel
    have HWr : Hid (Below w.heap.size w wr) := Lib.hid (bw_then HBW.out HBr.out)
    by_cases hlt : j < l.length
    · have i0 : (j : Int) < (l.length : Int) := by omega
      have j0 : (0 : Int) ≤ (j : Int) := by omega
      have hpk := Kd.C_below HP.out HWr.out
      obtain ⟨pb', po, eA, hpb, pk0, pk1, pk2, pk3, pk4⟩ := rdP_at hpk j hlt
      subst eA
      have x0 : wr.cell? ⟨w.heap.size, 0, none⟩ = some (.int .i64 m.g.w) := (Box.below HBM.out HBr.out).get 0
      have x1 : wr.cell? ⟨w.heap.size, 1, none⟩ = some (.int .i64 m.g.h) := (Box.below HBM.out HBr.out).get 1
      have x2 : wr.cell? ⟨w.heap.size, 2, none⟩ = some (.slice A m.br.length c) := (Box.below HBM.out HBr.out).get 2
      have x3 : wr.cell? ⟨w.heap.size + 1, 0, none⟩ = some (.slice B pa.length d) := (Box.below HBC.out HBr.out).get 0
      have x4 : wr.cell? ⟨w.heap.size + 1, 1, none⟩ = some (.slice C pb.length k) := (Box.below HBC.out HBr.out).get 1
      have xl0 := (Box.below HBM.out HBr.out).lt
      have xl1 := (Box.below HBC.out HBr.out).lt
      obtain ⟨P, hP⟩ : ∃ P, rp l j = P := ⟨_, rfl⟩
      rw [hP] at pk0 pk1 pk2 pk3 pk4
      have HS : Hid (slowTo m pa pb l (j + 1) = max (slowTo m pa pb l j) (zeroLoad m pa pb P)) := Lib.hid (by rw [← hP]; rfl)
      have hzb := HZB.out P
      have hsb := HSB.out j
      obtain ⟨s, hs⟩ : ∃ s, slowTo m pa pb l j = s := ⟨_, rfl⟩
      rw [hs] at HS hsb
      rw [hs]
      clear hpk hP hs
      have hbr : Below wr.heap.size wr wr := bw_refl wr
      go_wp2_with (go_at_call 76; refine (impl_ZeroLoad m pa pb P A B C c d k _ (Kd.C_below HR.out (bw_alloc _ HWr.out)) hn (Kd.C_below HA.out (bw_alloc _ HWr.out)) hka (Kd.C_below HB.out (bw_alloc _ HWr.out)) hkb).mono ?_; rintro e w1 ⟨rfl, hb1⟩)
      go_roundw
      case rel => exact ⟨j + 1, by go_num, by rw [HS.out]; exact congrArg _ (by split <;> omega), by omega, Lib.hid (bw_then (bw_alloc _ HBr.out) hb1)⟩
      case measure => simp [intOf]; omega
    · obtain rfl : j = l.length := by omega
      have i0 : ¬ (l.length : Int) < (l.length : Int) := by omega
      have hsb := HSB.out l.length
      go_wp2
      go_ret
      exact ⟨ret_int (by rw [HE.out]), HWr.out⟩
set_option maxHeartbeats 16000000 in
set_option maxRecDepth 100000 in
theorem spec_NetNew (m : Mesh) (pa pb : List Int) (A1 A2 A3 : Option Addr) (c1 c2 c3 : Nat) (w : World) (hm : Kd.C (Kd.int .i64) w A1 m.br.length m.br) (hn : m.br.length ≤ 2097152) (ha : Kd.C (Kd.int .i64) w A2 pa.length pa) (ka : pa.length ≤ 2097152) (hb : Kd.C (Kd.int .i64) w A3 pb.length pb) (kb : pb.length ≤ 2097152) :
  Calls Tryz.prog 109 #[.agg #[.int .i64 m.g.w, .int .i64 m.g.h, .slice A1 m.br.length c1], .agg #[.slice A2 pa.length c2, .slice A3 pb.length c3]] w fun e w' => GotNV w w' (netNewN m pa pb) (.bool (classesOk m pa pb)) e ∧ Below w.heap.size w w' := by
 have HM := Lib.hid hm
 have HA := Lib.hid ha
 have HB := Lib.hid hb
 clear hm ha hb
 obtain ⟨wa, ewa⟩ : ∃ z, z = ((w.alloc (.cells #[.int .i64 m.g.w, .int .i64 m.g.h, .slice A1 m.br.length c1] 38)).alloc (.cells #[.slice A2 pa.length c2, .slice A3 pb.length c3] 41)).alloc (.cells #[.int .i64 0, .int .i64 0, .slice none 0 0, .slice none 0 0, .slice none 0 0, .slice none 0 0, .slice none 0 0, .slice none 0 0, .slice none 0 0, .slice none 0 0, .int .i64 0] 44) := ⟨_, rfl⟩
 have hwa : Below w.heap.size w wa := by rw [ewa]; exact bw_alloc _ (bw_alloc _ (bw_alloc _ (bw_refl w)))
 have HXM : Hid (Box wa w.heap.size #[.int .i64 m.g.w, .int .i64 m.g.h, .slice A1 m.br.length c1]) := Lib.hid (by rw [ewa]; exact ((Box.new w w.heap.size _ 38 rfl).alloc _).alloc _)
 have HXC : Hid (Box wa (w.heap.size + 1) #[.slice A2 pa.length c2, .slice A3 pb.length c3]) := Lib.hid (by rw [ewa]; exact (Box.new (w.alloc (.cells #[.int .i64 m.g.w, .int .i64 m.g.h, .slice A1 m.br.length c1] 38)) (w.heap.size + 1) _ 41 (by simp only [szs])).alloc _)
 have HZ : Hid (BN wa (w.heap.size + 2)) := Lib.hid (by rw [ewa]; have h := BT.new ((w.alloc (.cells #[.int .i64 m.g.w, .int .i64 m.g.h, .slice A1 m.br.length c1] 38)).alloc (.cells #[.slice A2 pa.length c2, .slice A3 pb.length c3] 41)) zeroN ZQ; simp only [szs] at h; exact h.bn)
 have zwa : wa.heap.size = w.heap.size + 3 := by rw [ewa]; simp only [szs]
 have g0 : (((w.alloc (.cells #[.int .i64 m.g.w, .int .i64 m.g.h, .slice A1 m.br.length c1] 38)).alloc (.cells #[.slice A2 pa.length c2, .slice A3 pb.length c3] 41)).alloc (.cells #[.int .i64 0, .int .i64 0, .slice none 0 0, .slice none 0 0, .slice none 0 0, .slice none 0 0, .slice none 0 0, .slice none 0 0, .slice none 0 0, .slice none 0 0, .int .i64 0] 44)).cell? ⟨w.heap.size, 0, none⟩ = some (.int .i64 m.g.w) := by rw [← ewa]; exact HXM.out.get 0
 have g1 : (((w.alloc (.cells #[.int .i64 m.g.w, .int .i64 m.g.h, .slice A1 m.br.length c1] 38)).alloc (.cells #[.slice A2 pa.length c2, .slice A3 pb.length c3] 41)).alloc (.cells #[.int .i64 0, .int .i64 0, .slice none 0 0, .slice none 0 0, .slice none 0 0, .slice none 0 0, .slice none 0 0, .slice none 0 0, .slice none 0 0, .slice none 0 0, .int .i64 0] 44)).cell? ⟨w.heap.size, 1, none⟩ = some (.int .i64 m.g.h) := by rw [← ewa]; exact HXM.out.get 1
 have g2 : (((w.alloc (.cells #[.int .i64 m.g.w, .int .i64 m.g.h, .slice A1 m.br.length c1] 38)).alloc (.cells #[.slice A2 pa.length c2, .slice A3 pb.length c3] 41)).alloc (.cells #[.int .i64 0, .int .i64 0, .slice none 0 0, .slice none 0 0, .slice none 0 0, .slice none 0 0, .slice none 0 0, .slice none 0 0, .slice none 0 0, .slice none 0 0, .int .i64 0] 44)).cell? ⟨w.heap.size, 2, none⟩ = some (.slice A1 m.br.length c1) := by rw [← ewa]; exact HXM.out.get 2
 have g3 : (((w.alloc (.cells #[.int .i64 m.g.w, .int .i64 m.g.h, .slice A1 m.br.length c1] 38)).alloc (.cells #[.slice A2 pa.length c2, .slice A3 pb.length c3] 41)).alloc (.cells #[.int .i64 0, .int .i64 0, .slice none 0 0, .slice none 0 0, .slice none 0 0, .slice none 0 0, .slice none 0 0, .slice none 0 0, .slice none 0 0, .slice none 0 0, .int .i64 0] 44)).cell? ⟨w.heap.size + 1, 0, none⟩ = some (.slice A2 pa.length c2) := by rw [← ewa]; exact HXC.out.get 0
 have g4x : (((w.alloc (.cells #[.int .i64 m.g.w, .int .i64 m.g.h, .slice A1 m.br.length c1] 38)).alloc (.cells #[.slice A2 pa.length c2, .slice A3 pb.length c3] 41)).alloc (.cells #[.int .i64 0, .int .i64 0, .slice none 0 0, .slice none 0 0, .slice none 0 0, .slice none 0 0, .slice none 0 0, .slice none 0 0, .slice none 0 0, .slice none 0 0, .int .i64 0] 44)).cell? ⟨w.heap.size + 1, 1, none⟩ = some (.slice A3 pb.length c3) := by rw [← ewa]; exact HXC.out.get 1
 go_enter Tryz.func109, Tryz.ntmps109
 go_wp2_with fail
 rw [← ewa]
 clear g0 g1 g2 g3 g4x ewa
 refine (spec_ClassesOk m pa pb A1 A2 A3 c1 c2 c3 _ (Kd.C_below HM.out hwa) hn (Kd.C_below HA.out hwa) ka (Kd.C_below HB.out hwa) kb).mono ?_
 rintro e w2 ⟨rfl, hb2⟩
 have HW2 : Hid (Below w.heap.size w w2) := Lib.hid (bw_then hwa hb2)
 have HXM2 := Lib.hid (HXM.out.below hb2)
 have HXC2 := Lib.hid (HXC.out.below hb2)
 have HZ2 := Lib.hid (HZ.out.below hb2)
 have zw2 := bw_size hb2
 clear hb2 hwa HXM HXC HZ
 cases hk : classesOk m pa pb
 ·have HE : Hid (netNewN m pa pb = zeroN) := Lib.hid (by unfold netNewN; rw [hk]; rfl)
  obtain ⟨⟨ry0, rv0⟩, ⟨ry1, rv1⟩, ⟨ry2, rv2⟩, ⟨ry3, rv3⟩, ⟨ry4, rv4⟩, ⟨ry5, rv5⟩, ⟨ry6, rv6⟩, ⟨ry7, rv7⟩, ⟨ry8, rv8⟩, ⟨ry9, rv9⟩, ⟨ry10, rv10⟩, rz0, rz1, rz2, rz3, rz4, rz5, rz6, rz7, rz8, rz9, rz10⟩ := allBN HZ2.out
  have zl := HZ2.out.lt
  go_wp2
  obtain ⟨W9, e9⟩ : ∃ z, z = putN w2 (w.heap.size + 2) zeroN ZQ := ⟨_, rfl⟩
  have HB9 : Hid (BT W9 (w.heap.size + 2) zeroN ZQ) := Lib.hid (by rw [e9]; exact putN_BT HZ2.out)
  have HL9 : Hid (Below w.heap.size w W9) := Lib.hid (by rw [e9]; exact below_put HW2.out (by omega))
  unfold putN at e9
  simp only [zeroN, ZQ, List.length_nil] at e9
  rw [← e9]
  clear e9
  exact bodyPost_ret (results_cell_row2 Tryz.results109 _ _ (w.heap.size + 2) 44 _ (0, 0) _ rfl HB9.out Tryz.underlying44 rfl (by kernel_rfl)) rfl (by rw [HE.out, hk]; exact ⟨⟨_, _, _, _, rfl, NX.zero _ _⟩, HL9.out⟩)
 ·have HE : Hid (netNewN m pa pb = newN m pa pb) := Lib.hid (by unfold netNewN; rw [hk]; rfl)
  have x0 : w2.cell? ⟨w.heap.size, 0, none⟩ = some (.int .i64 m.g.w) := HXM2.out.get 0
  have x1 : w2.cell? ⟨w.heap.size, 1, none⟩ = some (.int .i64 m.g.h) := HXM2.out.get 1
  have xl := HXM2.out.lt
  go_wp2_with fail
  refine (spec_NodeCount m.g _).mono ?_
  rintro e w3 ⟨rfl, hb3⟩
  have hcn := count_nat m.g
  have k16' := count_le m.g
  obtain ⟨K, hK⟩ : ∃ K : Nat, nodeCount m.g = (K : Int) := ⟨(nodeCount m.g).toNat, by omega⟩
  have HKN : Hid ((nodeCount m.g).toNat = K) := Lib.hid (by omega)
  have k16 : K ≤ 16 := by omega
  rw [hK]
  obtain ⟨K10, eK10⟩ : ∃ z, z = 10 * K := ⟨_, rfl⟩
  obtain ⟨K5, eK5⟩ : ∃ z, z = 5 * K := ⟨_, rfl⟩
  have HK10 := Lib.hid eK10
  have HK5 := Lib.hid eK5
  have hw10 : IntKind.i64.wrap (10 * (K : Int)) = (K10 : Int) := by rw [IntWalk.i64_in _ (by omega)]; omega
  have hw5 : IntKind.i64.wrap (5 * (K : Int)) = (K5 : Int) := by rw [IntWalk.i64_in _ (by omega)]; omega
  have MK10 : Hid (∀ W : World, (Instr.makeSlice 42 (.int .i64 (K10 : Int)) (.int .i64 (K10 : Int))).run Tryz.prog W = .ok (.slice (some ⟨W.heap.size, 0, none⟩) K10 K10) (W.alloc (.cells (madeCells #[.slice none 0 0] K10) 108))) := Lib.hid (fun W => run_make_row' 42 108 (.slice none 0 0) 24 Tryz.underlying42 info_B rfl .i64 .i64 K10 (by omega) (by omega) W)
  have MK1 : Hid (∀ W : World, (Instr.makeSlice 42 (.int .i64 (K : Int)) (.int .i64 (K : Int))).run Tryz.prog W = .ok (.slice (some ⟨W.heap.size, 0, none⟩) K K) (W.alloc (.cells (madeCells #[.slice none 0 0] K) 108))) := Lib.hid (fun W => run_make_row' 42 108 (.slice none 0 0) 24 Tryz.underlying42 info_B rfl .i64 .i64 K (by omega) (by omega) W)
  have MK5 : Hid (∀ W : World, (Instr.makeSlice 24 (.int .i64 (K5 : Int)) (.int .i64 (K5 : Int))).run Tryz.prog W = .ok (.slice (some ⟨W.heap.size, 0, none⟩) K5 K5) (W.alloc (.cells (madeCells #[.int .i64 0] K5) 3))) := Lib.hid (fun W => run_make_row' 24 3 (.int .i64 0) 8 Tryz.underlying24 info_int rfl .i64 .i64 K5 (by omega) (by omega) W)
  clear eK10 eK5 hK hcn k16' x0 x1 xl
  have HW3 : Hid (Below w.heap.size w w3) := Lib.hid (bw_then HW2.out hb3)
  have HXM3 := Lib.hid (HXM2.out.below hb3)
  have HXC3 := Lib.hid (HXC2.out.below hb3)
  have HZ3 := Lib.hid (HZ2.out.below hb3)
  have HM3 := Lib.hid (Kd.C_below HM.out HW3.out)
  have HA3 := Lib.hid (Kd.C_below HA.out HW3.out)
  have HB3 := Lib.hid (Kd.C_below HB.out HW3.out)
  have zw3 := bw_size hb3
  have l1 := HXM3.out.lt
  have l2 := HXC3.out.lt
  clear hb3 HXM2 HXC2 HZ2 HM HA HB HW2
  have k10 : K10 ≤ 160 := by have := HK10.out; omega
  go_wp2_with fail
  refine wp_region_tz w3.heap.size (fun i => if i = 6 then .cells (madeCells #[.slice none 0 0] K10) 108 else if i = 9 then .cells (madeCells #[.int .i64 0] K5) 3 else if i = 11 then .cells (madeCells #[.slice none 0 0] K) 108 else if i = 13 then .cells (madeCells #[.slice none 0 0] K) 108 else if i = 15 then .cells #[.int .i64 0, .int .i64 0, .slice none 0 0, .slice none 0 0, .slice none 0 0, .slice none 0 0, .slice none 0 0, .slice none 0 0, .slice none 0 0, .slice none 0 0, .int .i64 0] 44 else .cells #[] 0) (fun i g => if i = 6 then .slice (some ⟨g, 0, none⟩) K10 K10 else if i = 9 then .slice (some ⟨g, 0, none⟩) K5 K5 else if i = 11 then .slice (some ⟨g, 0, none⟩) K K else if i = 13 then .slice (some ⟨g, 0, none⟩) K K else if i = 15 then .pointer (some ⟨g, 0, none⟩) else undef) (fun W => Below w3.heap.size w3 W) 16 [(0, .quiet), (1, .chain), (2, .quiet), (3, .chain), (4, .quiet), (5, .quiet), (6, .lit), (7, .quiet), (8, .quiet), (9, .lit), (10, .quiet), (11, .lit), (12, .quiet), (13, .lit), (14, .quiet), (15, .lit)] (by kernel_rfl) (by kernel_rfl) (by kernel_rfl) (by kernel_rfl) (by kernel_rfl) (by kernel_rfl) (by kernel_rfl) (by kernel_rfl) (bw_drew (bw_refl _)) ⟨fun w o h => bw_alloc o h, fun w h => bw_size h⟩ (fun _ => True) trivial (fun _ _ _ _ _ => trivial) ?_
  refine wpTz_v (some 17) (.agg #[.int .i64 m.g.w, .int .i64 m.g.h, .slice A1 m.br.length c1]) rfl rfl (by rfl) (fun W hC => ?_) ?_
  ·have h0 : W.cell? ⟨w.heap.size, 0, none⟩ = some (.int .i64 m.g.w) := (Box.below HXM3.out hC).get 0
   have h1 : W.cell? ⟨w.heap.size, 1, none⟩ = some (.int .i64 m.g.h) := (Box.below HXM3.out hC).get 1
   have h2 : W.cell? ⟨w.heap.size, 2, none⟩ = some (.slice A1 m.br.length c1) := (Box.below HXM3.out hC).get 2
   clear hC
   go_simp
   try rfl
  try simp only [Act.put, nms]
  refine wpTz_d (some 18) rfl rfl (by rfl) (PX.mk0 none 0 0 0) (fun y => .agg #[.int .i64 m.g.w, .int .i64 m.g.h, .slice y.A m.br.length y.c]) (fun y W => gI w3.heap.size y m.br W) (fun y => (y.lo, y.hi)) (fun W hF hC => ?_) (fun y W W' h hb => h.stp ⟨hb⟩) (fun y1 => ?_)
  ·refine LoOp.enter (by go_simp; first | done | exact ⟨rfl, rfl⟩ | rfl) ?_
   refine (spec_l15Mesh m A1 c1 W (Kd.C_below HM3.out hC) hn).mono ?_
   rintro e W1 ⟨hg1, hb1⟩
   obtain ⟨v, rfl, hO⟩ := hg1
   obtain ⟨A, c, rfl⟩ := Kd.R_slice hO
   exact ⟨_, rfl, PX.mk0 A c W.heap.size W1.heap.size, rfl, bw_then hC hb1, ⟨bw_size hC, bw_size hb1, Nat.le_refl _, RU.of hO (Nat.le_refl _) (Nat.le_refl _)⟩, hb1, Nat.le_refl _, Nat.le_refl _⟩
  obtain ⟨AM, cM, AM2, cM2, vsM, lM, hM⟩ := y1
  dsimp only
  try simp only [Act.put, nms]
  refine wpTz_v (some 19) (.agg #[.slice A2 pa.length c2, .slice A3 pb.length c3]) rfl rfl (by rfl) (fun W hC => ?_) ?_
  ·have h0 : W.cell? ⟨w.heap.size + 1, 0, none⟩ = some (.slice A2 pa.length c2) := (Box.below HXC3.out hC).get 0
   have h1 : W.cell? ⟨w.heap.size + 1, 1, none⟩ = some (.slice A3 pb.length c3) := (Box.below HXC3.out hC).get 1
   clear hC
   go_simp
   try rfl
  try simp only [Act.put, nms]
  refine wpTz_d (some 20) rfl rfl (by rfl) (PX.mk0 none 0 0 0) (fun y => .agg #[.slice y.A pa.length y.c, .slice y.A2 pb.length y.c2]) (fun y W => RawC w3.heap.size ⟨AM, cM, AM2, cM2, vsM, lM, hM⟩ y m pa pb W) (fun y => (y.lo, y.hi)) (fun W hF hC => ?_) (fun y W W' h hb => h.below hb) (fun y2 => ?_)
  ·refine LoOp.enter (by go_simp; first | done | exact ⟨rfl, rfl⟩ | rfl) ?_
   refine (spec_l15Classes pa pb A2 A3 c2 c3 W (Kd.C_below HA3.out hC) ka (Kd.C_below HB3.out hC) kb).mono ?_
   rintro e W1 ⟨hg1, hb1⟩
   obtain ⟨va, vb, rfl, hO1, hO2, hap⟩ := hg1
   obtain ⟨Aa, ca, rfl⟩ := Kd.R_slice hO1
   obtain ⟨Ab, cb, rfl⟩ := Kd.R_slice hO2
   exact ⟨_, rfl, ⟨Aa, ca, Ab, cb, [], W.heap.size, W1.heap.size⟩, rfl, bw_then hC hb1, ⟨hF.stp ⟨hb1⟩, hF.2.2.1, bw_size hb1, Nat.le_refl _, RU.of hO1 (Nat.le_refl _) (Nat.le_refl _), RU.of hO2 (Nat.le_refl _) (Nat.le_refl _), hap⟩, hb1, Nat.le_refl _, Nat.le_refl _⟩
  obtain ⟨AA, cA, AB, cB, vsC, lC, hCC⟩ := y2
  dsimp only
  try simp only [Act.put, nms]
  refine wpTz_v (some 21) (.int .i64 (K : Int)) rfl rfl (by rfl) (fun W hC => ?_) ?_
  ·clear hC
   go_simp
   try rfl
  try simp only [Act.put, nms]
  refine wpTz_v (some 22) (.int .i64 (K10 : Int)) rfl rfl (by rfl) (fun W hC => ?_) ?_
  ·clear hC
   go_simp
   try rfl
  try simp only [Act.put, nms]
  refine wpTz_l (some 23) rfl rfl (by rfl) (fun W => ?_) (fun g4 => ?_)
  ·have hk := MK10.out W
   go_simp
   try rfl
  try simp only [Act.put, nms]
  refine wpTz_v (some 24) (.int .i64 (K : Int)) rfl rfl (by rfl) (fun W hC => ?_) ?_
  ·clear hC
   go_simp
   try rfl
  try simp only [Act.put, nms]
  refine wpTz_v (some 25) (.int .i64 (K5 : Int)) rfl rfl (by rfl) (fun W hC => ?_) ?_
  ·clear hC
   go_simp
   try rfl
  try simp only [Act.put, nms]
  refine wpTz_l (some 26) rfl rfl (by rfl) (fun W => ?_) (fun g6 => ?_)
  ·have hk := MK5.out W
   go_simp
   try rfl
  try simp only [Act.put, nms]
  refine wpTz_v (some 27) (.int .i64 (K : Int)) rfl rfl (by rfl) (fun W hC => ?_) ?_
  ·clear hC
   go_simp
   try rfl
  try simp only [Act.put, nms]
  refine wpTz_l (some 28) rfl rfl (by rfl) (fun W => ?_) (fun g7 => ?_)
  ·have hk := MK1.out W
   go_simp
   try rfl
  try simp only [Act.put, nms]
  refine wpTz_v (some 29) (.int .i64 (K : Int)) rfl rfl (by rfl) (fun W hC => ?_) ?_
  ·clear hC
   go_simp
   try rfl
  try simp only [Act.put, nms]
  refine wpTz_l (some 30) rfl rfl (by rfl) (fun W => ?_) (fun g8 => ?_)
  ·have hk := MK1.out W
   go_simp
   try rfl
  try simp only [Act.put, nms]
  refine wpTz_v (some 31) (.agg #[.int .i64 m.g.w, .int .i64 m.g.h, .slice AM m.br.length cM, .slice AA pa.length cA, .slice AB pb.length cB, .slice (some ⟨g4, 0, none⟩) K10 K10, .slice none 0 0, .slice (some ⟨g6, 0, none⟩) K5 K5, .slice (some ⟨g7, 0, none⟩) K K, .slice (some ⟨g8, 0, none⟩) K K, .int .i64 0]) rfl rfl (by rfl) (fun W hC => ?_) ?_
  ·clear hC
   go_simp
   try rfl
  try simp only [Act.put, nms]
  refine wpTz_l (some 7) rfl rfl (by rfl) (fun W => ?_) (fun gb => ?_)
  ·go_simp
   try rfl
  try simp only [Act.put, nms]
  refine wpTz_z (fun w8 hF hC => ?_)
  obtain ⟨⟨⟨⟨⟨hR, b4, h4, i4⟩, b6, h6, i6⟩, b7, h7, i7⟩, b8, h8, i8⟩, bb, hb, ib⟩ := hF
  have hbn : BN w8 gb := ⟨_, hb, rfl⟩
  obtain ⟨⟨ry0, rv0⟩, ⟨ry1, rv1⟩, ⟨ry2, rv2⟩, ⟨ry3, rv3⟩, ⟨ry4, rv4⟩, ⟨ry5, rv5⟩, ⟨ry6, rv6⟩, ⟨ry7, rv7⟩, ⟨ry8, rv8⟩, ⟨ry9, rv9⟩, ⟨ry10, rv10⟩, rz0, rz1, rz2, rz3, rz4, rz5, rz6, rz7, rz8, rz9, rz10⟩ := allBN hbn
  have hbl := hbn.lt
  refine ⟨_, rfl, by rfl, ?_⟩
  go_simp
  obtain ⟨W9, e9⟩ : ∃ z, z = putN w8 gb { newN m pa pb with owners := [] } ⟨AM, AA, AB, some ⟨g4, 0, none⟩, none, some ⟨g6, 0, none⟩, some ⟨g7, 0, none⟩, some ⟨g8, 0, none⟩, cM, cA, cB, 10 * (nodeCount m.g).toNat, 0, 5 * (nodeCount m.g).toNat, (nodeCount m.g).toNat, (nodeCount m.g).toNat⟩ := ⟨_, rfl⟩
  have HB9 : Hid (BT W9 gb { newN m pa pb with owners := [] } ⟨AM, AA, AB, some ⟨g4, 0, none⟩, none, some ⟨g6, 0, none⟩, some ⟨g7, 0, none⟩, some ⟨g8, 0, none⟩, cM, cA, cB, 10 * (nodeCount m.g).toNat, 0, 5 * (nodeCount m.g).toNat, (nodeCount m.g).toNat, (nodeCount m.g).toNat⟩) := Lib.hid (by rw [e9]; exact putN_BT hbn)
  have HL9 : Hid (Below w3.heap.size w3 W9) := Lib.hid (by rw [e9]; exact below_put hC bb)
  have j4 := i4; have j6 := i6; have j7 := i7; have j8 := i8; have jb := ib
  simp only [List.forall_mem_cons, List.not_mem_nil, false_implies, implies_true, and_true] at j4 j6 j7 j8 jb
  rw [show K10 = 10 * (nodeCount m.g).toNat by rw [HKN.out]; exact HK10.out] at h4
  rw [show K5 = 5 * (nodeCount m.g).toNat by rw [HKN.out]; exact HK5.out] at h6
  rw [show K = (nodeCount m.g).toNat from HKN.out.symm] at h7 h8
  have hNX := NX.raw hR (by rw [HKN.out]; exact k16) h4 h6 h7 h8 b4 b6 b7 b8 (by omega) (by omega) (by omega) (by dsimp only; omega) (by dsimp only; omega)
  have HN9 : Hid (NX W9 w3.heap.size { newN m pa pb with owners := [] } ⟨AM, AA, AB, some ⟨g4, 0, none⟩, none, some ⟨g6, 0, none⟩, some ⟨g7, 0, none⟩, some ⟨g8, 0, none⟩, cM, cA, cB, 10 * (nodeCount m.g).toNat, 0, 5 * (nodeCount m.g).toNat, (nodeCount m.g).toNat, (nodeCount m.g).toNat⟩ (List.replicate (10 * (nodeCount m.g).toNat) (.slice none 0 0)) (List.replicate (nodeCount m.g).toNat (.slice none 0 0)) (List.replicate (nodeCount m.g).toNat (.slice none 0 0))) := Lib.hid (by rw [e9]; exact hNX.put hbn)
  unfold putN at e9
  simp only [newN, List.length_replicate, List.length_nil, HKN.out, HK10.out.symm, HK5.out.symm] at e9
  rw [← e9]
  have HGB := Lib.hid bb
  clear e9 hC hR hb h4 h6 h7 h8 hNX hbn i4 i6 i7 i8 ib
  go_wp2_with fail
  go_loopw [8] (fun i wr => ∃ (k : Nat) (A : Option Addr) (c : Nat), i = .int .i64 k ∧ k ≤ K10 ∧ Hid (NX wr w3.heap.size { newN m pa pb with owners := List.replicate k (-1) } ⟨AM, AA, AB, some ⟨g4, 0, none⟩, A, some ⟨g6, 0, none⟩, some ⟨g7, 0, none⟩, some ⟨g8, 0, none⟩, cM, cA, cB, 10 * (nodeCount m.g).toNat, c, 5 * (nodeCount m.g).toNat, (nodeCount m.g).toNat, (nodeCount m.g).toNat⟩ (List.replicate (10 * (nodeCount m.g).toNat) (.slice none 0 0)) (List.replicate (nodeCount m.g).toNat (.slice none 0 0)) (List.replicate (nodeCount m.g).toNat (.slice none 0 0))) ∧ Hid (OApart { newN m pa pb with owners := List.replicate k (-1) } ⟨AM, AA, AB, some ⟨g4, 0, none⟩, A, some ⟨g6, 0, none⟩, some ⟨g7, 0, none⟩, some ⟨g8, 0, none⟩, cM, cA, cB, 10 * (nodeCount m.g).toNat, c, 5 * (nodeCount m.g).toNat, (nodeCount m.g).toNat, (nodeCount m.g).toNat⟩) ∧ Hid (BT wr gb { newN m pa pb with owners := List.replicate k (-1) } ⟨AM, AA, AB, some ⟨g4, 0, none⟩, A, some ⟨g6, 0, none⟩, some ⟨g7, 0, none⟩, some ⟨g8, 0, none⟩, cM, cA, cB, 10 * (nodeCount m.g).toNat, c, 5 * (nodeCount m.g).toNat, (nodeCount m.g).toNat, (nodeCount m.g).toNat⟩) ∧ Hid (Below w3.heap.size w3 wr)) (fun i _ => K10 - (intOf i).toNat)
  case atStart => exact ⟨0, none, 0, rfl, Nat.zero_le _, Lib.hid HN9.out, Lib.hid (OApart.raw _ _ rfl), Lib.hid HB9.out, Lib.hid HL9.out⟩
  case round =>
   obtain ⟨k, A, c, rfl, hk, HNk, HAk, HBk, HLk⟩ := hrel
   have xb := HBk.out.lt
   by_cases hlt : k < K10
   ·have i0 : (k : Int) < (K10 : Int) := by omega
    have k0 : (0 : Int) ≤ (k : Int) := by omega
    have HO : Hid (Kd.R (Kd.int .i64) 3 wr w3.heap.size (fun _ => True) (.slice A k c) (List.replicate k (-1))) := Lib.hid (by have h := HNk.out.owners; simp only [List.length_replicate] at h; exact h)
    have y6 : wr.cell? ⟨gb, 6, none⟩ = some (.slice A k c) := by
     have h : wr.cell? ⟨gb, 6, none⟩ = some (.slice A (List.replicate k (-1 : Int)).length c) := HBk.out.box.get 6
     rwa [List.length_replicate] at h
    have hz3 := bw_size HLk.out
    go_wp2_with (at_builtin; refine app_intN (B := w3.heap.size) rfl (.tmp 39) (.tmp 40) rfl _ (List.replicate k (-1)) (-1) rfl rfl HO.out hz3 (by simp only [List.length_replicate]; omega) ?_; intro v1 w1 HO1 hg1 ha1; obtain ⟨A1x, c1x, rfl⟩ := Kd.R_slice HO1; have e1 : List.replicate k (-1 : Int) ++ [-1] = List.replicate (k + 1) (-1) := (List.replicate_succ' ..).symm; rw [e1] at HO1 ha1 ⊢; have hBg := HBk.out.grownI (v := .slice A k c) hg1 HO.out; have hst := ownStep HNk.out HAk.out HBk.out (by simp only [List.length_replicate]; exact hg1) HO1 (by simp only [List.length_replicate] at ha1 ⊢; exact ha1); obtain ⟨ry, rv⟩ := hBg.bn.get 6 (by omega); have rz := hBg.bn.frozen 6; have hl1 := hBg.lt; have HLg : Hid (Below w3.heap.size w3 w1) := Lib.hid (HLk.out.grown hg1 hz3 (fun j hj => Kd.R_base HO.out j hj)); have HST := Lib.hid hst; clear hst hBg HO1 ha1 hg1; rw [List.length_replicate])
    obtain ⟨W8, e8⟩ : ∃ z, z = w1.setCell ⟨gb, 6, none⟩ (.slice A1x (List.replicate (k + 1) (-1 : Int)).length c1x) := ⟨_, rfl⟩
    have HS8 := HST.out
    rw [← e8] at HS8
    have HL8 : Hid (Below w3.heap.size w3 W8) := Lib.hid (by rw [e8]; exact bw_set0 HLg.out HGB.out 6 _)
    rw [List.length_replicate] at e8
    try rw [← e8]
    go_roundw
    case rel => exact ⟨k + 1, A1x, c1x, by go_num, by omega, Lib.hid HS8.1, Lib.hid HS8.2.1, Lib.hid HS8.2.2, Lib.hid HL8.out⟩
    case measure => simp [intOf]; omega
   ·obtain rfl : k = K10 := by omega
    have i0 : ¬ (k : Int) < (k : Int) := by omega
    have HZk : Hid (BN wr (w.heap.size + 2)) := Lib.hid (HZ3.out.low HLk.out (by omega))
    have hKK := HK10.out
    obtain ⟨NN, hNN⟩ : ∃ z, z = newN m pa pb := ⟨_, rfl⟩
    have eNN : ({ newN m pa pb with owners := List.replicate k (-1) } : Net) = NN := by rw [hNN, hKK, ← HKN.out]; rfl
    rw [eNN] at HNk HBk
    have HNL : Hid (NN.mesh = m ∧ NN.pa = pa ∧ NN.pb = pb ∧ NN.bufs.length = k ∧ NN.owners.length = k ∧ NN.turns.length = K5 ∧ NN.srcs.length = K ∧ NN.arrs.length = K ∧ NN.time = 0) := Lib.hid (by
     have e5 := HK5.out
     have e1 := HKN.out
     subst hNN
     simp only [newN, List.length_replicate, e1]
     exact ⟨trivial, trivial, trivial, by omega, by omega, by omega, trivial, trivial, trivial⟩)
    have HNN := Lib.hid hNN
    clear hNN
    have box11 : Box wr gb #[.int .i64 NN.mesh.g.w, .int .i64 NN.mesh.g.h, .slice AM NN.mesh.br.length cM, .slice AA NN.pa.length cA, .slice AB NN.pb.length cB, .slice (some ⟨g4, 0, none⟩) NN.bufs.length (10 * (nodeCount m.g).toNat), .slice A NN.owners.length c, .slice (some ⟨g6, 0, none⟩) NN.turns.length (5 * (nodeCount m.g).toNat), .slice (some ⟨g7, 0, none⟩) NN.srcs.length (nodeCount m.g).toNat, .slice (some ⟨g8, 0, none⟩) NN.arrs.length (nodeCount m.g).toNat, .int .i64 NN.time] := HBk.out.box
    obtain ⟨yb0, yb1, yb2, yb3, yb4, yb5, yb6, yb7, yb8, yb9, yb10⟩ := all11 box11
    clear box11
    obtain ⟨⟨rq0, ru0⟩, ⟨rq1, ru1⟩, ⟨rq2, ru2⟩, ⟨rq3, ru3⟩, ⟨rq4, ru4⟩, ⟨rq5, ru5⟩, ⟨rq6, ru6⟩, ⟨rq7, ru7⟩, ⟨rq8, ru8⟩, ⟨rq9, ru9⟩, ⟨rq10, ru10⟩, rt0, rt1, rt2, rt3, rt4, rt5, rt6, rt7, rt8, rt9, rt10⟩ := allBN HZk.out
    have zl := HZk.out.lt
    go_wp2
    obtain ⟨W9, e9⟩ : ∃ z, z = putN wr (w.heap.size + 2) NN ⟨AM, AA, AB, some ⟨g4, 0, none⟩, A, some ⟨g6, 0, none⟩, some ⟨g7, 0, none⟩, some ⟨g8, 0, none⟩, cM, cA, cB, 10 * (nodeCount m.g).toNat, c, 5 * (nodeCount m.g).toNat, (nodeCount m.g).toNat, (nodeCount m.g).toNat⟩ := ⟨_, rfl⟩
    have HBz : Hid (BT W9 (w.heap.size + 2) NN ⟨AM, AA, AB, some ⟨g4, 0, none⟩, A, some ⟨g6, 0, none⟩, some ⟨g7, 0, none⟩, some ⟨g8, 0, none⟩, cM, cA, cB, 10 * (nodeCount m.g).toNat, c, 5 * (nodeCount m.g).toNat, (nodeCount m.g).toNat, (nodeCount m.g).toNat⟩) := Lib.hid (by rw [e9]; exact putN_BT HZk.out)
    have HNz := Lib.hid (show NX W9 _ NN ⟨AM, AA, AB, some ⟨g4, 0, none⟩, A, some ⟨g6, 0, none⟩, some ⟨g7, 0, none⟩, some ⟨g8, 0, none⟩, cM, cA, cB, 10 * (nodeCount m.g).toNat, c, 5 * (nodeCount m.g).toNat, (nodeCount m.g).toNat, (nodeCount m.g).toNat⟩ (List.replicate (10 * (nodeCount m.g).toNat) (.slice none 0 0)) (List.replicate (nodeCount m.g).toNat (.slice none 0 0)) (List.replicate (nodeCount m.g).toNat (.slice none 0 0)) from by rw [e9]; exact HNk.out.put HZk.out)
    have HLz : Hid (Below w.heap.size w W9) := Lib.hid (by rw [e9]; exact below_put (bw_trans HW3.out HLk.out (by omega)) (by omega))
    unfold putN at e9
    try dsimp only at e9
    rw [← e9]
    clear e9
    exact bodyPost_ret (results_cell_row2 Tryz.results109 _ _ (w.heap.size + 2) 44 _ (0, 0) _ rfl HBz.out Tryz.underlying44 rfl (by kernel_rfl)) rfl (by rw [HE.out, ← HNN.out]; exact ⟨⟨_, _, _, _, rfl, HNz.out.lower (by omega)⟩, HLz.out⟩)
end Go.Proofs.YtmkbmddgkdoaiaaGreat
