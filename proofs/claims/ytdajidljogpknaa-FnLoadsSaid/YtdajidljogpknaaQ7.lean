/- Lemmas for laws of this seat, for all inputs: Load LoadsA LoadsB LoadsC LoadsD Hot Open OpenP OpenY. -/
import Derived.Test.YtdajidljogpknaaQ4
import Derived.Test.YtdajidljogpknaaQ1
import Derived.Test.YtdajidljogpknaaQ2
import Derived.BigRegion
import Derived.RegionTactic
import Derived.ProofKit
import Derived.OpenShut
import Derived.SizedLaws
import Derived.WideShapes
import Derived.ChangeSame
set_option linter.unusedVariables false
set_option linter.unusedSimpArgs false
namespace Go.Proofs.Ytdajidljogpknaa
open Go.RowKit Go.Proofs.YtdajidljogpknaaW.PrintWords
open NoC
theorem impl_PacketOk (g : Grid) (p : Packet) (w : World) : Calls Try.prog 40 #[.agg #[.int .i64 g.w, .int .i64 g.h], .agg #[.int .i64 p.id, .int .i64 p.src, .int .i64 p.dst, .int .i64 p.cls, .int .i64 p.len]] w fun e w' => e = .returned (.bool (packetOk g p)) ∧ Below w.heap.size w w' := by
  go_enter Try.func40, Try.ntmps40
  cases h1 : inside p.id 1 9999
  · go_wp2_with (first | (go_at_call 28; refine (impl_inside _ _ _ _).mono ?_; rintro e w' ⟨rfl, rfl⟩) | (go_at_call 46; refine (impl_isNode g _ _).mono ?_; rintro e w1 ⟨rfl, hb1⟩; obtain ⟨hc1, hf1, hz1⟩ := bcell hb1; (try simp only [szs] at hz1); have hb2 := far2; obtain ⟨hc2, hf2, hz2⟩ := bcell hb2; (try simp only [szs] at hz2); try (first | obtain ⟨hy1, hy2, hy3, hy4⟩ := lts4 hz2 | obtain ⟨hy1, hy2, hy3⟩ := lts3 hz2 | obtain ⟨hy1, hy2⟩ := lts2 hz2 | have hy1 := lts1 hz2); have hb9 := hb1))
    go_ret
    exact ⟨ret_bool (by simp [packetOk, h1]), bel⟩
  cases h2 : isNode g p.src
  · go_wp2_with (first | (go_at_call 28; refine (impl_inside _ _ _ _).mono ?_; rintro e w' ⟨rfl, rfl⟩) | (go_at_call 46; refine (impl_isNode g _ _).mono ?_; rintro e w1 ⟨rfl, hb1⟩; obtain ⟨hc1, hf1, hz1⟩ := bcell hb1; (try simp only [szs] at hz1); have hb2 := far2; obtain ⟨hc2, hf2, hz2⟩ := bcell hb2; (try simp only [szs] at hz2); try (first | obtain ⟨hy1, hy2, hy3, hy4⟩ := lts4 hz2 | obtain ⟨hy1, hy2, hy3⟩ := lts3 hz2 | obtain ⟨hy1, hy2⟩ := lts2 hz2 | have hy1 := lts1 hz2); have hb9 := hb1))
    go_ret
    exact ⟨ret_bool (by simp [packetOk, h2]), bel⟩
  cases h3 : isNode g p.dst
  · go_wp2_with (first | (go_at_call 28; refine (impl_inside _ _ _ _).mono ?_; rintro e w' ⟨rfl, rfl⟩) | (go_at_call 46; refine (impl_isNode g _ _).mono ?_; rintro e w1 ⟨rfl, hb1⟩; obtain ⟨hc1, hf1, hz1⟩ := bcell hb1; (try simp only [szs] at hz1); have hb2 := far2; obtain ⟨hc2, hf2, hz2⟩ := bcell hb2; (try simp only [szs] at hz2); try (first | obtain ⟨hy1, hy2, hy3, hy4⟩ := lts4 hz2 | obtain ⟨hy1, hy2, hy3⟩ := lts3 hz2 | obtain ⟨hy1, hy2⟩ := lts2 hz2 | have hy1 := lts1 hz2); have hb9 := hb1))
    go_ret
    exact ⟨ret_bool (by simp [packetOk, h3]), bel⟩
  by_cases h4 : p.src = p.dst
  · have e4 : (p.src != p.dst) = false := bne_eq_false_iff_eq.2 h4
    have H4 := Lib.hid h4
    clear h4
    go_wp2_with (first | (go_at_call 28; refine (impl_inside _ _ _ _).mono ?_; rintro e w' ⟨rfl, rfl⟩) | (go_at_call 46; refine (impl_isNode g _ _).mono ?_; rintro e w1 ⟨rfl, hb1⟩; obtain ⟨hc1, hf1, hz1⟩ := bcell hb1; (try simp only [szs] at hz1); have hb2 := far2; obtain ⟨hc2, hf2, hz2⟩ := bcell hb2; (try simp only [szs] at hz2); try (first | obtain ⟨hy1, hy2, hy3, hy4⟩ := lts4 hz2 | obtain ⟨hy1, hy2, hy3⟩ := lts3 hz2 | obtain ⟨hy1, hy2⟩ := lts2 hz2 | have hy1 := lts1 hz2); have hb9 := hb1))
    go_ret
    exact ⟨ret_bool (by simp [packetOk, H4.out]), bel⟩
  have e4 : (p.src != p.dst) = true := bne_iff_ne.2 h4
  have H4 := Lib.hid h4
  clear h4
  cases h5 : inside p.cls 0 1
  · go_wp2_with (first | (go_at_call 28; refine (impl_inside _ _ _ _).mono ?_; rintro e w' ⟨rfl, rfl⟩) | (go_at_call 46; refine (impl_isNode g _ _).mono ?_; rintro e w1 ⟨rfl, hb1⟩; obtain ⟨hc1, hf1, hz1⟩ := bcell hb1; (try simp only [szs] at hz1); have hb2 := far2; obtain ⟨hc2, hf2, hz2⟩ := bcell hb2; (try simp only [szs] at hz2); try (first | obtain ⟨hy1, hy2, hy3, hy4⟩ := lts4 hz2 | obtain ⟨hy1, hy2, hy3⟩ := lts3 hz2 | obtain ⟨hy1, hy2⟩ := lts2 hz2 | have hy1 := lts1 hz2); have hb9 := hb1))
    go_ret
    exact ⟨ret_bool (by simp [packetOk, h5]), bel⟩
  · go_wp2_with (first | (go_at_call 28; refine (impl_inside _ _ _ _).mono ?_; rintro e w' ⟨rfl, rfl⟩) | (go_at_call 46; refine (impl_isNode g _ _).mono ?_; rintro e w1 ⟨rfl, hb1⟩; obtain ⟨hc1, hf1, hz1⟩ := bcell hb1; (try simp only [szs] at hz1); have hb2 := far2; obtain ⟨hc2, hf2, hz2⟩ := bcell hb2; (try simp only [szs] at hz2); try (first | obtain ⟨hy1, hy2, hy3, hy4⟩ := lts4 hz2 | obtain ⟨hy1, hy2, hy3⟩ := lts3 hz2 | obtain ⟨hy1, hy2⟩ := lts2 hz2 | have hy1 := lts1 hz2); have hb9 := hb1))
    go_ret
    exact ⟨ret_bool (by simp [packetOk, h1, h2, h3, H4.out, h5]), bel⟩

theorem impl_ClassesOk (m : Mesh) (pa pb : List Int) (A B C : Option Addr) (c d k : Nat) (w : World) (hr : Kd.C (Kd.int .i64) w A m.br.length m.br) (hn : m.br.length ≤ 2097152) (ha : Kd.C (Kd.int .i64) w B pa.length pa) (hka : pa.length ≤ 2097152) (hb : Kd.C (Kd.int .i64) w C pb.length pb) (hkb : pb.length ≤ 2097152) :
    Calls Try.prog 37 #[.agg #[.int .i64 m.g.w, .int .i64 m.g.h, .slice A m.br.length c], .agg #[.slice B pa.length d, .slice C pb.length k]] w fun e w' => e = .returned (.bool (classesOk m pa pb)) ∧ Below w.heap.size w w' := by
  go_enter Try.func37, Try.ntmps37
  cases h1 : tableOk m pa
  · go_wp2_with (first | (go_at_call 56; refine (impl_TableOk m pa A B _ _ _ (by exact Kd.C_below hr bel) hn (by exact Kd.C_below ha bel) hka).mono ?_; rintro e w1 ⟨rfl, hb1⟩; obtain ⟨hc1, hf1, hz1⟩ := bcell hb1; (try simp only [szs] at hz1); have hb2 := far2; obtain ⟨hc2, hf2, hz2⟩ := bcell hb2; (try simp only [szs] at hz2); try (first | obtain ⟨hy1, hy2, hy3, hy4⟩ := lts4 hz2 | obtain ⟨hy1, hy2, hy3⟩ := lts3 hz2 | obtain ⟨hy1, hy2⟩ := lts2 hz2 | have hy1 := lts1 hz2); have hb9 := hb1))
    go_ret
    exact ⟨ret_bool (by simp [classesOk, h1]), bel⟩
  · go_wp2_with (first | (go_at_call_of 56 pa; refine (impl_TableOk m pa A B _ _ _ (by exact Kd.C_below hr bel) hn (by exact Kd.C_below ha bel) hka).mono ?_; rintro e w1 ⟨rfl, hb1⟩; obtain ⟨hc1, hf1, hz1⟩ := bcell hb1; (try simp only [szs] at hz1); have hb2 := far2; obtain ⟨hc2, hf2, hz2⟩ := bcell hb2; (try simp only [szs] at hz2); try (first | obtain ⟨hy1, hy2, hy3, hy4⟩ := lts4 hz2 | obtain ⟨hy1, hy2, hy3⟩ := lts3 hz2 | obtain ⟨hy1, hy2⟩ := lts2 hz2 | have hy1 := lts1 hz2); have hb9 := hb1) | (go_at_call_of 56 pb; refine (impl_TableOk m pb A C _ _ _ (by exact Kd.C_below hr bel) hn (by exact Kd.C_below hb bel) hkb).mono ?_; rintro e w1 ⟨rfl, hb1⟩; obtain ⟨hc1, hf1, hz1⟩ := bcell hb1; (try simp only [szs] at hz1); have hb2 := far2; obtain ⟨hc2, hf2, hz2⟩ := bcell hb2; (try simp only [szs] at hz2); try (first | obtain ⟨hy1, hy2, hy3, hy4⟩ := lts4 hz2 | obtain ⟨hy1, hy2, hy3⟩ := lts3 hz2 | obtain ⟨hy1, hy2⟩ := lts2 hz2 | have hy1 := lts1 hz2); have hb9 := hb1))
    go_ret
    exact ⟨ret_bool (by simp [classesOk, h1]), bel⟩
theorem impl_tableFor_b (pa pb : List Int) (B C : Option Addr) (d k : Nat) (cl : Int) (hc : (cl == 1) = true) (w : World) :
    Calls Try.prog 42 #[.agg #[.slice B pa.length d, .slice C pb.length k], .int .i64 cl] w fun e w' => e = .returned (.agg #[.slice C pb.length k]) ∧ Below w.heap.size w w' := by
  go_enter Try.func42, Try.ntmps42
  go_wp2
  exact bodyPost_ret (v := .agg #[.slice C pb.length k]) (by simp [results, Try.results42, go_sem]) rfl ⟨rfl, bel⟩
theorem impl_tableFor_a (pa pb : List Int) (B C : Option Addr) (d k : Nat) (cl : Int) (hc : (cl == 1) = false) (w : World) :
    Calls Try.prog 42 #[.agg #[.slice B pa.length d, .slice C pb.length k], .int .i64 cl] w fun e w' => e = .returned (.agg #[.slice B pa.length d]) ∧ Below w.heap.size w w' := by
  go_enter Try.func42, Try.ntmps42
  go_wp2
  exact bodyPost_ret (v := .agg #[.slice B pa.length d]) (by simp [results, Try.results42, go_sem]) rfl ⟨rfl, bel⟩

def badIdx (g : Grid) (l : List Packet) : Int := if l.all (packetOk g) then -1 else ((l.findIdx (fun p => !packetOk g p) : Nat) : Int)
theorem badIdx_yes {g : Grid} {l : List Packet} (j : Nat) (hj : j < l.length) (h : packetOk g (rp l j) = false) (hb : ∀ x : Nat, x < j → packetOk g (rp l x) = true) : badIdx g l = j := by
  unfold badIdx
  rw [all_no j hj h]
  have : l.findIdx (fun p => !packetOk g p) = j := by
    rw [List.findIdx_eq hj]
    rw [rp_get l j hj] at h
    refine ⟨by simp [h], fun i hi => ?_⟩
    have := hb i hi
    rw [rp_get l i (by omega)] at this
    simp [this]
  simp [this]
theorem badIdx_no {g : Grid} {l : List Packet} (h : ∀ x : Nat, x < l.length → packetOk g (rp l x) = true) : badIdx g l = -1 := by
  unfold badIdx
  rw [all_yes h]
  rfl
theorem badIdx_ge (g : Grid) (l : List Packet) : decide (0 ≤ badIdx g l) = !(l.all (packetOk g)) := by
  unfold badIdx
  cases h : l.all (packetOk g)
  · simp
  · simp
theorem impl_arePackets_1 (m : Mesh) (q : Packet) (gm : Nat) (w : World) (h0 : w.cell? ⟨gm, 0, none⟩ = some (.int .i64 m.g.w)) (h1 : w.cell? ⟨gm, 1, none⟩ = some (.int .i64 m.g.h)) :
    Calls Try.prog 39 #[.agg #[.int .i64 q.id, .int .i64 q.src, .int .i64 q.dst, .int .i64 q.cls, .int .i64 q.len], .pointer (some ⟨gm, 0, none⟩)] w fun e w' => e = .returned (.bool (!packetOk m.g q)) ∧ Below w.heap.size w w' := by
  have g0 := World.block_lt_of_cell? w _ h0
  go_enter Try.func39, Try.ntmps39
  go_wp2_with (go_at_call 40; refine (impl_PacketOk m.g q _).mono ?_; rintro e w1 ⟨rfl, hb1⟩; obtain ⟨hc1, hf1, hz1⟩ := bcell hb1; (try simp only [szs] at hz1); have hb2 := far2; obtain ⟨hc2, hf2, hz2⟩ := bcell hb2; (try simp only [szs] at hz2); try (first | obtain ⟨hy1, hy2, hy3, hy4⟩ := lts4 hz2 | obtain ⟨hy1, hy2, hy3⟩ := lts3 hz2 | obtain ⟨hy1, hy2⟩ := lts2 hz2 | have hy1 := lts1 hz2); have hb9 := hb1)
  go_ret
  exact ⟨rfl, bel⟩
set_option maxHeartbeats 1000000 in
theorem slices_IndexFunc_P (m : Mesh) (l : List Packet) (D : Option Addr) (n gm : Nat) (w : World) (hp : kP.C w D l.length l) (hkl : l.length ≤ 2097152) (h0 : w.cell? ⟨gm, 0, none⟩ = some (.int .i64 m.g.w)) (h1 : w.cell? ⟨gm, 1, none⟩ = some (.int .i64 m.g.h)) :
    Calls Try.prog 57 #[.slice D l.length n, .func (.func 39) #[] #[.pointer (some ⟨gm, 0, none⟩)]] w fun e w' => e = .returned (.int .i64 (badIdx m.g l)) ∧ Below w.heap.size w w' := by
  have g0 := World.block_lt_of_cell? w _ h0
  have hcall : ∀ (q : Packet) (w' : World), Below w.heap.size w w' → Calls Try.prog 39 #[.agg #[.int .i64 q.id, .int .i64 q.src, .int .i64 q.dst, .int .i64 q.cls, .int .i64 q.len], .pointer (some ⟨gm, 0, none⟩)] w' fun e w'' => e = .returned (.bool (!packetOk m.g q)) ∧ Below w'.heap.size w' w'' := by
    intro q w' hb
    obtain ⟨hc, _, _⟩ := bcell hb
    exact impl_arePackets_1 m q gm w' ((hc _ _ g0).trans h0) ((hc _ _ g0).trans h1)
  have HCALL := Lib.hid hcall
  clear hcall h0 h1 g0
  go_enter Try.func57, Try.ntmps57
  go_wp2
  go_loopw [8] (fun i wr => ∃ j : Nat, i = .int .i64 j ∧ j ≤ l.length ∧ Hid (∀ x : Nat, x < j → packetOk m.g (rp l x) = true) ∧ Below w.heap.size w wr) (fun i _ => l.length - (intOf i).toNat)
  case atStart => exact ⟨0, rfl, Nat.zero_le _, Lib.hid fun x h => absurd h (Nat.not_lt_zero _), bel⟩
  case round =>
    obtain ⟨j, rfl, hj, HA, HB⟩ := hrel
    obtain ⟨hc0, hf0, hz0⟩ := bcell HB
    by_cases hlt : j < l.length
    · obtain ⟨b, off, rfl, hbl, p0, p1, p2, p3, p4⟩ := rdP_at hp j hlt
      cases hk : packetOk m.g (rp l j)
      · have HK := Lib.hid hk
        have e1 : (!packetOk m.g (rp l j)) = true := by rw [hk]; rfl
        have E1 := Lib.hid e1
        clear hk e1
        go_wp2_with (go_at_call 39; refine (HCALL.out (rp l j) _ (by exact bel)).mono ?_; rintro e w1 ⟨he, hb1⟩; rw [E1.out] at he; subst he; obtain ⟨hc1, hf1, hz1⟩ := bcell hb1; (try simp only [szs] at hz1); have hb2 := far2; obtain ⟨hc2, hf2, hz2⟩ := bcell hb2; (try simp only [szs] at hz2); try (first | obtain ⟨hy1, hy2, hy3, hy4⟩ := lts4 hz2 | obtain ⟨hy1, hy2, hy3⟩ := lts3 hz2 | obtain ⟨hy1, hy2⟩ := lts2 hz2 | have hy1 := lts1 hz2); have hb9 := hb1)
        go_ret
        exact ⟨ret_int (badIdx_yes j hlt HK.out HA.out).symm, bel⟩
      · have HK := Lib.hid hk
        have e1 : (!packetOk m.g (rp l j)) = false := by rw [hk]; rfl
        have E1 := Lib.hid e1
        clear hk e1
        go_wp2_with (go_at_call 39; refine (HCALL.out (rp l j) _ (by exact bel)).mono ?_; rintro e w1 ⟨he, hb1⟩; rw [E1.out] at he; subst he; obtain ⟨hc1, hf1, hz1⟩ := bcell hb1; (try simp only [szs] at hz1); have hb2 := far2; obtain ⟨hc2, hf2, hz2⟩ := bcell hb2; (try simp only [szs] at hz2); try (first | obtain ⟨hy1, hy2, hy3, hy4⟩ := lts4 hz2 | obtain ⟨hy1, hy2, hy3⟩ := lts3 hz2 | obtain ⟨hy1, hy2⟩ := lts2 hz2 | have hy1 := lts1 hz2); have hb9 := hb1)
        go_roundw
        case rel => exact ⟨j + 1, by go_num, by omega, Lib.hid (upto HA.out HK.out), bel⟩
        case measure => simp [intOf]; omega
    · go_wp2
      go_ret
      exact ⟨ret_int (badIdx_no (fun x hx => HA.out x (by omega))).symm, bel⟩
theorem slices_ContainsFunc_P (m : Mesh) (l : List Packet) (D : Option Addr) (n gm : Nat) (w : World) (hp : kP.C w D l.length l) (hkl : l.length ≤ 2097152) (h0 : w.cell? ⟨gm, 0, none⟩ = some (.int .i64 m.g.w)) (h1 : w.cell? ⟨gm, 1, none⟩ = some (.int .i64 m.g.h)) :
    Calls Try.prog 38 #[.slice D l.length n, .func (.func 39) #[] #[.pointer (some ⟨gm, 0, none⟩)]] w fun e w' => e = .returned (.bool (!(l.all (packetOk m.g)))) ∧ Below w.heap.size w w' := by
  go_enter Try.func38, Try.ntmps38
  go_wp2_with (go_at_call 57; refine (slices_IndexFunc_P m l D n gm _ hp hkl h0 h1).mono ?_; rintro e w1 ⟨rfl, hb1⟩; obtain ⟨hc1, hf1, hz1⟩ := bcell hb1; (try simp only [szs] at hz1); have hb2 := far2; obtain ⟨hc2, hf2, hz2⟩ := bcell hb2; (try simp only [szs] at hz2); try (first | obtain ⟨hy1, hy2, hy3, hy4⟩ := lts4 hz2 | obtain ⟨hy1, hy2, hy3⟩ := lts3 hz2 | obtain ⟨hy1, hy2⟩ := lts2 hz2 | have hy1 := lts1 hz2); have hb9 := hb1)
  go_ret
  exact ⟨ret_bool (by simpa using badIdx_ge m.g l), bel⟩

set_option maxHeartbeats 1000000 in
set_option maxRecDepth 100000 in
theorem impl_arePackets (m : Mesh) (pa pb : List Int) (l : List Packet) (A B C D : Option Addr) (c d k n : Nat) (w : World) (hr : Kd.C (Kd.int .i64) w A m.br.length m.br) (hn : m.br.length ≤ 2097152) (ha : Kd.C (Kd.int .i64) w B pa.length pa) (hka : pa.length ≤ 2097152) (hb : Kd.C (Kd.int .i64) w C pb.length pb) (hkb : pb.length ≤ 2097152) (hp : kP.C w D l.length l) (hkl : l.length ≤ 2097152) :
    Calls Try.prog 24 #[.agg #[.int .i64 m.g.w, .int .i64 m.g.h, .slice A m.br.length c], .agg #[.slice B pa.length d, .slice C pb.length k], .slice D l.length n] w fun e w' => e = .returned (.bool (arePk m pa pb l)) ∧ Below w.heap.size w w' := by
  go_enter Try.func24, Try.ntmps24
  cases h1 : classesOk m pa pb
  · go_wp2_with (go_at_call 37; refine (impl_ClassesOk m pa pb _ _ _ _ _ _ _ (by exact Kd.C_below hr bel) hn (by exact Kd.C_below ha bel) hka (by exact Kd.C_below hb bel) hkb).mono ?_; rintro e w1 ⟨rfl, hb1⟩; obtain ⟨hc1, hf1, hz1⟩ := bcell hb1; (try simp only [szs] at hz1); have hb2 := far2; obtain ⟨hc2, hf2, hz2⟩ := bcell hb2; (try simp only [szs] at hz2); try (first | obtain ⟨hy1, hy2, hy3, hy4⟩ := lts4 hz2 | obtain ⟨hy1, hy2, hy3⟩ := lts3 hz2 | obtain ⟨hy1, hy2⟩ := lts2 hz2 | have hy1 := lts1 hz2); have hb9 := hb1)
    go_ret
    exact ⟨ret_bool (by simp [arePk, h1]), bel⟩
  · go_wp2_with (first | (go_at_call 37; refine (impl_ClassesOk m pa pb _ _ _ _ _ _ _ (by exact Kd.C_below hr bel) hn (by exact Kd.C_below ha bel) hka (by exact Kd.C_below hb bel) hkb).mono ?_; rintro e w1 ⟨rfl, hb1⟩; obtain ⟨hc1, hf1, hz1⟩ := bcell hb1; (try simp only [szs] at hz1); have hb2 := far2; obtain ⟨hc2, hf2, hz2⟩ := bcell hb2; (try simp only [szs] at hz2); try (first | obtain ⟨hy1, hy2, hy3, hy4⟩ := lts4 hz2 | obtain ⟨hy1, hy2, hy3⟩ := lts3 hz2 | obtain ⟨hy1, hy2⟩ := lts2 hz2 | have hy1 := lts1 hz2); have hb9 := hb1) | (go_at_call 38; refine (slices_ContainsFunc_P m l D _ _ _ (by exact Kd.C_below hp bel) hkl ?_ ?_).mono ?_; go_simp; go_simp; rintro e w1 ⟨rfl, hb1⟩; obtain ⟨hc1, hf1, hz1⟩ := bcell hb1; (try simp only [szs] at hz1); have hb2 := far2; obtain ⟨hc2, hf2, hz2⟩ := bcell hb2; (try simp only [szs] at hz2); try (first | obtain ⟨hy1, hy2, hy3, hy4⟩ := lts4 hz2 | obtain ⟨hy1, hy2, hy3⟩ := lts3 hz2 | obtain ⟨hy1, hy2⟩ := lts2 hz2 | have hy1 := lts1 hz2); have hb9 := hb1))
    go_ret
    exact ⟨ret_bool (by simp [arePk, h1]), bel⟩

set_option maxHeartbeats 2000000 in
set_option maxRecDepth 100000 in
theorem impl_loads (m : Mesh) (pa pb : List Int) (l : List Packet) (A B C D : Option Addr) (c d k n : Nat) (w : World) (hr : Kd.C (Kd.int .i64) w A m.br.length m.br) (hn : m.br.length ≤ 2097152) (ha : Kd.C (Kd.int .i64) w B pa.length pa) (hka : pa.length ≤ 2097152) (hb : Kd.C (Kd.int .i64) w C pb.length pb) (hkb : pb.length ≤ 2097152) (hp : kP.C w D l.length l) (hkl : l.length ≤ 2097152) (hall : l.all (packetOk m.g) = true) (hpos : 0 < nodeCount m.g) :
  Calls Try.prog 25 #[.agg #[.int .i64 m.g.w, .int .i64 m.g.h, .slice A m.br.length c], .agg #[.slice B pa.length d, .slice C pb.length k], .slice D l.length n] w fun e w' => GotI w w' (loadsL m pa pb l) e ∧ Below w.heap.size w w' := by
 obtain ⟨n0, n1⟩ := count_le m.g
 obtain ⟨N, hN⟩ : ∃ N : Nat, nodeCount m.g = (N : Int) := ⟨(nodeCount m.g).toNat, by omega⟩
 have hN1 : 1 ≤ N := by omega
 have hN16 : N ≤ 16 := by omega
 have hch : chans m = 4 * N := by unfold chans; omega
 have HCH := Lib.hid hch
 have HC := Lib.hid hN
 have HALL := Lib.hid hall
 clear hN n0 n1 hch hall hpos
 go_enter Try.func25, Try.ntmps25
 go_wp2_with (first | (go_at_call 29; refine (impl_NodeCount m.g _).mono ?_; rintro e w1 ⟨he, hb1⟩; rw [HC.out] at he; subst he; obtain ⟨hc1, hf1, hz1⟩ := bcell hb1; (try simp only [szs] at hz1); have hb2 := far2; obtain ⟨hc2, hf2, hz2⟩ := bcell hb2; (try simp only [szs] at hz2); try (first | obtain ⟨hy1, hy2, hy3, hy4⟩ := lts4 hz2 | obtain ⟨hy1, hy2, hy3⟩ := lts3 hz2 | obtain ⟨hy1, hy2⟩ := lts2 hz2 | have hy1 := lts1 hz2); have hb9 := hb1) | (refine make_int (W0 := ((w.alloc (.cells #[.int .i64 m.g.w, .int .i64 m.g.h, .slice A m.br.length c] 28)).alloc (.cells #[.slice B pa.length d, .slice C pb.length k] 32))) rfl (N := 16) rfl 26 3 (.tmp 15) (.tmp 15) rfl (4 * N) (congrArg (Value.int .i64) (show 4 * (N : Int) = ((4 * N : Nat) : Int) by omega)) (congrArg (Value.int .i64) (show 4 * (N : Int) = ((4 * N : Nat) : Int) by omega)) Try.underlying26 info_int (by omega) bel ?_; intro v1 w1 HO1 HB1; obtain ⟨hc1, hf1, hz1⟩ := bcell HB1; (try simp only [szs] at hz1); have hb2 := HB1; have hb9 := HB1))
 obtain ⟨g, cap, hv, hgb, hgl, cells, HG⟩ := Kd.R_form HO1 (by simp; omega)
 rw [List.length_replicate] at hv
 subst hv
 clear HG
 have HGB := Lib.hid hgb
 clear hgb
 go_wp2
 go_loopw [19] (fun i wr => ∃ (j : Nat) (x : List Int), i = .int .i64 j ∧ j ≤ l.length ∧ Hid (x.length = 4 * N) ∧ Hid (∀ ch : Nat, ch < 4 * N → ri x ch = loadAt m pa pb (l.take j) ch) ∧ Kd.R (Kd.int .i64) 3 wr ((w.alloc (.cells #[.int .i64 m.g.w, .int .i64 m.g.h, .slice A m.br.length c] 28)).alloc (.cells #[.slice B pa.length d, .slice C pb.length k] 32)).heap.size (fun _ => True) (.slice (some ⟨g, 0, none⟩) (4 * N) cap) x ∧ Below ((w.alloc (.cells #[.int .i64 m.g.w, .int .i64 m.g.h, .slice A m.br.length c] 28)).alloc (.cells #[.slice B pa.length d, .slice C pb.length k] 32)).heap.size ((w.alloc (.cells #[.int .i64 m.g.w, .int .i64 m.g.h, .slice A m.br.length c] 28)).alloc (.cells #[.slice B pa.length d, .slice C pb.length k] 32)) wr) (fun i _ => l.length - (intOf i).toNat)
 case atStart => exact ⟨0, List.replicate (4 * N) 0, rfl, Nat.zero_le _, Lib.hid (by simp), Lib.hid (fun ch h => by rw [ri_replicate _ _ h]; rfl), HO1, HB1⟩
 case round =>
  clear HO1 HB1 hgl
  obtain ⟨j, x, rfl, hj, HL, HA, HO, HB⟩ := hrel
  obtain ⟨hc0, hf0, hz0⟩ := bcell HB
  simp only [szs] at hz0
  obtain ⟨yy1, yy2⟩ := lts2 hz0
  by_cases hlt : j < l.length
  ·obtain ⟨b, off, rfl, hbl, p0, p1, p2, p3, p4⟩ := rdP_at hp j hlt
   obtain ⟨z1, z2, z3, z4, z5, z6⟩ := more hbl
   have hgl : g < wr.heap.size := Kd.R_lt HO g rfl
   have hwl := wt_len m (tabOf pa pb (rp l j).cls) (rp l j).src (rp l j).dst
   obtain ⟨l1, l2⟩ := packetOk_len (all_get HALL.out j hlt)
   by_cases hcl : (rp l j).cls = 1
   ·have e1 : ((rp l j).cls == 1) = true := beq_iff_eq.2 hcl
    rw [tabOf, if_pos hcl] at hwl
    have HAD : ∀ ch : Int, addsTo m pa pb (rp l j) ch = if has (wt m pb (rp l j).src (rp l j).dst) ch then (rp l j).len else 0 := fun ch => by rw [addsTo, walkP, tabOf, if_pos hcl]
    have HAD := Lib.hid HAD
    clear hcl
    generalize hwe : wt m pb (rp l j).src (rp l j).dst = wl at hwl HAD
    have HWE := Lib.hid hwe
    clear hwe
    go_wp2_with fail
    go_region_held3 (fun w' => Below (wr.alloc (.cells #[.int .i64 (rp l j).id, .int .i64 (rp l j).src, .int .i64 (rp l j).dst, .int .i64 (rp l j).cls, .int .i64 (rp l j).len] 57)).heap.size (wr.alloc (.cells #[.int .i64 (rp l j).id, .int .i64 (rp l j).src, .int .i64 (rp l j).dst, .int .i64 (rp l j).cls, .int .i64 (rp l j).len] 57)) w' ∧ ∀ bq oq, bq < (wr.alloc (.cells #[.int .i64 (rp l j).id, .int .i64 (rp l j).src, .int .i64 (rp l j).dst, .int .i64 (rp l j).cls, .int .i64 (rp l j).len] 57)).heap.size → w'.cell? ⟨bq, oq, none⟩ = (wr.alloc (.cells #[.int .i64 (rp l j).id, .int .i64 (rp l j).src, .int .i64 (rp l j).dst, .int .i64 (rp l j).cls, .int .i64 (rp l j).len] 57)).cell? ⟨bq, oq, none⟩) (first | exact far_of bel) ( first | (go_at_call 42; refine (impl_tableFor_b pa pb B C d k _ e1 _).mono ?_; rintro e w1 ⟨rfl, hb1⟩; obtain ⟨hc1, hf1, hz1⟩ := bcell hb1; (try simp only [szs] at hz1); have hb2 := far2; obtain ⟨hc2, hf2, hz2⟩ := bcell hb2; (try simp only [szs] at hz2); try (first | obtain ⟨hy1, hy2, hy3, hy4⟩ := lts4 hz2 | obtain ⟨hy1, hy2, hy3⟩ := lts3 hz2 | obtain ⟨hy1, hy2⟩ := lts2 hz2 | have hy1 := lts1 hz2); have hb9 := hb1) | (go_at_call 41; refine (impl_WalkTable m pb (rp l j).src (rp l j).dst A C _ _ _ (by exact Kd.C_below hr bel) hn (by exact Kd.C_below hb bel) hkb).mono ?_; rintro e w1 ⟨hg1, hb1⟩; rw [HWE.out] at hg1; obtain ⟨v1, rfl, HO1⟩ := hg1; obtain ⟨A1, c1, rfl, hk1, hr1⟩ := Kd.R_reads HO1; have HOL := Kd.R_lower (base' := (wr.alloc (.cells #[.int .i64 (rp l j).id, .int .i64 (rp l j).src, .int .i64 (rp l j).dst, .int .i64 (rp l j).cls, .int .i64 (rp l j).len] 57)).heap.size) HO1 (bw_size bel); simp only [szs] at HOL; clear HO1; obtain ⟨hc1, hf1, hz1⟩ := bcell hb1; (try simp only [szs] at hz1); have hb2 := far2; obtain ⟨hc2, hf2, hz2⟩ := bcell hb2; (try simp only [szs] at hz2); try (first | obtain ⟨hy1, hy2, hy3, hy4⟩ := lts4 hz2 | obtain ⟨hy1, hy2, hy3⟩ := lts3 hz2 | obtain ⟨hy1, hy2⟩ := lts2 hz2 | have hy1 := lts1 hz2); have hb9 := hb1))
    have hb2 : Below (wr.alloc (.cells #[.int .i64 (rp l j).id, .int .i64 (rp l j).src, .int .i64 (rp l j).dst, .int .i64 (rp l j).cls, .int .i64 (rp l j).len] 57)).heap.size (wr.alloc (.cells #[.int .i64 (rp l j).id, .int .i64 (rp l j).src, .int .i64 (rp l j).dst, .int .i64 (rp l j).cls, .int .i64 (rp l j).len] 57)) w1 := by first | exact hb2 | exact bw_then (bw_drew (bw_refl _)) hb2
    have H0 := bw_then (bw_alloc (.cells #[.int .i64 (rp l j).id, .int .i64 (rp l j).src, .int .i64 (rp l j).dst, .int .i64 (rp l j).cls, .int .i64 (rp l j).len] 57) HB) hb2
    have hbx : w1.cell? ⟨wr.heap.size, 4, none⟩ = some (.int .i64 (rp l j).len) := (Box.below (Box.new wr _ _ _ rfl) hb2).get 4
    have HO9 := Kd.R_below HO (bw_then (bw_alloc _ (bw_refl wr)) hb2)
    have hwz : wr.heap.size < w1.heap.size := by have := (bcell hb2).2.2; simp only [szs] at this; omega
    have HW9 := HOL
    clear HOL hr1 hk1
    repeat (first | clear hc1 | clear hf1 | clear hz1 | clear hb1 | clear hb9 | clear hc2 | clear hf2 | clear hz2 | clear hb2 | clear hy1 | clear hy2 | clear hy3 | clear hy4 | clear hap | clear HOm | clear HOa | clear HOb | clear HOp | clear hlm | clear hla | clear hlb | clear hlp | clear hCm | clear hCa | clear hCb | clear hCp | clear Am | clear Aa | clear Ab | clear Ap | clear cm | clear ca | clear cb | clear cp | clear w1)
    obtain ⟨w5, rfl⟩ : ∃ x, x = w1 := ⟨_, rfl⟩
    go_wp2
    go_loopw [35] (fun i wi => ∃ (ch : Nat) (y : List Int), i = .int .i64 ch ∧ ch ≤ 4 * N ∧ Hid (y.length = 4 * N) ∧ Hid (∀ q : Nat, q < ch → ri y q = loadAt m pa pb (l.take (j + 1)) q) ∧ Hid (∀ q : Nat, ch ≤ q → q < 4 * N → ri y q = loadAt m pa pb (l.take j) q) ∧ Kd.R (Kd.int .i64) 3 wi ((w.alloc (.cells #[.int .i64 m.g.w, .int .i64 m.g.h, .slice A m.br.length c] 28)).alloc (.cells #[.slice B pa.length d, .slice C pb.length k] 32)).heap.size (fun _ => True) (.slice (some ⟨g, 0, none⟩) (4 * N) cap) y ∧ Kd.R (Kd.int .i64) 3 wi (wr.heap.size + 1) (fun _ => True) (.slice A1 wl.length c1) wl ∧ wi.cell? ⟨wr.heap.size, 4, none⟩ = some (.int .i64 (rp l j).len) ∧ wr.heap.size < wi.heap.size ∧ Below ((w.alloc (.cells #[.int .i64 m.g.w, .int .i64 m.g.h, .slice A m.br.length c] 28)).alloc (.cells #[.slice B pa.length d, .slice C pb.length k] 32)).heap.size ((w.alloc (.cells #[.int .i64 m.g.w, .int .i64 m.g.h, .slice A m.br.length c] 28)).alloc (.cells #[.slice B pa.length d, .slice C pb.length k] 32)) wi) (fun i _ => 4 * N - (intOf i).toNat)
    case atStart => exact ⟨0, x, rfl, Nat.zero_le _, HL, Lib.hid fun q h => absurd h (Nat.not_lt_zero _), Lib.hid fun q _ h => HA.out q h, HO9, HW9, hbx, hwz, H0⟩
    case round =>
     clear HO9 HW9 hbx hwz H0
     obtain ⟨ch, y, rfl, hch, HLy, HP, HQ, HOy, HWy, hbx, hwz, HBy⟩ := hrel
     by_cases hlt2 : ch < 4 * N
     ·obtain ⟨hx9, hf9⟩ := rowI_cell HOy ch hlt2
      obtain ⟨_, hlw, hCw⟩ := Kd.R_row HWy
      obtain ⟨v0, v1⟩ := loadAt_range (pa := pa) (pb := pb) HALL.out ch j hj
      have hv := HQ.out ch (Nat.le_refl _) hlt2
      rw [← hv] at v0 v1
      have HV := Lib.hid hv
      clear hv
      cases hh : has wl ch
      ·go_wp2_with (go_at_call 43; refine (slices_Contains_int wl ch A1 c1 _ hCw (by omega)).mono ?_; rintro e w' ⟨rfl, rfl⟩)
       go_roundw
       case rel => exact ⟨ch + 1, y, by go_num, by omega, HLy, Lib.hid (upto HP.out (by rw [HV.out, loadAt_take m pa pb l j hlt, HAD.out, hh]; simp)), Lib.hid (fun q h1 h2 => HQ.out q (by omega) h2), HOy, HWy, hbx, hwz, HBy⟩
       case measure => simp [intOf]; omega
      ·go_wp2_with (go_at_call 43; refine (slices_Contains_int wl ch A1 c1 _ hCw (by omega)).mono ?_; rintro e w' ⟨rfl, rfl⟩)
       have i0 : (0 : Int) ≤ (ch : Int) := by omega
       have i1 : (ch : Int) < ((4 * N : Nat) : Int) := by omega
       go_region
       go_wp2
       go_roundw
       case rel => exact ⟨ch + 1, y.set ch (ri y ch + (rp l j).len), by go_num, by omega, Lib.hid (by rw [List.length_set]; exact HLy.out), Lib.hid (upto (fun q hq => by rw [set_get (by have := HLy.out; omega) q (by have := HLy.out; omega), if_neg (by omega)]; exact HP.out q hq) (by rw [set_get (by have := HLy.out; omega) ch (by have := HLy.out; omega), if_pos rfl, HV.out, loadAt_take m pa pb l j hlt, HAD.out, hh]; simp)), Lib.hid (fun q h1 h2 => by rw [set_get (by have := HLy.out; omega) q (by have := HLy.out; omega), if_neg (by omega)]; exact HQ.out q (by omega) h2), rowI_set HOy ch _, R_off HWy (by omega) _ _, by go_simp, by simpa only [szs] using hwz, (by have HGO := HGB.out; first | exact bw_set _ (by exact bel) HGO | exact bw_drew (bw_set _ (by exact bel) HGO))⟩
       case measure => simp [intOf]; omega
     ·go_wp2
      go_roundw
      case rel => exact ⟨j + 1, y, by go_num, by omega, HLy, Lib.hid (fun q h => HP.out q (by omega)), HOy, HBy⟩
      case measure => simp [intOf]; omega
   ·have e1 : ((rp l j).cls == 1) = false := beq_eq_false_iff_ne.2 hcl
    rw [tabOf, if_neg hcl] at hwl
    have HAD : ∀ ch : Int, addsTo m pa pb (rp l j) ch = if has (wt m pa (rp l j).src (rp l j).dst) ch then (rp l j).len else 0 := fun ch => by rw [addsTo, walkP, tabOf, if_neg hcl]
    have HAD := Lib.hid HAD
    clear hcl
    generalize hwe : wt m pa (rp l j).src (rp l j).dst = wl at hwl HAD
    have HWE := Lib.hid hwe
    clear hwe
    go_wp2_with fail
    go_region_held3 (fun w' => Below (wr.alloc (.cells #[.int .i64 (rp l j).id, .int .i64 (rp l j).src, .int .i64 (rp l j).dst, .int .i64 (rp l j).cls, .int .i64 (rp l j).len] 57)).heap.size (wr.alloc (.cells #[.int .i64 (rp l j).id, .int .i64 (rp l j).src, .int .i64 (rp l j).dst, .int .i64 (rp l j).cls, .int .i64 (rp l j).len] 57)) w' ∧ ∀ bq oq, bq < (wr.alloc (.cells #[.int .i64 (rp l j).id, .int .i64 (rp l j).src, .int .i64 (rp l j).dst, .int .i64 (rp l j).cls, .int .i64 (rp l j).len] 57)).heap.size → w'.cell? ⟨bq, oq, none⟩ = (wr.alloc (.cells #[.int .i64 (rp l j).id, .int .i64 (rp l j).src, .int .i64 (rp l j).dst, .int .i64 (rp l j).cls, .int .i64 (rp l j).len] 57)).cell? ⟨bq, oq, none⟩) (first | exact far_of bel) ( first | (go_at_call 42; refine (impl_tableFor_a pa pb B C d k _ e1 _).mono ?_; rintro e w1 ⟨rfl, hb1⟩; obtain ⟨hc1, hf1, hz1⟩ := bcell hb1; (try simp only [szs] at hz1); have hb2 := far2; obtain ⟨hc2, hf2, hz2⟩ := bcell hb2; (try simp only [szs] at hz2); try (first | obtain ⟨hy1, hy2, hy3, hy4⟩ := lts4 hz2 | obtain ⟨hy1, hy2, hy3⟩ := lts3 hz2 | obtain ⟨hy1, hy2⟩ := lts2 hz2 | have hy1 := lts1 hz2); have hb9 := hb1) | (go_at_call 41; refine (impl_WalkTable m pa (rp l j).src (rp l j).dst A B _ _ _ (by exact Kd.C_below hr bel) hn (by exact Kd.C_below ha bel) hka).mono ?_; rintro e w1 ⟨hg1, hb1⟩; rw [HWE.out] at hg1; obtain ⟨v1, rfl, HO1⟩ := hg1; obtain ⟨A1, c1, rfl, hk1, hr1⟩ := Kd.R_reads HO1; have HOL := Kd.R_lower (base' := (wr.alloc (.cells #[.int .i64 (rp l j).id, .int .i64 (rp l j).src, .int .i64 (rp l j).dst, .int .i64 (rp l j).cls, .int .i64 (rp l j).len] 57)).heap.size) HO1 (bw_size bel); simp only [szs] at HOL; clear HO1; obtain ⟨hc1, hf1, hz1⟩ := bcell hb1; (try simp only [szs] at hz1); have hb2 := far2; obtain ⟨hc2, hf2, hz2⟩ := bcell hb2; (try simp only [szs] at hz2); try (first | obtain ⟨hy1, hy2, hy3, hy4⟩ := lts4 hz2 | obtain ⟨hy1, hy2, hy3⟩ := lts3 hz2 | obtain ⟨hy1, hy2⟩ := lts2 hz2 | have hy1 := lts1 hz2); have hb9 := hb1))
    have hb2 : Below (wr.alloc (.cells #[.int .i64 (rp l j).id, .int .i64 (rp l j).src, .int .i64 (rp l j).dst, .int .i64 (rp l j).cls, .int .i64 (rp l j).len] 57)).heap.size (wr.alloc (.cells #[.int .i64 (rp l j).id, .int .i64 (rp l j).src, .int .i64 (rp l j).dst, .int .i64 (rp l j).cls, .int .i64 (rp l j).len] 57)) w1 := by first | exact hb2 | exact bw_then (bw_drew (bw_refl _)) hb2
    have H0 := bw_then (bw_alloc (.cells #[.int .i64 (rp l j).id, .int .i64 (rp l j).src, .int .i64 (rp l j).dst, .int .i64 (rp l j).cls, .int .i64 (rp l j).len] 57) HB) hb2
    have hbx : w1.cell? ⟨wr.heap.size, 4, none⟩ = some (.int .i64 (rp l j).len) := (Box.below (Box.new wr _ _ _ rfl) hb2).get 4
    have HO9 := Kd.R_below HO (bw_then (bw_alloc _ (bw_refl wr)) hb2)
    have hwz : wr.heap.size < w1.heap.size := by have := (bcell hb2).2.2; simp only [szs] at this; omega
    have HW9 := HOL
    clear HOL hr1 hk1
    repeat (first | clear hc1 | clear hf1 | clear hz1 | clear hb1 | clear hb9 | clear hc2 | clear hf2 | clear hz2 | clear hb2 | clear hy1 | clear hy2 | clear hy3 | clear hy4 | clear hap | clear HOm | clear HOa | clear HOb | clear HOp | clear hlm | clear hla | clear hlb | clear hlp | clear hCm | clear hCa | clear hCb | clear hCp | clear Am | clear Aa | clear Ab | clear Ap | clear cm | clear ca | clear cb | clear cp | clear w1)
    obtain ⟨w5, rfl⟩ : ∃ x, x = w1 := ⟨_, rfl⟩
    go_wp2
    go_loopw [35] (fun i wi => ∃ (ch : Nat) (y : List Int), i = .int .i64 ch ∧ ch ≤ 4 * N ∧ Hid (y.length = 4 * N) ∧ Hid (∀ q : Nat, q < ch → ri y q = loadAt m pa pb (l.take (j + 1)) q) ∧ Hid (∀ q : Nat, ch ≤ q → q < 4 * N → ri y q = loadAt m pa pb (l.take j) q) ∧ Kd.R (Kd.int .i64) 3 wi ((w.alloc (.cells #[.int .i64 m.g.w, .int .i64 m.g.h, .slice A m.br.length c] 28)).alloc (.cells #[.slice B pa.length d, .slice C pb.length k] 32)).heap.size (fun _ => True) (.slice (some ⟨g, 0, none⟩) (4 * N) cap) y ∧ Kd.R (Kd.int .i64) 3 wi (wr.heap.size + 1) (fun _ => True) (.slice A1 wl.length c1) wl ∧ wi.cell? ⟨wr.heap.size, 4, none⟩ = some (.int .i64 (rp l j).len) ∧ wr.heap.size < wi.heap.size ∧ Below ((w.alloc (.cells #[.int .i64 m.g.w, .int .i64 m.g.h, .slice A m.br.length c] 28)).alloc (.cells #[.slice B pa.length d, .slice C pb.length k] 32)).heap.size ((w.alloc (.cells #[.int .i64 m.g.w, .int .i64 m.g.h, .slice A m.br.length c] 28)).alloc (.cells #[.slice B pa.length d, .slice C pb.length k] 32)) wi) (fun i _ => 4 * N - (intOf i).toNat)
    case atStart => exact ⟨0, x, rfl, Nat.zero_le _, HL, Lib.hid fun q h => absurd h (Nat.not_lt_zero _), Lib.hid fun q _ h => HA.out q h, HO9, HW9, hbx, hwz, H0⟩
    case round =>
     clear HO9 HW9 hbx hwz H0
     obtain ⟨ch, y, rfl, hch, HLy, HP, HQ, HOy, HWy, hbx, hwz, HBy⟩ := hrel
     by_cases hlt2 : ch < 4 * N
     ·obtain ⟨hx9, hf9⟩ := rowI_cell HOy ch hlt2
      obtain ⟨_, hlw, hCw⟩ := Kd.R_row HWy
      obtain ⟨v0, v1⟩ := loadAt_range (pa := pa) (pb := pb) HALL.out ch j hj
      have hv := HQ.out ch (Nat.le_refl _) hlt2
      rw [← hv] at v0 v1
      have HV := Lib.hid hv
      clear hv
      cases hh : has wl ch
      ·go_wp2_with (go_at_call 43; refine (slices_Contains_int wl ch A1 c1 _ hCw (by omega)).mono ?_; rintro e w' ⟨rfl, rfl⟩)
       go_roundw
       case rel => exact ⟨ch + 1, y, by go_num, by omega, HLy, Lib.hid (upto HP.out (by rw [HV.out, loadAt_take m pa pb l j hlt, HAD.out, hh]; simp)), Lib.hid (fun q h1 h2 => HQ.out q (by omega) h2), HOy, HWy, hbx, hwz, HBy⟩
       case measure => simp [intOf]; omega
      ·go_wp2_with (go_at_call 43; refine (slices_Contains_int wl ch A1 c1 _ hCw (by omega)).mono ?_; rintro e w' ⟨rfl, rfl⟩)
       have i0 : (0 : Int) ≤ (ch : Int) := by omega
       have i1 : (ch : Int) < ((4 * N : Nat) : Int) := by omega
       go_region
       go_wp2
       go_roundw
       case rel => exact ⟨ch + 1, y.set ch (ri y ch + (rp l j).len), by go_num, by omega, Lib.hid (by rw [List.length_set]; exact HLy.out), Lib.hid (upto (fun q hq => by rw [set_get (by have := HLy.out; omega) q (by have := HLy.out; omega), if_neg (by omega)]; exact HP.out q hq) (by rw [set_get (by have := HLy.out; omega) ch (by have := HLy.out; omega), if_pos rfl, HV.out, loadAt_take m pa pb l j hlt, HAD.out, hh]; simp)), Lib.hid (fun q h1 h2 => by rw [set_get (by have := HLy.out; omega) q (by have := HLy.out; omega), if_neg (by omega)]; exact HQ.out q (by omega) h2), rowI_set HOy ch _, R_off HWy (by omega) _ _, by go_simp, by simpa only [szs] using hwz, (by have HGO := HGB.out; first | exact bw_set _ (by exact bel) HGO | exact bw_drew (bw_set _ (by exact bel) HGO))⟩
       case measure => simp [intOf]; omega
     ·go_wp2
      go_roundw
      case rel => exact ⟨j + 1, y, by go_num, by omega, HLy, Lib.hid (fun q h => HP.out q (by omega)), HOy, HBy⟩
      case measure => simp [intOf]; omega
  ·go_wp2
   go_ret
   have hje : j = l.length := by omega
   subst hje
   refine ⟨?_, bel⟩
   have e : x = loadsL m pa pb l := loadsL_of (by rw [HL.out, HCH.out]) (fun ch h => by rw [HCH.out] at h; rw [HA.out ch h, List.take_length])
   subst e
   exact ⟨_, rfl, Kd.R_lower HO (by simp only [szs]; omega)⟩

set_option maxHeartbeats 1000000 in
set_option maxRecDepth 100000 in
theorem impl_LoadsOf (m : Mesh) (pa pb : List Int) (l : List Packet) (A B C D : Option Addr) (c d k n : Nat) (w : World) (hr : Kd.C (Kd.int .i64) w A m.br.length m.br) (hn : m.br.length ≤ 2097152) (ha : Kd.C (Kd.int .i64) w B pa.length pa) (hka : pa.length ≤ 2097152) (hb : Kd.C (Kd.int .i64) w C pb.length pb) (hkb : pb.length ≤ 2097152) (hp : kP.C w D l.length l) (hkl : l.length ≤ 2097152) :
    Calls Try.prog 7 #[.agg #[.int .i64 m.g.w, .int .i64 m.g.h, .slice A m.br.length c], .agg #[.slice B pa.length d, .slice C pb.length k], .slice D l.length n] w fun e w' => GotI w w' (loadsOf m pa pb l) e ∧ Below w.heap.size w w' := by
  go_enter Try.func7, Try.ntmps7
  cases h1 : arePk m pa pb l
  · go_wp2_with (go_at_call 24; refine (impl_arePackets m pa pb l _ _ _ _ _ _ _ _ _ (by exact Kd.C_below hr bel) hn (by exact Kd.C_below ha bel) hka (by exact Kd.C_below hb bel) hkb (by exact Kd.C_below hp bel) hkl).mono ?_; rintro e w1 ⟨rfl, hb1⟩; obtain ⟨hc1, hf1, hz1⟩ := bcell hb1; (try simp only [szs] at hz1); have hb2 := far2; obtain ⟨hc2, hf2, hz2⟩ := bcell hb2; (try simp only [szs] at hz2); try (first | obtain ⟨hy1, hy2, hy3, hy4⟩ := lts4 hz2 | obtain ⟨hy1, hy2, hy3⟩ := lts3 hz2 | obtain ⟨hy1, hy2⟩ := lts2 hz2 | have hy1 := lts1 hz2); have hb9 := hb1)
    go_ret
    exact ⟨by rw [loadsOf_no h1]; exact GotI.nil _ _, bel⟩
  have hpos := arePk_count h1
  have hall := (arePk_parts h1).2
  have HALL := Lib.hid hall
  have HPOS := Lib.hid hpos
  have HLO := Lib.hid (loadsOf_yes h1)
  clear hall hpos
  go_wp2_with (first | (go_at_call 24; refine (impl_arePackets m pa pb l _ _ _ _ _ _ _ _ _ (by exact Kd.C_below hr bel) hn (by exact Kd.C_below ha bel) hka (by exact Kd.C_below hb bel) hkb (by exact Kd.C_below hp bel) hkl).mono ?_; rintro e w1 ⟨rfl, hb1⟩; obtain ⟨hc1, hf1, hz1⟩ := bcell hb1; (try simp only [szs] at hz1); have hb2 := far2; obtain ⟨hc2, hf2, hz2⟩ := bcell hb2; (try simp only [szs] at hz2); try (first | obtain ⟨hy1, hy2, hy3, hy4⟩ := lts4 hz2 | obtain ⟨hy1, hy2, hy3⟩ := lts3 hz2 | obtain ⟨hy1, hy2⟩ := lts2 hz2 | have hy1 := lts1 hz2); have hb9 := hb1) | (go_at_call 25; refine (impl_loads m pa pb l _ _ _ _ _ _ _ _ _ (by exact Kd.C_below hr bel) hn (by exact Kd.C_below ha bel) hka (by exact Kd.C_below hb bel) hkb (by exact Kd.C_below hp bel) hkl HALL.out HPOS.out).mono ?_; rintro e w1 ⟨hg1, hb1⟩; rw [← HLO.out] at hg1; obtain ⟨v1, rfl, HO1⟩ := hg1; obtain ⟨A1, c1, rfl, hk1, hr1⟩ := Kd.R_reads HO1; obtain ⟨hc1, hf1, hz1⟩ := bcell hb1; (try simp only [szs] at hz1); have hb2 := far2; obtain ⟨hc2, hf2, hz2⟩ := bcell hb2; (try simp only [szs] at hz2); try (first | obtain ⟨hy1, hy2, hy3, hy4⟩ := lts4 hz2 | obtain ⟨hy1, hy2, hy3⟩ := lts3 hz2 | obtain ⟨hy1, hy2⟩ := lts2 hz2 | have hy1 := lts1 hz2); have hb9 := hb1))
  go_ret
  exact ⟨⟨_, rfl, Kd.R_lower (by exact Kd.R_below HO1 bel) (bw_size bel)⟩, bel⟩

theorem slices_Max_int (l : List Int) (A : Option Addr) (c : Nat) (w : World) (hr : Kd.C (Kd.int .i64) w A l.length l) (hn : l.length ≤ 64) (hpos : 0 < l.length) (hrg : ∀ j : Nat, j < l.length → 0 ≤ ri l j ∧ ri l j ≤ 10485760) :
    Calls Try.prog 26 #[.slice A l.length c] w fun e w' => e = .returned (.int .i64 (maxL l)) ∧ w = w' := by
  obtain ⟨b, off, rfl, hb, hx⟩ := rdI_at hr 0 hpos
  have HX := Lib.hid hx
  have hx0 : w.cell? ⟨b, off, none⟩ = some (.int .i64 (ri l 0)) := hx 0 hpos
  have i1 : (0 : Int) < (l.length : Int) := by omega
  have i2 : (1 : Int) ≤ (l.length : Int) := by omega
  clear hx
  have HRG := Lib.hid hrg
  clear hrg
  go_enter Try.func26, Try.ntmps26
  go_wp2
  go_loop [3, 4] (fun v i => ∃ k : Nat, i = .int .i64 k ∧ v = .int .i64 (maxTo l k) ∧ 1 ≤ k ∧ k ≤ l.length) (fun _ i => l.length - (intOf i).toNat)
  case atStart => exact ⟨1, rfl, by rw [maxTo_one hpos (HRG.out 0 hpos).1]; try rfl, Nat.le_refl _, hpos⟩
  case round =>
    obtain ⟨k, rfl, rfl, hk1, hk⟩ := hrel
    by_cases hlt : k < l.length
    · have hxk := HX.out k hlt
      obtain ⟨g0, g1⟩ := HRG.out k hlt
      obtain ⟨t0, t1⟩ := maxTo_range HRG.out k hk
      have HS := Lib.hid (maxTo_succ l k hlt)
      go_wp2
      go_round
      case rel => exact ⟨k + 1, by go_num, by rw [HS.out]; first | rfl | (simp; done) | (congr 1; omega) | (simp; omega), by omega, by omega⟩
      case measure => simp [intOf]; omega
    · go_wp2
      go_ret
      exact ⟨ret_int (by rw [show k = l.length by omega, maxTo_all]), rfl⟩

set_option maxHeartbeats 1000000 in
set_option maxRecDepth 100000 in
theorem impl_MaxLoad (m : Mesh) (pa pb : List Int) (l : List Packet) (A B C D : Option Addr) (c d k n : Nat) (w : World) (hr : Kd.C (Kd.int .i64) w A m.br.length m.br) (hn : m.br.length ≤ 2097152) (ha : Kd.C (Kd.int .i64) w B pa.length pa) (hka : pa.length ≤ 2097152) (hb : Kd.C (Kd.int .i64) w C pb.length pb) (hkb : pb.length ≤ 2097152) (hp : kP.C w D l.length l) (hkl : l.length ≤ 2097152) :
    Calls Try.prog 8 #[.agg #[.int .i64 m.g.w, .int .i64 m.g.h, .slice A m.br.length c], .agg #[.slice B pa.length d, .slice C pb.length k], .slice D l.length n] w fun e w' => e = .returned (.int .i64 (maxLoadL m pa pb l)) ∧ Below w.heap.size w w' := by
  go_enter Try.func8, Try.ntmps8
  cases h1 : arePk m pa pb l
  · go_wp2_with (go_at_call 24; refine (impl_arePackets m pa pb l _ _ _ _ _ _ _ _ _ (by exact Kd.C_below hr bel) hn (by exact Kd.C_below ha bel) hka (by exact Kd.C_below hb bel) hkb (by exact Kd.C_below hp bel) hkl).mono ?_; rintro e w1 ⟨rfl, hb1⟩; obtain ⟨hc1, hf1, hz1⟩ := bcell hb1; (try simp only [szs] at hz1); have hb2 := far2; obtain ⟨hc2, hf2, hz2⟩ := bcell hb2; (try simp only [szs] at hz2); try (first | obtain ⟨hy1, hy2, hy3, hy4⟩ := lts4 hz2 | obtain ⟨hy1, hy2, hy3⟩ := lts3 hz2 | obtain ⟨hy1, hy2⟩ := lts2 hz2 | have hy1 := lts1 hz2); have hb9 := hb1)
    go_ret
    exact ⟨ret_int (by rw [maxLoadL, h1]; rfl), bel⟩
  have hpos := arePk_count h1
  have hall := (arePk_parts h1).2
  have HALL := Lib.hid hall
  have HPOS := Lib.hid hpos
  have HLO := Lib.hid (loadsOf_yes h1)
  clear hall hpos
  have hll := loadsOf_len m pa pb l
  have hl0 : 0 < (loadsOf m pa pb l).length := by rw [loadsOf_yes h1, loadsL_len]; have := HPOS.out; unfold chans; omega
  have HRG := Lib.hid (loadsOf_range m pa pb l hkl)
  have HMX := Lib.hid (maxL_loadsOf m pa pb l)
  go_wp2_with (first | (go_at_call 24; refine (impl_arePackets m pa pb l _ _ _ _ _ _ _ _ _ (by exact Kd.C_below hr bel) hn (by exact Kd.C_below ha bel) hka (by exact Kd.C_below hb bel) hkb (by exact Kd.C_below hp bel) hkl).mono ?_; rintro e w1 ⟨rfl, hb1⟩; obtain ⟨hc1, hf1, hz1⟩ := bcell hb1; (try simp only [szs] at hz1); have hb2 := far2; obtain ⟨hc2, hf2, hz2⟩ := bcell hb2; (try simp only [szs] at hz2); try (first | obtain ⟨hy1, hy2, hy3, hy4⟩ := lts4 hz2 | obtain ⟨hy1, hy2, hy3⟩ := lts3 hz2 | obtain ⟨hy1, hy2⟩ := lts2 hz2 | have hy1 := lts1 hz2); have hb9 := hb1) | (go_at_call 25; refine (impl_loads m pa pb l _ _ _ _ _ _ _ _ _ (by exact Kd.C_below hr bel) hn (by exact Kd.C_below ha bel) hka (by exact Kd.C_below hb bel) hkb (by exact Kd.C_below hp bel) hkl HALL.out HPOS.out).mono ?_; rintro e w1 ⟨hg1, hb1⟩; rw [← HLO.out] at hg1; obtain ⟨v1, rfl, HO1⟩ := hg1; obtain ⟨A1, c1, rfl, hk1, hr1⟩ := Kd.R_reads HO1; obtain ⟨hc1, hf1, hz1⟩ := bcell hb1; (try simp only [szs] at hz1); have hb2 := far2; obtain ⟨hc2, hf2, hz2⟩ := bcell hb2; (try simp only [szs] at hz2); try (first | obtain ⟨hy1, hy2, hy3, hy4⟩ := lts4 hz2 | obtain ⟨hy1, hy2, hy3⟩ := lts3 hz2 | obtain ⟨hy1, hy2⟩ := lts2 hz2 | have hy1 := lts1 hz2); have hb9 := hb1) | (go_at_call 26; refine (slices_Max_int (loadsOf m pa pb l) A1 c1 _ (by exact Kd.C_below hr1 bel) hll hl0 HRG.out).mono ?_; rintro e w' ⟨rfl, rfl⟩))
  go_ret
  exact ⟨ret_int HMX.out, bel⟩

set_option maxHeartbeats 1000000 in
set_option maxRecDepth 100000 in
theorem impl_TotalHops (m : Mesh) (pa pb : List Int) (l : List Packet) (A B C D : Option Addr) (c d k n : Nat) (w : World) (hr : Kd.C (Kd.int .i64) w A m.br.length m.br) (hn : m.br.length ≤ 2097152) (ha : Kd.C (Kd.int .i64) w B pa.length pa) (hka : pa.length ≤ 2097152) (hb : Kd.C (Kd.int .i64) w C pb.length pb) (hkb : pb.length ≤ 2097152) (hp : kP.C w D l.length l) (hkl : l.length ≤ 2097152) :
    Calls Try.prog 11 #[.agg #[.int .i64 m.g.w, .int .i64 m.g.h, .slice A m.br.length c], .agg #[.slice B pa.length d, .slice C pb.length k], .slice D l.length n] w fun e w' => e = .returned (.int .i64 (totalHops m pa pb l)) ∧ Below w.heap.size w w' := by
  go_enter Try.func11, Try.ntmps11
  cases h1 : arePk m pa pb l
  · go_wp2_with (go_at_call 24; refine (impl_arePackets m pa pb l _ _ _ _ _ _ _ _ _ (by exact Kd.C_below hr bel) hn (by exact Kd.C_below ha bel) hka (by exact Kd.C_below hb bel) hkb (by exact Kd.C_below hp bel) hkl).mono ?_; rintro e w1 ⟨rfl, hb1⟩; obtain ⟨hc1, hf1, hz1⟩ := bcell hb1; (try simp only [szs] at hz1); have hb2 := far2; obtain ⟨hc2, hf2, hz2⟩ := bcell hb2; (try simp only [szs] at hz2); try (first | obtain ⟨hy1, hy2, hy3, hy4⟩ := lts4 hz2 | obtain ⟨hy1, hy2, hy3⟩ := lts3 hz2 | obtain ⟨hy1, hy2⟩ := lts2 hz2 | have hy1 := lts1 hz2); have hb9 := hb1)
    go_ret
    exact ⟨ret_int (totalHops_no h1).symm, bel⟩
  have hpos := arePk_count h1
  have hall := (arePk_parts h1).2
  have HALL := Lib.hid hall
  have HPOS := Lib.hid hpos
  have HLO := Lib.hid (loadsOf_yes h1)
  clear hall hpos
  have hll := loadsOf_len m pa pb l
  have HRG := Lib.hid (loadsOf_range m pa pb l hkl)
  have HSM := Lib.hid (fun k hk => sum_loads (m := m) (pa := pa) (pb := pb) hkl k hk)
  have HMX := Lib.hid (totalHops_yes h1)
  go_wp2_with (first | (go_at_call 24; refine (impl_arePackets m pa pb l _ _ _ _ _ _ _ _ _ (by exact Kd.C_below hr bel) hn (by exact Kd.C_below ha bel) hka (by exact Kd.C_below hb bel) hkb (by exact Kd.C_below hp bel) hkl).mono ?_; rintro e w1 ⟨rfl, hb1⟩; obtain ⟨hc1, hf1, hz1⟩ := bcell hb1; (try simp only [szs] at hz1); have hb2 := far2; obtain ⟨hc2, hf2, hz2⟩ := bcell hb2; (try simp only [szs] at hz2); try (first | obtain ⟨hy1, hy2, hy3, hy4⟩ := lts4 hz2 | obtain ⟨hy1, hy2, hy3⟩ := lts3 hz2 | obtain ⟨hy1, hy2⟩ := lts2 hz2 | have hy1 := lts1 hz2); have hb9 := hb1) | (go_at_call 25; refine (impl_loads m pa pb l _ _ _ _ _ _ _ _ _ (by exact Kd.C_below hr bel) hn (by exact Kd.C_below ha bel) hka (by exact Kd.C_below hb bel) hkb (by exact Kd.C_below hp bel) hkl HALL.out HPOS.out).mono ?_; rintro e w1 ⟨hg1, hb1⟩; rw [← HLO.out] at hg1; obtain ⟨v1, rfl, HO1⟩ := hg1; obtain ⟨A1, c1, rfl, hk1, hr1⟩ := Kd.R_reads HO1; obtain ⟨hc1, hf1, hz1⟩ := bcell hb1; (try simp only [szs] at hz1); have hb2 := far2; obtain ⟨hc2, hf2, hz2⟩ := bcell hb2; (try simp only [szs] at hz2); try (first | obtain ⟨hy1, hy2, hy3, hy4⟩ := lts4 hz2 | obtain ⟨hy1, hy2, hy3⟩ := lts3 hz2 | obtain ⟨hy1, hy2⟩ := lts2 hz2 | have hy1 := lts1 hz2); have hb9 := hb1))
  generalize hxs : loadsOf m pa pb l = xs at hll HRG HSM HMX hk1 hr1 ⊢
  clear hxs HO1
  obtain ⟨wq, hwq⟩ : ∃ x, x = w1 := ⟨_, rfl⟩
  subst hwq
  go_loopw [7, 20] (fun v i wr => ∃ k : Nat, i = .int .i64 k ∧ v = .int .i64 (sumTo xs k) ∧ k ≤ xs.length ∧ Below wq.heap.size wq wr) (fun _ i _ => xs.length - (intOf i).toNat)
  case atStart => exact ⟨0, rfl, rfl, Nat.zero_le _, by first | exact bw_refl _ | exact bw_drewN _ (bw_refl _)⟩
  case round =>
    obtain ⟨k, rfl, rfl, hk, HBB⟩ := hrel
    obtain ⟨hcI, hfI, hzI⟩ := bcell HBB
    by_cases hlt : k < xs.length
    · obtain ⟨b, off, rfl, hbl, hx⟩ := rdI_at hr1 k hlt
      have hxk := hx k hlt
      clear hx
      obtain ⟨g0, g1⟩ := HRG.out k hlt
      obtain ⟨t0, t1⟩ := HSM.out k hk
      have HS := Lib.hid (sumTo_succ xs k hlt)
      go_wp2
      go_roundw
      case rel => exact ⟨k + 1, by go_num, by rw [HS.out], by omega, bel⟩
      case measure => simp [intOf]; omega
    · go_wp2
      go_ret
      exact ⟨ret_int (by rw [HMX.out, show k = xs.length by omega]), bw_then bel HBB⟩

section
variable {P : Program} {ops : Array Oper} {rest : List Oper} {o : Oper} {a : Act} {Q : Exit → Act → World → Prop}
theorem app_intG {W0 W : World} (hgd : o.guard = none) (s x : Operand) (t e : TypeId)
    (ho : o.op = .call { callee := .builtin .append, args := #[s, x], argTypes := #[t, t] })
    (ht : P.underlying t = some (.slice e)) (hinfo : (P.info? e).map (fun i => (i.zero, i.size, i.bytes)) = some (some (.int .i64 0), 1, 8))
    (v : Value) (xs : List Int) (y : Int) (hs : a.eval s = v) (hx : a.eval x = .slice (some ⟨W.heap.size, 0, none⟩) 1 1)
    (HO : Kd.R (Kd.int .i64) e W W0.heap.size (fun _ => True) v xs) (HB : Below W0.heap.size W0 W) (hl : xs.length ≤ 1000000000)
    (h : ∀ v1 w1, Kd.R (Kd.int .i64) e w1 W0.heap.size (fun _ => True) v1 (xs ++ [y]) → Below W0.heap.size W0 w1 → W.grownBy w1 v.ownBlock → (v1.ownBlock = v.ownBlock ∨ ∃ b, v1.ownBlock = some b ∧ W.heap.size ≤ b) → wpList P ops Q rest (a.put o.dst v1) w1) :
    wpList P ops Q (o :: rest) a (W.alloc (.cells #[.int .i64 y] e)) :=
  Kd.R_append (Kd.int .i64) W0.heap.size hgd s x t e (.int .i64 0) 8 ho ht hinfo rfl (by decide) (by omega) v xs y [.int .i64 y] (fun _ => True) (fun _ => False) hs hx rfl (fun _ hk => hk.elim) (fun _ _ => trivial) HO HB HB.size (by omega) h
end
theorem apart_step {W : World} {u v v1 : Value} (h : Apart u v) (hat : v1.ownBlock = v.ownBlock ∨ ∃ b, v1.ownBlock = some b ∧ W.heap.size ≤ b) (hu : ∀ k, u.ownBlock = some k → k < W.heap.size) : Apart u v1 := by
  rcases h with h | h
  · exact .inl h
  · right
    rcases hat with hat | ⟨b, hb, hle⟩
    · rw [hat]; exact h
    · intro e
      have := hu b (by rw [e, hb])
      omega
set_option maxHeartbeats 2000000 in
set_option maxRecDepth 100000 in
theorem impl_HottestChannels (m : Mesh) (pa pb : List Int) (l : List Packet) (A B C D : Option Addr) (c d k n : Nat) (w : World) (hr : Kd.C (Kd.int .i64) w A m.br.length m.br) (hn : m.br.length ≤ 2097152) (ha : Kd.C (Kd.int .i64) w B pa.length pa) (hka : pa.length ≤ 2097152) (hb : Kd.C (Kd.int .i64) w C pb.length pb) (hkb : pb.length ≤ 2097152) (hp : kP.C w D l.length l) (hkl : l.length ≤ 2097152) :
    Calls Try.prog 9 #[.agg #[.int .i64 m.g.w, .int .i64 m.g.h, .slice A m.br.length c], .agg #[.slice B pa.length d, .slice C pb.length k], .slice D l.length n] w fun e w' => GotI w w' (hottest m pa pb l) e ∧ Below w.heap.size w w' := by
  obtain ⟨q0, q1⟩ := maxLoadL_range m pa pb l hkl
  obtain ⟨most, hmost⟩ : ∃ x, maxLoadL m pa pb l = x := ⟨_, rfl⟩
  rw [hmost] at q0 q1
  have HM := Lib.hid hmost
  go_enter Try.func9, Try.ntmps9
  by_cases hpos : most ≤ 0
  · have HH := Lib.hid (hottest_no (by rw [hmost]; exact hpos))
    clear hmost
    go_wp2_with (go_at_call 8; refine (impl_MaxLoad m pa pb l _ _ _ _ _ _ _ _ _ (by exact Kd.C_below hr bel) hn (by exact Kd.C_below ha bel) hka (by exact Kd.C_below hb bel) hkb (by exact Kd.C_below hp bel) hkl).mono ?_; rintro e w1 ⟨he, hb1⟩; rw [HM.out] at he; subst he; obtain ⟨hc1, hf1, hz1⟩ := bcell hb1; (try simp only [szs] at hz1); have hb2 := far2; obtain ⟨hc2, hf2, hz2⟩ := bcell hb2; (try simp only [szs] at hz2); try (first | obtain ⟨hy1, hy2, hy3, hy4⟩ := lts4 hz2 | obtain ⟨hy1, hy2, hy3⟩ := lts3 hz2 | obtain ⟨hy1, hy2⟩ := lts2 hz2 | have hy1 := lts1 hz2); have hb9 := hb1)
    try go_region_held3 (fun w' => Below (((w.alloc (.cells #[.int .i64 m.g.w, .int .i64 m.g.h, .slice A m.br.length c] 28)).alloc (.cells #[.slice B pa.length d, .slice C pb.length k] 32)).alloc (.cells #[] 3)).heap.size (((w.alloc (.cells #[.int .i64 m.g.w, .int .i64 m.g.h, .slice A m.br.length c] 28)).alloc (.cells #[.slice B pa.length d, .slice C pb.length k] 32)).alloc (.cells #[] 3)) w' ∧ ∀ bq oq, bq < (((w.alloc (.cells #[.int .i64 m.g.w, .int .i64 m.g.h, .slice A m.br.length c] 28)).alloc (.cells #[.slice B pa.length d, .slice C pb.length k] 32)).alloc (.cells #[] 3)).heap.size → w'.cell? ⟨bq, oq, none⟩ = (((w.alloc (.cells #[.int .i64 m.g.w, .int .i64 m.g.h, .slice A m.br.length c] 28)).alloc (.cells #[.slice B pa.length d, .slice C pb.length k] 32)).alloc (.cells #[] 3)).cell? ⟨bq, oq, none⟩) (first | exact far_of bel) ( (go_at_call 8; refine (impl_MaxLoad m pa pb l _ _ _ _ _ _ _ _ _ (by exact Kd.C_below hr bel) hn (by exact Kd.C_below ha bel) hka (by exact Kd.C_below hb bel) hkb (by exact Kd.C_below hp bel) hkl).mono ?_; rintro e w1 ⟨he, hb1⟩; rw [HM.out] at he; subst he; obtain ⟨hc1, hf1, hz1⟩ := bcell hb1; (try simp only [szs] at hz1); have hb2 := far2; obtain ⟨hc2, hf2, hz2⟩ := bcell hb2; (try simp only [szs] at hz2); try (first | obtain ⟨hy1, hy2, hy3, hy4⟩ := lts4 hz2 | obtain ⟨hy1, hy2, hy3⟩ := lts3 hz2 | obtain ⟨hy1, hy2⟩ := lts2 hz2 | have hy1 := lts1 hz2); have hb9 := hb1))
    try go_wp2
    go_ret
    exact ⟨by rw [HH.out]; exact GotI.mk (W0 := ((w.alloc (.cells #[.int .i64 m.g.w, .int .i64 m.g.h, .slice A m.br.length c] 28)).alloc (.cells #[.slice B pa.length d, .slice C pb.length k] 32))) (by first | exact Kd.R_below (R_empty (W0 := ((w.alloc (.cells #[.int .i64 m.g.w, .int .i64 m.g.h, .slice A m.br.length c] 28)).alloc (.cells #[.slice B pa.length d, .slice C pb.length k] 32))) _ _ (Nat.le_refl _)) bel | exact Kd.R_below (R_empty' (W0 := ((w.alloc (.cells #[.int .i64 m.g.w, .int .i64 m.g.h, .slice A m.br.length c] 28)).alloc (.cells #[.slice B pa.length d, .slice C pb.length k] 32))) _ _ (Nat.le_refl _) _ (by simp)) bel) (by simp only [szs]; omega), bel⟩
  obtain ⟨hok, hhot⟩ := hottest_yes (m := m) (pa := pa) (pb := pb) (l := l) (by omega)
  have hall := (arePk_parts hok).2
  have hps := arePk_count hok
  have HALL := Lib.hid hall
  have HPOS := Lib.hid hps
  have HLO := Lib.hid (loadsOf_yes hok)
  have hll := loadsOf_len m pa pb l
  rw [hmost] at hhot
  have HHOT := Lib.hid hhot
  clear hmost hhot hall hps hok
  go_wp2_with (go_at_call 8; refine (impl_MaxLoad m pa pb l _ _ _ _ _ _ _ _ _ (by exact Kd.C_below hr bel) hn (by exact Kd.C_below ha bel) hka (by exact Kd.C_below hb bel) hkb (by exact Kd.C_below hp bel) hkl).mono ?_; rintro e w1 ⟨he, hb1⟩; rw [HM.out] at he; subst he; obtain ⟨hc1, hf1, hz1⟩ := bcell hb1; (try simp only [szs] at hz1); have hb2 := far2; obtain ⟨hc2, hf2, hz2⟩ := bcell hb2; (try simp only [szs] at hz2); try (first | obtain ⟨hy1, hy2, hy3, hy4⟩ := lts4 hz2 | obtain ⟨hy1, hy2, hy3⟩ := lts3 hz2 | obtain ⟨hy1, hy2⟩ := lts2 hz2 | have hy1 := lts1 hz2); have hb9 := hb1)
  try go_region_held3 (fun w' => Below (((w.alloc (.cells #[.int .i64 m.g.w, .int .i64 m.g.h, .slice A m.br.length c] 28)).alloc (.cells #[.slice B pa.length d, .slice C pb.length k] 32)).alloc (.cells #[] 3)).heap.size (((w.alloc (.cells #[.int .i64 m.g.w, .int .i64 m.g.h, .slice A m.br.length c] 28)).alloc (.cells #[.slice B pa.length d, .slice C pb.length k] 32)).alloc (.cells #[] 3)) w' ∧ ∀ bq oq, bq < (((w.alloc (.cells #[.int .i64 m.g.w, .int .i64 m.g.h, .slice A m.br.length c] 28)).alloc (.cells #[.slice B pa.length d, .slice C pb.length k] 32)).alloc (.cells #[] 3)).heap.size → w'.cell? ⟨bq, oq, none⟩ = (((w.alloc (.cells #[.int .i64 m.g.w, .int .i64 m.g.h, .slice A m.br.length c] 28)).alloc (.cells #[.slice B pa.length d, .slice C pb.length k] 32)).alloc (.cells #[] 3)).cell? ⟨bq, oq, none⟩) (first | exact far_of bel) ( (go_at_call 8; refine (impl_MaxLoad m pa pb l _ _ _ _ _ _ _ _ _ (by exact Kd.C_below hr bel) hn (by exact Kd.C_below ha bel) hka (by exact Kd.C_below hb bel) hkb (by exact Kd.C_below hp bel) hkl).mono ?_; rintro e w1 ⟨he, hb1⟩; rw [HM.out] at he; subst he; obtain ⟨hc1, hf1, hz1⟩ := bcell hb1; (try simp only [szs] at hz1); have hb2 := far2; obtain ⟨hc2, hf2, hz2⟩ := bcell hb2; (try simp only [szs] at hz2); try (first | obtain ⟨hy1, hy2, hy3, hy4⟩ := lts4 hz2 | obtain ⟨hy1, hy2, hy3⟩ := lts3 hz2 | obtain ⟨hy1, hy2⟩ := lts2 hz2 | have hy1 := lts1 hz2); have hb9 := hb1))
  go_wp2_with (go_at_call 25; refine (impl_loads m pa pb l _ _ _ _ _ _ _ _ _ (by exact Kd.C_below hr bel) hn (by exact Kd.C_below ha bel) hka (by exact Kd.C_below hb bel) hkb (by exact Kd.C_below hp bel) hkl HALL.out HPOS.out).mono ?_; rintro e w1 ⟨hg1, hb1⟩; rw [← HLO.out] at hg1; obtain ⟨v1, rfl, HO1⟩ := hg1; obtain ⟨A1, c1, rfl, hk1, hr1⟩ := Kd.R_reads HO1; obtain ⟨hc1, hf1, hz1⟩ := bcell hb1; (try simp only [szs] at hz1); have hb2 := far2; obtain ⟨hc2, hf2, hz2⟩ := bcell hb2; (try simp only [szs] at hz2); try (first | obtain ⟨hy1, hy2, hy3, hy4⟩ := lts4 hz2 | obtain ⟨hy1, hy2, hy3⟩ := lts3 hz2 | obtain ⟨hy1, hy2⟩ := lts2 hz2 | have hy1 := lts1 hz2); have hb9 := hb1)
  generalize hxs : loadsOf m pa pb l = xs at hll HHOT hk1 hr1 HO1 ⊢
  clear hxs hr1 hk1
  have HLR : Kd.R (Kd.int .i64) 3 w1 (((w.alloc (.cells #[.int .i64 m.g.w, .int .i64 m.g.h, .slice A m.br.length c] 28)).alloc (.cells #[.slice B pa.length d, .slice C pb.length k] 32)).alloc (.cells #[] 3)).heap.size (fun _ => True) (.slice A1 xs.length c1) xs := by
    exact Kd.R_below (Kd.R_lower (base' := (((w.alloc (.cells #[.int .i64 m.g.w, .int .i64 m.g.h, .slice A m.br.length c] 28)).alloc (.cells #[.slice B pa.length d, .slice C pb.length k] 32)).alloc (.cells #[] 3)).heap.size) HO1 (bw_size bel)) (by first | exact bw_refl _ | exact bel)
  have HB2 : Below (((w.alloc (.cells #[.int .i64 m.g.w, .int .i64 m.g.h, .slice A m.br.length c] 28)).alloc (.cells #[.slice B pa.length d, .slice C pb.length k] 32)).alloc (.cells #[] 3)).heap.size (((w.alloc (.cells #[.int .i64 m.g.w, .int .i64 m.g.h, .slice A m.br.length c] 28)).alloc (.cells #[.slice B pa.length d, .slice C pb.length k] 32)).alloc (.cells #[] 3)) w1 := bel
  have hpt : Apart (.slice A1 xs.length c1) (.slice (some ⟨w.heap.size + 2, 0, none⟩) 0 0) := by
    cases e : (Value.slice A1 xs.length c1).ownBlock with
    | none => exact .inl e
    | some k =>
      right
      have h9 := Kd.R_base HLR k e
      simp only [szs] at h9
      intro e2
      have e3 : some k = some (w.heap.size + 2) := e.symm.trans e2
      injection e3 with e3
      omega
  clear HO1
  repeat (first | clear hc1 | clear hf1 | clear hz1 | clear hb1 | clear hb9 | clear hc2 | clear hf2 | clear hz2 | clear hb2 | clear hy1 | clear hy2 | clear hy3 | clear hy4 | clear hap | clear HOm | clear HOa | clear HOb | clear HOp | clear hlm | clear hla | clear hlb | clear hlp | clear hCm | clear hCa | clear hCb | clear hCp | clear Am | clear Aa | clear Ab | clear Ap | clear cm | clear ca | clear cb | clear cp | clear w1)
  obtain ⟨w5, rfl⟩ : ∃ x, x = w1 := ⟨_, rfl⟩
  go_loopw [7, 24] (fun v i wr => ∃ q : Nat, i = .int .i64 q ∧ q ≤ xs.length ∧ Kd.R (Kd.int .i64) 3 wr ((w.alloc (.cells #[.int .i64 m.g.w, .int .i64 m.g.h, .slice A m.br.length c] 28)).alloc (.cells #[.slice B pa.length d, .slice C pb.length k] 32)).heap.size (fun _ => True) v (hotTo xs most q) ∧ Kd.R (Kd.int .i64) 3 wr (((w.alloc (.cells #[.int .i64 m.g.w, .int .i64 m.g.h, .slice A m.br.length c] 28)).alloc (.cells #[.slice B pa.length d, .slice C pb.length k] 32)).alloc (.cells #[] 3)).heap.size (fun _ => True) (.slice A1 xs.length c1) xs ∧ Apart (.slice A1 xs.length c1) v ∧ Below ((w.alloc (.cells #[.int .i64 m.g.w, .int .i64 m.g.h, .slice A m.br.length c] 28)).alloc (.cells #[.slice B pa.length d, .slice C pb.length k] 32)).heap.size ((w.alloc (.cells #[.int .i64 m.g.w, .int .i64 m.g.h, .slice A m.br.length c] 28)).alloc (.cells #[.slice B pa.length d, .slice C pb.length k] 32)) wr) (fun _ i _ => xs.length - (intOf i).toNat)
  case atStart => exact ⟨0, rfl, Nat.zero_le _, Kd.R_below (R_empty' (W0 := ((w.alloc (.cells #[.int .i64 m.g.w, .int .i64 m.g.h, .slice A m.br.length c] 28)).alloc (.cells #[.slice B pa.length d, .slice C pb.length k] 32))) _ _ (Nat.le_refl _) _ (by simp only [szs])) HB2, HLR, hpt, bw_then (bw_alloc _ (bw_refl _)) HB2⟩
  case round =>
    clear HLR hpt HB2
    obtain ⟨q, rfl, hk, HO, HLR, hpt, HB⟩ := hrel
    obtain ⟨Ao, co, rfl⟩ := Kd.R_slice HO
    have hlen := hotTo_len xs most q
    have hrow := (Kd.R_row HLR).2.2
    by_cases hlt : q < xs.length
    · obtain ⟨b, off, rfl, hbl, hx⟩ := rdI_at hrow q hlt
      have hxk := hx q hlt
      clear hx
      by_cases e : ri xs q = most
      · have e1 : (ri xs q == most) = true := beq_iff_eq.2 e
        have HS := Lib.hid (hotTo_yes xs most q e)
        clear e
        go_wp2_with (at_builtin; refine app_intG (W0 := ((w.alloc (.cells #[.int .i64 m.g.w, .int .i64 m.g.h, .slice A m.br.length c] 28)).alloc (.cells #[.slice B pa.length d, .slice C pb.length k] 32))) rfl (.tmp 32) (.tmp 34) 26 3 rfl Try.underlying26 info_int _ (hotTo xs most q) _ rfl rfl (by exact Kd.R_below HO bel) bel (by omega) ?_; intro v1 w1 HO1 HB1 hg1 hat1)
        go_roundw
        case rel => exact ⟨q + 1, by go_num, by omega, by rw [HS.out]; exact HO1, R_grownI (by exact Kd.R_below HLR bel) hg1 hpt, apart_step hpt hat1 (fun u hq => Kd.R_lt (by exact Kd.R_below HLR bel) u hq), HB1⟩
        case measure => simp [intOf]; omega
      · have e1 : (ri xs q == most) = false := beq_eq_false_iff_ne.2 e
        have HS := Lib.hid (hotTo_no xs most q e)
        clear e
        go_wp2
        go_roundw
        case rel => exact ⟨q + 1, by go_num, by omega, by rw [HS.out]; exact (by exact Kd.R_below HO bel), (by exact Kd.R_below HLR bel), hpt, bel⟩
        case measure => simp [intOf]; omega
    · go_wp2
      go_ret
      have hke : q = xs.length := by omega
      subst hke
      exact ⟨by rw [HHOT.out]; exact ⟨_, rfl, Kd.R_lower (by exact Kd.R_below HO bel) (by simp only [szs]; omega)⟩, bel⟩

end Go.Proofs.Ytdajidljogpknaa
namespace Go.Proofs.Ytdajidljogpknaa
open Go.ChangeShapes Go.WideShapes Go.ChangeAt Go.RowKit Go.Proofs.YtdajidljogpknaaW.PrintWords
open NoC
section
variable {H : Type} {enc : TypeId × Value → H} {W : World} {base : Nat} {spare : Nat → Bool} {held : Bool} {fuel : Nat} {cs : List Value} {x : DataW H × List MemPlace}
def Light (t : TypeId) (d : DataW H) : Prop := ∀ n ∈ d.weights Try.prog t, n ≤ reachBytes
theorem light_arg {ts : List TypeId} {ds : List (DataW H)} (h : (DataW.weightsEach Try.prog ts ds).all (· ≤ reachBytes) = true) {j : Nat} {t : TypeId} {d : DataW H} (ht : ts[j]? = some t) (hd : ds[j]? = some d) : Light t d :=
  fun n hn => by simpa using List.all_eq_true.1 h n (DataW.weights_mem_each ht hd n hn)
end
section
variable {H : Type} {enc : TypeId × Value → H} {W : World} {base : Nat} {spare : Nat → Bool} {held : Bool} {fuel : Nat} {cs : List Value} {x : DataW H × List MemPlace}
end
section
variable {H : Type} {enc : TypeId × Value → H} {W : World} {base : Nat} {spare : Nat → Bool} {held : Bool} {fuel : Nat} {cs : List Value} {x : DataW H × List MemPlace}
theorem op_bytes (h : DataW.trod enc Try.prog W base spare held fuel 22 cs = some x) (hl : Light 22 x.1) :
    ∃ A c N, cs = [.slice A N c] ∧ Byt W A N := by
  rcases open_ints Try.underlying22 Try.underlying5 (by kernel_rfl) h with ⟨rfl, _⟩ | ⟨a, len, cap, zs, rfl, _, hle, hm, hz, hx, hc, _⟩
  · exact ⟨none, 0, 0, rfl, by decide, fun n h => absurd h (Nat.not_lt_zero _)⟩
  · have hlen : len ≤ zs.length := by rw [hz]; split <;> omega
    have e : (zs.take len).length = len := by rw [List.length_take, Nat.min_eq_left hlen]
    have hb : len * 1 ≤ 140737488351232 := by
      subst hx
      have z := hl _ (by unfold DataW.weights; rw [show Try.prog.underlying 22 = _ from Try.underlying22]; exact List.mem_cons_self)
      rw [show Try.prog.bytesOf 5 = 1 by kernel_rfl] at z
      have hr : reachBytes = 140737488351232 := by decide
      have h1 : (lits (H := H) .u8 (zs.take len)).length = len := by simp [lits, hlen]
      rw [h1] at z
      omega
    have hC : Kd.C (Kd.int .u8) W (some a) (zs.take len).length (zs.take len) := by
      refine ⟨rfl, by rw [e]; omega, fun _ => ⟨a, rfl, ?_⟩⟩
      intro j p hj
      refine ⟨[.int .u8 p], rfl, rfl, ?_⟩
      intro i u hi
      obtain ⟨rfl, rfl⟩ : i = 0 ∧ u = .int .u8 p := by
        cases i with
        | zero => simp at hi; exact ⟨rfl, hi.symm⟩
        | succ i => simp at hi
      have hj2 := List.getElem?_eq_some_iff.1 hj
      obtain ⟨hj3, hj4⟩ := hj2
      have hj5 : j < zs.length := by omega
      have := hc j hj5
      rw [show j * (Kd.int .u8).sz + 0 = j by show j * 1 + 0 = j; omega, this]
      rw [List.getElem_take] at hj4
      simp [hj5, hj4]
    refine ⟨some a, cap, len, rfl, by omega, fun n hn => ?_⟩
    obtain ⟨B, off, ha, hB, hcell⟩ := rdU_at hC n (by omega)
    exact ⟨B, off, _, ha, hB, hcell n (by omega)⟩
end
end Go.Proofs.Ytdajidljogpknaa
