/- Why a traffic takes as long as its bound says: what the program and the reference return; for all meshes, tables and lists of at most a million entries. -/
import Derived.Test.YtcaipmhfgjafjaaBnd3
set_option linter.unusedVariables false
set_option linter.unusedSimpArgs false
namespace Go.Proofs.Ytcaipmhfgjafjaa
open Go.RowKit Go.Proofs.YtcaipmhfgjafjaaW.PrintWords
open NoC

theorem ret_str {a b : ByteArray} (h : a = b) : Ending.returned (.string a) = .returned (.string b) := by rw [h]
def reasonOf (d a b c : Int) : ByteArray := if d = 0 then ⟨#[110, 111, 110, 101]⟩ else if a = d then ⟨#[112, 97, 99, 107, 101, 116]⟩ else if b = d then ⟨#[99, 104, 97, 110, 110, 101, 108]⟩ else if c = d then ⟨#[115, 111, 117, 114, 99, 101]⟩ else ⟨#[116, 97, 114, 103, 101, 116]⟩
def reason (m : Mesh) (pa pb : List Int) (l : List Packet) : ByteArray :=
  if arePk m pa pb l then reasonOf (drainBound m pa pb l) (bz m pa pb l l.length) (bl (loadsL m pa pb l) (chans m)) (bs l (nodesN m)) else ⟨#[]⟩
theorem drain_ge {m : Mesh} {pa pb : List Int} {l : List Packet} (hl : l.length ≤ 1048576) (h : arePk m pa pb l = true) : 0 ≤ drainBound m pa pb l ∧ drainBound m pa pb l ≤ 5242882 := by
  obtain ⟨⟨a0, a1⟩, ⟨b0, b1⟩, ⟨c0, c1⟩, d0, d1⟩ := parts_range hl h
  rw [drain_parts h]
  omega
theorem drain_one {m : Mesh} {pa pb : List Int} {l : List Packet} (h : arePk m pa pb l = true) : bz m pa pb l l.length = drainBound m pa pb l ∨ bl (loadsL m pa pb l) (chans m) = drainBound m pa pb l ∨ bs l (nodesN m) = drainBound m pa pb l ∨ bd l (nodesN m) = drainBound m pa pb l := by
  rw [drain_parts h]
  omega

set_option maxHeartbeats 4000000 in
set_option maxRecDepth 100000 in
theorem impl_BoundReason (m : Mesh) (pa pb : List Int) (l : List Packet) (A B C D : Option Addr) (c d k n : Nat) (w : World) (hr : Kd.C (Kd.int .i64) w A m.br.length m.br) (hn : m.br.length ≤ 1048576) (ha : Kd.C (Kd.int .i64) w B pa.length pa) (hka : pa.length ≤ 1048576) (hb : Kd.C (Kd.int .i64) w C pb.length pb) (hkb : pb.length ≤ 1048576) (hp : kP.C w D l.length l) (hkl : l.length ≤ 1048576) :
    Calls Try.prog 42 #[.agg #[.int .i64 m.g.w, .int .i64 m.g.h, .slice A m.br.length c], .agg #[.slice B pa.length d, .slice C pb.length k], .slice D l.length n] w fun e w' => e = .returned (.string (reason m pa pb l)) ∧ Below w.heap.size w w' := by
  have y0 : ∀ (a b c d : Int) (w : World), (Instr.index 78 (.agg #[.int .i64 a, .int .i64 b, .int .i64 c, .int .i64 d]) (.int .i64 0)).run Try.prog w = .ok (.int .i64 a) w := fun _ _ _ _ _ => by kernel_rfl
  have s0 : ∀ w : World, (Instr.index 81 (.agg #[.string { data := #[112, 97, 99, 107, 101, 116] }, .string { data := #[99, 104, 97, 110, 110, 101, 108] }, .string { data := #[115, 111, 117, 114, 99, 101] }, .string { data := #[116, 97, 114, 103, 101, 116] }]) (.int .i64 0)).run Try.prog w = .ok (.string { data := #[112, 97, 99, 107, 101, 116] }) w := fun _ => by kernel_rfl
  have y1 : ∀ (a b c d : Int) (w : World), (Instr.index 78 (.agg #[.int .i64 a, .int .i64 b, .int .i64 c, .int .i64 d]) (.int .i64 1)).run Try.prog w = .ok (.int .i64 b) w := fun _ _ _ _ _ => by kernel_rfl
  have s1 : ∀ w : World, (Instr.index 81 (.agg #[.string { data := #[112, 97, 99, 107, 101, 116] }, .string { data := #[99, 104, 97, 110, 110, 101, 108] }, .string { data := #[115, 111, 117, 114, 99, 101] }, .string { data := #[116, 97, 114, 103, 101, 116] }]) (.int .i64 1)).run Try.prog w = .ok (.string { data := #[99, 104, 97, 110, 110, 101, 108] }) w := fun _ => by kernel_rfl
  have y2 : ∀ (a b c d : Int) (w : World), (Instr.index 78 (.agg #[.int .i64 a, .int .i64 b, .int .i64 c, .int .i64 d]) (.int .i64 2)).run Try.prog w = .ok (.int .i64 c) w := fun _ _ _ _ _ => by kernel_rfl
  have s2 : ∀ w : World, (Instr.index 81 (.agg #[.string { data := #[112, 97, 99, 107, 101, 116] }, .string { data := #[99, 104, 97, 110, 110, 101, 108] }, .string { data := #[115, 111, 117, 114, 99, 101] }, .string { data := #[116, 97, 114, 103, 101, 116] }]) (.int .i64 2)).run Try.prog w = .ok (.string { data := #[115, 111, 117, 114, 99, 101] }) w := fun _ => by kernel_rfl
  have y3 : ∀ (a b c d : Int) (w : World), (Instr.index 78 (.agg #[.int .i64 a, .int .i64 b, .int .i64 c, .int .i64 d]) (.int .i64 3)).run Try.prog w = .ok (.int .i64 d) w := fun _ _ _ _ _ => by kernel_rfl
  have s3 : ∀ w : World, (Instr.index 81 (.agg #[.string { data := #[112, 97, 99, 107, 101, 116] }, .string { data := #[99, 104, 97, 110, 110, 101, 108] }, .string { data := #[115, 111, 117, 114, 99, 101] }, .string { data := #[116, 97, 114, 103, 101, 116] }]) (.int .i64 3)).run Try.prog w = .ok (.string { data := #[116, 97, 114, 103, 101, 116] }) w := fun _ => by kernel_rfl
  go_enter Try.func42, Try.ntmps42
  cases h1 : arePk m pa pb l
  · have HDD := Lib.hid (show drainBound m pa pb l = -1 by rw [drainBound, h1]; rfl)
    go_wp2_with (go_at_call 40; refine (impl_DrainBound m pa pb l _ _ _ _ _ _ _ _ _ (by exact Kd.C_below hr (by with_reducible repeat (first | assumption | exact bw_refl _ | apply bw_alloc | apply bw_drew | apply bw_drewN | refine bw_set _ ?_ (by omega) | refine bw_then ?_ (by assumption)))) hn (by exact Kd.C_below ha (by with_reducible repeat (first | assumption | exact bw_refl _ | apply bw_alloc | apply bw_drew | apply bw_drewN | refine bw_set _ ?_ (by omega) | refine bw_then ?_ (by assumption)))) hka (by exact Kd.C_below hb (by with_reducible repeat (first | assumption | exact bw_refl _ | apply bw_alloc | apply bw_drew | apply bw_drewN | refine bw_set _ ?_ (by omega) | refine bw_then ?_ (by assumption)))) hkb (by exact Kd.C_below hp (by with_reducible repeat (first | assumption | exact bw_refl _ | apply bw_alloc | apply bw_drew | apply bw_drewN | refine bw_set _ ?_ (by omega) | refine bw_then ?_ (by assumption)))) hkl).mono ?_; rintro e w1 ⟨he, hb1⟩; rw [HDD.out] at he; subst he; obtain ⟨hc1, hf1, hz1⟩ := bcell hb1; (try simp only [World.size_alloc, World.size_setCell, World.size_drew, sz_drewN] at hz1); have hb2 := (by first | exact bw_then hb2 hb1 | exact bw_then (bw_drewN _ hb2) hb1 | exact bw_then (bw_alloc _ hb2) hb1 | exact bw_then (bw_drew hb2) hb1 | exact bw_then HB hb1 | exact bw_then (bw_drewN _ HB) hb1 | exact bw_then (bw_alloc _ HB) hb1 | exact bw_then (bw_drew HB) hb1 | exact hb1); obtain ⟨hc2, hf2, hz2⟩ := bcell hb2; (try simp only [World.size_alloc, World.size_setCell, World.size_drew, sz_drewN] at hz2); try (first | obtain ⟨hy1, hy2, hy3, hy4⟩ := lts4 hz2 | obtain ⟨hy1, hy2, hy3⟩ := lts3 hz2 | obtain ⟨hy1, hy2⟩ := lts2 hz2 | have hy1 := lts1 hz2); have hb9 := hb1)
    go_ret
    exact ⟨ret_str (by rw [reason, h1]; rfl), (by with_reducible repeat (first | assumption | exact bw_refl _ | apply bw_alloc | apply bw_drew | apply bw_drewN | refine bw_set _ ?_ (by omega) | refine bw_then ?_ (by assumption)))⟩
  obtain ⟨dg0, dg1⟩ := drain_ge hkl h1
  have hone := drain_one h1
  have H1 := Lib.hid h1
  have HRE : reason m pa pb l = reasonOf (drainBound m pa pb l) (bz m pa pb l l.length) (bl (loadsL m pa pb l) (chans m)) (bs l (nodesN m)) := by rw [reason, if_pos h1]
  generalize hd : drainBound m pa pb l = dd at dg0 dg1 hone HRE
  have HDD := Lib.hid hd
  have HR := Lib.hid HRE
  clear hd HRE h1
  have e0 : (dd == -1) = false := beq_eq_false_iff_ne.2 (by omega)
  by_cases hz : dd = 0
  · have e1 : (dd == 0) = true := beq_iff_eq.2 hz
    have HZ := Lib.hid hz
    clear hz hone
    go_wp2_with (go_at_call 40; refine (impl_DrainBound m pa pb l _ _ _ _ _ _ _ _ _ (by exact Kd.C_below hr (by with_reducible repeat (first | assumption | exact bw_refl _ | apply bw_alloc | apply bw_drew | apply bw_drewN | refine bw_set _ ?_ (by omega) | refine bw_then ?_ (by assumption)))) hn (by exact Kd.C_below ha (by with_reducible repeat (first | assumption | exact bw_refl _ | apply bw_alloc | apply bw_drew | apply bw_drewN | refine bw_set _ ?_ (by omega) | refine bw_then ?_ (by assumption)))) hka (by exact Kd.C_below hb (by with_reducible repeat (first | assumption | exact bw_refl _ | apply bw_alloc | apply bw_drew | apply bw_drewN | refine bw_set _ ?_ (by omega) | refine bw_then ?_ (by assumption)))) hkb (by exact Kd.C_below hp (by with_reducible repeat (first | assumption | exact bw_refl _ | apply bw_alloc | apply bw_drew | apply bw_drewN | refine bw_set _ ?_ (by omega) | refine bw_then ?_ (by assumption)))) hkl).mono ?_; rintro e w1 ⟨he, hb1⟩; rw [HDD.out] at he; subst he; obtain ⟨hc1, hf1, hz1⟩ := bcell hb1; (try simp only [World.size_alloc, World.size_setCell, World.size_drew, sz_drewN] at hz1); have hb2 := (by first | exact bw_then hb2 hb1 | exact bw_then (bw_drewN _ hb2) hb1 | exact bw_then (bw_alloc _ hb2) hb1 | exact bw_then (bw_drew hb2) hb1 | exact bw_then HB hb1 | exact bw_then (bw_drewN _ HB) hb1 | exact bw_then (bw_alloc _ HB) hb1 | exact bw_then (bw_drew HB) hb1 | exact hb1); obtain ⟨hc2, hf2, hz2⟩ := bcell hb2; (try simp only [World.size_alloc, World.size_setCell, World.size_drew, sz_drewN] at hz2); try (first | obtain ⟨hy1, hy2, hy3, hy4⟩ := lts4 hz2 | obtain ⟨hy1, hy2, hy3⟩ := lts3 hz2 | obtain ⟨hy1, hy2⟩ := lts2 hz2 | have hy1 := lts1 hz2); have hb9 := hb1)
    go_ret
    exact ⟨ret_str (by rw [HR.out, reasonOf, if_pos HZ.out]), (by with_reducible repeat (first | assumption | exact bw_refl _ | apply bw_alloc | apply bw_drew | apply bw_drewN | refine bw_set _ ?_ (by omega) | refine bw_then ?_ (by assumption)))⟩
  have e1 : (dd == 0) = false := beq_eq_false_iff_ne.2 hz
  have HZ := Lib.hid hz
  have HONE := Lib.hid hone
  clear hz hone
  go_wp2_with (first | (go_at_call 40; refine (impl_DrainBound m pa pb l _ _ _ _ _ _ _ _ _ (by exact Kd.C_below hr (by with_reducible repeat (first | assumption | exact bw_refl _ | apply bw_alloc | apply bw_drew | apply bw_drewN | refine bw_set _ ?_ (by omega) | refine bw_then ?_ (by assumption)))) hn (by exact Kd.C_below ha (by with_reducible repeat (first | assumption | exact bw_refl _ | apply bw_alloc | apply bw_drew | apply bw_drewN | refine bw_set _ ?_ (by omega) | refine bw_then ?_ (by assumption)))) hka (by exact Kd.C_below hb (by with_reducible repeat (first | assumption | exact bw_refl _ | apply bw_alloc | apply bw_drew | apply bw_drewN | refine bw_set _ ?_ (by omega) | refine bw_then ?_ (by assumption)))) hkb (by exact Kd.C_below hp (by with_reducible repeat (first | assumption | exact bw_refl _ | apply bw_alloc | apply bw_drew | apply bw_drewN | refine bw_set _ ?_ (by omega) | refine bw_then ?_ (by assumption)))) hkl).mono ?_; rintro e w1 ⟨he, hb1⟩; rw [HDD.out] at he; subst he; obtain ⟨hc1, hf1, hz1⟩ := bcell hb1; (try simp only [World.size_alloc, World.size_setCell, World.size_drew, sz_drewN] at hz1); have hb2 := (by first | exact bw_then hb2 hb1 | exact bw_then (bw_drewN _ hb2) hb1 | exact bw_then (bw_alloc _ hb2) hb1 | exact bw_then (bw_drew hb2) hb1 | exact bw_then HB hb1 | exact bw_then (bw_drewN _ HB) hb1 | exact bw_then (bw_alloc _ HB) hb1 | exact bw_then (bw_drew HB) hb1 | exact hb1); obtain ⟨hc2, hf2, hz2⟩ := bcell hb2; (try simp only [World.size_alloc, World.size_setCell, World.size_drew, sz_drewN] at hz2); try (first | obtain ⟨hy1, hy2, hy3, hy4⟩ := lts4 hz2 | obtain ⟨hy1, hy2, hy3⟩ := lts3 hz2 | obtain ⟨hy1, hy2⟩ := lts2 hz2 | have hy1 := lts1 hz2); have hb9 := hb1) | (go_at_call 66; refine (impl_bounds m pa pb l _ _ _ _ _ _ _ _ _ (by exact Kd.C_below hr (by with_reducible repeat (first | assumption | exact bw_refl _ | apply bw_alloc | apply bw_drew | apply bw_drewN | refine bw_set _ ?_ (by omega) | refine bw_then ?_ (by assumption)))) hn (by exact Kd.C_below ha (by with_reducible repeat (first | assumption | exact bw_refl _ | apply bw_alloc | apply bw_drew | apply bw_drewN | refine bw_set _ ?_ (by omega) | refine bw_then ?_ (by assumption)))) hka (by exact Kd.C_below hb (by with_reducible repeat (first | assumption | exact bw_refl _ | apply bw_alloc | apply bw_drew | apply bw_drewN | refine bw_set _ ?_ (by omega) | refine bw_then ?_ (by assumption)))) hkb (by exact Kd.C_below hp (by with_reducible repeat (first | assumption | exact bw_refl _ | apply bw_alloc | apply bw_drew | apply bw_drewN | refine bw_set _ ?_ (by omega) | refine bw_then ?_ (by assumption)))) hkl H1.out).mono ?_; rintro e w1 ⟨rfl, hb1⟩; obtain ⟨hc1, hf1, hz1⟩ := bcell hb1; (try simp only [World.size_alloc, World.size_setCell, World.size_drew, sz_drewN] at hz1); have hb2 := (by first | exact bw_then hb2 hb1 | exact bw_then (bw_drewN _ hb2) hb1 | exact bw_then (bw_alloc _ hb2) hb1 | exact bw_then (bw_drew hb2) hb1 | exact bw_then HB hb1 | exact bw_then (bw_drewN _ HB) hb1 | exact bw_then (bw_alloc _ HB) hb1 | exact bw_then (bw_drew HB) hb1 | exact hb1); obtain ⟨hc2, hf2, hz2⟩ := bcell hb2; (try simp only [World.size_alloc, World.size_setCell, World.size_drew, sz_drewN] at hz2); try (first | obtain ⟨hy1, hy2, hy3, hy4⟩ := lts4 hz2 | obtain ⟨hy1, hy2, hy3⟩ := lts3 hz2 | obtain ⟨hy1, hy2⟩ := lts2 hz2 | have hy1 := lts1 hz2); have hb9 := hb1))
  generalize hA : bz m pa pb l l.length = va at HR HONE ⊢
  generalize hB : bl (loadsL m pa pb l) (chans m) = vb at HR HONE ⊢
  generalize hC : bs l (nodesN m) = vc at HR HONE ⊢
  generalize hD : bd l (nodesN m) = vd at HR HONE ⊢
  clear hA hB hC hD
  obtain ⟨wq, hwq⟩ : ∃ x, x = w1 := ⟨_, rfl⟩
  subst hwq
  go_loopw [23] (fun i wr => ∃ j : Nat, i = .int .i64 j ∧ j ≤ 4 ∧ Hid ((0 < j → ¬ va = dd) ∧ (1 < j → ¬ vb = dd) ∧ (2 < j → ¬ vc = dd) ∧ (3 < j → ¬ vd = dd)) ∧ Below wq.heap.size wq wr) (fun i _ => 4 - (intOf i).toNat)
  case atStart => exact ⟨0, rfl, Nat.zero_le _, Lib.hid ⟨fun h => by omega, fun h => by omega, fun h => by omega, fun h => by omega⟩, by first | exact bw_refl _ | exact bw_drewN _ (bw_refl _)⟩
  case round =>
    obtain ⟨j, hi, hj, HA, HBB⟩ := hrel
    rcases (by omega : j = 0 ∨ j = 1 ∨ j = 2 ∨ j = 3 ∨ j = 4) with rfl | rfl | rfl | rfl | rfl
    · replace hi := hi.trans (show Value.int .i64 ((0 : Nat) : Int) = .int .i64 0 from rfl)
      subst hi
      by_cases e : va = dd
      · have f1 : (va == dd) = true := beq_iff_eq.2 e
        have E := Lib.hid e
        clear e
        go_wp2
        go_ret
        exact ⟨ret_str (by rw [HR.out, reasonOf, if_neg HZ.out, if_pos E.out]), bw_then (by with_reducible repeat (first | assumption | exact bw_refl _ | apply bw_alloc | apply bw_drew | apply bw_drewN | refine bw_set _ ?_ (by omega) | refine bw_then ?_ (by assumption))) HBB⟩
      · have f1 : (va == dd) = false := beq_eq_false_iff_ne.2 e
        have E := Lib.hid e
        clear e
        go_wp2
        go_roundw
        case rel => exact ⟨1, by first | rfl | go_num, by omega, Lib.hid ⟨fun _ => E.out, fun h => by omega, fun h => by omega, fun h => by omega⟩, HBB⟩
        case measure => simp [intOf]
    · replace hi := hi.trans (show Value.int .i64 ((1 : Nat) : Int) = .int .i64 1 from rfl)
      subst hi
      by_cases e : vb = dd
      · have f1 : (vb == dd) = true := beq_iff_eq.2 e
        have E := Lib.hid e
        clear e
        go_wp2
        go_ret
        exact ⟨ret_str (by rw [HR.out, reasonOf, if_neg HZ.out, if_neg (HA.out.1 (by omega)), if_pos E.out]), bw_then (by with_reducible repeat (first | assumption | exact bw_refl _ | apply bw_alloc | apply bw_drew | apply bw_drewN | refine bw_set _ ?_ (by omega) | refine bw_then ?_ (by assumption))) HBB⟩
      · have f1 : (vb == dd) = false := beq_eq_false_iff_ne.2 e
        have E := Lib.hid e
        clear e
        go_wp2
        go_roundw
        case rel => exact ⟨2, by first | rfl | go_num, by omega, Lib.hid ⟨fun _ => HA.out.1 (by omega), fun _ => E.out, fun h => by omega, fun h => by omega⟩, HBB⟩
        case measure => simp [intOf]
    · replace hi := hi.trans (show Value.int .i64 ((2 : Nat) : Int) = .int .i64 2 from rfl)
      subst hi
      by_cases e : vc = dd
      · have f1 : (vc == dd) = true := beq_iff_eq.2 e
        have E := Lib.hid e
        clear e
        go_wp2
        go_ret
        exact ⟨ret_str (by rw [HR.out, reasonOf, if_neg HZ.out, if_neg (HA.out.1 (by omega)), if_neg (HA.out.2.1 (by omega)), if_pos E.out]), bw_then (by with_reducible repeat (first | assumption | exact bw_refl _ | apply bw_alloc | apply bw_drew | apply bw_drewN | refine bw_set _ ?_ (by omega) | refine bw_then ?_ (by assumption))) HBB⟩
      · have f1 : (vc == dd) = false := beq_eq_false_iff_ne.2 e
        have E := Lib.hid e
        clear e
        go_wp2
        go_roundw
        case rel => exact ⟨3, by first | rfl | go_num, by omega, Lib.hid ⟨fun _ => HA.out.1 (by omega), fun _ => HA.out.2.1 (by omega), fun _ => E.out, fun h => by omega⟩, HBB⟩
        case measure => simp [intOf]
    · replace hi := hi.trans (show Value.int .i64 ((3 : Nat) : Int) = .int .i64 3 from rfl)
      subst hi
      by_cases e : vd = dd
      · have f1 : (vd == dd) = true := beq_iff_eq.2 e
        have E := Lib.hid e
        clear e
        go_wp2
        go_ret
        exact ⟨ret_str (by rw [HR.out, reasonOf, if_neg HZ.out, if_neg (HA.out.1 (by omega)), if_neg (HA.out.2.1 (by omega)), if_neg (HA.out.2.2.1 (by omega))]), bw_then (by with_reducible repeat (first | assumption | exact bw_refl _ | apply bw_alloc | apply bw_drew | apply bw_drewN | refine bw_set _ ?_ (by omega) | refine bw_then ?_ (by assumption))) HBB⟩
      · have f1 : (vd == dd) = false := beq_eq_false_iff_ne.2 e
        have E := Lib.hid e
        clear e
        go_wp2
        go_roundw
        case rel => exact ⟨4, by first | rfl | go_num, by omega, Lib.hid ⟨fun _ => HA.out.1 (by omega), fun _ => HA.out.2.1 (by omega), fun _ => HA.out.2.2.1 (by omega), fun _ => E.out⟩, HBB⟩
        case measure => simp [intOf]
    · exact absurd HONE.out (by
        have h0 := HA.out.1 (by omega)
        have h1 := HA.out.2.1 (by omega)
        have h2 := HA.out.2.2.1 (by omega)
        have h3 := HA.out.2.2.2 (by omega)
        rintro (h | h | h | h)
        · exact h0 h
        · exact h1 h
        · exact h2 h
        · exact h3 h)

set_option maxHeartbeats 4000000 in
set_option maxRecDepth 100000 in
theorem spec_BoundReason (m : Mesh) (pa pb : List Int) (l : List Packet) (A B C D : Option Addr) (c d k n : Nat) (w : World) (hr : Kd.C (Kd.int .i64) w A m.br.length m.br) (hn : m.br.length ≤ 1048576) (ha : Kd.C (Kd.int .i64) w B pa.length pa) (hka : pa.length ≤ 1048576) (hb : Kd.C (Kd.int .i64) w C pb.length pb) (hkb : pb.length ≤ 1048576) (hp : kP.C w D l.length l) (hkl : l.length ≤ 1048576) :
    Calls Try.prog 41 #[.agg #[.int .i64 m.g.w, .int .i64 m.g.h, .slice A m.br.length c], .agg #[.slice B pa.length d, .slice C pb.length k], .slice D l.length n] w fun e w' => e = .returned (.string (reason m pa pb l)) ∧ Below w.heap.size w w' := by
  go_enter Try.func41, Try.ntmps41
  cases h1 : arePk m pa pb l
  · have HDD := Lib.hid (show drainBound m pa pb l = -1 by rw [drainBound, h1]; rfl)
    go_wp2_with (go_at_call 39; refine (spec_DrainBound m pa pb l _ _ _ _ _ _ _ _ _ (by exact Kd.C_below hr (by with_reducible repeat (first | assumption | exact bw_refl _ | apply bw_alloc | apply bw_drew | apply bw_drewN | refine bw_set _ ?_ (by omega) | refine bw_then ?_ (by assumption)))) hn (by exact Kd.C_below ha (by with_reducible repeat (first | assumption | exact bw_refl _ | apply bw_alloc | apply bw_drew | apply bw_drewN | refine bw_set _ ?_ (by omega) | refine bw_then ?_ (by assumption)))) hka (by exact Kd.C_below hb (by with_reducible repeat (first | assumption | exact bw_refl _ | apply bw_alloc | apply bw_drew | apply bw_drewN | refine bw_set _ ?_ (by omega) | refine bw_then ?_ (by assumption)))) hkb (by exact Kd.C_below hp (by with_reducible repeat (first | assumption | exact bw_refl _ | apply bw_alloc | apply bw_drew | apply bw_drewN | refine bw_set _ ?_ (by omega) | refine bw_then ?_ (by assumption)))) hkl).mono ?_; rintro e w1 ⟨he, hb1⟩; rw [HDD.out] at he; subst he; obtain ⟨hc1, hf1, hz1⟩ := bcell hb1; (try simp only [World.size_alloc, World.size_setCell, World.size_drew, sz_drewN] at hz1); have hb2 := (by first | exact bw_then hb2 hb1 | exact bw_then (bw_drewN _ hb2) hb1 | exact bw_then (bw_alloc _ hb2) hb1 | exact bw_then (bw_drew hb2) hb1 | exact bw_then HB hb1 | exact bw_then (bw_drewN _ HB) hb1 | exact bw_then (bw_alloc _ HB) hb1 | exact bw_then (bw_drew HB) hb1 | exact hb1); obtain ⟨hc2, hf2, hz2⟩ := bcell hb2; (try simp only [World.size_alloc, World.size_setCell, World.size_drew, sz_drewN] at hz2); try (first | obtain ⟨hy1, hy2, hy3, hy4⟩ := lts4 hz2 | obtain ⟨hy1, hy2, hy3⟩ := lts3 hz2 | obtain ⟨hy1, hy2⟩ := lts2 hz2 | have hy1 := lts1 hz2); have hb9 := hb1)
    go_ret
    exact ⟨ret_str (by rw [reason, h1]; rfl), (by with_reducible repeat (first | assumption | exact bw_refl _ | apply bw_alloc | apply bw_drew | apply bw_drewN | refine bw_set _ ?_ (by omega) | refine bw_then ?_ (by assumption)))⟩
  obtain ⟨dg0, dg1⟩ := drain_ge hkl h1
  have hone := drain_one h1
  have H1 := Lib.hid h1
  have HRE : reason m pa pb l = reasonOf (drainBound m pa pb l) (bz m pa pb l l.length) (bl (loadsL m pa pb l) (chans m)) (bs l (nodesN m)) := by rw [reason, if_pos h1]
  generalize hd : drainBound m pa pb l = dd at dg0 dg1 hone HRE
  have HDD := Lib.hid hd
  have HR := Lib.hid HRE
  clear hd HRE h1
  have e0 : ¬ dd < 0 := by omega
  by_cases hz : dd = 0
  · have e1 : (dd == 0) = true := beq_iff_eq.2 hz
    have HZ := Lib.hid hz
    clear hz hone
    go_wp2_with (go_at_call 39; refine (spec_DrainBound m pa pb l _ _ _ _ _ _ _ _ _ (by exact Kd.C_below hr (by with_reducible repeat (first | assumption | exact bw_refl _ | apply bw_alloc | apply bw_drew | apply bw_drewN | refine bw_set _ ?_ (by omega) | refine bw_then ?_ (by assumption)))) hn (by exact Kd.C_below ha (by with_reducible repeat (first | assumption | exact bw_refl _ | apply bw_alloc | apply bw_drew | apply bw_drewN | refine bw_set _ ?_ (by omega) | refine bw_then ?_ (by assumption)))) hka (by exact Kd.C_below hb (by with_reducible repeat (first | assumption | exact bw_refl _ | apply bw_alloc | apply bw_drew | apply bw_drewN | refine bw_set _ ?_ (by omega) | refine bw_then ?_ (by assumption)))) hkb (by exact Kd.C_below hp (by with_reducible repeat (first | assumption | exact bw_refl _ | apply bw_alloc | apply bw_drew | apply bw_drewN | refine bw_set _ ?_ (by omega) | refine bw_then ?_ (by assumption)))) hkl).mono ?_; rintro e w1 ⟨he, hb1⟩; rw [HDD.out] at he; subst he; obtain ⟨hc1, hf1, hz1⟩ := bcell hb1; (try simp only [World.size_alloc, World.size_setCell, World.size_drew, sz_drewN] at hz1); have hb2 := (by first | exact bw_then hb2 hb1 | exact bw_then (bw_drewN _ hb2) hb1 | exact bw_then (bw_alloc _ hb2) hb1 | exact bw_then (bw_drew hb2) hb1 | exact bw_then HB hb1 | exact bw_then (bw_drewN _ HB) hb1 | exact bw_then (bw_alloc _ HB) hb1 | exact bw_then (bw_drew HB) hb1 | exact hb1); obtain ⟨hc2, hf2, hz2⟩ := bcell hb2; (try simp only [World.size_alloc, World.size_setCell, World.size_drew, sz_drewN] at hz2); try (first | obtain ⟨hy1, hy2, hy3, hy4⟩ := lts4 hz2 | obtain ⟨hy1, hy2, hy3⟩ := lts3 hz2 | obtain ⟨hy1, hy2⟩ := lts2 hz2 | have hy1 := lts1 hz2); have hb9 := hb1)
    go_ret
    exact ⟨ret_str (by rw [HR.out, reasonOf, if_pos HZ.out]), (by with_reducible repeat (first | assumption | exact bw_refl _ | apply bw_alloc | apply bw_drew | apply bw_drewN | refine bw_set _ ?_ (by omega) | refine bw_then ?_ (by assumption)))⟩
  have e1 : (dd == 0) = false := beq_eq_false_iff_ne.2 hz
  have HZ := Lib.hid hz
  clear hz hone
  go_wp2_with (first | (go_at_call 39; refine (spec_DrainBound m pa pb l _ _ _ _ _ _ _ _ _ (by exact Kd.C_below hr (by with_reducible repeat (first | assumption | exact bw_refl _ | apply bw_alloc | apply bw_drew | apply bw_drewN | refine bw_set _ ?_ (by omega) | refine bw_then ?_ (by assumption)))) hn (by exact Kd.C_below ha (by with_reducible repeat (first | assumption | exact bw_refl _ | apply bw_alloc | apply bw_drew | apply bw_drewN | refine bw_set _ ?_ (by omega) | refine bw_then ?_ (by assumption)))) hka (by exact Kd.C_below hb (by with_reducible repeat (first | assumption | exact bw_refl _ | apply bw_alloc | apply bw_drew | apply bw_drewN | refine bw_set _ ?_ (by omega) | refine bw_then ?_ (by assumption)))) hkb (by exact Kd.C_below hp (by with_reducible repeat (first | assumption | exact bw_refl _ | apply bw_alloc | apply bw_drew | apply bw_drewN | refine bw_set _ ?_ (by omega) | refine bw_then ?_ (by assumption)))) hkl).mono ?_; rintro e w1 ⟨he, hb1⟩; rw [HDD.out] at he; subst he; obtain ⟨hc1, hf1, hz1⟩ := bcell hb1; (try simp only [World.size_alloc, World.size_setCell, World.size_drew, sz_drewN] at hz1); have hb2 := (by first | exact bw_then hb2 hb1 | exact bw_then (bw_drewN _ hb2) hb1 | exact bw_then (bw_alloc _ hb2) hb1 | exact bw_then (bw_drew hb2) hb1 | exact bw_then HB hb1 | exact bw_then (bw_drewN _ HB) hb1 | exact bw_then (bw_alloc _ HB) hb1 | exact bw_then (bw_drew HB) hb1 | exact hb1); obtain ⟨hc2, hf2, hz2⟩ := bcell hb2; (try simp only [World.size_alloc, World.size_setCell, World.size_drew, sz_drewN] at hz2); try (first | obtain ⟨hy1, hy2, hy3, hy4⟩ := lts4 hz2 | obtain ⟨hy1, hy2, hy3⟩ := lts3 hz2 | obtain ⟨hy1, hy2⟩ := lts2 hz2 | have hy1 := lts1 hz2); have hb9 := hb1) | (go_at_call 65; refine (spec_l30Parts m pa pb l _ _ _ _ _ _ _ _ _ (by exact Kd.C_below hr (by with_reducible repeat (first | assumption | exact bw_refl _ | apply bw_alloc | apply bw_drew | apply bw_drewN | refine bw_set _ ?_ (by omega) | refine bw_then ?_ (by assumption)))) hn (by exact Kd.C_below ha (by with_reducible repeat (first | assumption | exact bw_refl _ | apply bw_alloc | apply bw_drew | apply bw_drewN | refine bw_set _ ?_ (by omega) | refine bw_then ?_ (by assumption)))) hka (by exact Kd.C_below hb (by with_reducible repeat (first | assumption | exact bw_refl _ | apply bw_alloc | apply bw_drew | apply bw_drewN | refine bw_set _ ?_ (by omega) | refine bw_then ?_ (by assumption)))) hkb (by exact Kd.C_below hp (by with_reducible repeat (first | assumption | exact bw_refl _ | apply bw_alloc | apply bw_drew | apply bw_drewN | refine bw_set _ ?_ (by omega) | refine bw_then ?_ (by assumption)))) hkl H1.out).mono ?_; rintro e w1 ⟨hg1, hb1⟩; obtain ⟨A1, c1, rfl, hk1, hr1⟩ := hg1.read; obtain ⟨hc1, hf1, hz1⟩ := bcell hb1; (try simp only [World.size_alloc, World.size_setCell, World.size_drew, sz_drewN] at hz1); have hb2 := (by first | exact bw_then hb2 hb1 | exact bw_then (bw_drewN _ hb2) hb1 | exact bw_then (bw_alloc _ hb2) hb1 | exact bw_then (bw_drew hb2) hb1 | exact bw_then HB hb1 | exact bw_then (bw_drewN _ HB) hb1 | exact bw_then (bw_alloc _ HB) hb1 | exact bw_then (bw_drew HB) hb1 | exact hb1); obtain ⟨hc2, hf2, hz2⟩ := bcell hb2; (try simp only [World.size_alloc, World.size_setCell, World.size_drew, sz_drewN] at hz2); try (first | obtain ⟨hy1, hy2, hy3, hy4⟩ := lts4 hz2 | obtain ⟨hy1, hy2, hy3⟩ := lts3 hz2 | obtain ⟨hy1, hy2⟩ := lts2 hz2 | have hy1 := lts1 hz2); have hb9 := hb1))
  obtain ⟨bb, off, rfl, hbl, hx⟩ := rdI_at hr1 0 (by simp)
  have x0 : w1.cell? ⟨bb, off, none⟩ = some (.int .i64 (bz m pa pb l l.length)) := hx 0 (by simp)
  have x1 : w1.cell? ⟨bb, off + 1, none⟩ = some (.int .i64 (bl (loadsL m pa pb l) (chans m))) := hx 1 (by simp)
  have x2 : w1.cell? ⟨bb, off + 2, none⟩ = some (.int .i64 (bs l (nodesN m))) := hx 2 (by simp)
  clear hx hr1 hk1
  generalize hA : bz m pa pb l l.length = va at HR x0
  generalize hB : bl (loadsL m pa pb l) (chans m) = vb at HR x1
  generalize hC : bs l (nodesN m) = vc at HR x2
  clear hA hB hC
  obtain ⟨wq, hwq⟩ : ∃ x, x = w1 := ⟨_, rfl⟩
  subst hwq
  go_loopw [9] (fun i wr => ∃ j : Nat, i = .int .i64 j ∧ j ≤ 3 ∧ Hid ((0 < j → ¬ va = dd) ∧ (1 < j → ¬ vb = dd) ∧ (2 < j → ¬ vc = dd)) ∧ Below wq.heap.size wq wr) (fun i _ => 3 - (intOf i).toNat)
  case atStart => exact ⟨0, rfl, Nat.zero_le _, Lib.hid ⟨fun h => by omega, fun h => by omega, fun h => by omega⟩, by first | exact bw_refl _ | exact bw_drewN _ (bw_refl _)⟩
  case round =>
    obtain ⟨j, hi, hj, HA, HBB⟩ := hrel
    obtain ⟨hcI, hfI, hzI⟩ := bcell HBB
    rcases (by omega : j = 0 ∨ j = 1 ∨ j = 2 ∨ j = 3) with rfl | rfl | rfl | rfl
    · replace hi := hi.trans (show Value.int .i64 ((0 : Nat) : Int) = .int .i64 0 from rfl)
      subst hi
      by_cases e : va = dd
      · have f1 : (va == dd) = true := beq_iff_eq.2 e
        have E := Lib.hid e
        clear e
        go_wp2
        go_ret
        exact ⟨ret_str (by rw [HR.out, reasonOf, if_neg HZ.out, if_pos E.out]), bw_then (bw_then (by exact (by with_reducible repeat (first | assumption | exact bw_refl _ | apply bw_alloc | apply bw_drew | apply bw_drewN | refine bw_set _ ?_ (by omega) | refine bw_then ?_ (by assumption))) : Below w.heap.size w wq) HBB) (by with_reducible repeat (first | assumption | exact bw_refl _ | apply bw_alloc | apply bw_drew | apply bw_drewN | refine bw_set _ ?_ (by omega) | refine bw_then ?_ (by assumption)))⟩
      · have f1 : (va == dd) = false := beq_eq_false_iff_ne.2 e
        have E := Lib.hid e
        clear e
        go_wp2
        go_roundw
        case rel => exact ⟨1, by first | rfl | go_num, by omega, Lib.hid ⟨fun _ => E.out, fun h => by omega, fun h => by omega⟩, HBB⟩
        case measure => simp [intOf]
    · replace hi := hi.trans (show Value.int .i64 ((1 : Nat) : Int) = .int .i64 1 from rfl)
      subst hi
      by_cases e : vb = dd
      · have f1 : (vb == dd) = true := beq_iff_eq.2 e
        have E := Lib.hid e
        clear e
        go_wp2
        go_ret
        exact ⟨ret_str (by rw [HR.out, reasonOf, if_neg HZ.out, if_neg (HA.out.1 (by omega)), if_pos E.out]), bw_then (bw_then (by exact (by with_reducible repeat (first | assumption | exact bw_refl _ | apply bw_alloc | apply bw_drew | apply bw_drewN | refine bw_set _ ?_ (by omega) | refine bw_then ?_ (by assumption))) : Below w.heap.size w wq) HBB) (by with_reducible repeat (first | assumption | exact bw_refl _ | apply bw_alloc | apply bw_drew | apply bw_drewN | refine bw_set _ ?_ (by omega) | refine bw_then ?_ (by assumption)))⟩
      · have f1 : (vb == dd) = false := beq_eq_false_iff_ne.2 e
        have E := Lib.hid e
        clear e
        go_wp2
        go_roundw
        case rel => exact ⟨2, by first | rfl | go_num, by omega, Lib.hid ⟨fun _ => HA.out.1 (by omega), fun _ => E.out, fun h => by omega⟩, HBB⟩
        case measure => simp [intOf]
    · replace hi := hi.trans (show Value.int .i64 ((2 : Nat) : Int) = .int .i64 2 from rfl)
      subst hi
      by_cases e : vc = dd
      · have f1 : (vc == dd) = true := beq_iff_eq.2 e
        have E := Lib.hid e
        clear e
        go_wp2
        go_ret
        exact ⟨ret_str (by rw [HR.out, reasonOf, if_neg HZ.out, if_neg (HA.out.1 (by omega)), if_neg (HA.out.2.1 (by omega)), if_pos E.out]), bw_then (bw_then (by exact (by with_reducible repeat (first | assumption | exact bw_refl _ | apply bw_alloc | apply bw_drew | apply bw_drewN | refine bw_set _ ?_ (by omega) | refine bw_then ?_ (by assumption))) : Below w.heap.size w wq) HBB) (by with_reducible repeat (first | assumption | exact bw_refl _ | apply bw_alloc | apply bw_drew | apply bw_drewN | refine bw_set _ ?_ (by omega) | refine bw_then ?_ (by assumption)))⟩
      · have f1 : (vc == dd) = false := beq_eq_false_iff_ne.2 e
        have E := Lib.hid e
        clear e
        go_wp2
        go_roundw
        case rel => exact ⟨3, by first | rfl | go_num, by omega, Lib.hid ⟨fun _ => HA.out.1 (by omega), fun _ => HA.out.2.1 (by omega), fun _ => E.out⟩, HBB⟩
        case measure => simp [intOf]
    · replace hi := hi.trans (show Value.int .i64 ((3 : Nat) : Int) = .int .i64 3 from rfl)
      subst hi
      go_wp2
      go_ret
      exact ⟨ret_str (by rw [HR.out, reasonOf, if_neg HZ.out, if_neg (HA.out.1 (by omega)), if_neg (HA.out.2.1 (by omega)), if_neg (HA.out.2.2 (by omega))]), bw_then (by with_reducible repeat (first | assumption | exact bw_refl _ | apply bw_alloc | apply bw_drew | apply bw_drewN | refine bw_set _ ?_ (by omega) | refine bw_then ?_ (by assumption))) HBB⟩
end Go.Proofs.Ytcaipmhfgjafjaa
