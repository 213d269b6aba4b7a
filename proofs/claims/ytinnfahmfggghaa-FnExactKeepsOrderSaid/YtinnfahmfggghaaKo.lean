/- Do the packets of each flow arrive in the order in which they were sent: both sides. -/
import Derived.Test.YtinnfahmfggghaaArF
import Derived.Test.YtinnfahmfggghaaSent
import Derived.Test.YtinnfahmfggghaaLawIsPrefixOf
set_option linter.unusedVariables false
set_option linter.unusedSimpArgs false
namespace Go.Proofs.Ytinnfahmfggghaa
open Go.RowKit Go.Proofs.YtinnfahmfggghaaW.PrintWords
open NoC

def koIds (n : Net) (i : Nat) : List Int := wholeP (arrF n ((i / 2 : Nat) : Int) ((i % 2 : Nat) : Int))
def koAt (n : Net) (l : List Packet) (i f : Nat) : Bool := isPre (amongTo (koIds n i) l f ((i / 2 : Nat) : Int) ((i % 2 : Nat) : Int) (koIds n i).length) (sentTo l f ((i / 2 : Nat) : Int) ((i % 2 : Nat) : Int) l.length)
def koRow (n : Net) (l : List Packet) (i : Nat) : Nat → Bool
  | 0 => true
  | f + 1 => koRow n l i f && koAt n l i f
def koAll (n : Net) (l : List Packet) (m : Nat) : Nat → Bool
  | 0 => true
  | i + 1 => koAll n l m i && koRow n l i m
def keepsN (n : Net) (l : List Packet) : Bool := netOk n && koAll n l n.arrs.length (2 * n.arrs.length)
theorem koRow_miss {n : Net} {l : List Packet} {i f : Nat} (h : koAt n l i f = false) : ∀ j : Nat, f < j → koRow n l i j = false := by
  intro j
  induction j with
  | zero => intro h; omega
  | succ j ih =>
    intro h1
    by_cases e : f = j
    · subst e; simp [koRow, h]
    · simp [koRow, ih (by omega)]
theorem koAll_miss {n : Net} {l : List Packet} {m i : Nat} (h : koRow n l i m = false) : ∀ j : Nat, i < j → koAll n l m j = false := by
  intro j
  induction j with
  | zero => intro h; omega
  | succ j ih =>
    intro h1
    by_cases e : i = j
    · subst e; simp [koAll, h]
    · simp [koAll, ih (by omega)]
theorem keeps_miss {n : Net} {l : List Packet} {i f : Nat} (hi : i < 2 * n.arrs.length) (hf : f < n.arrs.length) (h : koAt n l i f = false) : keepsN n l = false := by
  simp [keepsN, koAll_miss (koRow_miss h n.arrs.length hf) _ hi]
/-- Nothing arrived: each flow keeps its order. -/
theorem koAt_nil {n : Net} {l : List Packet} {i : Nat} (h : (koIds n i).length = 0) (f : Nat) : koAt n l i f = true := by
  have e : amongTo (koIds n i) l f ((i / 2 : Nat) : Int) ((i % 2 : Nat) : Int) (koIds n i).length = [] := by rw [h]; rfl
  rw [koAt, e]
  simp [isPre, eqL]
theorem koRow_nil {n : Net} {l : List Packet} {i : Nat} (h : (koIds n i).length = 0) : ∀ f : Nat, koRow n l i f = true := by
  intro f
  induction f with
  | zero => rfl
  | succ f ih => rw [koRow, ih, koAt_nil h]; rfl
theorem koIds_len {e : Nat} {n : Net} {q : NA} {w : World} (hr : NetR e w n q) {i : Nat} (hi : i < 2 * n.arrs.length) : (koIds n i).length ≤ 1048576 := by
  obtain ⟨_, _, _, _, _, _, _, _, _, _, _, _, _, _, _, _, _, _, L11⟩ := hr
  have h1 := L11 _ (rl_memI (l := n.arrs) (a := ((i / 2 : Nat) : Int)) (by omega) (by omega))
  have h2 := arrF_len n ((i / 2 : Nat) : Int) ((i % 2 : Nat) : Int)
  have h3 := wholeP_len (arrF n ((i / 2 : Nat) : Int) ((i % 2 : Nat) : Int))
  unfold koIds
  omega
theorem arrs_len {n : Net} (ok : netOk n = true) : n.arrs.length ≤ 16 ∧ (n.arrs.length : Int) = nodeCount n.mesh.g := by
  obtain ⟨_, _, _, _, _, h6, _⟩ := netOk_parts ok
  have := count_le n.mesh.g
  omega
theorem node_of {n : Net} (ok : netOk n = true) {t : Nat} (h : t < n.arrs.length) : isNode n.mesh.g (t : Int) = true := by
  have := arrs_len ok
  exact isNode_iff.2 ⟨by omega, by omega⟩
set_option maxHeartbeats 8000000 in
set_option maxRecDepth 100000 in
theorem impl_KeepsOrder (n : Net) (l : List Packet) (q : NA) (D : Option Addr) (d : Nat) (w : World) (hr : NetR 142 w n q) (hp : kP.C w D l.length l) (hkl : l.length ≤ 1048576) :
    Calls Try.prog 26 #[.agg (netCells n q), .slice D l.length d] w fun e w' => e = .returned (.bool (keepsN n l)) ∧ Below w.heap.size w w' := by
  have R := Lib.hid hr
  have P := Lib.hid hp
  obtain ⟨a1, a2, a3, a4, a5, a6, a7, a8, c1, c2, c3, c4, c5, c6, c7, c8⟩ := q
  clear hr hp
  dsimp only [netCells]
  have X := fun (W : World) hb => Box.below (w1 := W) (Box.new w _ #[.int .i64 n.mesh.g.w, .int .i64 n.mesh.g.h, .slice a1 n.mesh.br.length c1, .slice a2 n.pa.length c2, .slice a3 n.pb.length c3, .slice a4 n.bufs.length c4, .slice a5 n.owners.length c5, .slice a6 n.turns.length c6, .slice a7 n.srcs.length c7, .slice a8 n.arrs.length c8, .int .i64 n.time] 33 rfl) hb
  cases hk : netOk n
  · have HE : Hid (keepsN n l = false) := Lib.hid (by rw [keepsN, hk]; rfl)
    go_enter Try.func26, Try.ntmps26
    go_wp2_with (go_at_call 76; refine (impl_NetOk n _ _ (R.out.below (by with_reducible repeat (first | assumption | exact bw_refl _ | apply bw_alloc | apply bw_drew | apply bw_drewN | refine bw_set _ ?_ (by omega) | refine bw_then ?_ (by assumption))))).mono ?_; rintro e w1 ⟨rfl, hb1⟩; obtain ⟨hc1, hf1, hz1⟩ := bcell hb1; (try simp only [World.size_alloc, World.size_setCell, World.size_drew, sz_drewN] at hz1); have hb2 := (by first | exact bw_then hb2 hb1 | exact bw_then (bw_drewN _ hb2) hb1 | exact bw_then (bw_alloc _ hb2) hb1 | exact bw_then (bw_drew hb2) hb1 | exact bw_then HB hb1 | exact bw_then (bw_drewN _ HB) hb1 | exact bw_then (bw_alloc _ HB) hb1 | exact bw_then (bw_drew HB) hb1 | exact hb1); obtain ⟨hc2, hf2, hz2⟩ := bcell hb2; (try simp only [World.size_alloc, World.size_setCell, World.size_drew, sz_drewN] at hz2); try (first | obtain ⟨hy1, hy2, hy3, hy4⟩ := lts4 hz2 | obtain ⟨hy1, hy2, hy3⟩ := lts3 hz2 | obtain ⟨hy1, hy2⟩ := lts2 hz2 | have hy1 := lts1 hz2); have hb9 := hb1)
    go_ret
    exact ⟨ret_bool HE.out.symm, (by with_reducible repeat (first | assumption | exact bw_refl _ | apply bw_alloc | apply bw_drew | apply bw_drewN | refine bw_set _ ?_ (by omega) | refine bw_then ?_ (by assumption)))⟩
  have HK := Lib.hid hk
  have HE : Hid (keepsN n l = koAll n l n.arrs.length (2 * n.arrs.length)) := Lib.hid (by rw [keepsN, hk]; rfl)
  have n16 := (arrs_len hk).1
  go_enter Try.func26, Try.ntmps26
  go_wp2_with (go_at_call 76; refine (impl_NetOk n _ _ (R.out.below (by with_reducible repeat (first | assumption | exact bw_refl _ | apply bw_alloc | apply bw_drew | apply bw_drewN | refine bw_set _ ?_ (by omega) | refine bw_then ?_ (by assumption))))).mono ?_; rintro e w1 ⟨rfl, hb1⟩; obtain ⟨hc1, hf1, hz1⟩ := bcell hb1; (try simp only [World.size_alloc, World.size_setCell, World.size_drew, sz_drewN] at hz1); have hb2 := (by first | exact bw_then hb2 hb1 | exact bw_then (bw_drewN _ hb2) hb1 | exact bw_then (bw_alloc _ hb2) hb1 | exact bw_then (bw_drew hb2) hb1 | exact bw_then HB hb1 | exact bw_then (bw_drewN _ HB) hb1 | exact bw_then (bw_alloc _ HB) hb1 | exact bw_then (bw_drew HB) hb1 | exact hb1); obtain ⟨hc2, hf2, hz2⟩ := bcell hb2; (try simp only [World.size_alloc, World.size_setCell, World.size_drew, sz_drewN] at hz2); try (first | obtain ⟨hy1, hy2, hy3, hy4⟩ := lts4 hz2 | obtain ⟨hy1, hy2, hy3⟩ := lts3 hz2 | obtain ⟨hy1, hy2⟩ := lts2 hz2 | have hy1 := lts1 hz2); have hb9 := hb1)
  clear hk
  go_loopw [16] (fun i wr => ∃ t : Nat, i = .int .i64 t ∧ t ≤ n.arrs.length ∧ Hid (koAll n l n.arrs.length (2 * t) = true) ∧ Below (w.alloc (.cells #[.int .i64 n.mesh.g.w, .int .i64 n.mesh.g.h, .slice a1 n.mesh.br.length c1, .slice a2 n.pa.length c2, .slice a3 n.pb.length c3, .slice a4 n.bufs.length c4, .slice a5 n.owners.length c5, .slice a6 n.turns.length c6, .slice a7 n.srcs.length c7, .slice a8 n.arrs.length c8, .int .i64 n.time] 33)).heap.size (w.alloc (.cells #[.int .i64 n.mesh.g.w, .int .i64 n.mesh.g.h, .slice a1 n.mesh.br.length c1, .slice a2 n.pa.length c2, .slice a3 n.pb.length c3, .slice a4 n.bufs.length c4, .slice a5 n.owners.length c5, .slice a6 n.turns.length c6, .slice a7 n.srcs.length c7, .slice a8 n.arrs.length c8, .int .i64 n.time] 33)) wr) (fun i _ => n.arrs.length - (intOf i).toNat)
  case atStart => exact ⟨0, rfl, Nat.zero_le _, Lib.hid rfl, (by with_reducible repeat (first | assumption | exact bw_refl _ | apply bw_alloc | apply bw_drew | apply bw_drewN | refine bw_set _ ?_ (by omega) | refine bw_then ?_ (by assumption)))⟩
  case round =>
    repeat (first | clear hc1 | clear hf1 | clear hz1 | clear hb1 | clear hb9 | clear hc2 | clear hf2 | clear hz2 | clear hb2 | clear hy1 | clear hy2 | clear hy3 | clear hy4)
    obtain ⟨t, rfl, ht, HA, HB⟩ := hrel
    obtain ⟨wo, ewo⟩ : ∃ x, x = wr := ⟨_, rfl⟩
    subst ewo
    by_cases hlt : t < n.arrs.length
    · have HN := Lib.hid (node_of HK.out hlt)
      go_wp2
      go_loopw [19] (fun i wr => ∃ k : Nat, i = .int .i64 k ∧ k ≤ 2 ∧ Hid (koAll n l n.arrs.length (2 * t + k) = true) ∧ Below (w.alloc (.cells #[.int .i64 n.mesh.g.w, .int .i64 n.mesh.g.h, .slice a1 n.mesh.br.length c1, .slice a2 n.pa.length c2, .slice a3 n.pb.length c3, .slice a4 n.bufs.length c4, .slice a5 n.owners.length c5, .slice a6 n.turns.length c6, .slice a7 n.srcs.length c7, .slice a8 n.arrs.length c8, .int .i64 n.time] 33)).heap.size (w.alloc (.cells #[.int .i64 n.mesh.g.w, .int .i64 n.mesh.g.h, .slice a1 n.mesh.br.length c1, .slice a2 n.pa.length c2, .slice a3 n.pb.length c3, .slice a4 n.bufs.length c4, .slice a5 n.owners.length c5, .slice a6 n.turns.length c6, .slice a7 n.srcs.length c7, .slice a8 n.arrs.length c8, .int .i64 n.time] 33)) wr) (fun i _ => 2 - (intOf i).toNat)
      case atStart => exact ⟨0, rfl, by omega, HA, HB⟩
      case round =>
        clear HA HB
        obtain ⟨k, rfl, hk2, HA, HB⟩ := hrel
        obtain ⟨wp, ewp⟩ : ∃ x, x = wr := ⟨_, rfl⟩
        subst ewp
        obtain ⟨hcr, hfr, hzr⟩ := bcell HB
        simp only [World.size_alloc, World.size_setCell, World.size_drew, sz_drewN] at hzr
        have yy1 := lts1 hzr
        by_cases hlk : k < 2
        · have i2 : (k : Int) < 2 := by omega
          have q1 : (2 * t + k) / 2 = t := by omega
          have q2 : (2 * t + k) % 2 = k := by omega
          have hil := koIds_len R.out (i := 2 * t + k) (by omega)
          obtain ⟨ids, hids⟩ : ∃ ids, koIds n (2 * t + k) = ids := ⟨_, rfl⟩
          have HI : Hid (wholeP (arrF n t k) = ids) := Lib.hid (by rw [← hids, koIds, q1, q2])
          have HAT : Hid (∀ f : Nat, koAt n l (2 * t + k) f = isPre (amongTo ids l f t k ids.length) (sentTo l f t k l.length)) := Lib.hid (fun f => by rw [koAt, hids, q1, q2])
          rw [hids] at hil
          clear hids q1 q2
          go_wp2_with (go_at_call 77; refine (impl_arrived n _ _ t k _ (R.out.below (by with_reducible repeat (first | assumption | exact bw_refl _ | apply bw_alloc | apply bw_drew | apply bw_drewN | refine bw_set _ ?_ (by omega) | refine bw_then ?_ (by assumption)))) (X _ (by with_reducible repeat (first | assumption | exact bw_refl _ | apply bw_alloc | apply bw_drew | apply bw_drewN | refine bw_set _ ?_ (by omega) | refine bw_then ?_ (by assumption)))) HK.out HN.out).mono ?_; rintro e w1 ⟨hg1, hb1⟩; obtain ⟨v1, rfl, HO1⟩ := hg1; rw [HI.out] at HO1; obtain ⟨A1, d1, rfl, hk1, hC1⟩ := Kd.R_reads HO1; obtain ⟨hc1, hf1, hz1⟩ := bcell hb1; (try simp only [World.size_alloc, World.size_setCell, World.size_drew, sz_drewN] at hz1); have hb2 := (by first | exact bw_then hb2 hb1 | exact bw_then (bw_drewN _ hb2) hb1 | exact bw_then (bw_alloc _ hb2) hb1 | exact bw_then (bw_drew hb2) hb1 | exact bw_then HB hb1 | exact bw_then (bw_drewN _ HB) hb1 | exact bw_then (bw_alloc _ HB) hb1 | exact bw_then (bw_drew HB) hb1 | exact hb1); obtain ⟨hc2, hf2, hz2⟩ := bcell hb2; (try simp only [World.size_alloc, World.size_setCell, World.size_drew, sz_drewN] at hz2); try (first | obtain ⟨hy1, hy2, hy3, hy4⟩ := lts4 hz2 | obtain ⟨hy1, hy2, hy3⟩ := lts3 hz2 | obtain ⟨hy1, hy2⟩ := lts2 hz2 | have hy1 := lts1 hz2); have hb9 := hb1)
          go_loopw [31] (fun i wr => ∃ f : Nat, i = .int .i64 f ∧ f ≤ n.arrs.length ∧ Hid (koRow n l (2 * t + k) f = true) ∧ Hid (Kd.C (Kd.int .i64) wr A1 ids.length ids) ∧ Below (w.alloc (.cells #[.int .i64 n.mesh.g.w, .int .i64 n.mesh.g.h, .slice a1 n.mesh.br.length c1, .slice a2 n.pa.length c2, .slice a3 n.pb.length c3, .slice a4 n.bufs.length c4, .slice a5 n.owners.length c5, .slice a6 n.turns.length c6, .slice a7 n.srcs.length c7, .slice a8 n.arrs.length c8, .int .i64 n.time] 33)).heap.size (w.alloc (.cells #[.int .i64 n.mesh.g.w, .int .i64 n.mesh.g.h, .slice a1 n.mesh.br.length c1, .slice a2 n.pa.length c2, .slice a3 n.pb.length c3, .slice a4 n.bufs.length c4, .slice a5 n.owners.length c5, .slice a6 n.turns.length c6, .slice a7 n.srcs.length c7, .slice a8 n.arrs.length c8, .int .i64 n.time] 33)) wr) (fun i _ => n.arrs.length - (intOf i).toNat)
          case atStart => exact ⟨0, rfl, Nat.zero_le _, Lib.hid rfl, Lib.hid hC1, (by with_reducible repeat (first | assumption | exact bw_refl _ | apply bw_alloc | apply bw_drew | apply bw_drewN | refine bw_set _ ?_ (by omega) | refine bw_then ?_ (by assumption)))⟩
          case round =>
            clear hC1 HB hcr hfr hzr yy1
            repeat (first | clear hc1 | clear hf1 | clear hz1 | clear hb1 | clear hb9 | clear hc2 | clear hf2 | clear hz2 | clear hb2 | clear hy1 | clear hy2 | clear hy3 | clear hy4)
            obtain ⟨f, rfl, hf, HF, HC, HB⟩ := hrel
            by_cases hlf : f < n.arrs.length
            · have la := Nat.le_trans (among_len ids l f t k ids.length) hil
              have lb := Nat.le_trans (sentTo_len l f t k l.length) hkl
              obtain ⟨xa, hxa⟩ : ∃ xa, amongTo ids l f t k ids.length = xa := ⟨_, rfl⟩
              obtain ⟨xb, hxb⟩ : ∃ xb, sentTo l f t k l.length = xb := ⟨_, rfl⟩
              have HV : Hid (koAt n l (2 * t + k) f = isPre xa xb) := Lib.hid (by rw [HAT.out, hxa, hxb])
              rw [hxa] at la
              rw [hxb] at lb
              have HXA := Lib.hid hxa
              have HXB := Lib.hid hxb
              clear hxa hxb
              cases hpre : isPre xa xb
              · have HM := Lib.hid (keeps_miss (n := n) (l := l) (i := 2 * t + k) (f := f) (by omega) hlf (HV.out.trans hpre))
                have HP := Lib.hid hpre
                clear hpre
                go_wp2_with (first | (go_at_call 79; refine (impl_sentAmong ids l f t k A1 D _ _ _ (by exact Kd.C_below HC.out (by with_reducible repeat (first | assumption | exact bw_refl _ | apply bw_alloc | apply bw_drew | apply bw_drewN | refine bw_set _ ?_ (by omega) | refine bw_then ?_ (by assumption)))) (by exact Kd.C_below P.out (by with_reducible repeat (first | assumption | exact bw_refl _ | apply bw_alloc | apply bw_drew | apply bw_drewN | refine bw_set _ ?_ (by omega) | refine bw_then ?_ (by assumption)))) hkl hil).mono ?_; rintro e w1 ⟨hg1, hb1⟩; rw [HXA.out] at hg1; obtain ⟨va, rfl, HOa⟩ := hg1; obtain ⟨Aa, ca, rfl, hla, hCa⟩ := Kd.R_reads HOa; obtain ⟨hc1, hf1, hz1⟩ := bcell hb1; (try simp only [World.size_alloc, World.size_setCell, World.size_drew, sz_drewN] at hz1); have hb2 := (by first | exact bw_then hb2 hb1 | exact bw_then (bw_drewN _ hb2) hb1 | exact bw_then (bw_alloc _ hb2) hb1 | exact bw_then (bw_drew hb2) hb1 | exact bw_then HB hb1 | exact bw_then (bw_drewN _ HB) hb1 | exact bw_then (bw_alloc _ HB) hb1 | exact bw_then (bw_drew HB) hb1 | exact hb1); obtain ⟨hc2, hf2, hz2⟩ := bcell hb2; (try simp only [World.size_alloc, World.size_setCell, World.size_drew, sz_drewN] at hz2); try (first | obtain ⟨hy1, hy2, hy3, hy4⟩ := lts4 hz2 | obtain ⟨hy1, hy2, hy3⟩ := lts3 hz2 | obtain ⟨hy1, hy2⟩ := lts2 hz2 | have hy1 := lts1 hz2); have hb9 := hb1) | (go_at_call 80; refine (impl_SentFrom l f t k D _ _ (by exact Kd.C_below P.out (by with_reducible repeat (first | assumption | exact bw_refl _ | apply bw_alloc | apply bw_drew | apply bw_drewN | refine bw_set _ ?_ (by omega) | refine bw_then ?_ (by assumption)))) hkl).mono ?_; rintro e w1 ⟨hg1, hb1⟩; rw [HXB.out] at hg1; obtain ⟨vb, rfl, HOb⟩ := hg1; obtain ⟨Ab, cb, rfl, hlb, hCb⟩ := Kd.R_reads HOb; obtain ⟨hc1, hf1, hz1⟩ := bcell hb1; (try simp only [World.size_alloc, World.size_setCell, World.size_drew, sz_drewN] at hz1); have hb2 := (by first | exact bw_then hb2 hb1 | exact bw_then (bw_drewN _ hb2) hb1 | exact bw_then (bw_alloc _ hb2) hb1 | exact bw_then (bw_drew hb2) hb1 | exact bw_then HB hb1 | exact bw_then (bw_drewN _ HB) hb1 | exact bw_then (bw_alloc _ HB) hb1 | exact bw_then (bw_drew HB) hb1 | exact hb1); obtain ⟨hc2, hf2, hz2⟩ := bcell hb2; (try simp only [World.size_alloc, World.size_setCell, World.size_drew, sz_drewN] at hz2); try (first | obtain ⟨hy1, hy2, hy3, hy4⟩ := lts4 hz2 | obtain ⟨hy1, hy2, hy3⟩ := lts3 hz2 | obtain ⟨hy1, hy2⟩ := lts2 hz2 | have hy1 := lts1 hz2); have hb9 := hb1) | (go_at_call 78; refine (impl_IsPrefixOf xa xb Aa Ab ca cb _ (by exact Kd.C_below hCa (by with_reducible repeat (first | assumption | exact bw_refl _ | apply bw_alloc | apply bw_drew | apply bw_drewN | refine bw_set _ ?_ (by omega) | refine bw_then ?_ (by assumption)))) (by exact Kd.C_below hCb (by with_reducible repeat (first | assumption | exact bw_refl _ | apply bw_alloc | apply bw_drew | apply bw_drewN | refine bw_set _ ?_ (by omega) | refine bw_then ?_ (by assumption)))) la lb hlb).mono ?_; rintro e w1 ⟨he, hb1⟩; rw [HP.out] at he; subst he; obtain ⟨hc1, hf1, hz1⟩ := bcell hb1; (try simp only [World.size_alloc, World.size_setCell, World.size_drew, sz_drewN] at hz1); have hb2 := (by first | exact bw_then hb2 hb1 | exact bw_then (bw_drewN _ hb2) hb1 | exact bw_then (bw_alloc _ hb2) hb1 | exact bw_then (bw_drew hb2) hb1 | exact bw_then HB hb1 | exact bw_then (bw_drewN _ HB) hb1 | exact bw_then (bw_alloc _ HB) hb1 | exact bw_then (bw_drew HB) hb1 | exact hb1); obtain ⟨hc2, hf2, hz2⟩ := bcell hb2; (try simp only [World.size_alloc, World.size_setCell, World.size_drew, sz_drewN] at hz2); try (first | obtain ⟨hy1, hy2, hy3, hy4⟩ := lts4 hz2 | obtain ⟨hy1, hy2, hy3⟩ := lts3 hz2 | obtain ⟨hy1, hy2⟩ := lts2 hz2 | have hy1 := lts1 hz2); have hb9 := hb1))
                go_ret
                exact ⟨ret_bool HM.out.symm, (by with_reducible repeat (first | assumption | exact bw_refl _ | apply bw_alloc | apply bw_drew | apply bw_drewN | refine bw_set _ ?_ (by omega) | refine bw_then ?_ (by assumption)))⟩
              · have HM : Hid (koRow n l (2 * t + k) (f + 1) = true) := Lib.hid (by rw [koRow, HF.out, HV.out, hpre]; rfl)
                have HP := Lib.hid hpre
                clear hpre
                go_wp2_with (first | (go_at_call 79; refine (impl_sentAmong ids l f t k A1 D _ _ _ (by exact Kd.C_below HC.out (by with_reducible repeat (first | assumption | exact bw_refl _ | apply bw_alloc | apply bw_drew | apply bw_drewN | refine bw_set _ ?_ (by omega) | refine bw_then ?_ (by assumption)))) (by exact Kd.C_below P.out (by with_reducible repeat (first | assumption | exact bw_refl _ | apply bw_alloc | apply bw_drew | apply bw_drewN | refine bw_set _ ?_ (by omega) | refine bw_then ?_ (by assumption)))) hkl hil).mono ?_; rintro e w1 ⟨hg1, hb1⟩; rw [HXA.out] at hg1; obtain ⟨va, rfl, HOa⟩ := hg1; obtain ⟨Aa, ca, rfl, hla, hCa⟩ := Kd.R_reads HOa; obtain ⟨hc1, hf1, hz1⟩ := bcell hb1; (try simp only [World.size_alloc, World.size_setCell, World.size_drew, sz_drewN] at hz1); have hb2 := (by first | exact bw_then hb2 hb1 | exact bw_then (bw_drewN _ hb2) hb1 | exact bw_then (bw_alloc _ hb2) hb1 | exact bw_then (bw_drew hb2) hb1 | exact bw_then HB hb1 | exact bw_then (bw_drewN _ HB) hb1 | exact bw_then (bw_alloc _ HB) hb1 | exact bw_then (bw_drew HB) hb1 | exact hb1); obtain ⟨hc2, hf2, hz2⟩ := bcell hb2; (try simp only [World.size_alloc, World.size_setCell, World.size_drew, sz_drewN] at hz2); try (first | obtain ⟨hy1, hy2, hy3, hy4⟩ := lts4 hz2 | obtain ⟨hy1, hy2, hy3⟩ := lts3 hz2 | obtain ⟨hy1, hy2⟩ := lts2 hz2 | have hy1 := lts1 hz2); have hb9 := hb1) | (go_at_call 80; refine (impl_SentFrom l f t k D _ _ (by exact Kd.C_below P.out (by with_reducible repeat (first | assumption | exact bw_refl _ | apply bw_alloc | apply bw_drew | apply bw_drewN | refine bw_set _ ?_ (by omega) | refine bw_then ?_ (by assumption)))) hkl).mono ?_; rintro e w1 ⟨hg1, hb1⟩; rw [HXB.out] at hg1; obtain ⟨vb, rfl, HOb⟩ := hg1; obtain ⟨Ab, cb, rfl, hlb, hCb⟩ := Kd.R_reads HOb; obtain ⟨hc1, hf1, hz1⟩ := bcell hb1; (try simp only [World.size_alloc, World.size_setCell, World.size_drew, sz_drewN] at hz1); have hb2 := (by first | exact bw_then hb2 hb1 | exact bw_then (bw_drewN _ hb2) hb1 | exact bw_then (bw_alloc _ hb2) hb1 | exact bw_then (bw_drew hb2) hb1 | exact bw_then HB hb1 | exact bw_then (bw_drewN _ HB) hb1 | exact bw_then (bw_alloc _ HB) hb1 | exact bw_then (bw_drew HB) hb1 | exact hb1); obtain ⟨hc2, hf2, hz2⟩ := bcell hb2; (try simp only [World.size_alloc, World.size_setCell, World.size_drew, sz_drewN] at hz2); try (first | obtain ⟨hy1, hy2, hy3, hy4⟩ := lts4 hz2 | obtain ⟨hy1, hy2, hy3⟩ := lts3 hz2 | obtain ⟨hy1, hy2⟩ := lts2 hz2 | have hy1 := lts1 hz2); have hb9 := hb1) | (go_at_call 78; refine (impl_IsPrefixOf xa xb Aa Ab ca cb _ (by exact Kd.C_below hCa (by with_reducible repeat (first | assumption | exact bw_refl _ | apply bw_alloc | apply bw_drew | apply bw_drewN | refine bw_set _ ?_ (by omega) | refine bw_then ?_ (by assumption)))) (by exact Kd.C_below hCb (by with_reducible repeat (first | assumption | exact bw_refl _ | apply bw_alloc | apply bw_drew | apply bw_drewN | refine bw_set _ ?_ (by omega) | refine bw_then ?_ (by assumption)))) la lb hlb).mono ?_; rintro e w1 ⟨he, hb1⟩; rw [HP.out] at he; subst he; obtain ⟨hc1, hf1, hz1⟩ := bcell hb1; (try simp only [World.size_alloc, World.size_setCell, World.size_drew, sz_drewN] at hz1); have hb2 := (by first | exact bw_then hb2 hb1 | exact bw_then (bw_drewN _ hb2) hb1 | exact bw_then (bw_alloc _ hb2) hb1 | exact bw_then (bw_drew hb2) hb1 | exact bw_then HB hb1 | exact bw_then (bw_drewN _ HB) hb1 | exact bw_then (bw_alloc _ HB) hb1 | exact bw_then (bw_drew HB) hb1 | exact hb1); obtain ⟨hc2, hf2, hz2⟩ := bcell hb2; (try simp only [World.size_alloc, World.size_setCell, World.size_drew, sz_drewN] at hz2); try (first | obtain ⟨hy1, hy2, hy3, hy4⟩ := lts4 hz2 | obtain ⟨hy1, hy2, hy3⟩ := lts3 hz2 | obtain ⟨hy1, hy2⟩ := lts2 hz2 | have hy1 := lts1 hz2); have hb9 := hb1))
                go_roundw
                case rel => exact ⟨f + 1, by go_num, by omega, HM, Lib.hid (by exact Kd.C_below HC.out (by with_reducible repeat (first | assumption | exact bw_refl _ | apply bw_alloc | apply bw_drew | apply bw_drewN | refine bw_set _ ?_ (by omega) | refine bw_then ?_ (by assumption)))), (by with_reducible repeat (first | assumption | exact bw_refl _ | apply bw_alloc | apply bw_drew | apply bw_drewN | refine bw_set _ ?_ (by omega) | refine bw_then ?_ (by assumption)))⟩
                case measure => simp [intOf]; omega
            · obtain rfl : f = n.arrs.length := by omega
              have HM : Hid (koAll n l n.arrs.length (2 * t + (k + 1)) = true) := Lib.hid (by rw [show 2 * t + (k + 1) = 2 * t + k + 1 from rfl, koAll, HA.out, HF.out]; rfl)
              go_wp2
              go_roundw
              case rel => exact ⟨k + 1, by go_num, by omega, HM, (by with_reducible repeat (first | assumption | exact bw_refl _ | apply bw_alloc | apply bw_drew | apply bw_drewN | refine bw_set _ ?_ (by omega) | refine bw_then ?_ (by assumption)))⟩
              case measure => simp [intOf]; omega
        · obtain rfl : k = 2 := by omega
          have HM : Hid (koAll n l n.arrs.length (2 * (t + 1)) = true) := Lib.hid HA.out
          go_wp2
          go_roundw
          case rel => exact ⟨t + 1, by go_num, by omega, HM, (by with_reducible repeat (first | assumption | exact bw_refl _ | apply bw_alloc | apply bw_drew | apply bw_drewN | refine bw_set _ ?_ (by omega) | refine bw_then ?_ (by assumption)))⟩
          case measure => simp [intOf]; omega
    · obtain rfl : t = n.arrs.length := by omega
      go_wp2
      go_ret
      exact ⟨ret_bool (HE.out.trans HA.out).symm, (by with_reducible repeat (first | assumption | exact bw_refl _ | apply bw_alloc | apply bw_drew | apply bw_drewN | refine bw_set _ ?_ (by omega) | refine bw_then ?_ (by assumption)))⟩
set_option maxHeartbeats 8000000 in
set_option maxRecDepth 100000 in
theorem spec_KeepsOrder (n : Net) (l : List Packet) (q : NA) (D : Option Addr) (d : Nat) (w : World) (hr : NetR 142 w n q) (hp : kP.C w D l.length l) (hkl : l.length ≤ 1048576) :
    Calls Try.prog 24 #[.agg (netCells n q), .slice D l.length d] w fun e w' => e = .returned (.bool (keepsN n l)) ∧ Below w.heap.size w w' := by
  have R := Lib.hid hr
  have P := Lib.hid hp
  obtain ⟨a1, a2, a3, a4, a5, a6, a7, a8, c1, c2, c3, c4, c5, c6, c7, c8⟩ := q
  clear hr hp
  dsimp only [netCells]
  cases hk : netOk n
  · have HE : Hid (keepsN n l = false) := Lib.hid (by rw [keepsN, hk]; rfl)
    go_enter Try.func24, Try.ntmps24
    go_wp2_with (go_at_call 70; refine (spec_NetOk n _ _ (R.out.below (by with_reducible repeat (first | assumption | exact bw_refl _ | apply bw_alloc | apply bw_drew | apply bw_drewN | refine bw_set _ ?_ (by omega) | refine bw_then ?_ (by assumption))))).mono ?_; rintro e w1 ⟨rfl, hb1⟩; obtain ⟨hc1, hf1, hz1⟩ := bcell hb1; (try simp only [World.size_alloc, World.size_setCell, World.size_drew, sz_drewN] at hz1); have hb2 := (by first | exact bw_then hb2 hb1 | exact bw_then (bw_drewN _ hb2) hb1 | exact bw_then (bw_alloc _ hb2) hb1 | exact bw_then (bw_drew hb2) hb1 | exact bw_then HB hb1 | exact bw_then (bw_drewN _ HB) hb1 | exact bw_then (bw_alloc _ HB) hb1 | exact bw_then (bw_drew HB) hb1 | exact hb1); obtain ⟨hc2, hf2, hz2⟩ := bcell hb2; (try simp only [World.size_alloc, World.size_setCell, World.size_drew, sz_drewN] at hz2); try (first | obtain ⟨hy1, hy2, hy3, hy4⟩ := lts4 hz2 | obtain ⟨hy1, hy2, hy3⟩ := lts3 hz2 | obtain ⟨hy1, hy2⟩ := lts2 hz2 | have hy1 := lts1 hz2); have hb9 := hb1)
    go_ret
    exact ⟨ret_bool HE.out.symm, (by with_reducible repeat (first | assumption | exact bw_refl _ | apply bw_alloc | apply bw_drew | apply bw_drewN | refine bw_set _ ?_ (by omega) | refine bw_then ?_ (by assumption)))⟩
  have HK := Lib.hid hk
  have HE : Hid (keepsN n l = koAll n l n.arrs.length (2 * n.arrs.length)) := Lib.hid (by rw [keepsN, hk]; rfl)
  have n16 := (arrs_len hk).1
  have HNC : Hid (nodeCount n.mesh.g = (n.arrs.length : Int)) := Lib.hid (arrs_len hk).2.symm
  go_enter Try.func24, Try.ntmps24
  go_wp2_with (first | (go_at_call 70; refine (spec_NetOk n _ _ (R.out.below (by with_reducible repeat (first | assumption | exact bw_refl _ | apply bw_alloc | apply bw_drew | apply bw_drewN | refine bw_set _ ?_ (by omega) | refine bw_then ?_ (by assumption))))).mono ?_; rintro e w1 ⟨rfl, hb1⟩; obtain ⟨hc1, hf1, hz1⟩ := bcell hb1; (try simp only [World.size_alloc, World.size_setCell, World.size_drew, sz_drewN] at hz1); have hb2 := (by first | exact bw_then hb2 hb1 | exact bw_then (bw_drewN _ hb2) hb1 | exact bw_then (bw_alloc _ hb2) hb1 | exact bw_then (bw_drew hb2) hb1 | exact bw_then HB hb1 | exact bw_then (bw_drewN _ HB) hb1 | exact bw_then (bw_alloc _ HB) hb1 | exact bw_then (bw_drew HB) hb1 | exact hb1); obtain ⟨hc2, hf2, hz2⟩ := bcell hb2; (try simp only [World.size_alloc, World.size_setCell, World.size_drew, sz_drewN] at hz2); try (first | obtain ⟨hy1, hy2, hy3, hy4⟩ := lts4 hz2 | obtain ⟨hy1, hy2, hy3⟩ := lts3 hz2 | obtain ⟨hy1, hy2⟩ := lts2 hz2 | have hy1 := lts1 hz2); have hb9 := hb1) | (go_at_call 71; refine (spec_NodeCount n.mesh.g _).mono ?_; rintro e w1 ⟨he, hb1⟩; rw [HNC.out] at he; subst he; obtain ⟨hc1, hf1, hz1⟩ := bcell hb1; (try simp only [World.size_alloc, World.size_setCell, World.size_drew, sz_drewN] at hz1); have hb2 := (by first | exact bw_then hb2 hb1 | exact bw_then (bw_drewN _ hb2) hb1 | exact bw_then (bw_alloc _ hb2) hb1 | exact bw_then (bw_drew hb2) hb1 | exact bw_then HB hb1 | exact bw_then (bw_drewN _ HB) hb1 | exact bw_then (bw_alloc _ HB) hb1 | exact bw_then (bw_drew HB) hb1 | exact hb1); obtain ⟨hc2, hf2, hz2⟩ := bcell hb2; (try simp only [World.size_alloc, World.size_setCell, World.size_drew, sz_drewN] at hz2); try (first | obtain ⟨hy1, hy2, hy3, hy4⟩ := lts4 hz2 | obtain ⟨hy1, hy2, hy3⟩ := lts3 hz2 | obtain ⟨hy1, hy2⟩ := lts2 hz2 | have hy1 := lts1 hz2); have hb9 := hb1))
  clear hk
  go_loopw [6] (fun v wr => ∃ i : Nat, v = .int .i64 i ∧ i ≤ 2 * n.arrs.length ∧ Hid (koAll n l n.arrs.length i = true) ∧ Below (w.alloc (.cells #[.int .i64 n.mesh.g.w, .int .i64 n.mesh.g.h, .slice a1 n.mesh.br.length c1, .slice a2 n.pa.length c2, .slice a3 n.pb.length c3, .slice a4 n.bufs.length c4, .slice a5 n.owners.length c5, .slice a6 n.turns.length c6, .slice a7 n.srcs.length c7, .slice a8 n.arrs.length c8, .int .i64 n.time] 33)).heap.size (w.alloc (.cells #[.int .i64 n.mesh.g.w, .int .i64 n.mesh.g.h, .slice a1 n.mesh.br.length c1, .slice a2 n.pa.length c2, .slice a3 n.pb.length c3, .slice a4 n.bufs.length c4, .slice a5 n.owners.length c5, .slice a6 n.turns.length c6, .slice a7 n.srcs.length c7, .slice a8 n.arrs.length c8, .int .i64 n.time] 33)) wr) (fun v _ => 2 * n.arrs.length - (intOf v).toNat)
  case atStart => exact ⟨0, rfl, Nat.zero_le _, Lib.hid rfl, (by with_reducible repeat (first | assumption | exact bw_refl _ | apply bw_alloc | apply bw_drew | apply bw_drewN | refine bw_set _ ?_ (by omega) | refine bw_then ?_ (by assumption)))⟩
  case round =>
    repeat (first | clear hc1 | clear hf1 | clear hz1 | clear hb1 | clear hb9 | clear hc2 | clear hf2 | clear hz2 | clear hb2 | clear hy1 | clear hy2 | clear hy3 | clear hy4)
    obtain ⟨i, rfl, hi, HA, HB⟩ := hrel
    obtain ⟨wo, ewo⟩ : ∃ x, x = wr := ⟨_, rfl⟩
    subst ewo
    obtain ⟨hcr, hfr, hzr⟩ := bcell HB
    simp only [World.size_alloc, World.size_setCell, World.size_drew, sz_drewN] at hzr
    have yy1 := lts1 hzr
    by_cases hlt : i < 2 * n.arrs.length
    · have i0 : (i : Int) < 2 * (n.arrs.length : Int) := by omega
      have q1 : ((i / 2 : Nat) : Int) = (i : Int) / 2 := by omega
      have q2 : ((i % 2 : Nat) : Int) = (i : Int) % 2 := by omega
      have hnd := node_of HK.out (t := i / 2) (by omega)
      rw [q1] at hnd
      have HN := Lib.hid hnd
      have hil := koIds_len R.out hlt
      obtain ⟨ids, hids⟩ : ∃ ids, koIds n i = ids := ⟨_, rfl⟩
      have HI : Hid (wholeP (arrF n ((i : Int) / 2) ((i : Int) % 2)) = ids) := Lib.hid (by rw [← hids, koIds, q1, q2])
      have HAT : Hid (∀ f : Nat, koAt n l i f = isPre (amongTo ids l f ((i : Int) / 2) ((i : Int) % 2) ids.length) (sentTo l f ((i : Int) / 2) ((i : Int) % 2) l.length)) := Lib.hid (fun f => by rw [koAt, hids, q1, q2])
      have HID := Lib.hid hids
      rw [hids] at hil
      clear hids q1 q2 hnd
      go_wp2_with (go_at_call 72; refine (spec_l22At n _ ((i : Int) / 2) ((i : Int) % 2) _ (R.out.below (by with_reducible repeat (first | assumption | exact bw_refl _ | apply bw_alloc | apply bw_drew | apply bw_drewN | refine bw_set _ ?_ (by omega) | refine bw_then ?_ (by assumption)))) HK.out HN.out).mono ?_; rintro e w1 ⟨hg1, hb1⟩; obtain ⟨v1, rfl, HO1⟩ := hg1; rw [HI.out] at HO1; obtain ⟨A1, d1, rfl, hk1, hC1⟩ := Kd.R_reads HO1; obtain ⟨hc1, hf1, hz1⟩ := bcell hb1; (try simp only [World.size_alloc, World.size_setCell, World.size_drew, sz_drewN] at hz1); have hb2 := (by first | exact bw_then hb2 hb1 | exact bw_then (bw_drewN _ hb2) hb1 | exact bw_then (bw_alloc _ hb2) hb1 | exact bw_then (bw_drew hb2) hb1 | exact bw_then HB hb1 | exact bw_then (bw_drewN _ HB) hb1 | exact bw_then (bw_alloc _ HB) hb1 | exact bw_then (bw_drew HB) hb1 | exact hb1); obtain ⟨hc2, hf2, hz2⟩ := bcell hb2; (try simp only [World.size_alloc, World.size_setCell, World.size_drew, sz_drewN] at hz2); try (first | obtain ⟨hy1, hy2, hy3, hy4⟩ := lts4 hz2 | obtain ⟨hy1, hy2, hy3⟩ := lts3 hz2 | obtain ⟨hy1, hy2⟩ := lts2 hz2 | have hy1 := lts1 hz2); have hb9 := hb1)
      go_loopw [9] (fun v wr => ∃ f : Nat, v = .int .i64 f ∧ f ≤ n.arrs.length ∧ Hid (koRow n l i f = true) ∧ Hid (Kd.C (Kd.int .i64) wr A1 ids.length ids) ∧ Below (w.alloc (.cells #[.int .i64 n.mesh.g.w, .int .i64 n.mesh.g.h, .slice a1 n.mesh.br.length c1, .slice a2 n.pa.length c2, .slice a3 n.pb.length c3, .slice a4 n.bufs.length c4, .slice a5 n.owners.length c5, .slice a6 n.turns.length c6, .slice a7 n.srcs.length c7, .slice a8 n.arrs.length c8, .int .i64 n.time] 33)).heap.size (w.alloc (.cells #[.int .i64 n.mesh.g.w, .int .i64 n.mesh.g.h, .slice a1 n.mesh.br.length c1, .slice a2 n.pa.length c2, .slice a3 n.pb.length c3, .slice a4 n.bufs.length c4, .slice a5 n.owners.length c5, .slice a6 n.turns.length c6, .slice a7 n.srcs.length c7, .slice a8 n.arrs.length c8, .int .i64 n.time] 33)) wr) (fun v _ => n.arrs.length - (intOf v).toNat)
      case atStart => exact ⟨0, rfl, Nat.zero_le _, Lib.hid rfl, Lib.hid hC1, (by with_reducible repeat (first | assumption | exact bw_refl _ | apply bw_alloc | apply bw_drew | apply bw_drewN | refine bw_set _ ?_ (by omega) | refine bw_then ?_ (by assumption)))⟩
      case round =>
        clear hC1 HB hcr hfr hzr yy1
        repeat (first | clear hc1 | clear hf1 | clear hz1 | clear hb1 | clear hb9 | clear hc2 | clear hf2 | clear hz2 | clear hb2 | clear hy1 | clear hy2 | clear hy3 | clear hy4)
        obtain ⟨f, rfl, hf, HF, HC, HB⟩ := hrel
        have hzr := bw_size HB
        simp only [World.size_alloc, World.size_setCell, World.size_drew, sz_drewN] at hzr
        by_cases hlf : f < n.arrs.length
        · have i1 : (f : Int) < (n.arrs.length : Int) := by omega
          by_cases h0 : ids.length = 0
          · have HM : Hid (koAll n l n.arrs.length (i + 1) = true) := Lib.hid (by rw [koAll, HA.out, koRow_nil (by rw [HID.out]; exact h0)]; rfl)
            have f0 : ¬ (0 : Int) < (ids.length : Int) := by omega
            clear h0
            go_wp2
            go_roundw
            case rel => exact ⟨i + 1, by go_num, by omega, HM, (by with_reducible repeat (first | assumption | exact bw_refl _ | apply bw_alloc | apply bw_drew | apply bw_drewN | refine bw_set _ ?_ (by omega) | refine bw_then ?_ (by assumption)))⟩
            case measure => simp [intOf]; omega
          · have f0 : (0 : Int) < (ids.length : Int) := by omega
            have la := Nat.le_trans (among_len ids l f ((i : Int) / 2) ((i : Int) % 2) ids.length) hil
            have lb := Nat.le_trans (sentTo_len l f ((i : Int) / 2) ((i : Int) % 2) l.length) hkl
            obtain ⟨xa, hxa⟩ : ∃ xa, amongTo ids l f ((i : Int) / 2) ((i : Int) % 2) ids.length = xa := ⟨_, rfl⟩
            obtain ⟨xb, hxb⟩ : ∃ xb, sentTo l f ((i : Int) / 2) ((i : Int) % 2) l.length = xb := ⟨_, rfl⟩
            have HV : Hid (koAt n l i f = isPre xa xb) := Lib.hid (by rw [HAT.out, hxa, hxb])
            rw [hxa] at la
            rw [hxb] at lb
            have HXA := Lib.hid hxa
            have HXB := Lib.hid hxb
            clear hxa hxb
            cases hpre : isPre xa xb
            · have HM := Lib.hid (keeps_miss (n := n) (l := l) (i := i) (f := f) hlt hlf (HV.out.trans hpre))
              have HP := Lib.hid hpre
              clear hpre
              go_wp2_with (first | (go_at_call 74; refine (spec_l22From ids l f ((i : Int) / 2) ((i : Int) % 2) A1 D _ _ _ (by exact Kd.C_below HC.out (by with_reducible repeat (first | assumption | exact bw_refl _ | apply bw_alloc | apply bw_drew | apply bw_drewN | refine bw_set _ ?_ (by omega) | refine bw_then ?_ (by assumption)))) (by exact Kd.C_below P.out (by with_reducible repeat (first | assumption | exact bw_refl _ | apply bw_alloc | apply bw_drew | apply bw_drewN | refine bw_set _ ?_ (by omega) | refine bw_then ?_ (by assumption)))) hkl hil).mono ?_; rintro e w1 ⟨hg1, hb1⟩; rw [HXA.out] at hg1; obtain ⟨va, rfl, HOa⟩ := hg1; obtain ⟨Aa, ca, rfl, hla, hCa⟩ := Kd.R_reads HOa; obtain ⟨hc1, hf1, hz1⟩ := bcell hb1; (try simp only [World.size_alloc, World.size_setCell, World.size_drew, sz_drewN] at hz1); have hb2 := (by first | exact bw_then hb2 hb1 | exact bw_then (bw_drewN _ hb2) hb1 | exact bw_then (bw_alloc _ hb2) hb1 | exact bw_then (bw_drew hb2) hb1 | exact bw_then HB hb1 | exact bw_then (bw_drewN _ HB) hb1 | exact bw_then (bw_alloc _ HB) hb1 | exact bw_then (bw_drew HB) hb1 | exact hb1); obtain ⟨hc2, hf2, hz2⟩ := bcell hb2; (try simp only [World.size_alloc, World.size_setCell, World.size_drew, sz_drewN] at hz2); try (first | obtain ⟨hy1, hy2, hy3, hy4⟩ := lts4 hz2 | obtain ⟨hy1, hy2, hy3⟩ := lts3 hz2 | obtain ⟨hy1, hy2⟩ := lts2 hz2 | have hy1 := lts1 hz2); have hb9 := hb1) | (go_at_call 75; refine (spec_SentFrom l f ((i : Int) / 2) ((i : Int) % 2) D _ _ (by exact Kd.C_below P.out (by with_reducible repeat (first | assumption | exact bw_refl _ | apply bw_alloc | apply bw_drew | apply bw_drewN | refine bw_set _ ?_ (by omega) | refine bw_then ?_ (by assumption)))) hkl).mono ?_; rintro e w1 ⟨hg1, hb1⟩; rw [HXB.out] at hg1; obtain ⟨vb, rfl, HOb⟩ := hg1; obtain ⟨Ab, cb, rfl, hlb, hCb⟩ := Kd.R_reads HOb; obtain ⟨hc1, hf1, hz1⟩ := bcell hb1; (try simp only [World.size_alloc, World.size_setCell, World.size_drew, sz_drewN] at hz1); have hb2 := (by first | exact bw_then hb2 hb1 | exact bw_then (bw_drewN _ hb2) hb1 | exact bw_then (bw_alloc _ hb2) hb1 | exact bw_then (bw_drew hb2) hb1 | exact bw_then HB hb1 | exact bw_then (bw_drewN _ HB) hb1 | exact bw_then (bw_alloc _ HB) hb1 | exact bw_then (bw_drew HB) hb1 | exact hb1); obtain ⟨hc2, hf2, hz2⟩ := bcell hb2; (try simp only [World.size_alloc, World.size_setCell, World.size_drew, sz_drewN] at hz2); try (first | obtain ⟨hy1, hy2, hy3, hy4⟩ := lts4 hz2 | obtain ⟨hy1, hy2, hy3⟩ := lts3 hz2 | obtain ⟨hy1, hy2⟩ := lts2 hz2 | have hy1 := lts1 hz2); have hb9 := hb1) | (go_at_call 73; refine (spec_IsPrefixOf xa xb Aa Ab ca cb _ (by exact Kd.C_below hCa (by with_reducible repeat (first | assumption | exact bw_refl _ | apply bw_alloc | apply bw_drew | apply bw_drewN | refine bw_set _ ?_ (by omega) | refine bw_then ?_ (by assumption)))) (by exact Kd.C_below hCb (by with_reducible repeat (first | assumption | exact bw_refl _ | apply bw_alloc | apply bw_drew | apply bw_drewN | refine bw_set _ ?_ (by omega) | refine bw_then ?_ (by assumption)))) la lb).mono ?_; rintro e w1 ⟨he, hb1⟩; rw [HP.out] at he; subst he; obtain ⟨hc1, hf1, hz1⟩ := bcell hb1; (try simp only [World.size_alloc, World.size_setCell, World.size_drew, sz_drewN] at hz1); have hb2 := (by first | exact bw_then hb2 hb1 | exact bw_then (bw_drewN _ hb2) hb1 | exact bw_then (bw_alloc _ hb2) hb1 | exact bw_then (bw_drew hb2) hb1 | exact bw_then HB hb1 | exact bw_then (bw_drewN _ HB) hb1 | exact bw_then (bw_alloc _ HB) hb1 | exact bw_then (bw_drew HB) hb1 | exact hb1); obtain ⟨hc2, hf2, hz2⟩ := bcell hb2; (try simp only [World.size_alloc, World.size_setCell, World.size_drew, sz_drewN] at hz2); try (first | obtain ⟨hy1, hy2, hy3, hy4⟩ := lts4 hz2 | obtain ⟨hy1, hy2, hy3⟩ := lts3 hz2 | obtain ⟨hy1, hy2⟩ := lts2 hz2 | have hy1 := lts1 hz2); have hb9 := hb1))
              go_ret
              exact ⟨ret_bool HM.out.symm, (by with_reducible repeat (first | assumption | exact bw_refl _ | apply bw_alloc | apply bw_drew | apply bw_drewN | refine bw_set _ ?_ (by omega) | refine bw_then ?_ (by assumption)))⟩
            · have HM : Hid (koRow n l i (f + 1) = true) := Lib.hid (by rw [koRow, HF.out, HV.out, hpre]; rfl)
              have HP := Lib.hid hpre
              clear hpre
              go_wp2_with (first | (go_at_call 74; refine (spec_l22From ids l f ((i : Int) / 2) ((i : Int) % 2) A1 D _ _ _ (by exact Kd.C_below HC.out (by with_reducible repeat (first | assumption | exact bw_refl _ | apply bw_alloc | apply bw_drew | apply bw_drewN | refine bw_set _ ?_ (by omega) | refine bw_then ?_ (by assumption)))) (by exact Kd.C_below P.out (by with_reducible repeat (first | assumption | exact bw_refl _ | apply bw_alloc | apply bw_drew | apply bw_drewN | refine bw_set _ ?_ (by omega) | refine bw_then ?_ (by assumption)))) hkl hil).mono ?_; rintro e w1 ⟨hg1, hb1⟩; rw [HXA.out] at hg1; obtain ⟨va, rfl, HOa⟩ := hg1; obtain ⟨Aa, ca, rfl, hla, hCa⟩ := Kd.R_reads HOa; obtain ⟨hc1, hf1, hz1⟩ := bcell hb1; (try simp only [World.size_alloc, World.size_setCell, World.size_drew, sz_drewN] at hz1); have hb2 := (by first | exact bw_then hb2 hb1 | exact bw_then (bw_drewN _ hb2) hb1 | exact bw_then (bw_alloc _ hb2) hb1 | exact bw_then (bw_drew hb2) hb1 | exact bw_then HB hb1 | exact bw_then (bw_drewN _ HB) hb1 | exact bw_then (bw_alloc _ HB) hb1 | exact bw_then (bw_drew HB) hb1 | exact hb1); obtain ⟨hc2, hf2, hz2⟩ := bcell hb2; (try simp only [World.size_alloc, World.size_setCell, World.size_drew, sz_drewN] at hz2); try (first | obtain ⟨hy1, hy2, hy3, hy4⟩ := lts4 hz2 | obtain ⟨hy1, hy2, hy3⟩ := lts3 hz2 | obtain ⟨hy1, hy2⟩ := lts2 hz2 | have hy1 := lts1 hz2); have hb9 := hb1) | (go_at_call 75; refine (spec_SentFrom l f ((i : Int) / 2) ((i : Int) % 2) D _ _ (by exact Kd.C_below P.out (by with_reducible repeat (first | assumption | exact bw_refl _ | apply bw_alloc | apply bw_drew | apply bw_drewN | refine bw_set _ ?_ (by omega) | refine bw_then ?_ (by assumption)))) hkl).mono ?_; rintro e w1 ⟨hg1, hb1⟩; rw [HXB.out] at hg1; obtain ⟨vb, rfl, HOb⟩ := hg1; obtain ⟨Ab, cb, rfl, hlb, hCb⟩ := Kd.R_reads HOb; obtain ⟨hc1, hf1, hz1⟩ := bcell hb1; (try simp only [World.size_alloc, World.size_setCell, World.size_drew, sz_drewN] at hz1); have hb2 := (by first | exact bw_then hb2 hb1 | exact bw_then (bw_drewN _ hb2) hb1 | exact bw_then (bw_alloc _ hb2) hb1 | exact bw_then (bw_drew hb2) hb1 | exact bw_then HB hb1 | exact bw_then (bw_drewN _ HB) hb1 | exact bw_then (bw_alloc _ HB) hb1 | exact bw_then (bw_drew HB) hb1 | exact hb1); obtain ⟨hc2, hf2, hz2⟩ := bcell hb2; (try simp only [World.size_alloc, World.size_setCell, World.size_drew, sz_drewN] at hz2); try (first | obtain ⟨hy1, hy2, hy3, hy4⟩ := lts4 hz2 | obtain ⟨hy1, hy2, hy3⟩ := lts3 hz2 | obtain ⟨hy1, hy2⟩ := lts2 hz2 | have hy1 := lts1 hz2); have hb9 := hb1) | (go_at_call 73; refine (spec_IsPrefixOf xa xb Aa Ab ca cb _ (by exact Kd.C_below hCa (by with_reducible repeat (first | assumption | exact bw_refl _ | apply bw_alloc | apply bw_drew | apply bw_drewN | refine bw_set _ ?_ (by omega) | refine bw_then ?_ (by assumption)))) (by exact Kd.C_below hCb (by with_reducible repeat (first | assumption | exact bw_refl _ | apply bw_alloc | apply bw_drew | apply bw_drewN | refine bw_set _ ?_ (by omega) | refine bw_then ?_ (by assumption)))) la lb).mono ?_; rintro e w1 ⟨he, hb1⟩; rw [HP.out] at he; subst he; obtain ⟨hc1, hf1, hz1⟩ := bcell hb1; (try simp only [World.size_alloc, World.size_setCell, World.size_drew, sz_drewN] at hz1); have hb2 := (by first | exact bw_then hb2 hb1 | exact bw_then (bw_drewN _ hb2) hb1 | exact bw_then (bw_alloc _ hb2) hb1 | exact bw_then (bw_drew hb2) hb1 | exact bw_then HB hb1 | exact bw_then (bw_drewN _ HB) hb1 | exact bw_then (bw_alloc _ HB) hb1 | exact bw_then (bw_drew HB) hb1 | exact hb1); obtain ⟨hc2, hf2, hz2⟩ := bcell hb2; (try simp only [World.size_alloc, World.size_setCell, World.size_drew, sz_drewN] at hz2); try (first | obtain ⟨hy1, hy2, hy3, hy4⟩ := lts4 hz2 | obtain ⟨hy1, hy2, hy3⟩ := lts3 hz2 | obtain ⟨hy1, hy2⟩ := lts2 hz2 | have hy1 := lts1 hz2); have hb9 := hb1))
              go_roundw
              case rel => exact ⟨f + 1, by go_num, by omega, HM, Lib.hid (by exact Kd.C_below HC.out (by with_reducible repeat (first | assumption | exact bw_refl _ | apply bw_alloc | apply bw_drew | apply bw_drewN | refine bw_set _ ?_ (by omega) | refine bw_then ?_ (by assumption)))), (by with_reducible repeat (first | assumption | exact bw_refl _ | apply bw_alloc | apply bw_drew | apply bw_drewN | refine bw_set _ ?_ (by omega) | refine bw_then ?_ (by assumption)))⟩
              case measure => simp [intOf]; omega
        · obtain rfl : f = n.arrs.length := by omega
          have HM : Hid (koAll n l n.arrs.length (i + 1) = true) := Lib.hid (by rw [koAll, HA.out, HF.out]; rfl)
          go_wp2
          go_roundw
          case rel => exact ⟨i + 1, by go_num, by omega, HM, (by with_reducible repeat (first | assumption | exact bw_refl _ | apply bw_alloc | apply bw_drew | apply bw_drewN | refine bw_set _ ?_ (by omega) | refine bw_then ?_ (by assumption)))⟩
          case measure => simp [intOf]; omega
    · obtain rfl : i = 2 * n.arrs.length := by omega
      have i0 : ¬ 2 * (n.arrs.length : Int) < 2 * (n.arrs.length : Int) := by omega
      go_wp2
      go_ret
      exact ⟨ret_bool (HE.out.trans HA.out).symm, (by with_reducible repeat (first | assumption | exact bw_refl _ | apply bw_alloc | apply bw_drew | apply bw_drewN | refine bw_set _ ?_ (by omega) | refine bw_then ?_ (by assumption)))⟩
end Go.Proofs.Ytinnfahmfggghaa
