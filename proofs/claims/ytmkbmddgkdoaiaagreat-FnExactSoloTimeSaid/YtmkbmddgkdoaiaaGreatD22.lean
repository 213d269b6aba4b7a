/- Lemmas for laws of this seat, for all inputs: DvS LawFit Open OpenP. -/
import Derived.Test.YtmkbmddgkdoaiaaGreatD20
import Derived.Test.YtmkbmddgkdoaiaaGreatD21
import Derived.Test.YtmkbmddgkdoaiaaGreatD19
import Derived.Test.YtmkbmddgkdoaiaaGreatD12
import Derived.Test.YtmkbmddgkdoaiaaGreatD3
import Derived.ProofKit
import Derived.OpenShut
import Derived.SizedLaws
import Derived.WideShapes
import Derived.ChangeSame
set_option linter.unusedVariables false
set_option linter.unusedSimpArgs false
namespace Go.Proofs.YtmkbmddgkdoaiaaGreat
open Go.RowKit Go.Proofs.YtmkbmddgkdoaiaaGreatW.PrintWords
open NoC
def startV (m : Mesh) (pa pb : List Int) (l : List Packet) : Net := if classesOk m pa pb = true then startN m pa pb l else zeroN
def startB (m : Mesh) (pa pb : List Int) (l : List Packet) : Bool := classesOk m pa pb && decide (sendAllK (newN m pa pb) l = (l.length : Int))
theorem startV_nb {m : Mesh} {pa pb : List Int} {l : List Packet} (h1 : m.br.length ≤ 2097152) (h2 : pa.length ≤ 2097152) (h3 : pb.length ≤ 2097152) : NB (startV m pa pb l) := by
  unfold startV
  split
  · exact start_nb h1 h2 h3
  · exact zeroN_nb
theorem startV_arrs (m : Mesh) (pa pb : List Int) (l : List Packet) : ∀ x ∈ (startV m pa pb l).arrs, x.length ≤ 1048576 := by
  unfold startV
  split
  · exact start_arrs m pa pb l
  · intro x hx
    simp [zeroN] at hx
theorem startB_no {m : Mesh} {pa pb : List Int} {l : List Packet} (h : startB m pa pb l = false) : deliverN m pa pb l = -1 := by
  cases hk : classesOk m pa pb
  · exact deliver_no1 hk
  · refine deliver_no2 (fun e => ?_)
    unfold startB at h
    rw [hk, decide_eq_true e] at h
    cases h
theorem startB_yes {m : Mesh} {pa pb : List Int} {l : List Packet} (h : startB m pa pb l = true) : classesOk m pa pb = true ∧ sendAllK (newN m pa pb) l = (l.length : Int) ∧ startV m pa pb l = startN m pa pb l := by
  unfold startB at h
  simp only [Bool.and_eq_true, decide_eq_true_eq] at h
  exact ⟨h.1, h.2, by unfold startV; rw [if_pos h.1]⟩
theorem deliver_is {m : Mesh} {pa pb : List Int} {l : List Packet} (h : 0 ≤ deliverN m pa pb l) : startV m pa pb l = startN m pa pb l ∧ deliverN m pa pb l = toIdleN (startN m pa pb l) := by
  obtain ⟨h1, h2⟩ := deliver_pos h
  refine ⟨by unfold startV; rw [if_pos h1], ?_⟩
  by_cases h3 : 0 ≤ toIdleN (startN m pa pb l)
  · by_cases h4 : (missN (runIdleN (startN m pa pb l)) l).length = 0
    · exact deliver_yes h1 h2 h3 h4
    · have := deliver_no4 (m := m) (pa := pa) (pb := pb) (l := l) h4
      omega
  · have := deliver_no3 (m := m) (pa := pa) (pb := pb) (l := l) h3
    omega
theorem bn_put {w : World} {b c : Nat} {n : Net} {q : NA} (h : BN w c) (hne : c ≠ b) : BN (putN w b n q) c := by
  obtain ⟨cs, h1, h2⟩ := h
  exact ⟨cs, by rw [blk_put hne]; exact h1, h2⟩
set_option maxHeartbeats 16000000 in
set_option maxRecDepth 100000 in
theorem spec_l26Start (m : Mesh) (pa pb : List Int) (l : List Packet) (A B C D : Option Addr) (c d k n : Nat) (w : World) (hr : Kd.C (Kd.int .i64) w A m.br.length m.br) (hn : m.br.length ≤ 2097152) (ha : Kd.C (Kd.int .i64) w B pa.length pa) (hka : pa.length ≤ 2097152) (hb : Kd.C (Kd.int .i64) w C pb.length pb) (hkb : pb.length ≤ 2097152) (hp : kP.C w D l.length l) (hkl : l.length ≤ 2097152) :
    Calls Tryz.prog 69 #[.agg #[.int .i64 m.g.w, .int .i64 m.g.h, .slice A m.br.length c], .agg #[.slice B pa.length d, .slice C pb.length k], .slice D l.length n] w fun e w' => GotNV w w' (startV m pa pb l) (.bool (startB m pa pb l)) e ∧ Below w.heap.size w w' := by
  have HR := Lib.hid hr
  have HA := Lib.hid ha
  have HB := Lib.hid hb
  have HP := Lib.hid hp
  clear hr ha hb hp
  obtain ⟨wa, ewa⟩ : ∃ z, z = ((w.alloc (.cells #[.int .i64 m.g.w, .int .i64 m.g.h, .slice A m.br.length c] 38)).alloc (.cells #[.slice B pa.length d, .slice C pb.length k] 41)).alloc (.cells #[.int .i64 0, .int .i64 0, .slice none 0 0, .slice none 0 0, .slice none 0 0, .slice none 0 0, .slice none 0 0, .slice none 0 0, .slice none 0 0, .slice none 0 0, .int .i64 0] 44) := ⟨_, rfl⟩
  have hwa : Below w.heap.size w wa := by rw [ewa]; exact bw_alloc _ (bw_alloc _ (bw_alloc _ (bw_refl w)))
  have zwa : wa.heap.size = w.heap.size + 3 := by rw [ewa]; simp only [szs]
  have HZ : Hid (BN wa (w.heap.size + 2)) := Lib.hid (by rw [ewa]; have h := BT.new ((w.alloc (.cells #[.int .i64 m.g.w, .int .i64 m.g.h, .slice A m.br.length c] 38)).alloc (.cells #[.slice B pa.length d, .slice C pb.length k] 41)) zeroN ZQ; simp only [szs] at h; exact h.bn)
  go_enter Tryz.func69, Tryz.ntmps69
  go_wp2_with fail
  rw [← ewa]
  clear ewa
  refine (spec_NetNew m pa pb A B C c d k _ (Kd.C_below HR.out hwa) hn (Kd.C_below HA.out hwa) hka (Kd.C_below HB.out hwa) hkb).mono ?_
  rintro e w2 ⟨hg, hb2⟩
  obtain ⟨uq, uu4, uu7, uu8, rfl, HNu⟩ := hg
  obtain ⟨N0, hN0⟩ : ∃ z, netNewN m pa pb = z := ⟨_, rfl⟩
  have HNB0 : Hid (NB N0) := Lib.hid (by rw [← hN0]; exact netNew_nb hn hka hkb)
  rw [hN0] at HNu
  rw [hN0]
  have HE0 := Lib.hid hN0
  clear hN0
  obtain ⟨u1, u2, u3, u4, u5, u6, u7, u8, v1, v2, v3, v4, v5, v6, v7, v8⟩ := uq
  dsimp only [netCells]
  have hw3 : Below w2.heap.size w2 (w2.alloc (.cells #[.int .i64 N0.mesh.g.w, .int .i64 N0.mesh.g.h, .slice u1 N0.mesh.br.length v1, .slice u2 N0.pa.length v2, .slice u3 N0.pb.length v3, .slice u4 N0.bufs.length v4, .slice u5 N0.owners.length v5, .slice u6 N0.turns.length v6, .slice u7 N0.srcs.length v7, .slice u8 N0.arrs.length v8, .int .i64 N0.time] 44)) := bw_alloc _ (bw_refl w2)
  have HBT3 : Hid (BT (w2.alloc (.cells #[.int .i64 N0.mesh.g.w, .int .i64 N0.mesh.g.h, .slice u1 N0.mesh.br.length v1, .slice u2 N0.pa.length v2, .slice u3 N0.pb.length v3, .slice u4 N0.bufs.length v4, .slice u5 N0.owners.length v5, .slice u6 N0.turns.length v6, .slice u7 N0.srcs.length v7, .slice u8 N0.arrs.length v8, .int .i64 N0.time] 44)) w2.heap.size N0 ⟨u1, u2, u3, u4, u5, u6, u7, u8, v1, v2, v3, v4, v5, v6, v7, v8⟩) := Lib.hid (blk_new w2 _)
  have HN3 : Hid (NX (w2.alloc (.cells #[.int .i64 N0.mesh.g.w, .int .i64 N0.mesh.g.h, .slice u1 N0.mesh.br.length v1, .slice u2 N0.pa.length v2, .slice u3 N0.pb.length v3, .slice u4 N0.bufs.length v4, .slice u5 N0.owners.length v5, .slice u6 N0.turns.length v6, .slice u7 N0.srcs.length v7, .slice u8 N0.arrs.length v8, .int .i64 N0.time] 44)) wa.heap.size N0 ⟨u1, u2, u3, u4, u5, u6, u7, u8, v1, v2, v3, v4, v5, v6, v7, v8⟩ uu4 uu7 uu8) := Lib.hid (HNu.below hw3)
  have HZ3 : Hid (BN (w2.alloc (.cells #[.int .i64 N0.mesh.g.w, .int .i64 N0.mesh.g.h, .slice u1 N0.mesh.br.length v1, .slice u2 N0.pa.length v2, .slice u3 N0.pb.length v3, .slice u4 N0.bufs.length v4, .slice u5 N0.owners.length v5, .slice u6 N0.turns.length v6, .slice u7 N0.srcs.length v7, .slice u8 N0.arrs.length v8, .int .i64 N0.time] 44)) (w.heap.size + 2)) := Lib.hid ((HZ.out.below hb2).below hw3)
  have HW3 : Hid (Below w.heap.size w (w2.alloc (.cells #[.int .i64 N0.mesh.g.w, .int .i64 N0.mesh.g.h, .slice u1 N0.mesh.br.length v1, .slice u2 N0.pa.length v2, .slice u3 N0.pb.length v3, .slice u4 N0.bufs.length v4, .slice u5 N0.owners.length v5, .slice u6 N0.turns.length v6, .slice u7 N0.srcs.length v7, .slice u8 N0.arrs.length v8, .int .i64 N0.time] 44))) := Lib.hid (bw_then (bw_then hwa hb2) hw3)
  have z2 := bw_size hb2
  clear HNu hb2 hw3 HZ hwa
  cases hk : classesOk m pa pb
  · have HV : Hid (startV m pa pb l = N0) := Lib.hid (by rw [← HE0.out]; unfold startV netNewN; rw [hk]; rfl)
    have HVB : Hid (startB m pa pb l = false) := Lib.hid (by unfold startB; rw [hk]; rfl)
    have box11 : Box (w2.alloc (.cells #[.int .i64 N0.mesh.g.w, .int .i64 N0.mesh.g.h, .slice u1 N0.mesh.br.length v1, .slice u2 N0.pa.length v2, .slice u3 N0.pb.length v3, .slice u4 N0.bufs.length v4, .slice u5 N0.owners.length v5, .slice u6 N0.turns.length v6, .slice u7 N0.srcs.length v7, .slice u8 N0.arrs.length v8, .int .i64 N0.time] 44)) w2.heap.size #[.int .i64 N0.mesh.g.w, .int .i64 N0.mesh.g.h, .slice u1 N0.mesh.br.length v1, .slice u2 N0.pa.length v2, .slice u3 N0.pb.length v3, .slice u4 N0.bufs.length v4, .slice u5 N0.owners.length v5, .slice u6 N0.turns.length v6, .slice u7 N0.srcs.length v7, .slice u8 N0.arrs.length v8, .int .i64 N0.time] := HBT3.out.box
    obtain ⟨xa0, xa1, xa2, xa3, xa4, xa5, xa6, xa7, xa8, xa9, xa10⟩ := all11 box11
    clear box11
    have xal := HBT3.out.lt
    obtain ⟨⟨ry0, rv0⟩, ⟨ry1, rv1⟩, ⟨ry2, rv2⟩, ⟨ry3, rv3⟩, ⟨ry4, rv4⟩, ⟨ry5, rv5⟩, ⟨ry6, rv6⟩, ⟨ry7, rv7⟩, ⟨ry8, rv8⟩, ⟨ry9, rv9⟩, ⟨ry10, rv10⟩, rz0, rz1, rz2, rz3, rz4, rz5, rz6, rz7, rz8, rz9, rz10⟩ := allBN HZ3.out
    have zl := HZ3.out.lt
    go_wp2
    obtain ⟨W9, e9⟩ : ∃ z, z = putN (w2.alloc (.cells #[.int .i64 N0.mesh.g.w, .int .i64 N0.mesh.g.h, .slice u1 N0.mesh.br.length v1, .slice u2 N0.pa.length v2, .slice u3 N0.pb.length v3, .slice u4 N0.bufs.length v4, .slice u5 N0.owners.length v5, .slice u6 N0.turns.length v6, .slice u7 N0.srcs.length v7, .slice u8 N0.arrs.length v8, .int .i64 N0.time] 44)) (w.heap.size + 2) N0 ⟨u1, u2, u3, u4, u5, u6, u7, u8, v1, v2, v3, v4, v5, v6, v7, v8⟩ := ⟨_, rfl⟩
    have HB9 : Hid (BT W9 (w.heap.size + 2) N0 ⟨u1, u2, u3, u4, u5, u6, u7, u8, v1, v2, v3, v4, v5, v6, v7, v8⟩) := Lib.hid (by rw [e9]; exact putN_BT HZ3.out)
    have HN9 := Lib.hid (show NX W9 _ N0 ⟨u1, u2, u3, u4, u5, u6, u7, u8, v1, v2, v3, v4, v5, v6, v7, v8⟩ uu4 uu7 uu8 from by rw [e9]; exact HN3.out.put HZ3.out)
    have HL9 : Hid (Below w.heap.size w W9) := Lib.hid (by rw [e9]; exact below_put HW3.out (by omega))
    unfold putN at e9
    try dsimp only at e9
    rw [← e9]
    clear e9
    exact bodyPost_ret (results_cell_row2 Tryz.results69 _ _ (w.heap.size + 2) 44 _ (0, 0) _ rfl HB9.out Tryz.underlying44 rfl (by kernel_rfl)) rfl (by rw [HV.out, HVB.out]; exact ⟨⟨_, _, _, _, rfl, HN9.out.lower (by omega)⟩, HL9.out⟩)
  have HE1 : Hid (N0 = newN m pa pb) := Lib.hid (by rw [← HE0.out]; unfold netNewN; rw [hk]; rfl)
  have box11 : Box (w2.alloc (.cells #[.int .i64 N0.mesh.g.w, .int .i64 N0.mesh.g.h, .slice u1 N0.mesh.br.length v1, .slice u2 N0.pa.length v2, .slice u3 N0.pb.length v3, .slice u4 N0.bufs.length v4, .slice u5 N0.owners.length v5, .slice u6 N0.turns.length v6, .slice u7 N0.srcs.length v7, .slice u8 N0.arrs.length v8, .int .i64 N0.time] 44)) w2.heap.size #[.int .i64 N0.mesh.g.w, .int .i64 N0.mesh.g.h, .slice u1 N0.mesh.br.length v1, .slice u2 N0.pa.length v2, .slice u3 N0.pb.length v3, .slice u4 N0.bufs.length v4, .slice u5 N0.owners.length v5, .slice u6 N0.turns.length v6, .slice u7 N0.srcs.length v7, .slice u8 N0.arrs.length v8, .int .i64 N0.time] := HBT3.out.box
  obtain ⟨xa0, xa1, xa2, xa3, xa4, xa5, xa6, xa7, xa8, xa9, xa10⟩ := all11 box11
  clear box11
  have xal := HBT3.out.lt
  go_wp2_with fail
  clear xa0 xa1 xa2 xa3 xa4 xa5 xa6 xa7 xa8 xa9 xa10 xal
  obtain ⟨w3, e3⟩ : ∃ z, z = (w2.alloc (.cells #[.int .i64 N0.mesh.g.w, .int .i64 N0.mesh.g.h, .slice u1 N0.mesh.br.length v1, .slice u2 N0.pa.length v2, .slice u3 N0.pb.length v3, .slice u4 N0.bufs.length v4, .slice u5 N0.owners.length v5, .slice u6 N0.turns.length v6, .slice u7 N0.srcs.length v7, .slice u8 N0.arrs.length v8, .int .i64 N0.time] 44)) := ⟨_, rfl⟩
  rw [← e3] at HBT3 HN3 HZ3 HW3 ⊢
  have z3 : w3.heap.size = w2.heap.size + 1 := by rw [e3]; simp only [szs]
  clear e3
  refine (spec_SendAll N0 l ⟨u1, u2, u3, u4, u5, u6, u7, u8, v1, v2, v3, v4, v5, v6, v7, v8⟩ D n _ (HN3.out.reads HNB0.out) (Kd.C_below HP.out HW3.out) hkl).mono ?_
  rintro e w4 ⟨hg, hb4⟩
  obtain ⟨sq, ss4, ss7, ss8, rfl, HNs⟩ := hg
  obtain ⟨N1, hN1⟩ : ∃ z, sendAllN N0 l = z := ⟨_, rfl⟩
  obtain ⟨k1, hk1⟩ : ∃ z, sendAllK N0 l = z := ⟨_, rfl⟩
  rw [hN1] at HNs
  rw [hN1, hk1]
  have HS : Hid (startV m pa pb l = N1) := Lib.hid (by unfold startV startN; rw [hk, ← HE1.out]; exact hN1)
  have HK1 : Hid (sendAllK (newN m pa pb) l = k1) := Lib.hid (by rw [← HE1.out]; exact hk1)
  have HKO := Lib.hid hk
  clear hN1 hk1 hk
  obtain ⟨s1, s2, s3, s4, s5, s6, s7, s8, t1, t2, t3, t4, t5, t6, t7, t8⟩ := sq
  dsimp only [netCells]
  have HNs := Lib.hid HNs
  have HB4 : Hid (BN w4 w2.heap.size) := Lib.hid ((HBT3.out.below hb4).bn)
  have HZ4 := Lib.hid (HZ3.out.below hb4)
  have HW4 := Lib.hid (bw_then HW3.out hb4)
  have z4 := bw_size hb4
  clear hb4 HBT3 HN3 HZ3 HW3
  obtain ⟨⟨ry0, rv0⟩, ⟨ry1, rv1⟩, ⟨ry2, rv2⟩, ⟨ry3, rv3⟩, ⟨ry4, rv4⟩, ⟨ry5, rv5⟩, ⟨ry6, rv6⟩, ⟨ry7, rv7⟩, ⟨ry8, rv8⟩, ⟨ry9, rv9⟩, ⟨ry10, rv10⟩, rz0, rz1, rz2, rz3, rz4, rz5, rz6, rz7, rz8, rz9, rz10⟩ := allBN HZ4.out
  obtain ⟨⟨qy0, qv0⟩, ⟨qy1, qv1⟩, ⟨qy2, qv2⟩, ⟨qy3, qv3⟩, ⟨qy4, qv4⟩, ⟨qy5, qv5⟩, ⟨qy6, qv6⟩, ⟨qy7, qv7⟩, ⟨qy8, qv8⟩, ⟨qy9, qv9⟩, ⟨qy10, qv10⟩, qz0, qz1, qz2, qz3, qz4, qz5, qz6, qz7, qz8, qz9, qz10⟩ := allBN HB4.out
  have zl := HZ4.out.lt
  have bl := HB4.out.lt
  by_cases h2 : k1 = (l.length : Int)
  · have HVB : Hid (startB m pa pb l = true) := Lib.hid (by unfold startB; rw [HKO.out, HK1.out, decide_eq_true h2]; rfl)
    subst h2
    go_wp2
    obtain ⟨W8, e8⟩ : ∃ z, z = putN w4 w2.heap.size N1 ⟨s1, s2, s3, s4, s5, s6, s7, s8, t1, t2, t3, t4, t5, t6, t7, t8⟩ := ⟨_, rfl⟩
    have HZ8 : Hid (BN W8 (w.heap.size + 2)) := Lib.hid (by rw [e8]; exact bn_put HZ4.out (by omega))
    have HN8 := Lib.hid (show NX W8 _ N1 ⟨s1, s2, s3, s4, s5, s6, s7, s8, t1, t2, t3, t4, t5, t6, t7, t8⟩ ss4 ss7 ss8 from by rw [e8]; exact HNs.out.put HB4.out)
    have HL8 : Hid (Below w.heap.size w W8) := Lib.hid (by rw [e8]; exact below_put HW4.out (by omega))
    obtain ⟨W9, e9⟩ : ∃ z, z = putN W8 (w.heap.size + 2) N1 ⟨s1, s2, s3, s4, s5, s6, s7, s8, t1, t2, t3, t4, t5, t6, t7, t8⟩ := ⟨_, rfl⟩
    have HB9 : Hid (BT W9 (w.heap.size + 2) N1 ⟨s1, s2, s3, s4, s5, s6, s7, s8, t1, t2, t3, t4, t5, t6, t7, t8⟩) := Lib.hid (by rw [e9]; exact putN_BT HZ8.out)
    have HN9 := Lib.hid (show NX W9 _ N1 ⟨s1, s2, s3, s4, s5, s6, s7, s8, t1, t2, t3, t4, t5, t6, t7, t8⟩ ss4 ss7 ss8 from by rw [e9]; exact HN8.out.put HZ8.out)
    have HL9 : Hid (Below w.heap.size w W9) := Lib.hid (by rw [e9]; exact below_put HL8.out (by omega))
    unfold putN at e8 e9
    try dsimp only at e8 e9
    rw [← e8, ← e9]
    clear e8 e9
    exact bodyPost_ret (results_cell_row2 Tryz.results69 _ _ (w.heap.size + 2) 44 _ (0, 0) _ rfl HB9.out Tryz.underlying44 rfl (by kernel_rfl)) rfl (by rw [HS.out, HVB.out]; exact ⟨⟨_, _, _, _, rfl, HN9.out.lower (by omega)⟩, HL9.out⟩)
  · have HVB : Hid (startB m pa pb l = false) := Lib.hid (by unfold startB; rw [HKO.out, HK1.out, decide_eq_false h2]; rfl)
    have e2 : (k1 == (l.length : Int)) = false := beq_eq_false_iff_ne.2 h2
    go_wp2
    obtain ⟨W8, e8⟩ : ∃ z, z = putN w4 w2.heap.size N1 ⟨s1, s2, s3, s4, s5, s6, s7, s8, t1, t2, t3, t4, t5, t6, t7, t8⟩ := ⟨_, rfl⟩
    have HZ8 : Hid (BN W8 (w.heap.size + 2)) := Lib.hid (by rw [e8]; exact bn_put HZ4.out (by omega))
    have HN8 := Lib.hid (show NX W8 _ N1 ⟨s1, s2, s3, s4, s5, s6, s7, s8, t1, t2, t3, t4, t5, t6, t7, t8⟩ ss4 ss7 ss8 from by rw [e8]; exact HNs.out.put HB4.out)
    have HL8 : Hid (Below w.heap.size w W8) := Lib.hid (by rw [e8]; exact below_put HW4.out (by omega))
    obtain ⟨W9, e9⟩ : ∃ z, z = putN W8 (w.heap.size + 2) N1 ⟨s1, s2, s3, s4, s5, s6, s7, s8, t1, t2, t3, t4, t5, t6, t7, t8⟩ := ⟨_, rfl⟩
    have HB9 : Hid (BT W9 (w.heap.size + 2) N1 ⟨s1, s2, s3, s4, s5, s6, s7, s8, t1, t2, t3, t4, t5, t6, t7, t8⟩) := Lib.hid (by rw [e9]; exact putN_BT HZ8.out)
    have HN9 := Lib.hid (show NX W9 _ N1 ⟨s1, s2, s3, s4, s5, s6, s7, s8, t1, t2, t3, t4, t5, t6, t7, t8⟩ ss4 ss7 ss8 from by rw [e9]; exact HN8.out.put HZ8.out)
    have HL9 : Hid (Below w.heap.size w W9) := Lib.hid (by rw [e9]; exact below_put HL8.out (by omega))
    unfold putN at e8 e9
    try dsimp only at e8 e9
    rw [← e8, ← e9]
    clear e8 e9
    exact bodyPost_ret (results_cell_row2 Tryz.results69 _ _ (w.heap.size + 2) 44 _ (0, 0) _ rfl HB9.out Tryz.underlying44 rfl (by kernel_rfl)) rfl (by rw [HS.out, HVB.out]; exact ⟨⟨_, _, _, _, rfl, HN9.out.lower (by omega)⟩, HL9.out⟩)
set_option maxHeartbeats 8000000 in
set_option maxRecDepth 100000 in
theorem spec_Delivers (m : Mesh) (pa pb : List Int) (l : List Packet) (A B C D : Option Addr) (c d k n : Nat) (w : World) (hr : Kd.C (Kd.int .i64) w A m.br.length m.br) (hn : m.br.length ≤ 2097152) (ha : Kd.C (Kd.int .i64) w B pa.length pa) (hka : pa.length ≤ 2097152) (hb : Kd.C (Kd.int .i64) w C pb.length pb) (hkb : pb.length ≤ 2097152) (hp : kP.C w D l.length l) (hkl : l.length ≤ 2097152) :
    Calls Tryz.prog 30 #[.agg #[.int .i64 m.g.w, .int .i64 m.g.h, .slice A m.br.length c], .agg #[.slice B pa.length d, .slice C pb.length k], .slice D l.length n] w fun e w' => e = .returned (.bool (decide (0 ≤ deliverN m pa pb l))) ∧ Below w.heap.size w w' := by
  have HR := Lib.hid hr
  have HA := Lib.hid ha
  have HB := Lib.hid hb
  have HP := Lib.hid hp
  clear hr ha hb hp
  go_enter Tryz.func30, Tryz.ntmps30
  go_wp2_with fail
  refine (spec_l26Start m pa pb l A B C D c d k n _ (by exact Kd.C_below HR.out bel) hn (by exact Kd.C_below HA.out bel) hka (by exact Kd.C_below HB.out bel) hkb (by exact Kd.C_below HP.out bel) hkl).mono ?_
  rintro e w2 ⟨hg, hb2⟩
  obtain ⟨uq, uu4, uu7, uu8, rfl, HNu⟩ := hg
  have HNu := Lib.hid HNu
  obtain ⟨N1, hN1⟩ : ∃ z, startV m pa pb l = z := ⟨_, rfl⟩
  have HNB1 : Hid (NB N1) := Lib.hid (by rw [← hN1]; exact startV_nb hn hka hkb)
  have HAR : Hid (∀ x ∈ N1.arrs, x.length ≤ 1048576) := Lib.hid (by rw [← hN1]; exact startV_arrs m pa pb l)
  rw [hN1] at HNu
  rw [hN1]
  have HS := Lib.hid hN1
  clear hN1
  obtain ⟨u1, u2, u3, u4, u5, u6, u7, u8, v1, v2, v3, v4, v5, v6, v7, v8⟩ := uq
  dsimp only [netCells]

  have hbw2 : Below w.heap.size w w2 := bw_then (bw_alloc _ (bw_alloc _ (bw_refl w))) hb2
  clear hb2
  cases hs : startB m pa pb l
  · have HE := Lib.hid (startB_no hs)
    go_wp2
    go_ret
    exact ⟨ret_bool (by rw [HE.out]; rfl), bel⟩
  obtain ⟨hk, hk1, hsv⟩ := startB_yes hs
  have HK := Lib.hid hk
  have HK1 := Lib.hid hk1
  have HSN : Hid (startN m pa pb l = N1) := Lib.hid (by rw [← hsv]; exact HS.out)
  clear hs hk hk1 hsv
  go_wp2_with fail
  refine (spec_RunToIdle N1 ⟨u1, u2, u3, u4, u5, u6, u7, u8, v1, v2, v3, v4, v5, v6, v7, v8⟩ _ ((HNu.out.reads HNB1.out).below bel) HAR.out).mono ?_
  rintro e w6 ⟨hg, hb6⟩
  obtain ⟨pq, p4, p7, p8, rfl, HNp⟩ := hg
  have HNp := Lib.hid HNp
  obtain ⟨N2, hN2⟩ : ∃ z, runIdleN N1 = z := ⟨_, rfl⟩
  obtain ⟨t, ht⟩ : ∃ z, toIdleN N1 = z := ⟨_, rfl⟩
  have HNB2 : Hid (NB N2) := Lib.hid (by rw [← hN2]; exact runIdle_nb HNB1.out HAR.out)
  rw [hN2] at HNp
  rw [hN2, ht]
  have HT : Hid (toIdleN (startN m pa pb l) = t) := Lib.hid (by rw [HSN.out]; exact ht)
  have HI : Hid (runIdleN (startN m pa pb l) = N2) := Lib.hid (by rw [HSN.out]; exact hN2)
  clear hN2 ht
  obtain ⟨p1, p2, p3, p4, p5, p6, p7, p8, r1, r2, r3, r4, r5, r6, r7, r8⟩ := pq
  dsimp only [netCells]
  have hbw6 : Below w.heap.size w w6 := bw_then (bw_alloc _ hbw2) hb6
  clear hb6 hbw2
  by_cases h3 : 0 ≤ t
  case neg =>
    have HE := Lib.hid (deliver_no3 (m := m) (pa := pa) (pb := pb) (l := l) (by rw [HT.out]; omega))
    rw [decide_eq_false h3]
    go_wp2
    go_ret
    exact ⟨ret_bool (by rw [HE.out]; rfl), bel⟩
  rw [decide_eq_true h3]
  go_wp2_with fail
  refine (spec_Missing N2 l ⟨p1, p2, p3, p4, p5, p6, p7, p8, r1, r2, r3, r4, r5, r6, r7, r8⟩ D n _ ((HNp.out.reads HNB2.out).below bel) (by exact Kd.C_below HP.out bel) hkl).mono ?_
  rintro e w8 ⟨hg, hb8⟩
  obtain ⟨v8, rfl, HM⟩ := hg
  obtain ⟨Am, cm, rfl⟩ := Kd.R_slice HM
  have hbw8 : Below w.heap.size w w8 := bw_then (bw_alloc _ hbw6) hb8
  clear hb8 hbw6 HM
  obtain ⟨ml, hml⟩ : ∃ z, (missN N2 l).length = z := ⟨_, rfl⟩
  have HML : Hid ((missN (runIdleN (startN m pa pb l)) l).length = ml) := Lib.hid (by rw [HI.out]; exact hml)
  rw [hml]
  clear hml
  by_cases h4 : ml = 0
  · subst h4
    have HE := Lib.hid (deliver_yes HK.out HK1.out (by rw [HT.out]; omega) HML.out)
    rw [HT.out] at HE
    have HH3 := Lib.hid h3
    go_wp2
    go_ret
    exact ⟨ret_bool (by rw [HE.out, decide_eq_true HH3.out]), bel⟩
  · have HE := Lib.hid (deliver_no4 (m := m) (pa := pa) (pb := pb) (l := l) (by rw [HML.out]; exact h4))
    have h5 : ¬ (ml : Int) = 0 := by omega
    go_wp2
    go_ret
    exact ⟨ret_bool (by rw [HE.out]; simp [h4]), bel⟩
set_option maxHeartbeats 8000000 in
set_option maxRecDepth 100000 in
theorem spec_DrainTime (m : Mesh) (pa pb : List Int) (l : List Packet) (A B C D : Option Addr) (c d k n : Nat) (w : World) (hr : Kd.C (Kd.int .i64) w A m.br.length m.br) (hn : m.br.length ≤ 2097152) (ha : Kd.C (Kd.int .i64) w B pa.length pa) (hka : pa.length ≤ 2097152) (hb : Kd.C (Kd.int .i64) w C pb.length pb) (hkb : pb.length ≤ 2097152) (hp : kP.C w D l.length l) (hkl : l.length ≤ 2097152) :
    Calls Tryz.prog 34 #[.agg #[.int .i64 m.g.w, .int .i64 m.g.h, .slice A m.br.length c], .agg #[.slice B pa.length d, .slice C pb.length k], .slice D l.length n] w fun e w' => e = .returned (.int .i64 (deliverN m pa pb l)) ∧ Below w.heap.size w w' := by
  have HR := Lib.hid hr
  have HA := Lib.hid ha
  have HB := Lib.hid hb
  have HP := Lib.hid hp
  clear hr ha hb hp
  go_enter Tryz.func34, Tryz.ntmps34
  go_wp2_with fail
  refine (spec_Delivers m pa pb l A B C D c d k n _ (by exact Kd.C_below HR.out bel) hn (by exact Kd.C_below HA.out bel) hka (by exact Kd.C_below HB.out bel) hkb (by exact Kd.C_below HP.out bel) hkl).mono ?_
  rintro e w1 ⟨rfl, hb1⟩
  have hbw1 : Below w.heap.size w w1 := bw_then (bw_alloc _ (bw_alloc _ (bw_refl w))) hb1
  have HBM := Lib.hid ((Box.alloc (Box.new w w.heap.size #[.int .i64 m.g.w, .int .i64 m.g.h, .slice A m.br.length c] 38 rfl) (.cells #[.slice B pa.length d, .slice C pb.length k] 41)).below hb1)
  have HBC := Lib.hid ((Box.new (w.alloc (.cells #[.int .i64 m.g.w, .int .i64 m.g.h, .slice A m.br.length c] 38)) (w.heap.size + 1) #[.slice B pa.length d, .slice C pb.length k] 41 (by simp only [szs])).below hb1)
  have hrg := deliver_range m pa pb l
  clear hb1
  by_cases h0 : 0 ≤ deliverN m pa pb l
  case neg =>
    have HE : Hid (deliverN m pa pb l = -1) := Lib.hid (by omega)
    rw [decide_eq_false h0]
    clear hrg h0
    go_wp2
    go_ret
    exact ⟨ret_int HE.out.symm, bel⟩
  have HD := Lib.hid (deliver_is h0)
  rw [decide_eq_true h0]
  clear hrg h0
  have x0 : w1.cell? ⟨w.heap.size, 0, none⟩ = some (.int .i64 m.g.w) := HBM.out.get 0
  have x1 : w1.cell? ⟨w.heap.size, 1, none⟩ = some (.int .i64 m.g.h) := HBM.out.get 1
  have x2 : w1.cell? ⟨w.heap.size, 2, none⟩ = some (.slice A m.br.length c) := HBM.out.get 2
  have x3 : w1.cell? ⟨w.heap.size + 1, 0, none⟩ = some (.slice B pa.length d) := HBC.out.get 0
  have x4 : w1.cell? ⟨w.heap.size + 1, 1, none⟩ = some (.slice C pb.length k) := HBC.out.get 1
  have xl0 := HBM.out.lt
  have xl1 := HBC.out.lt
  go_wp2_with fail
  refine (spec_l26Start m pa pb l A B C D c d k n _ (by exact Kd.C_below HR.out bel) hn (by exact Kd.C_below HA.out bel) hka (by exact Kd.C_below HB.out bel) hkb (by exact Kd.C_below HP.out bel) hkl).mono ?_
  rintro e w2 ⟨hg, hb2⟩
  obtain ⟨uq, uu4, uu7, uu8, rfl, HNu⟩ := hg
  have HNu := Lib.hid HNu
  obtain ⟨N1, hN1⟩ : ∃ z, startV m pa pb l = z := ⟨_, rfl⟩
  have HNB1 : Hid (NB N1) := Lib.hid (by rw [← hN1]; exact startV_nb hn hka hkb)
  have HAR : Hid (∀ x ∈ N1.arrs, x.length ≤ 1048576) := Lib.hid (by rw [← hN1]; exact startV_arrs m pa pb l)
  rw [hN1] at HNu
  rw [hN1]
  have HS := Lib.hid hN1
  clear hN1
  obtain ⟨u1, u2, u3, u4, u5, u6, u7, u8, v1, v2, v3, v4, v5, v6, v7, v8⟩ := uq
  dsimp only [netCells]

  have hbw2 : Below w.heap.size w w2 := bw_then hbw1 hb2
  clear hb2 hbw1 x0 x1 x2 x3 x4 xl0 xl1
  obtain ⟨sb, hsb⟩ : ∃ z, startB m pa pb l = z := ⟨_, rfl⟩
  rw [hsb]
  clear hsb
  go_wp2_with fail
  refine (spec_StepsToIdle N1 ⟨u1, u2, u3, u4, u5, u6, u7, u8, v1, v2, v3, v4, v5, v6, v7, v8⟩ _ ((HNu.out.reads HNB1.out).below bel) HAR.out).mono ?_
  rintro e w6 ⟨rfl, hb6⟩
  have HE : Hid (deliverN m pa pb l = toIdleN N1) := Lib.hid (by rw [HD.out.2, ← HD.out.1, HS.out])
  have hbw6 : Below w.heap.size w w6 := bw_then (bw_alloc _ hbw2) hb6
  clear hb6 hbw2
  go_wp2
  go_ret
  exact ⟨ret_int HE.out.symm, bel⟩
set_option maxHeartbeats 8000000 in
set_option maxRecDepth 100000 in
theorem spec_SoloTime (m : Mesh) (pa pb : List Int) (p : Packet) (A B C : Option Addr) (c d k : Nat) (w : World) (hr : Kd.C (Kd.int .i64) w A m.br.length m.br) (hn : m.br.length ≤ 2097152) (ha : Kd.C (Kd.int .i64) w B pa.length pa) (hka : pa.length ≤ 2097152) (hb : Kd.C (Kd.int .i64) w C pb.length pb) (hkb : pb.length ≤ 2097152) :
    Calls Tryz.prog 22 #[.agg #[.int .i64 m.g.w, .int .i64 m.g.h, .slice A m.br.length c], .agg #[.slice B pa.length d, .slice C pb.length k], .agg #[.int .i64 p.id, .int .i64 p.src, .int .i64 p.dst, .int .i64 p.cls, .int .i64 p.len]] w fun e w' => e = .returned (.int .i64 (deliverN m pa pb [p])) ∧ Below w.heap.size w w' := by
  have HR := Lib.hid hr
  have HA := Lib.hid ha
  have HB := Lib.hid hb
  clear hr ha hb
  have HC : Hid (kP.C ((((w.alloc (.cells #[.int .i64 m.g.w, .int .i64 m.g.h, .slice A m.br.length c] 38)).alloc (.cells #[.slice B pa.length d, .slice C pb.length k] 41)).alloc (.cells #[.int .i64 p.id, .int .i64 p.src, .int .i64 p.dst, .int .i64 p.cls, .int .i64 p.len] 59)).alloc (.cells #[.int .i64 p.id, .int .i64 p.src, .int .i64 p.dst, .int .i64 p.cls, .int .i64 p.len] 59)) (some ⟨w.heap.size + 1 + 1 + 1, 0, none⟩) [p].length [p]) := Lib.hid (by
    have h := C_oneP (((w.alloc (.cells #[.int .i64 m.g.w, .int .i64 m.g.h, .slice A m.br.length c] 38)).alloc (.cells #[.slice B pa.length d, .slice C pb.length k] 41)).alloc (.cells #[.int .i64 p.id, .int .i64 p.src, .int .i64 p.dst, .int .i64 p.cls, .int .i64 p.len] 59)) p
    simp only [szs] at h
    exact h)
  have hbw : Below w.heap.size w ((((w.alloc (.cells #[.int .i64 m.g.w, .int .i64 m.g.h, .slice A m.br.length c] 38)).alloc (.cells #[.slice B pa.length d, .slice C pb.length k] 41)).alloc (.cells #[.int .i64 p.id, .int .i64 p.src, .int .i64 p.dst, .int .i64 p.cls, .int .i64 p.len] 59)).alloc (.cells #[.int .i64 p.id, .int .i64 p.src, .int .i64 p.dst, .int .i64 p.cls, .int .i64 p.len] 59)) := bw_alloc _ (bw_alloc _ (bw_alloc _ (bw_alloc _ (bw_refl w))))
  obtain ⟨W, eW⟩ : ∃ z, z = ((((w.alloc (.cells #[.int .i64 m.g.w, .int .i64 m.g.h, .slice A m.br.length c] 38)).alloc (.cells #[.slice B pa.length d, .slice C pb.length k] 41)).alloc (.cells #[.int .i64 p.id, .int .i64 p.src, .int .i64 p.dst, .int .i64 p.cls, .int .i64 p.len] 59)).alloc (.cells #[.int .i64 p.id, .int .i64 p.src, .int .i64 p.dst, .int .i64 p.cls, .int .i64 p.len] 59)) := ⟨_, rfl⟩
  rw [← eW] at HC hbw
  have HBW := Lib.hid hbw
  have HCALL := spec_DrainTime m pa pb [p] A B C (some ⟨w.heap.size + 1 + 1 + 1, 0, none⟩) c d k 1 W (Kd.C_below HR.out HBW.out) hn (Kd.C_below HA.out HBW.out) hka (Kd.C_below HB.out HBW.out) hkb HC.out (by simp)
  simp only [List.length_singleton] at HCALL
  have HCL := Lib.hid HCALL
  clear HCALL hbw HC
  go_enter Tryz.func22, Tryz.ntmps22
  go_wp2_with fail
  rw [← eW]
  clear eW
  refine HCL.out.mono ?_
  rintro e w1 ⟨rfl, hb1⟩
  have hbw : Below w.heap.size w w1 := bw_then HBW.out hb1
  clear hb1
  go_wp2
  go_ret
  exact ⟨rfl, bel⟩
set_option maxHeartbeats 16000000 in
set_option maxRecDepth 100000 in
theorem spec_Slowdown (m : Mesh) (pa pb : List Int) (l : List Packet) (A B C D : Option Addr) (c d k n : Nat) (w : World) (hr : Kd.C (Kd.int .i64) w A m.br.length m.br) (hn : m.br.length ≤ 2097152) (ha : Kd.C (Kd.int .i64) w B pa.length pa) (hka : pa.length ≤ 2097152) (hb : Kd.C (Kd.int .i64) w C pb.length pb) (hkb : pb.length ≤ 2097152) (hp : kP.C w D l.length l) (hkl : l.length ≤ 2097152) :
  Calls Tryz.prog 36 #[.agg #[.int .i64 m.g.w, .int .i64 m.g.h, .slice A m.br.length c], .agg #[.slice B pa.length d, .slice C pb.length k], .slice D l.length n] w fun e w' => e = .returned (.int .i64 (slowN m pa pb l)) ∧ Below w.heap.size w w' := by
 have HR := Lib.hid hr
 have HA := Lib.hid ha
 have HB := Lib.hid hb
 have HP := Lib.hid hp
 clear hr ha hb hp
 have HSB : Hid (∀ j : Nat, 0 ≤ slowTo m pa pb l j ∧ slowTo m pa pb l j ≤ 1000) := Lib.hid (slowTo_range m pa pb l)
 have HZB : Hid (∀ p : Packet, -1 ≤ zeroLoad m pa pb p ∧ zeroLoad m pa pb p ≤ 1000) := Lib.hid (zeroLoad_range m pa pb)
 go_enter Tryz.func36, Tryz.ntmps36
 go_wp2_with fail
 refine (spec_DrainTime m pa pb l A B C D c d k n _ (by exact Kd.C_below HR.out bel) hn (by exact Kd.C_below HA.out bel) hka (by exact Kd.C_below HB.out bel) hkb (by exact Kd.C_below HP.out bel) hkl).mono ?_
 rintro e w2 ⟨rfl, hb2⟩
 have hdr := deliver_range m pa pb l
 have HCK : Hid (0 ≤ deliverN m pa pb l → classesOk m pa pb = true) := Lib.hid (fun h => (deliver_pos h).1)
 have HPK : Hid (0 ≤ deliverN m pa pb l → ∀ i : Nat, i < l.length → packetOk m.g (rp l i) = true) := Lib.hid (fun h i hi => deliver_packets h hi)
 obtain ⟨t, ht⟩ : ∃ z, deliverN m pa pb l = z := ⟨_, rfl⟩
 rw [ht] at hdr HCK HPK
 rw [ht]
 have HT := Lib.hid ht
 clear ht
 have hbw : Below w.heap.size w w2 := bw_then (bw_alloc _ (bw_alloc _ (bw_refl w))) hb2
 have HBM := Lib.hid ((Box.alloc (Box.new w w.heap.size #[.int .i64 m.g.w, .int .i64 m.g.h, .slice A m.br.length c] 38 rfl) (.cells #[.slice B pa.length d, .slice C pb.length k] 41)).below hb2)
 have HBC := Lib.hid ((Box.new (w.alloc (.cells #[.int .i64 m.g.w, .int .i64 m.g.h, .slice A m.br.length c] 38)) (w.heap.size + 1) #[.slice B pa.length d, .slice C pb.length k] 41 (by simp only [szs])).below hb2)
 have HBW := Lib.hid hbw
 have sz2 := bw_size hb2
 clear hb2 hbw
 go_wp2_with fail
 go_loopw [8, 9] (fun v i wr => ∃ j : Nat, i = .int .i64 j ∧ j ≤ l.length ∧ v = .int .i64 (slowTo m pa pb l j) ∧ Hid (Below w2.heap.size w2 wr)) (fun _ i _ => l.length - (intOf i).toNat)
 case atStart => exact ⟨0, rfl, Nat.zero_le _, rfl, Lib.hid (bw_refl w2)⟩
 case round =>
  obtain ⟨j, rfl, hj, rfl, HBr⟩ := hrel
  have HWr : Hid (Below w.heap.size w wr) := Lib.hid (bw_then HBW.out HBr.out)
  by_cases h0 : t < 0
  ·have HE : Hid (slowN m pa pb l = -1) := Lib.hid (by unfold slowN; rw [if_pos (by rw [HT.out]; exact .inl h0)])
   have h0' : ¬ (0 : Int) ≤ t := by omega
   by_cases hlt : j < l.length
   ·have i0 : (j : Int) < (l.length : Int) := by omega
    go_wp2
    go_ret
    exact ⟨ret_int HE.out.symm, HWr.out⟩
   ·have i0 : ¬ (j : Int) < (l.length : Int) := by omega
    go_wp2
    go_ret
    exact ⟨ret_int HE.out.symm, HWr.out⟩
  have h0' : (0 : Int) ≤ t := by omega
  by_cases hlt : j < l.length
  ·have i0 : (j : Int) < (l.length : Int) := by omega
   have j0 : (0 : Int) ≤ (j : Int) := by omega
   have hpk := Kd.C_below HP.out HWr.out
   obtain ⟨pb', po, eA, hpb, pk0, pk1, pk2, pk3, pk4⟩ := rdP_at hpk j hlt
   subst eA
   have HXr := Lib.hid (Box.below HBM.out HBr.out)
   have HYr := Lib.hid (Box.below HBC.out HBr.out)
   have xl0 := HXr.out.lt
   have xl1 := HYr.out.lt
   obtain ⟨P, hP⟩ : ∃ P, rp l j = P := ⟨_, rfl⟩
   have hok := HPK.out h0' j hlt
   have hck := HCK.out h0'
   have hzb := HZB.out P
   have hsb := HSB.out j
   obtain ⟨z, hz⟩ : ∃ z, zeroLoad m pa pb P = z := ⟨_, rfl⟩
   obtain ⟨s, hs⟩ : ∃ s, slowTo m pa pb l j = s := ⟨_, rfl⟩
   have HS : Hid (slowTo m pa pb l (j + 1) = max s z) := Lib.hid (by show max (slowTo m pa pb l j) (zeroLoad m pa pb (rp l j)) = _; rw [hs, hP, hz])
   rw [hP] at pk0 pk1 pk2 pk3 pk4 hok
   rw [hz] at hzb
   rw [hs] at hsb
   rw [hs]
   have HCALL : Hid (∀ W, Below wr.heap.size wr W → Calls Tryz.prog 75 #[.agg #[.int .i64 m.g.w, .int .i64 m.g.h, .slice A m.br.length c], .agg #[.slice B pa.length d, .slice C pb.length k], .agg #[.int .i64 P.id, .int .i64 P.src, .int .i64 P.dst, .int .i64 P.cls, .int .i64 P.len]] W fun e w' => e = .returned (.int .i64 z) ∧ Below W.heap.size W w') := Lib.hid (fun W hW => by
    have h := spec_l27Zero m pa pb P A B C c d k W (Kd.C_below HR.out (bw_then HWr.out hW)) hn (Kd.C_below HA.out (bw_then HWr.out hW)) (Kd.C_below HB.out (bw_then HWr.out hW)) hck hok
    rw [hz] at h
    exact h)
   clear hpk hP hs hz hok hck
   go_wp2_with fail
   refine wp_region_tz wr.heap.size (fun _ => .cells #[] 0) (fun _ _ => undef) (fun W => Below wr.heap.size wr W) 9 [(0, .quiet), (1, .quiet), (2, .quiet), (3, .quiet), (4, .quiet), (5, .quiet), (6, .quiet), (7, .chain), (8, .quiet)] (by kernel_rfl) (by kernel_rfl) (by kernel_rfl) (by kernel_rfl) (by kernel_rfl) (by kernel_rfl) (by kernel_rfl) (by kernel_rfl) (bw_drew (bw_refl _)) ⟨fun w o h => bw_alloc o h, fun w h => bw_size h⟩ (fun _ => True) trivial (fun _ _ _ _ _ => trivial) ?_
   refine wpTz_v (some 24) (.int .i64 s) rfl rfl (by rfl) (fun W hC => ?_) ?_
   ·clear hC
    go_simp
    try rfl
   try simp only [Act.put, nms]
   refine wpTz_v (some 25) (.agg #[.int .i64 m.g.w, .int .i64 m.g.h, .slice A m.br.length c]) rfl rfl (by rfl) (fun W hC => ?_) ?_
   ·have h0 := (Box.below HXr.out hC).get 0
    have h0' : W.cell? ⟨w.heap.size, 0, none⟩ = some (.int .i64 m.g.w) := h0
    have h1' : W.cell? ⟨w.heap.size, 1, none⟩ = some (.int .i64 m.g.h) := (Box.below HXr.out hC).get 1
    have h2' : W.cell? ⟨w.heap.size, 2, none⟩ = some (.slice A m.br.length c) := (Box.below HXr.out hC).get 2
    clear hC
    go_simp
    try rfl
   try simp only [Act.put, nms]
   refine wpTz_v (some 26) (.agg #[.slice B pa.length d, .slice C pb.length k]) rfl rfl (by rfl) (fun W hC => ?_) ?_
   ·have h3' : W.cell? ⟨w.heap.size + 1, 0, none⟩ = some (.slice B pa.length d) := (Box.below HYr.out hC).get 0
    have h4' : W.cell? ⟨w.heap.size + 1, 1, none⟩ = some (.slice C pb.length k) := (Box.below HYr.out hC).get 1
    clear hC
    go_simp
    try rfl
   try simp only [Act.put, nms]
   refine wpTz_v (some 27) (.slice (some ⟨pb', po, none⟩) l.length n) rfl rfl (by rfl) (fun W hC => ?_) ?_
   ·clear hC
    go_simp
    try rfl
   try simp only [Act.put, nms]
   refine wpTz_v (some 28) (.int .i64 j) rfl rfl (by rfl) (fun W hC => ?_) ?_
   ·clear hC
    go_simp
    try rfl
   try simp only [Act.put, nms]
   refine wpTz_v (some 29) (.pointer (some ⟨pb', po + j * 5, none⟩)) rfl rfl (by rfl) (fun W hC => ?_) ?_
   ·clear hC
    go_simp
    try rfl
   try simp only [Act.put, nms]
   refine wpTz_v (some 30) (.agg #[.int .i64 P.id, .int .i64 P.src, .int .i64 P.dst, .int .i64 P.cls, .int .i64 P.len]) rfl rfl (by rfl) (fun W hC => ?_) ?_
   ·have p0 := (cell_low hC hpb _).trans pk0
    have p1 := (cell_low hC hpb _).trans pk1
    have p2 := (cell_low hC hpb _).trans pk2
    have p3 := (cell_low hC hpb _).trans pk3
    have p4 := (cell_low hC hpb _).trans pk4
    clear hC
    go_simp
    try rfl
   try simp only [Act.put, nms]
   refine wpTz_d (some 31) rfl rfl (by rfl) (0 : Nat) (fun _ => .int .i64 z) (fun _ _ => True) (fun y => (y, y)) (fun W hF hC => ?_) (fun _ _ _ _ _ => trivial) (fun _ => ?_)
   ·refine LoOp.enter (by go_simp; first | done | exact ⟨rfl, rfl⟩ | rfl) ?_
    refine (HCALL.out W hC).mono ?_
    rintro e W1 ⟨rfl, hb1⟩
    exact ⟨_, rfl, W.heap.size, rfl, bw_then hC hb1, trivial, hb1, Nat.le_refl _, bw_size hb1⟩
   try simp only [Act.put, nms]
   refine wpTz_v (some 32) (.int .i64 (if s < z then z else s)) rfl rfl (by rfl) (fun W hC => ?_) ?_
   ·clear hC
    go_simp
    try rfl
   try simp only [Act.put, nms]
   refine wpTz_z (fun w8 hF hC => ?_)
   have HCz := Lib.hid hC
   clear hC hF
   refine ⟨_, rfl, by rfl, ?_⟩
   go_simp
   go_wp2
   go_roundw
   case rel => exact ⟨j + 1, by go_num, by omega, by rw [HS.out]; exact congrArg _ (by split <;> omega), Lib.hid (bw_then HBr.out HCz.out)⟩
   case measure => simp [intOf]; omega
  ·obtain rfl : j = l.length := by omega
   have i0 : ¬ (l.length : Int) < (l.length : Int) := by omega
   have hsb := HSB.out l.length
   by_cases h1 : l.length = 0
   ·have HE : Hid (slowN m pa pb l = -1) := Lib.hid (by unfold slowN; rw [if_pos (.inr h1)])
    have h2 : (l.length : Int) = 0 := by omega
    go_wp2
    go_ret
    exact ⟨ret_int HE.out.symm, HWr.out⟩
   ·have HE : Hid (slowN m pa pb l = t - slowTo m pa pb l l.length) := Lib.hid (by unfold slowN; rw [if_neg (by rw [HT.out]; omega), HT.out])
    have h2 : ((l.length : Int) == 0) = false := beq_eq_false_iff_ne.2 (by omega)
    have h0b : decide (t < 0) = false := decide_eq_false (by omega)
    go_wp2
    go_ret
    exact ⟨ret_int (by rw [HE.out]), HWr.out⟩
end Go.Proofs.YtmkbmddgkdoaiaaGreat
namespace Go.Proofs.YtmkbmddgkdoaiaaGreat
open NoC
theorem szN_fits {n : Nat} {left : Int} (h : ¬ szN n left < 0) : (n : Int) ≤ left := by
  unfold szN at h; split at h <;> omega
theorem szCls_fits {pa pb : List Int} {left : Int} (h : ¬ szClsI pa pb left < 0) : ¬ szN pa.length left < 0 ∧ ¬ szN pb.length (szN pa.length left) < 0 := by
  unfold szClsI at h; split at h
  · omega
  · exact ⟨by assumption, h⟩

theorem mesh_self (m : Mesh) : (decide (m.g = m.g) && eqL m.br m.br) = true := by rw [eqL_self, decide_eq_true rfl]; rfl
theorem szCls_range {pa pb : List Int} {left : Int} (h : -1 ≤ left) (h1 : left ≤ 2097152) : -1 ≤ szClsI pa pb left ∧ szClsI pa pb left ≤ 2097152 := by
  unfold szClsI
  obtain ⟨a, b⟩ := szN_range (n := pa.length) h h1
  split
  · omega
  · exact szN_range a b
end Go.Proofs.YtmkbmddgkdoaiaaGreat
namespace Go.Proofs.YtmkbmddgkdoaiaaGreat
open Go.ChangeShapes Go.WideShapes Go.ChangeAt Go.RowKit Go.Proofs.YtmkbmddgkdoaiaaGreatW.PrintWords
open NoC
theorem len1 {α : Type} {l : List α} (h : l.length = 1) : ∃ a, l = [a] := by match l, h with | [a], _ => exact ⟨a, rfl⟩
theorem len2 {α : Type} {l : List α} (h : l.length = 2) : ∃ a b, l = [a, b] := by match l, h with | [a, b], _ => exact ⟨a, b, rfl⟩
theorem len3 {α : Type} {l : List α} (h : l.length = 3) : ∃ a b c, l = [a, b, c] := by match l, h with | [a, b, c], _ => exact ⟨a, b, c, rfl⟩
theorem len5 {α : Type} {l : List α} (h : l.length = 5) : ∃ a b c d e, l = [a, b, c, d, e] := by match l, h with | [a, b, c, d, e], _ => exact ⟨a, b, c, d, e, rfl⟩
section
variable {H : Type} {enc : TypeId × Value → H} {W : World} {base : Nat} {spare : Nat → Bool} {held : Bool} {fuel : Nat} {cs : List Value} {x : DataW H × List MemPlace}
def Light (t : TypeId) (d : DataW H) : Prop := ∀ n ∈ d.weights Tryz.prog t, n ≤ reachBytes
theorem light_arg {ts : List TypeId} {ds : List (DataW H)} (h : (DataW.weightsEach Tryz.prog ts ds).all (· ≤ reachBytes) = true) {j : Nat} {t : TypeId} {d : DataW H} (ht : ts[j]? = some t) (hd : ds[j]? = some d) : Light t d :=
  fun n hn => by simpa using List.all_eq_true.1 h n (DataW.weights_mem_each ht hd n hn)
theorem light_field {t : TypeId} {fs : Array Field} {parts : List (DataW H)} (hu : Tryz.prog.underlying t = some (.struct fs)) (h : Light t (.agg parts)) {i : Nat} {f : Field} {d : DataW H} (hf : fs[i]? = some f) (hd : parts[i]? = some d) : Light f.type d :=
  fun n hn => h n (by
    unfold DataW.weights
    rw [hu]
    exact DataW.weights_mem_each (j := i) (by simp [hf]) hd n hn)
theorem op_int (h : DataW.trod enc Tryz.prog W base spare held fuel 3 cs = some x) : ∃ n, cs = [.int .i64 n] := by
  obtain ⟨n, h, _⟩ := DataW.trod_int Tryz.underlying3 h
  exact ⟨n, h⟩
theorem op_ints (h : DataW.trod enc Tryz.prog W base spare held fuel 24 cs = some x) (hl : Light 24 x.1) :
    ∃ A c, ∃ l : List Int, cs = [.slice A l.length c] ∧ Kd.C (Kd.int .i64) W A l.length l ∧ l.length ≤ 140737488355328 := by
  rcases open_ints Tryz.underlying24 Tryz.underlying3 (by kernel_rfl) h with ⟨rfl, _⟩ | ⟨a, len, cap, zs, rfl, _, hle, hm, hz, hx, hc, _⟩
  · exact ⟨none, 0, [], rfl, ⟨rfl, by decide, fun h => absurd h (by decide)⟩, by decide⟩
  · have hlen : len ≤ zs.length := by rw [hz]; split <;> omega
    have e : (zs.take len).length = len := by rw [List.length_take, Nat.min_eq_left hlen]
    have hb : len * 8 ≤ 140737488351232 := by
      subst hx
      have z := hl _ (by unfold DataW.weights; rw [show Tryz.prog.underlying 24 = _ from Tryz.underlying24]; exact List.mem_cons_self)
      rw [show Tryz.prog.bytesOf 3 = 8 by kernel_rfl] at z
      have hr : reachBytes = 140737488351232 := by decide
      have h1 : (lits (H := H) .i64 (zs.take len)).length = len := by simp [lits, hlen]
      rw [h1] at z
      omega
    refine ⟨some a, cap, zs.take len, by rw [e], ⟨rfl, by rw [e]; omega, fun _ => ⟨a, rfl, ?_⟩⟩, by rw [e]; omega⟩
    intro j p hj
    refine ⟨[.int .i64 p], rfl, rfl, ?_⟩
    intro i u hi
    obtain ⟨rfl, rfl⟩ : i = 0 ∧ u = .int .i64 p := by
      cases i with
      | zero => simp at hi; exact ⟨rfl, hi.symm⟩
      | succ i => simp at hi
    have hj2 := List.getElem?_eq_some_iff.1 hj
    obtain ⟨hj3, hj4⟩ := hj2
    have hj5 : j < zs.length := by omega
    have := hc j hj5
    rw [show j * (Kd.int .i64).sz + 0 = j by show j * 1 + 0 = j; omega, this]
    rw [List.getElem_take] at hj4
    simp [hj5, hj4]
theorem op_fields {t : TypeId} {fs : Array Field} (hu : Tryz.prog.underlying t = some (.struct fs)) (h : DataW.trod enc Tryz.prog W base spare held fuel t cs = some x) (hl : Light t x.1) :
    cs.length = Tryz.prog.cellsOf t ∧ ∀ (i : Nat) (f : Field), fs[i]? = some f → ∃ n y, DataW.trod enc Tryz.prog W base spare held n f.type ((cs.drop f.offset).take (Tryz.prog.cellsOf f.type)) = some y ∧ Light f.type y.1 := by
  obtain ⟨xs, n, _, rfl, hlen, hxs, hf⟩ := DataW.trod_struct hu h
  refine ⟨hlen, fun i f hi => ?_⟩
  have hlt : i < xs.length := by rw [hxs]; exact (Array.getElem?_eq_some_iff.1 hi).1
  have e := hf i f hi
  rw [List.getElem?_eq_getElem hlt] at e
  exact ⟨n, xs[i], e, light_field hu hl hi (by simp [hlt])⟩
theorem op_grid (h : DataW.trod enc Tryz.prog W base spare held fuel 23 cs = some x) (hl : Light 23 x.1) :
    ∃ g : Grid, cs = [.int .i64 g.w, .int .i64 g.h] := by
  obtain ⟨hlen, hf⟩ := op_fields Tryz.underlying23 h hl
  rw [show Tryz.prog.cellsOf 23 = 2 by kernel_rfl] at hlen
  obtain ⟨a0, a1, rfl⟩ : ∃ a0 a1, cs = [a0, a1] := len2 hlen
  obtain ⟨n0, y0, h0, l0⟩ := hf 0 _ rfl
  simp only [List.getElem_toArray, List.getElem_cons_zero, List.getElem_cons_succ] at h0 l0
  rw [show Tryz.prog.cellsOf 3 = 1 by kernel_rfl] at h0
  obtain ⟨i0, e0⟩ := op_int h0
  simp at e0
  obtain rfl := e0
  obtain ⟨n1, y1, h1, l1⟩ := hf 1 _ rfl
  simp only [List.getElem_toArray, List.getElem_cons_zero, List.getElem_cons_succ] at h1 l1
  rw [show Tryz.prog.cellsOf 3 = 1 by kernel_rfl] at h1
  obtain ⟨i1, e1⟩ := op_int h1
  simp at e1
  obtain rfl := e1
  exact ⟨⟨i0, i1⟩, rfl⟩
theorem op_mesh (h : DataW.trod enc Tryz.prog W base spare held fuel 26 cs = some x) (hl : Light 26 x.1) :
    ∃ (m : Mesh) (A : Option Addr) (c : Nat), cs = [.int .i64 m.g.w, .int .i64 m.g.h, .slice A m.br.length c] ∧ Kd.C (Kd.int .i64) W A m.br.length m.br ∧ m.br.length ≤ 140737488355328 := by
  obtain ⟨hlen, hf⟩ := op_fields Tryz.underlying26 h hl
  rw [show Tryz.prog.cellsOf 26 = 3 by kernel_rfl] at hlen
  obtain ⟨a0, a1, a2, rfl⟩ : ∃ a0 a1 a2, cs = [a0, a1, a2] := len3 hlen
  obtain ⟨n0, y0, h0, l0⟩ := hf 0 _ rfl
  simp only [List.getElem_toArray, List.getElem_cons_zero, List.getElem_cons_succ] at h0 l0
  rw [show Tryz.prog.cellsOf 23 = 2 by kernel_rfl] at h0
  obtain ⟨g0, e0⟩ := op_grid h0 l0
  simp at e0
  obtain ⟨rfl, rfl⟩ := e0
  obtain ⟨n1, y1, h1, l1⟩ := hf 1 _ rfl
  simp only [List.getElem_toArray, List.getElem_cons_zero, List.getElem_cons_succ] at h1 l1
  rw [show Tryz.prog.cellsOf 24 = 1 by kernel_rfl] at h1
  obtain ⟨A1, c1, r1, e1, hr1, hn1⟩ := op_ints h1 l1
  simp at e1
  obtain rfl := e1
  exact ⟨⟨g0, r1⟩, A1, c1, rfl, hr1, hn1⟩
theorem op_table (h : DataW.trod enc Tryz.prog W base spare held fuel 28 cs = some x) (hl : Light 28 x.1) :
    ∃ A c, ∃ l : List Int, cs = [.slice A l.length c] ∧ Kd.C (Kd.int .i64) W A l.length l ∧ l.length ≤ 140737488355328 := by
  obtain ⟨hlen, hf⟩ := op_fields Tryz.underlying28 h hl
  rw [show Tryz.prog.cellsOf 28 = 1 by kernel_rfl] at hlen
  obtain ⟨a0, rfl⟩ : ∃ a0, cs = [a0] := len1 hlen
  obtain ⟨n0, y0, h0, l0⟩ := hf 0 _ rfl
  simp only [List.getElem_toArray, List.getElem_cons_zero, List.getElem_cons_succ] at h0 l0
  rw [show Tryz.prog.cellsOf 24 = 1 by kernel_rfl] at h0
  obtain ⟨A0, c0, r0, e0, hr0, hn0⟩ := op_ints h0 l0
  simp at e0
  obtain rfl := e0
  exact ⟨A0, c0, r0, rfl, hr0, hn0⟩
theorem op_classes (h : DataW.trod enc Tryz.prog W base spare held fuel 30 cs = some x) (hl : Light 30 x.1) :
    ∃ A c, ∃ l : List Int, ∃ B d, ∃ k : List Int, cs = [.slice A l.length c, .slice B k.length d] ∧ Kd.C (Kd.int .i64) W A l.length l ∧ l.length ≤ 140737488355328 ∧ Kd.C (Kd.int .i64) W B k.length k ∧ k.length ≤ 140737488355328 := by
  obtain ⟨hlen, hf⟩ := op_fields Tryz.underlying30 h hl
  rw [show Tryz.prog.cellsOf 30 = 2 by kernel_rfl] at hlen
  obtain ⟨a0, a1, rfl⟩ : ∃ a0 a1, cs = [a0, a1] := len2 hlen
  obtain ⟨n0, y0, h0, l0⟩ := hf 0 _ rfl
  simp only [List.getElem_toArray, List.getElem_cons_zero, List.getElem_cons_succ] at h0 l0
  rw [show Tryz.prog.cellsOf 28 = 1 by kernel_rfl] at h0
  obtain ⟨A0, c0, r0, e0, hr0, hn0⟩ := op_table h0 l0
  simp at e0
  obtain rfl := e0
  obtain ⟨n1, y1, h1, l1⟩ := hf 1 _ rfl
  simp only [List.getElem_toArray, List.getElem_cons_zero, List.getElem_cons_succ] at h1 l1
  rw [show Tryz.prog.cellsOf 28 = 1 by kernel_rfl] at h1
  obtain ⟨A1, c1, r1, e1, hr1, hn1⟩ := op_table h1 l1
  simp at e1
  obtain rfl := e1
  exact ⟨A0, c0, r0, A1, c1, r1, rfl, hr0, hn0, hr1, hn1⟩
theorem op_packet (h : DataW.trod enc Tryz.prog W base spare held fuel 53 cs = some x) (hl : Light 53 x.1) :
    ∃ p : Packet, cs = [.int .i64 p.id, .int .i64 p.src, .int .i64 p.dst, .int .i64 p.cls, .int .i64 p.len] := by
  obtain ⟨hlen, hf⟩ := op_fields Tryz.underlying53 h hl
  rw [show Tryz.prog.cellsOf 53 = 5 by kernel_rfl] at hlen
  obtain ⟨a0, a1, a2, a3, a4, rfl⟩ : ∃ a0 a1 a2 a3 a4, cs = [a0, a1, a2, a3, a4] := len5 hlen
  obtain ⟨n0, y0, h0, l0⟩ := hf 0 _ rfl
  simp only [List.getElem_toArray, List.getElem_cons_zero, List.getElem_cons_succ] at h0 l0
  rw [show Tryz.prog.cellsOf 3 = 1 by kernel_rfl] at h0
  obtain ⟨i0, e0⟩ := op_int h0
  simp at e0
  obtain rfl := e0
  obtain ⟨n1, y1, h1, l1⟩ := hf 1 _ rfl
  simp only [List.getElem_toArray, List.getElem_cons_zero, List.getElem_cons_succ] at h1 l1
  rw [show Tryz.prog.cellsOf 3 = 1 by kernel_rfl] at h1
  obtain ⟨i1, e1⟩ := op_int h1
  simp at e1
  obtain rfl := e1
  obtain ⟨n2, y2, h2, l2⟩ := hf 2 _ rfl
  simp only [List.getElem_toArray, List.getElem_cons_zero, List.getElem_cons_succ] at h2 l2
  rw [show Tryz.prog.cellsOf 3 = 1 by kernel_rfl] at h2
  obtain ⟨i2, e2⟩ := op_int h2
  simp at e2
  obtain rfl := e2
  obtain ⟨n3, y3, h3, l3⟩ := hf 3 _ rfl
  simp only [List.getElem_toArray, List.getElem_cons_zero, List.getElem_cons_succ] at h3 l3
  rw [show Tryz.prog.cellsOf 3 = 1 by kernel_rfl] at h3
  obtain ⟨i3, e3⟩ := op_int h3
  simp at e3
  obtain rfl := e3
  obtain ⟨n4, y4, h4, l4⟩ := hf 4 _ rfl
  simp only [List.getElem_toArray, List.getElem_cons_zero, List.getElem_cons_succ] at h4 l4
  rw [show Tryz.prog.cellsOf 3 = 1 by kernel_rfl] at h4
  obtain ⟨i4, e4⟩ := op_int h4
  simp at e4
  obtain rfl := e4
  exact ⟨⟨i0, i1, i2, i3, i4⟩, rfl⟩
end
theorem build_list {α : Type} {Q : Nat → α → Prop} : ∀ n : Nat, (∀ i, i < n → ∃ p, Q i p) → ∃ l : List α, l.length = n ∧ ∀ i p, l[i]? = some p → Q i p := by
  intro n
  induction n with
  | zero => intro _; exact ⟨[], rfl, fun i p h => by simp at h⟩
  | succ n ih =>
    intro h
    obtain ⟨l, hl, hq⟩ := ih (fun i hi => h i (by omega))
    obtain ⟨p, hp⟩ := h n (by omega)
    refine ⟨l ++ [p], by simp [hl], fun i q hi => ?_⟩
    by_cases hlt : i < n
    · rw [List.getElem?_append_left (by omega)] at hi
      exact hq i q hi
    · have hlen := (List.getElem?_eq_some_iff.1 hi).1
      have : i = n := by simp at hlen; omega
      subst this
      rw [List.getElem?_append_right (by omega), hl, Nat.sub_self] at hi
      simp at hi
      subst hi
      exact hp
section
variable {H : Type} {enc : TypeId × Value → H} {W : World} {base : Nat} {spare : Nat → Bool} {held : Bool} {fuel : Nat} {cs : List Value} {x : DataW H × List MemPlace}
theorem op_fields0 {t : TypeId} {fs : Array Field} (hu : Tryz.prog.underlying t = some (.struct fs)) (h : DataW.trod enc Tryz.prog W base spare held fuel t cs = some x) :
    cs.length = Tryz.prog.cellsOf t ∧ ∀ (i : Nat) (f : Field), fs[i]? = some f → ∃ n y, DataW.trod enc Tryz.prog W base spare held n f.type ((cs.drop f.offset).take (Tryz.prog.cellsOf f.type)) = some y := by
  obtain ⟨xs, n, _, rfl, hlen, hxs, hf⟩ := DataW.trod_struct hu h
  refine ⟨hlen, fun i f hi => ?_⟩
  have hlt : i < xs.length := by rw [hxs]; exact (Array.getElem?_eq_some_iff.1 hi).1
  have e := hf i f hi
  rw [List.getElem?_eq_getElem hlt] at e
  exact ⟨n, xs[i], e⟩
theorem op_rows {α : Type} {n : Nat} {en : α → List Value} {hl : ∀ x, (en x).length = n} {h1 : ∀ x, ∀ u ∈ en x, u.oneCell' = true} {t e : TypeId} {B : Nat} (hn : 0 < n) (ht : Tryz.prog.underlying t = some (.slice e)) (hc : Tryz.prog.cellsOf e = n) (hB : Tryz.prog.bytesOf e = B) (hB1 : 1 ≤ B)
    (hel : ∀ {fuel : Nat} {cs : List Value} {x : DataW H × List MemPlace}, DataW.trod enc Tryz.prog W base spare held fuel e cs = some x → ∃ p, cs = en p)
    (h : DataW.trod enc Tryz.prog W base spare held fuel t cs = some x) (hlg : Light t x.1) :
    ∃ A c, ∃ l : List α, cs = [.slice A l.length c] ∧ (Kd.flat n en hl h1).C W A l.length l ∧ l.length ≤ 140737488355328 := by
  rcases DataW.trod_slice ht h with ⟨rfl, _⟩ | ⟨a, len, cap, elems, rest, k, _, rfl, hx, hb, hle, hm, hlen, hels, _, _⟩
  · exact ⟨none, 0, [], rfl, ⟨rfl, by simp, fun h => absurd h (by simp)⟩, by simp⟩
  · have hbl : len * B ≤ 140737488351232 := by
      subst hx
      have z := hlg _ (by unfold DataW.weights; rw [ht]; exact List.mem_cons_self)
      rw [hB] at z
      have hr : reachBytes = 140737488351232 := by decide
      rw [hr] at z
      refine Nat.le_trans (Nat.mul_le_mul_right _ ?_) z
      simp [hlen]
    have hlm : len ≤ 140737488351232 := Nat.le_trans (Nat.le_mul_of_pos_right _ hB1) hbl
    obtain ⟨l, hll, hq⟩ := build_list (Q := fun i p => W.cells? base (a.add (i * n)) n = some (en p)) len (fun i hi => by
      have e := hels i hi
      rw [List.getElem?_eq_getElem (by omega), Option.bind_eq_some_iff] at e
      obtain ⟨c', hc', hd⟩ := e
      obtain ⟨p, rfl⟩ := hel hd
      rw [hc] at hc'
      exact ⟨p, hc'⟩)
    subst hll
    refine ⟨some a, cap, l, rfl, ⟨rfl, by omega, fun _ => ⟨a, rfl, ?_⟩⟩, by omega⟩
    intro j p hj
    refine ⟨en p, hl p, rfl, fun i u hi => ?_⟩
    have h2 := hq j p hj
    have hin : i < n := by
      have := (List.getElem?_eq_some_iff.1 hi).1
      rwa [hl] at this
    have h3 := (World.cells?_some h2).2.2 i hin
    rw [add_add] at h3
    show W.cell? (a.add (j * n + i)) = some u
    rw [h3, hi]
theorem op_packet0 (h : DataW.trod enc Tryz.prog W base spare held fuel 53 cs = some x) : ∃ p : Packet, cs = pkCells p := by
  obtain ⟨hlen, hf⟩ := op_fields0 Tryz.underlying53 h
  rw [show Tryz.prog.cellsOf 53 = 5 by kernel_rfl] at hlen
  obtain ⟨a0, a1, a2, a3, a4, rfl⟩ : ∃ a0 a1 a2 a3 a4, cs = [a0, a1, a2, a3, a4] := len5 hlen
  obtain ⟨n0, y0, h0⟩ := hf 0 _ rfl
  obtain ⟨n1, y1, h1⟩ := hf 1 _ rfl
  obtain ⟨n2, y2, h2⟩ := hf 2 _ rfl
  obtain ⟨n3, y3, h3⟩ := hf 3 _ rfl
  obtain ⟨n4, y4, h4⟩ := hf 4 _ rfl
  simp only [List.getElem_toArray, List.getElem_cons_zero, List.getElem_cons_succ] at h0 h1 h2 h3 h4
  rw [show Tryz.prog.cellsOf 3 = 1 by kernel_rfl] at h0 h1 h2 h3 h4
  obtain ⟨i0, e0⟩ := op_int h0
  obtain ⟨i1, e1⟩ := op_int h1
  obtain ⟨i2, e2⟩ := op_int h2
  obtain ⟨i3, e3⟩ := op_int h3
  obtain ⟨i4, e4⟩ := op_int h4
  simp at e0 e1 e2 e3 e4
  subst e0 e1 e2 e3 e4
  exact ⟨⟨i0, i1, i2, i3, i4⟩, rfl⟩
theorem op_packets (h : DataW.trod enc Tryz.prog W base spare held fuel 64 cs = some x) (hl : Light 64 x.1) :
    ∃ A c, ∃ l : List Packet, cs = [.slice A l.length c] ∧ kP.C W A l.length l ∧ l.length ≤ 140737488355328 :=
  op_rows (B := 40) (by omega) Tryz.underlying64 (by kernel_rfl) (by kernel_rfl) (by omega) (fun h => op_packet0 h) h hl
end
end Go.Proofs.YtmkbmddgkdoaiaaGreat
