/- Lemmas for laws of this seat, for all inputs: DrU. -/
import Derived.Test.YtdajidljogpknaaQ4
import Derived.Test.YtdajidljogpknaaQ2
set_option linter.unusedVariables false
set_option linter.unusedSimpArgs false
namespace Go.Proofs.Ytdajidljogpknaa
open Go.RowKit Go.Proofs.YtdajidljogpknaaW.PrintWords
open NoC
theorem count_in {g : Grid} (g1 : 1 ≤ g.w) (g2 : g.w ≤ 4) (g3 : 1 ≤ g.h) (g4 : g.h ≤ 4) : nodeCount g = g.w * g.h := by unfold nodeCount gridOk inside; simp [g1, g2, g3, g4]
theorem arr_gt {w w1 : World} {g t b : Nat} {cs : Array Value} (h : Arr w g t cs) (hg : w.grownBy w1 (some b)) (hne : g ≠ b) : Arr w1 g t cs := (hg.block g h.lt (by intro e; injection e with e; exact hne e)).trans h
set_option maxHeartbeats 4000000 in
theorem spec_l14Grid (b B0 : Nat) (w : World) (HC : Cur w b B0) : Calls Try.prog 20 #[.pointer (some ⟨b, 0, none⟩)] w fun e w' => ∃ g : Grid, e = .returned (.agg #[.int .i64 g.w, .int .i64 g.h]) ∧ 1 ≤ g.w ∧ g.w ≤ 4 ∧ 1 ≤ g.h ∧ g.h ≤ 4 ∧ 2 ≤ nodeCount g ∧ Cur w' b B0 ∧ w.grownBy w' (some b) := by
  have hb := HC.lt
  have HR1 : Arr (w.alloc (.cells #[.int .i64 0, .int .i64 0] 25)) w.heap.size 25 #[.int .i64 0, .int .i64 0] := Arr.new w _ _ _ rfl
  go_enter Try.func20, Try.ntmps20
  go_wp2_with fail
  refine (spec_l02Grid b B0 _ (HC.below (bw_alloc _ (bw_refl _)))).mono ?_
  rintro e w2 ⟨g, rfl, p1, p2, p3, p4, HC2, hg2⟩
  have z2 := hg2.size
  simp only [szs] at z2
  have HR2 : Arr w2 w.heap.size 25 #[.int .i64 0, .int .i64 0] := arr_gt HR1 hg2 (by omega)
  have HG2 : w.grownBy w2 (some b) := grown_trans (gt_alloc _ (World.grownBy.refl _ _)) hg2
  have HT3 : Arr (w2.alloc (.cells #[.int .i64 g.w, .int .i64 g.h] 25)) w2.heap.size 25 #[.int .i64 g.w, .int .i64 g.h] := Arr.new w2 _ _ _ rfl
  have HR3 := HR2.below (bw_alloc (.cells #[.int .i64 g.w, .int .i64 g.h] 25) (bw_refl w2))
  have HC3 := HC2.below (bw_alloc (.cells #[.int .i64 g.w, .int .i64 g.h] 25) (bw_refl w2))
  have HG3 : w.grownBy (w2.alloc (.cells #[.int .i64 g.w, .int .i64 g.h] 25)) (some b) := gt_alloc _ HG2
  go_wp2_with fail
  refine (spec_NodeCount g _).mono ?_
  rintro e w4 ⟨rfl, hb4⟩
  have HT4 := HT3.below hb4
  have HR4 := HR3.below hb4
  have HC4 := HC3.below hb4
  have HG4 : w.grownBy w4 (some b) := grown_trans HG3 (grown_below _ hb4)
  have z4 := bw_size hb4
  simp only [szs] at z4
  clear hb4 HG3 HC3 HR3 HT3 HG2 HR2 HR1 HC2 hg2
  have hcn := count_in p1 p2 p3 p4
  obtain ⟨c, hc⟩ : ∃ c, nodeCount g = c := ⟨_, rfl⟩
  rw [hc]
  have t0 : w4.cell? ⟨w2.heap.size, 0, none⟩ = some (.int .i64 g.w) := HT4.cell 0
  have t1 : w4.cell? ⟨w2.heap.size, 1, none⟩ = some (.int .i64 g.h) := HT4.cell 1
  have f0 := HT4.frozen 0
  have tl := HT4.lt
  have r0 : w4.cell? ⟨w.heap.size, 0, none⟩ = some (.int .i64 0) := HR4.cell 0
  have r1 : w4.cell? ⟨w.heap.size, 1, none⟩ = some (.int .i64 0) := HR4.cell 1
  have e0 := HR4.frozen 0
  have e1 := HR4.frozen 1
  have rl := HR4.lt
  by_cases h2 : c < 2
  · have hw : g.w = 1 ∧ g.h = 1 := by
      have h1 : g.w * g.h < 2 := by omega
      have a := Int.mul_le_mul_of_nonneg_left p3 (show 0 ≤ g.w by omega)
      have b := Int.mul_le_mul_of_nonneg_right p1 (show 0 ≤ g.h by omega)
      omega
    have HN : Hid (2 ≤ nodeCount ⟨2, g.h⟩) := Lib.hid (by rw [count_in (g := ⟨2, g.h⟩) (by simp) (by simp) p3 p4]; simp only; omega)
    have HH := Lib.hid hw
    have HRz : Arr (((w4.setCell ⟨w2.heap.size, 0, none⟩ (.int .i64 2)).setCell ⟨w.heap.size, 0, none⟩ (.int .i64 2)).setCell ⟨w.heap.size, 1, none⟩ (.int .i64 g.h)) w.heap.size 25 #[.int .i64 2, .int .i64 g.h] := ((HR4.other w2.heap.size 0 _ (by omega)).set 0 _).set 1 _
    have HGz : w.grownBy (((w4.setCell ⟨w2.heap.size, 0, none⟩ (.int .i64 2)).setCell ⟨w.heap.size, 0, none⟩ (.int .i64 2)).setCell ⟨w.heap.size, 1, none⟩ (.int .i64 g.h)) (some b) := gt_own _ _ (gt_own _ _ (gt_own _ _ HG4 (by omega)) (Nat.le_refl _)) (Nat.le_refl _)
    have HCz : Cur (((w4.setCell ⟨w2.heap.size, 0, none⟩ (.int .i64 2)).setCell ⟨w.heap.size, 0, none⟩ (.int .i64 2)).setCell ⟨w.heap.size, 1, none⟩ (.int .i64 g.h)) b B0 := Cur.far _ _ (Cur.far _ _ (Cur.far _ _ HC4 (by omega)) hb) hb
    have HRz := Lib.hid HRz; have HGz := Lib.hid HGz; have HCz := Lib.hid HCz
    clear hw hcn
    go_wp2
    exact bodyPost_ret (results_cell_row Try.results20 _ _ w.heap.size 25 _ (0, 0) _ rfl HRz.out Try.underlying25 rfl (by kernel_rfl)) rfl ⟨⟨2, g.h⟩, rfl, by simp, by simp, p3, p4, HN.out, HCz.out, HGz.out⟩
  · have HN : Hid (2 ≤ nodeCount g) := Lib.hid (by omega)
    have HRz : Arr ((w4.setCell ⟨w.heap.size, 0, none⟩ (.int .i64 g.w)).setCell ⟨w.heap.size, 1, none⟩ (.int .i64 g.h)) w.heap.size 25 #[.int .i64 g.w, .int .i64 g.h] := (HR4.set 0 _).set 1 _
    have HGz : w.grownBy ((w4.setCell ⟨w.heap.size, 0, none⟩ (.int .i64 g.w)).setCell ⟨w.heap.size, 1, none⟩ (.int .i64 g.h)) (some b) := gt_own _ _ (gt_own _ _ HG4 (Nat.le_refl _)) (Nat.le_refl _)
    have HCz : Cur ((w4.setCell ⟨w.heap.size, 0, none⟩ (.int .i64 g.w)).setCell ⟨w.heap.size, 1, none⟩ (.int .i64 g.h)) b B0 := Cur.far _ _ (Cur.far _ _ HC4 hb) hb
    have HRz := Lib.hid HRz; have HGz := Lib.hid HGz; have HCz := Lib.hid HCz
    clear hcn
    go_wp2
    exact bodyPost_ret (results_cell_row Try.results20 _ _ w.heap.size 25 _ (0, 0) _ rfl HRz.out Try.underlying25 rfl (by kernel_rfl)) rfl ⟨g, rfl, p1, p2, p3, p4, HN.out, HCz.out, HGz.out⟩
theorem wrap_mod {n z : Int} (n1 : 0 < n) (z0 : 0 ≤ z) (z1 : z < 2 * n) : z % n = if z < n then z else z - n := by
  by_cases h : z < n
  · rw [if_pos h]; exact Int.emod_eq_of_lt z0 h
  · rw [if_neg h]
    have e : z = (z - n) + n := by omega
    rw [e, Int.add_emod_right, Int.emod_eq_of_lt (by omega) (by omega)]
    omega
set_option maxHeartbeats 4000000 in
theorem spec_l14Packet (b B0 : Nat) (g : Grid) (id : Int) (w : World) (HC : Cur w b B0) (g1 : 1 ≤ g.w) (g2 : g.w ≤ 4) (g3 : 1 ≤ g.h) (g4 : g.h ≤ 4) (gn : 2 ≤ nodeCount g) (i1 : 1 ≤ id) (i9 : id ≤ 9999) :
    Calls Try.prog 36 #[.pointer (some ⟨b, 0, none⟩), .agg #[.int .i64 g.w, .int .i64 g.h], .int .i64 id] w fun e w' => ∃ p : Packet, e = .returned (.agg #[.int .i64 p.id, .int .i64 p.src, .int .i64 p.dst, .int .i64 p.cls, .int .i64 p.len]) ∧ packetOk g p = true ∧ p.id = id ∧ Cur w' b B0 ∧ w.grownBy w' (some b) := by
  have hb := HC.lt
  have hc16 := count_le g
  obtain ⟨n, hn⟩ : ∃ n, nodeCount g = n := ⟨_, rfl⟩
  have HN := Lib.hid hn
  rw [hn] at gn hc16
  clear hn
  obtain ⟨wa, ewa⟩ : ∃ z, z = (w.alloc (.cells #[.int .i64 g.w, .int .i64 g.h] 25)).alloc (.cells #[.int .i64 0, .int .i64 0, .int .i64 0, .int .i64 0, .int .i64 0] 57) := ⟨_, rfl⟩
  have hwa : Below w.heap.size w wa := by rw [ewa]; exact bw_alloc _ (bw_alloc _ (bw_refl w))
  have HR1 : Arr wa (w.heap.size + 1) 57 #[.int .i64 0, .int .i64 0, .int .i64 0, .int .i64 0, .int .i64 0] := by rw [ewa]; exact Arr.new _ _ _ _ (by simp only [szs])
  have zwa : wa.heap.size = w.heap.size + 2 := by rw [ewa]; simp only [szs]
  go_enter Try.func36, Try.ntmps36
  go_wp2_with fail
  rw [← ewa]
  clear ewa
  refine (spec_NodeCount g _).mono ?_
  rintro e w2 ⟨rfl, hb2⟩
  rw [HN.out]
  have HC2 := (HC.below hwa).below hb2
  have HR2 := HR1.below hb2
  have HG2 : w.grownBy w2 (some b) := grown_below _ (bw_then hwa hb2)
  clear hb2 hwa HR1 HC
  go_wp2_with fail
  refine (spec_l01Below b B0 n _ HC2 (by omega) (by omega)).mono ?_
  rintro e w3 ⟨x, rfl, x0, x1, HC3, hg3⟩
  have HR3 := arr_gt HR2 hg3 (by omega)
  have HG3 := grown_trans HG2 hg3
  clear hg3 HR2 HG2 HC2
  go_wp2_with fail
  refine (spec_l01Below b B0 (n - 1) _ HC3 (by omega) (by omega)).mono ?_
  rintro e w4 ⟨y, rfl, y0, y1, HC4, hg4⟩
  have HR4 := arr_gt HR3 hg4 (by omega)
  have HG4 := grown_trans HG3 hg4
  clear hg4 HR3 HG3 HC3
  have hm := wrap_mod (n := n) (z := x + 1 + y) (by omega) (by omega) (by omega)
  obtain ⟨t, ht⟩ : ∃ t, (x + 1 + y) % n = t := ⟨_, rfl⟩
  have htm : (x + 1 + y).tmod n = t := by rw [Int.tmod_eq_emod_of_nonneg (by omega), ht]
  have ht2 : 0 ≤ t ∧ t < n ∧ t ≠ x := by
    rw [← ht, hm]
    split <;> omega
  have nne : ¬ n = 0 := by omega
  clear hm
  go_wp2_with fail
  refine (spec_l01Below b B0 2 _ HC4 (by omega) (by omega)).mono ?_
  rintro e w5 ⟨cl, rfl, c0, c1, HC5, hg5⟩
  have HR5 := arr_gt HR4 hg5 (by omega)
  have HG5 := grown_trans HG4 hg5
  clear hg5 HR4 HG4 HC4
  go_wp2_with fail
  refine (spec_l01Below b B0 5 _ HC5 (by omega) (by omega)).mono ?_
  rintro e w6 ⟨ln, rfl, l0, l1, HC6, hg6⟩
  have HR6 := arr_gt HR5 hg6 (by omega)
  have HG6 := grown_trans HG5 hg6
  clear hg6 HR5 HG5 HC5
  have HP : Hid (packetOk g ⟨id, x, t, cl, 1 + ln⟩ = true) := Lib.hid (by
    simp only [packetOk, isNode, inside, HN.out, Bool.and_eq_true, decide_eq_true_eq]
    omega)
  have r0 : w6.cell? ⟨w.heap.size + 1, 0, none⟩ = some (.int .i64 0) := HR6.cell 0
  have r1 : w6.cell? ⟨w.heap.size + 1, 1, none⟩ = some (.int .i64 0) := HR6.cell 1
  have r2 : w6.cell? ⟨w.heap.size + 1, 2, none⟩ = some (.int .i64 0) := HR6.cell 2
  have r3 : w6.cell? ⟨w.heap.size + 1, 3, none⟩ = some (.int .i64 0) := HR6.cell 3
  have r4 : w6.cell? ⟨w.heap.size + 1, 4, none⟩ = some (.int .i64 0) := HR6.cell 4
  have e0 := HR6.frozen 0
  have e1 := HR6.frozen 1
  have e2 := HR6.frozen 2
  have e3 := HR6.frozen 3
  have e4 := HR6.frozen 4
  have rl := HR6.lt
  have HR6 := Lib.hid HR6; have HG6 := Lib.hid HG6; have HC6 := Lib.hid HC6
  go_wp2
  refine bodyPost_ret (results_cell_row Try.results36 _ _ (w.heap.size + 1) 57 _ (0, 0) _ rfl (((((HR6.out.set 0 _).set 1 _).set 2 _).set 3 _).set 4 _) Try.underlying57 rfl (by kernel_rfl)) rfl ⟨⟨id, x, t, cl, 1 + ln⟩, rfl, HP.out, rfl, ?_, ?_⟩
  · exact Cur.far _ _ (Cur.far _ _ (Cur.far _ _ (Cur.far _ _ (Cur.far _ _ HC6.out (by omega)) (by omega)) (by omega)) (by omega)) (by omega)
  · exact gt_own _ _ (gt_own _ _ (gt_own _ _ (gt_own _ _ (gt_own _ _ HG6.out (by omega)) (by omega)) (by omega)) (by omega)) (by omega)
def Drawn (g : Grid) (l : List Packet) : Prop := l.length ≤ 6 ∧ ∀ j : Nat, j < l.length → packetOk g (rp l j) = true ∧ (rp l j).id = (j : Int) + 1
theorem rp_snoc_lt (xs : List Packet) (x : Packet) (j : Nat) (h : j < xs.length) : rp (xs ++ [x]) (j : Int) = rp xs (j : Int) := by
  simp [rp, List.getD_eq_getElem?_getD, List.getElem?_append, h]
theorem rp_snoc_at (xs : List Packet) (x : Packet) : rp (xs ++ [x]) (xs.length : Int) = x := by
  simp [rp, List.getD_eq_getElem?_getD]
section
variable {ops : Array Oper} {rest : List Oper} {o : Oper} {a : Act} {Q : Exit → Act → World → Prop}
theorem app_PN {B : Nat} {W : World} (hgd : o.guard = none) (s x : Operand)
    (ho : o.op = .call { callee := .builtin .append, args := #[s, x], argTypes := #[33, 33] })
    (v : Value) (xs : List Packet) (p : Packet) (hs : a.eval s = v) (hx : a.eval x = .slice (some ⟨W.heap.size, 0, none⟩) 1 1)
    (HO : kP.R 57 W B (fun _ => True) v xs) (hB : B ≤ W.heap.size) (hl : xs.length ≤ 1000000)
    (h : ∀ v1 w1, kP.R 57 w1 B (fun _ => True) v1 (xs ++ [p]) → W.grownBy w1 v.ownBlock → (v1.ownBlock = v.ownBlock ∨ ∃ b, v1.ownBlock = some b ∧ W.heap.size ≤ b) → wpList Try.prog ops Q rest (a.put o.dst v1) w1) :
    wpList Try.prog ops Q (o :: rest) a (W.alloc (.cells #[.int .i64 p.id, .int .i64 p.src, .int .i64 p.dst, .int .i64 p.cls, .int .i64 p.len] 57)) :=
  Kd.R_append (P := Try.prog) kP (w0 := W) B hgd s x 33 57 (.agg #[.int .i64 0, .int .i64 0, .int .i64 0, .int .i64 0, .int .i64 0]) 40 ho Try.underlying33 info_P rfl (by decide) (by omega) v xs p (pkCells p) (fun _ => True) (fun _ => False) hs hx rfl (fun _ h => h.elim) (fun _ _ => trivial) HO (Below.refl _ _) hB (by omega) (fun v1 w1 h1 _ h3 h4 => h v1 w1 h1 h3 h4)
end
set_option maxHeartbeats 4000000 in
theorem spec_l16Packets (b B0 : Nat) (g : Grid) (w : World) (HC : Cur w b B0) (g1 : 1 ≤ g.w) (g2 : g.w ≤ 4) (g3 : 1 ≤ g.h) (g4 : g.h ≤ 4) (gn : 2 ≤ nodeCount g) :
    Calls Try.prog 23 #[.pointer (some ⟨b, 0, none⟩), .agg #[.int .i64 g.w, .int .i64 g.h]] w fun e w' => ∃ (l : List Packet) (v : Value), e = .returned v ∧ Drawn g l ∧ kP.R 57 w' w.heap.size (fun _ => True) v l ∧ Cur w' b B0 ∧ w.grownBy w' (some b) := by
  have hb := HC.lt
  have HG0 := Arr.new w w.heap.size 25 #[.int .i64 g.w, .int .i64 g.h] rfl
  obtain ⟨wa, ewa⟩ : ∃ z, z = (w.alloc (.cells #[.int .i64 g.w, .int .i64 g.h] 25)).alloc (.cells #[] 57) := ⟨_, rfl⟩
  have hwa : Below w.heap.size w wa := by rw [ewa]; exact bw_alloc _ (bw_alloc _ (bw_refl w))
  have HGa : Arr wa w.heap.size 25 #[.int .i64 g.w, .int .i64 g.h] := by rw [ewa]; exact HG0.below (bw_alloc _ (bw_refl _))
  have HOa : kP.R 57 wa (w.heap.size + 1) (fun _ => True) (.slice (some ⟨w.heap.size + 1, 0, none⟩) 0 0) [] := by
    have h := R_empty' (W0 := w.alloc (.cells #[.int .i64 g.w, .int .i64 g.h] 25)) (W := w.alloc (.cells #[.int .i64 g.w, .int .i64 g.h] 25)) kP 57 (Nat.le_refl _) (w.heap.size + 1) (by simp only [szs])
    simp only [szs] at h
    rw [ewa]
    exact h
  have zwa : wa.heap.size = w.heap.size + 2 := by rw [ewa]; simp only [szs]
  go_enter Try.func23, Try.ntmps23
  go_wp2
  rw [← ewa]
  clear ewa HG0
  go_loopw [5, 6] (fun v i wr => ∃ (k : Nat) (l : List Packet), i = .int .i64 k ∧ Hid (l.length = k) ∧ k ≤ 6 ∧ Hid (∀ j : Nat, j < l.length → packetOk g (rp l j) = true ∧ (rp l j).id = (j : Int) + 1) ∧ Hid (kP.R 57 wr (w.heap.size + 1) (fun _ => True) v l) ∧ Hid (Cur wr b B0) ∧ Hid (w.grownBy wr (some b)) ∧ Hid (Arr wr w.heap.size 25 #[.int .i64 g.w, .int .i64 g.h]) ∧ w.heap.size + 1 ≤ wr.heap.size) (fun _ i _ => 6 - (intOf i).toNat)
  case atStart => exact ⟨0, [], rfl, Lib.hid rfl, Nat.zero_le _, Lib.hid (fun j h => absurd h (Nat.not_lt_zero _)), Lib.hid HOa, Lib.hid (HC.below hwa), Lib.hid (grown_below _ hwa), Lib.hid HGa, by omega⟩
  case round =>
    clear HOa HGa hwa HC
    obtain ⟨k, l, rfl, HL, hk, HP, HO, HC, HG, HB, zr⟩ := hrel
    obtain ⟨A, c, rfl⟩ := Kd.R_slice HO.out
    go_wp2_with fail
    refine (spec_l01Below b B0 7 _ HC.out (by omega) (by omega)).mono ?_
    rintro e w2 ⟨x, rfl, x0, x1, HC2, hg2⟩
    have HAP : (Value.slice A l.length c).ownBlock = none ∨ (Value.slice A l.length c).ownBlock ≠ some b := .inr (fun e => by have := Kd.R_base HO.out b e; omega)
    have HO2 := Lib.hid (R_grownF HO.out hg2 HAP)
    have HB2 := Lib.hid (arr_gt HB.out hg2 (by omega))
    have HG2 := Lib.hid (grown_trans HG.out hg2)
    have z2 := hg2.size
    have HC2 := Lib.hid HC2
    clear hg2
    by_cases hlt : (k : Int) < x
    · have t0 : w2.cell? ⟨w.heap.size, 0, none⟩ = some (.int .i64 g.w) := HB2.out.cell 0
      have t1 : w2.cell? ⟨w.heap.size, 1, none⟩ = some (.int .i64 g.h) := HB2.out.cell 1
      have tl := HB2.out.lt
      go_wp2_with fail
      refine (spec_l14Packet b B0 g ((k : Int) + 1) _ HC2.out g1 g2 g3 g4 gn (by omega) (by omega)).mono ?_
      rintro e w3 ⟨p, rfl, hp, hid, HC3, hg3⟩
      have HAP2 : (Value.slice A l.length c).ownBlock = none ∨ (Value.slice A l.length c).ownBlock ≠ some b := .inr (fun e => by have := Kd.R_base HO2.out b e; omega)
      have HO3 := R_grownF HO2.out hg3 HAP2
      have HB3 := arr_gt HB2.out hg3 (by omega)
      have HG3 := grown_trans HG2.out hg3
      have z3 := hg3.size
      have HPP := Lib.hid hp; have HPI := Lib.hid hid
      clear hg3 hp hid t0 t1 tl
      have hl6 : l.length ≤ 1000000 := by have := HL.out; omega
      go_wp2_with (at_builtin; refine app_PN (B := w.heap.size + 1) rfl (.tmp 14) (.tmp 20) rfl _ l p rfl rfl HO3 (by omega) hl6 ?_; intro v4 w4 HO4 hg4 hat4)
      have hk2 : k + 1 ≤ 6 := by omega
      have zz : w3.heap.size ≤ w4.heap.size := hg4.size
      have ha : ∀ q, (Value.slice A l.length c).ownBlock = some q → w.heap.size + 1 ≤ q := fun q hq => Kd.R_base HO3 q hq
      have HC4 : Cur w4 b B0 := HC3.grown hg4 (fun q hq => ⟨by have := ha q hq; have := HC3.1; omega, by have := ha q hq; omega⟩)
      have HG4 : w.grownBy w4 (some b) := ⟨hg4.os.trans HG3.os, hg4.tape.trans HG3.tape, hg4.output.trans HG3.output, Nat.le_trans HG3.size hg4.size, fun i hi hne => (hg4.block i (Nat.lt_of_lt_of_le hi HG3.size) (fun e => by have := ha i e.symm; omega)).trans (HG3.block i hi hne)⟩
      have HB4 : Arr w4 w.heap.size 25 #[.int .i64 g.w, .int .i64 g.h] := (hg4.block _ HB3.lt (fun e => by have := ha _ e.symm; omega)).trans HB3
      have HL4 : Hid ((l ++ [p]).length = k + 1) := Lib.hid (by rw [List.length_append, HL.out]; rfl)
      have HP4 : Hid (∀ j : Nat, j < (l ++ [p]).length → packetOk g (rp (l ++ [p]) j) = true ∧ (rp (l ++ [p]) j).id = (j : Int) + 1) := Lib.hid (fun j hj => by
        by_cases e : j < l.length
        · rw [rp_snoc_lt _ _ _ e]; exact HP.out j e
        · have e2 : j = l.length := by rw [List.length_append] at hj; simp at hj; omega
          subst e2
          rw [rp_snoc_at]
          exact ⟨HPP.out, by rw [HPI.out, HL.out]⟩)
      have HO4 := Lib.hid HO4; have HC4 := Lib.hid HC4; have HG4 := Lib.hid HG4; have HB4 := Lib.hid HB4
      go_roundw
      case rel => exact ⟨k + 1, l ++ [p], by go_num, HL4, hk2, HP4, HO4, HC4, HG4, HB4, by omega⟩
      case measure => simp [intOf]; omega
    · go_wp2
      go_ret
      exact ⟨l, _, rfl, ⟨by rw [HL.out]; exact hk, HP.out⟩, Kd.R_lower HO2.out (by omega), HC2.out, HG2.out⟩
end Go.Proofs.Ytdajidljogpknaa
