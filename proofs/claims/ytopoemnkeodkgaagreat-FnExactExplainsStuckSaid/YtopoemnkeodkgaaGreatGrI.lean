/- Grants and moves of a valid network: the program's side. -/
import Derived.Test.YtopoemnkeodkgaaGreatGrD
set_option linter.unusedVariables false
set_option linter.unusedSimpArgs false
namespace Go.Proofs.YtopoemnkeodkgaaGreat
open Go.RowKit Go.Proofs.YtopoemnkeodkgaaGreatW.PrintWords
open NoC

def gCells (x : Grant) : List Value := [.int .i64 x.node, .int .i64 x.port, .int .i64 x.input]
def kG : Kd Grant := Kd.flat 3 gCells (fun _ => rfl) (fun x u hu => by
  simp only [gCells, List.mem_cons, List.not_mem_nil, or_false] at hu
  rcases hu with rfl | rfl | rfl <;> rfl)
def zg : Grant := ⟨0, 0, 0⟩
def rg (l : List Grant) (i : Int) : Grant := l.getD i.toNat zg
theorem rdG_at {w : World} {A : Option Addr} {l : List Grant} (h : kG.C w A l.length l) (k : Nat) (hk : k < l.length) :
    ∃ b off, A = some ⟨b, off, none⟩ ∧ b < w.heap.size ∧ w.cell? ⟨b, off + k * 3, none⟩ = some (.int .i64 (rg l k).node) ∧ w.cell? ⟨b, off + k * 3 + 1, none⟩ = some (.int .i64 (rg l k).port) ∧ w.cell? ⟨b, off + k * 3 + 2, none⟩ = some (.int .i64 (rg l k).input) := by
  obtain ⟨b, off, rfl, hb, hx⟩ := rdF_at (n := 3) zg (by omega) h k hk
  exact ⟨b, off, rfl, hb, hx k hk 0 _ rfl, hx k hk 1 _ rfl, hx k hk 2 _ rfl⟩
theorem info_G : (Tryz.prog.info? 96).map (fun i => (i.zero, i.size, i.bytes)) = some (some (.agg #[.int .i64 0, .int .i64 0, .int .i64 0]), 3, 24) := by kernel_rfl
def GotG (w w' : World) (xs : List Grant) (e : Ending) : Prop := ∃ v, e = .returned v ∧ kG.R 96 w' w.heap.size (fun _ => True) v xs
theorem GotG.read {w w' : World} {xs : List Grant} {e : Ending} (h : GotG w w' xs e) : ∃ A c, e = .returned (.slice A xs.length c) ∧ xs.length ≤ c ∧ kG.C w' A xs.length xs := by
  obtain ⟨v, rfl, hR⟩ := h
  obtain ⟨A, c, rfl, h1, h2⟩ := Kd.R_reads hR
  exact ⟨A, c, rfl, h1, h2⟩
theorem GotG.nil (w w' : World) : GotG w w' [] (.returned (.slice none 0 0)) := ⟨_, rfl, Kd.R_nil _ _ _ _ _⟩
section
variable {ops : Array Oper} {rest : List Oper} {o : Oper} {a : Act} {Q : Exit → Act → World → Prop}
theorem app_G {W0 W : World} (hgd : o.guard = none) (s x : Operand)
    (ho : o.op = .call { callee := .builtin .append, args := #[s, x], argTypes := #[93, 93] })
    (v : Value) (xs : List Grant) (q : Grant) (hs : a.eval s = v) (hx : a.eval x = .slice (some ⟨W.heap.size, 0, none⟩) 1 1)
    (HO : kG.R 96 W W0.heap.size (fun _ => True) v xs) (HB : Below W0.heap.size W0 W) (hl : xs.length ≤ 100000000)
    (h : ∀ v1 w1, kG.R 96 w1 W0.heap.size (fun _ => True) v1 (xs ++ [q]) → Below W0.heap.size W0 w1 → W.grownBy w1 v.ownBlock → wpList Tryz.prog ops Q rest (a.put o.dst v1) w1) :
    wpList Tryz.prog ops Q (o :: rest) a (W.alloc (.cells #[.int .i64 q.node, .int .i64 q.port, .int .i64 q.input] 96)) :=
  Kd.R_append kG W0.heap.size hgd s x 93 96 (.agg #[.int .i64 0, .int .i64 0, .int .i64 0]) 24 ho Tryz.underlying93 info_G rfl (by decide) (by omega) v xs q (gCells q) (fun _ => True) (fun _ => False) hs hx rfl (fun _ hk => hk.elim) (fun _ _ => trivial) HO HB HB.size (by omega) (fun v1 w1 h1 h2 h3 _ => h v1 w1 h1 h2 h3)
/-- append(v, ys...). -/
theorem apps_G {W0 W : World} (hgd : o.guard = none) (s x : Operand)
    (ho : o.op = .call { callee := .builtin .append, args := #[s, x], argTypes := #[93, 93] })
    (v : Value) (xs ys : List Grant) (A : Option Addr) (c : Nat) (hs : a.eval s = v) (hx : a.eval x = .slice A ys.length c)
    (HO : kG.R 96 W W0.heap.size (fun _ => True) v xs) (HR : kG.C W A ys.length ys) (HB : Below W0.heap.size W0 W) (hl : xs.length + ys.length ≤ 100000000)
    (h : ∀ v1 w1, kG.R 96 w1 W0.heap.size (fun _ => True) v1 (xs ++ ys) → Below W0.heap.size W0 w1 → wpList Tryz.prog ops Q rest (a.put o.dst v1) w1) :
    wpList Tryz.prog ops Q (o :: rest) a W :=
  Kd.R_append_rows kG W0.heap.size hgd s x 93 96 (.agg #[.int .i64 0, .int .i64 0, .int .i64 0]) 24 ho Tryz.underlying93 info_G rfl (by decide) (by omega) v xs ys A ys.length c (fun _ => True) (fun _ => False) hs hx HO HR (fun _ _ h => h) (fun _ hk => hk.elim) (fun _ _ => trivial) HB HB.size (by omega) (fun v1 w1 h1 h2 _ _ => h v1 w1 h1 h2)
end
set_option maxHeartbeats 8000000 in
set_option maxRecDepth 100000 in
theorem impl_grants (n : Net) (q : NA) (bx : Nat) (a : Int) (w : World) (hr : NetR 115 w n q) (hx : Box w bx (netCells n q)) (ok : netOk n = true) (nd : isNode n.mesh.g a = true) :
    Calls Tryz.prog 119 #[.pointer (some ⟨bx, 0, none⟩), .int .i64 a] w fun e w' => GotG w w' (grantsN n a) e ∧ Below w.heap.size w w' := by
  have R := Lib.hid hr
  have X := Lib.hid hx
  have OK := Lib.hid ok
  have ND := Lib.hid nd
  obtain ⟨_, _, _, a15⟩ := node_bounds nd
  have a0 := (isNode_iff.1 nd).1
  clear ok nd
  obtain ⟨a1, a2, a3, a4, a5, a6, a7, a8, c1, c2, c3, c4, c5, c6, c7, c8⟩ := q; obtain ⟨Rbr, Rpa, Rpb, Rbu, Row, Rtu, Rso, Rar, L1, L2, L3, L4, L5, L6, L7, L8, L9, L10, L11⟩ := hr; have M9 := Lib.hid L9; have M10 := Lib.hid L10; have M11 := Lib.hid L11; clear L9 L10 L11; dsimp only [netCells] at *
  have xl := hx.lt; have x0 : w.cell? ⟨bx, 0, none⟩ = some (.int .i64 n.mesh.g.w) := hx.get 0; have x1 : w.cell? ⟨bx, 1, none⟩ = some (.int .i64 n.mesh.g.h) := hx.get 1; have x2 : w.cell? ⟨bx, 2, none⟩ = some (.slice a1 n.mesh.br.length c1) := hx.get 2; have x3 : w.cell? ⟨bx, 3, none⟩ = some (.slice a2 n.pa.length c2) := hx.get 3; have x4 : w.cell? ⟨bx, 4, none⟩ = some (.slice a3 n.pb.length c3) := hx.get 4; have x5 : w.cell? ⟨bx, 5, none⟩ = some (.slice a4 n.bufs.length c4) := hx.get 5; have x6 : w.cell? ⟨bx, 6, none⟩ = some (.slice a5 n.owners.length c5) := hx.get 6; have x7 : w.cell? ⟨bx, 7, none⟩ = some (.slice a6 n.turns.length c6) := hx.get 7; have x8 : w.cell? ⟨bx, 8, none⟩ = some (.slice a7 n.srcs.length c7) := hx.get 8; have x9 : w.cell? ⟨bx, 9, none⟩ = some (.slice a8 n.arrs.length c8) := hx.get 9; have x10 : w.cell? ⟨bx, 10, none⟩ = some (.int .i64 n.time) := hx.get 10; clear hx
  go_enter Tryz.func119, Tryz.ntmps119
  go_wp2
  go_loopw [5, 7] (fun v i wr => ∃ p : Nat, i = .int .i64 p ∧ p ≤ 5 ∧ kG.R 96 wr w.heap.size (fun _ => True) v (gst n a p).2 ∧ UB 153 wr (w.heap.size + 1) (gst n a p).1 ∧ Below w.heap.size w wr) (fun _ i _ => 5 - (intOf i).toNat)
  case atStart => exact ⟨0, rfl, Nat.zero_le _, Kd.R_below (R_empty kG 96 (W0 := w) (W := w) (Nat.le_refl _)) (bw_alloc _ (bw_refl _)), ⟨rfl, Blk.new (w.alloc (.cells #[] 96)) _ _ _ (by rw [World.size_alloc])⟩, (by with_reducible repeat (first | assumption | exact bw_refl _ | apply bw_alloc | apply bw_drew | apply bw_drewN | refine bw_set _ ?_ (by omega) | refine bw_then ?_ (by assumption)))⟩
  case round =>
    obtain ⟨p, rfl, hp, HO, HU, HB⟩ := hrel
    obtain ⟨Ao, co, rfl⟩ := Kd.R_slice HO
    have hlen := gst_len n a p
    have husl := gst_us n a p
    obtain ⟨hcr, hfr, hzr⟩ := bcell HB
    have hul := HU.2.lt
    by_cases hlt : p < 5
    · have p0 : (p : Int) ≤ 4 := by omega
      obtain ⟨t0, t1, t2, t3⟩ := turn_range OK.out ND.out p hlt
      obtain ⟨b6, o6, rfl, hb6, r6⟩ := rdI_int Rtu (5 * a + (p : Int)) t0 t1
      obtain ⟨us, eus⟩ : ∃ us, (gst n a p).1 = us := ⟨_, rfl⟩
      obtain ⟨k0, k1⟩ := pick_range n a p us
      have hsm := left_small n a p us
      have hll := left_len n a p us
      obtain ⟨k, hk⟩ : ∃ k, pick n a p us = k := ⟨_, rfl⟩
      rw [hk] at k0 k1
      rw [eus] at HU husl
      have HK := Lib.hid hk
      have HE := Lib.hid (show pick n a p (gst n a p).1 = k by rw [eus]; exact hk)
      have EUS := Lib.hid eus
      have HSM := Lib.hid hsm
      have HUH := Lib.hid HU
      have HUSL := Lib.hid husl
      clear hk eus HU hsm husl
      have HWo := within_R HO
      go_wp2_with fail
      refine (impl_requests n _ bx a p _ (R.out.below (by with_reducible repeat (first | assumption | exact bw_refl _ | apply bw_alloc | apply bw_drew | apply bw_drewN | refine bw_set _ ?_ (by omega) | refine bw_then ?_ (by assumption)))) (X.out.below (by with_reducible repeat (first | assumption | exact bw_refl _ | apply bw_alloc | apply bw_drew | apply bw_drewN | refine bw_set _ ?_ (by omega) | refine bw_then ?_ (by assumption)))) OK.out ND.out).mono ?_
      rintro e w1 ⟨hg1, hb1⟩
      obtain ⟨v1, rfl, HO1⟩ := hg1
      obtain ⟨A1, d1, rfl⟩ := Kd.R_slice HO1
      have HU1 := HUH.out.below hb1
      have HOA := Kd.R_below HO hb1
      have HB1 := bw_then HB hb1
      have s1 := bw_size hb1
      have HO1H := Lib.hid HO1
      have w1w := within_R HO1
      have HAP := apart_lt HWo w1w (Nat.le_refl _)
      have HOH := Lib.hid HOA
      have HUH1 := Lib.hid HU1
      clear HUH HO HOA hb1 HO1 hcr hfr hzr HU1
      go_wp2_with fail
      refine (slices_DeleteFunc (requestsN n a p) us (w.heap.size + 1) A1 d1 wr.heap.size _ HO1H.out (Nat.le_trans (requestsTo_len n a p 10) (by decide)) (smallL_mem (requests_small n a p)) HUH1.out (by omega)).mono ?_
      rintro e w2 ⟨⟨v2, rfl, HO2⟩, hg2⟩
      obtain ⟨A2, d2, rfl⟩ := Kd.R_slice HO2
      have s2 := hg2.size
      have HB2 : Below w.heap.size w w2 := HB1.grown hg2 (bw_size HB1) (fun k hk => by have := w1w k hk; have := bw_size HB; omega)
      have HU2 := HUH1.out.grown hg2 (fun e => by have := w1w _ e.symm; omega)
      have HOA2 := R_grownF HOH.out hg2 HAP
      have HC2 := Lib.hid (Kd.R_row HO2).2.2
      have HU2H := Lib.hid HU2
      have HO2H := Lib.hid HOA2
      obtain ⟨hc2, hf2, hz2⟩ := bcell HB2
      clear HUH1 HOH HO1H HAP HWo w1w hg2 HO2 HU2 HOA2
      go_wp2_with fail
      refine (impl_FirstFrom ((requestsN n a p).filter (keepU us)) (ri n.turns (5 * a + (p : Int))) A2 d2 _ HC2.out (Nat.le_trans (left_len n a p us) (by decide)) (smallL_mem HSM.out) t2 t3).mono ?_
      rintro e w' ⟨he, rfl⟩
      rw [show firstFrom ((requestsN n a p).filter (keepU us)) (ri n.turns (5 * a + (p : Int))) = k from HK.out] at he
      subst he
      by_cases hk0 : 0 ≤ k
      · have HS := Lib.hid (gst_yes HE.out hk0)
        have j0 : 0 ≤ k / 2 := by omega
        have j1 : k / 2 < 5 := by omega
        have c9 := HU2H.out.cell hk0 k1
        have f9 := HU2H.out.2.frozen (k / 2).toNat
        have HRS := Lib.hid (Kd.R_set HO2H.out HU2H.out.2 (by decide) (k / 2).toNat (.bool true))
        have HUS : Hid (UB 153 (w2.setCell ⟨w.heap.size + 1, (k / 2).toNat, none⟩ (.bool true)) (w.heap.size + 1) (us.set (k / 2).toNat true)) := Lib.hid ⟨by rw [List.length_set]; exact HUSL.out, by have h := HU2H.out.2.set (k / 2).toNat (.bool true); rwa [uCells_set] at h⟩
        have HBS : Below w.heap.size w (w2.setCell ⟨w.heap.size + 1, (k / 2).toNat, none⟩ (.bool true)) := bw_set _ HB2 (by omega)
        go_wp2_with (at_builtin; refine app_G (W0 := w) rfl (.tmp 39) (.tmp 44) rfl _ (gst n a p).2 ⟨a, p, k⟩ rfl (by first | rfl | exact congrArg (fun z => Value.slice (some ⟨z, 0, none⟩) 1 1) (by simp only [World.size_alloc, World.size_setCell, World.size_drew, sz_drewN])) HRS.out HBS (by omega) ?_; intro v3 w3 HO3 HB3 hg3)
        go_roundw
        case rel => exact ⟨p + 1, by go_num, by omega, by rw [HS.out]; exact HO3, by rw [HS.out, EUS.out]; exact HUS.out.grown hg3 (Kd.R_ne HRS.out HUS.out.2 (by decide)), HB3⟩
        case measure => simp [intOf]; omega
      · have HS := Lib.hid (gst_no HE.out (by omega))
        go_wp2
        go_roundw
        case rel => exact ⟨p + 1, by go_num, by omega, by rw [HS.out]; exact HO2H.out, by rw [HS.out, EUS.out]; exact HU2H.out, HB2⟩
        case measure => simp [intOf]; omega
    · have p0 : ¬ (p : Int) ≤ 4 := by omega
      obtain rfl : p = 5 := by omega
      go_wp2
      go_ret
      exact ⟨⟨_, rfl, HO⟩, HB⟩
set_option maxHeartbeats 4000000 in
theorem impl_allGrants (n : Net) (q : NA) (bx : Nat) (w : World) (hr : NetR 115 w n q) (hx : Box w bx (netCells n q)) (ok : netOk n = true) :
    Calls Tryz.prog 67 #[.pointer (some ⟨bx, 0, none⟩)] w fun e w' => GotG w w' (allGrants n) e ∧ Below w.heap.size w w' := by
  have R := Lib.hid hr
  have X := Lib.hid hx
  have OK := Lib.hid ok
  obtain ⟨s16, sn⟩ := srcs_len ok
  have HN : Hid (allGrants n = allTo n n.srcs.length) := Lib.hid (by rw [allGrants, ← sn]; rfl)
  have HND : Hid (∀ k : Nat, k < n.srcs.length → isNode n.mesh.g k = true) := Lib.hid (fun k hk => (src_buf OK.out k hk).1)
  clear ok sn
  obtain ⟨a1, a2, a3, a4, a5, a6, a7, a8, c1, c2, c3, c4, c5, c6, c7, c8⟩ := q; obtain ⟨Rbr, Rpa, Rpb, Rbu, Row, Rtu, Rso, Rar, L1, L2, L3, L4, L5, L6, L7, L8, L9, L10, L11⟩ := hr; have M9 := Lib.hid L9; have M10 := Lib.hid L10; have M11 := Lib.hid L11; clear L9 L10 L11; dsimp only [netCells] at *
  have xl := hx.lt; have x0 : w.cell? ⟨bx, 0, none⟩ = some (.int .i64 n.mesh.g.w) := hx.get 0; have x1 : w.cell? ⟨bx, 1, none⟩ = some (.int .i64 n.mesh.g.h) := hx.get 1; have x2 : w.cell? ⟨bx, 2, none⟩ = some (.slice a1 n.mesh.br.length c1) := hx.get 2; have x3 : w.cell? ⟨bx, 3, none⟩ = some (.slice a2 n.pa.length c2) := hx.get 3; have x4 : w.cell? ⟨bx, 4, none⟩ = some (.slice a3 n.pb.length c3) := hx.get 4; have x5 : w.cell? ⟨bx, 5, none⟩ = some (.slice a4 n.bufs.length c4) := hx.get 5; have x6 : w.cell? ⟨bx, 6, none⟩ = some (.slice a5 n.owners.length c5) := hx.get 6; have x7 : w.cell? ⟨bx, 7, none⟩ = some (.slice a6 n.turns.length c6) := hx.get 7; have x8 : w.cell? ⟨bx, 8, none⟩ = some (.slice a7 n.srcs.length c7) := hx.get 8; have x9 : w.cell? ⟨bx, 9, none⟩ = some (.slice a8 n.arrs.length c8) := hx.get 9; have x10 : w.cell? ⟨bx, 10, none⟩ = some (.int .i64 n.time) := hx.get 10; clear hx
  go_enter Tryz.func67, Tryz.ntmps67
  go_wp2
  go_loopw [3, 11] (fun v i wr => ∃ k : Nat, i = .int .i64 k ∧ k ≤ n.srcs.length ∧ kG.R 96 wr w.heap.size (fun _ => True) v (allTo n k) ∧ Below w.heap.size w wr) (fun _ i _ => n.srcs.length - (intOf i).toNat)
  case atStart => exact ⟨0, rfl, Nat.zero_le _, R_empty (W0 := w) _ _ (bw_size (by with_reducible repeat (first | assumption | exact bw_refl _ | apply bw_alloc | apply bw_drew | apply bw_drewN | refine bw_set _ ?_ (by omega) | refine bw_then ?_ (by assumption)))), (by with_reducible repeat (first | assumption | exact bw_refl _ | apply bw_alloc | apply bw_drew | apply bw_drewN | refine bw_set _ ?_ (by omega) | refine bw_then ?_ (by assumption)))⟩
  case round =>
    obtain ⟨k, rfl, hk, HO, HB⟩ := hrel
    obtain ⟨Ao, co, rfl⟩ := Kd.R_slice HO
    have hlen := allTo_len n k
    obtain ⟨hcr, hfr, hzr⟩ := bcell HB
    by_cases hlt : k < n.srcs.length
    · have i0 : (k : Int) < (n.srcs.length : Int) := by omega
      have HS := Lib.hid (allTo_succ n k)
      have gl := gst_len n k 5
      go_wp2_with (first | (go_at_call 119; refine (impl_grants n _ bx k _ (R.out.below (by with_reducible repeat (first | assumption | exact bw_refl _ | apply bw_alloc | apply bw_drew | apply bw_drewN | refine bw_set _ ?_ (by omega) | refine bw_then ?_ (by assumption)))) (X.out.below (by with_reducible repeat (first | assumption | exact bw_refl _ | apply bw_alloc | apply bw_drew | apply bw_drewN | refine bw_set _ ?_ (by omega) | refine bw_then ?_ (by assumption)))) OK.out (HND.out k hlt)).mono ?_; rintro e w1 ⟨hg1, hb1⟩; obtain ⟨A1, d1, rfl, hk1, hC1⟩ := hg1.read; obtain ⟨hc1, hf1, hz1⟩ := bcell hb1; (try simp only [World.size_alloc, World.size_setCell, World.size_drew, sz_drewN] at hz1); have hb2 := (by first | exact bw_then hb2 hb1 | exact bw_then (bw_drewN _ hb2) hb1 | exact bw_then (bw_alloc _ hb2) hb1 | exact bw_then (bw_drew hb2) hb1 | exact bw_then HB hb1 | exact bw_then (bw_drewN _ HB) hb1 | exact bw_then (bw_alloc _ HB) hb1 | exact bw_then (bw_drew HB) hb1 | exact hb1); obtain ⟨hc2, hf2, hz2⟩ := bcell hb2; (try simp only [World.size_alloc, World.size_setCell, World.size_drew, sz_drewN] at hz2); try (first | obtain ⟨hy1, hy2, hy3, hy4⟩ := lts4 hz2 | obtain ⟨hy1, hy2, hy3⟩ := lts3 hz2 | obtain ⟨hy1, hy2⟩ := lts2 hz2 | have hy1 := lts1 hz2); have hb9 := hb1) | (at_builtin; refine apps_G (W0 := w) rfl (.tmp 14) (.tmp 17) rfl _ (allTo n k) (grantsN n k) A1 d1 rfl rfl (by exact Kd.R_below HO (by with_reducible repeat (first | assumption | exact bw_refl _ | apply bw_alloc | apply bw_drew | apply bw_drewN | refine bw_set _ ?_ (by omega) | refine bw_then ?_ (by assumption)))) hC1 (by with_reducible repeat (first | assumption | exact bw_refl _ | apply bw_alloc | apply bw_drew | apply bw_drewN | refine bw_set _ ?_ (by omega) | refine bw_then ?_ (by assumption))) (by unfold grantsN; omega) ?_; intro v2 w2 HO2 HB2))
      go_roundw
      case rel => exact ⟨k + 1, by go_num, by omega, by rw [HS.out]; exact HO2, HB2⟩
      case measure => simp [intOf]; omega
    · have i0 : ¬ (k : Int) < (n.srcs.length : Int) := by omega
      obtain rfl : k = n.srcs.length := by omega
      go_wp2
      go_ret
      exact ⟨by rw [HN.out]; exact ⟨_, rfl, HO⟩, HB⟩
end Go.Proofs.YtopoemnkeodkgaaGreat
