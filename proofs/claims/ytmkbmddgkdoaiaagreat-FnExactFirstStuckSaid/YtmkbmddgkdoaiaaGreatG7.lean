/- Lemmas for laws of this seat, for all inputs: GrI GrS Mv OB MarkM MarkN. -/
import Derived.Test.YtmkbmddgkdoaiaaGreatG6
import Derived.Test.YtmkbmddgkdoaiaaGreatG3
import Derived.Test.YtmkbmddgkdoaiaaGreatG2
/- Grants and moves of a valid network: the program's side. -/
set_option linter.unusedVariables false
set_option linter.unusedSimpArgs false
namespace Go.Proofs.YtmkbmddgkdoaiaaGreat
open Go.RowKit Go.Proofs.YtmkbmddgkdoaiaaGreatW.PrintWords
open NoC

def gCells (x : Grant) : List Value := [.int .i64 x.node, .int .i64 x.port, .int .i64 x.input]
def kG : Kd Grant := Kd.flat 3 gCells (fun _ => rfl) (fun x u hu => by
  simp only [gCells, List.mem_cons, List.not_mem_nil, or_false] at hu
  rcases hu with rfl | rfl | rfl <;> rfl)
def zg : Grant := ⟨0, 0, 0⟩
def rg (l : List Grant) (i : Int) : Grant := l.getD i.toNat zg
theorem rdG_at {w : World} {A : Option Addr} {l : List Grant} (h : kG.C w A l.length l) (k : Nat) (hk : k < l.length) :
    ∃ b off, A = some ⟨b, off, none⟩ ∧ b < w.heap.size ∧ w.cell? ⟨b, off + k * 3, none⟩ = some (.int .i64 (rg l k).node) ∧ w.cell? ⟨b, off + k * 3 + 1, none⟩ = some (.int .i64 (rg l k).port) ∧ w.cell? ⟨b, off + k * 3 + 2, none⟩ = some (.int .i64 (rg l k).input) := by
  obtain ⟨b, off, rfl, hb, hx⟩ := rdF_at (n := 3) zg (by omega) h k hk
  exact ⟨b, off, rfl, hb, hx k hk 0 _ rfl, hx k hk 1 _ rfl, hx k hk 2 _ rfl⟩
theorem info_G : (Tryz.prog.info? 76).map (fun i => (i.zero, i.size, i.bytes)) = some (some (.agg #[.int .i64 0, .int .i64 0, .int .i64 0]), 3, 24) := by kernel_rfl
def GotG (w w' : World) (xs : List Grant) (e : Ending) : Prop := ∃ v, e = .returned v ∧ kG.R 76 w' w.heap.size (fun _ => True) v xs
theorem GotG.read {w w' : World} {xs : List Grant} {e : Ending} (h : GotG w w' xs e) : ∃ A c, e = .returned (.slice A xs.length c) ∧ xs.length ≤ c ∧ kG.C w' A xs.length xs := by
  obtain ⟨v, rfl, hR⟩ := h
  obtain ⟨A, c, rfl, h1, h2⟩ := Kd.R_reads hR
  exact ⟨A, c, rfl, h1, h2⟩
theorem GotG.nil (w w' : World) : GotG w w' [] (.returned (.slice none 0 0)) := ⟨_, rfl, Kd.R_nil _ _ _ _ _⟩
section
variable {ops : Array Oper} {rest : List Oper} {o : Oper} {a : Act} {Q : Exit → Act → World → Prop}
theorem app_G {W0 W : World} (hgd : o.guard = none) (s x : Operand)
    (ho : o.op = .call { callee := .builtin .append, args := #[s, x], argTypes := #[73, 73] })
    (v : Value) (xs : List Grant) (q : Grant) (hs : a.eval s = v) (hx : a.eval x = .slice (some ⟨W.heap.size, 0, none⟩) 1 1)
    (HO : kG.R 76 W W0.heap.size (fun _ => True) v xs) (HB : Below W0.heap.size W0 W) (hl : xs.length ≤ 100000000)
    (h : ∀ v1 w1, kG.R 76 w1 W0.heap.size (fun _ => True) v1 (xs ++ [q]) → Below W0.heap.size W0 w1 → W.grownBy w1 v.ownBlock → wpList Tryz.prog ops Q rest (a.put o.dst v1) w1) :
    wpList Tryz.prog ops Q (o :: rest) a (W.alloc (.cells #[.int .i64 q.node, .int .i64 q.port, .int .i64 q.input] 76)) :=
  Kd.R_append kG W0.heap.size hgd s x 73 76 (.agg #[.int .i64 0, .int .i64 0, .int .i64 0]) 24 ho Tryz.underlying73 info_G rfl (by decide) (by omega) v xs q (gCells q) (fun _ => True) (fun _ => False) hs hx rfl (fun _ hk => hk.elim) (fun _ _ => trivial) HO HB HB.size (by omega) (fun v1 w1 h1 h2 h3 _ => h v1 w1 h1 h2 h3)
theorem apps_G {W0 W : World} (hgd : o.guard = none) (s x : Operand)
    (ho : o.op = .call { callee := .builtin .append, args := #[s, x], argTypes := #[73, 73] })
    (v : Value) (xs ys : List Grant) (A : Option Addr) (c : Nat) (hs : a.eval s = v) (hx : a.eval x = .slice A ys.length c)
    (HO : kG.R 76 W W0.heap.size (fun _ => True) v xs) (HR : kG.C W A ys.length ys) (HB : Below W0.heap.size W0 W) (hl : xs.length + ys.length ≤ 100000000)
    (h : ∀ v1 w1, kG.R 76 w1 W0.heap.size (fun _ => True) v1 (xs ++ ys) → Below W0.heap.size W0 w1 → wpList Tryz.prog ops Q rest (a.put o.dst v1) w1) :
    wpList Tryz.prog ops Q (o :: rest) a W :=
  Kd.R_append_rows kG W0.heap.size hgd s x 73 76 (.agg #[.int .i64 0, .int .i64 0, .int .i64 0]) 24 ho Tryz.underlying73 info_G rfl (by decide) (by omega) v xs ys A ys.length c (fun _ => True) (fun _ => False) hs hx HO HR (fun _ _ h => h) (fun _ hk => hk.elim) (fun _ _ => trivial) HB HB.size (by omega) (fun v1 w1 h1 h2 _ _ => h v1 w1 h1 h2)
end
set_option maxHeartbeats 8000000 in
set_option maxRecDepth 100000 in
theorem impl_grants (n : Net) (q : NA) (bx : Nat) (a : Int) (w : World) (hr : NetR 121 w n q) (hx : Box w bx (netCells n q)) (ok : netOk n = true) (nd : isNode n.mesh.g a = true) :
  Calls Tryz.prog 90 #[.pointer (some ⟨bx, 0, none⟩), .int .i64 a] w fun e w' => GotG w w' (grantsN n a) e ∧ Below w.heap.size w w' := by
 have R := Lib.hid hr
 have X := Lib.hid hx
 have OK := Lib.hid ok
 have ND := Lib.hid nd
 obtain ⟨_, _, _, a15⟩ := node_bounds nd
 have a0 := (isNode_iff.1 nd).1
 clear ok nd
 obtain ⟨a1, a2, a3, a4, a5, a6, a7, a8, c1, c2, c3, c4, c5, c6, c7, c8⟩ := q; obtain ⟨Rbr, Rpa, Rpb, Rbu, Row, Rtu, Rso, Rar, L1, L2, L3, L4, L5, L6, L7, L8, L9, L10, L11⟩ := hr; have M9 := Lib.hid L9; have M10 := Lib.hid L10; have M11 := Lib.hid L11; clear L9 L10 L11; dsimp only [netCells] at *
 have xl := hx.lt; have x0 : w.cell? ⟨bx, 0, none⟩ = some (.int .i64 n.mesh.g.w) := hx.get 0; have x1 : w.cell? ⟨bx, 1, none⟩ = some (.int .i64 n.mesh.g.h) := hx.get 1; have x2 : w.cell? ⟨bx, 2, none⟩ = some (.slice a1 n.mesh.br.length c1) := hx.get 2; have x3 : w.cell? ⟨bx, 3, none⟩ = some (.slice a2 n.pa.length c2) := hx.get 3; have x4 : w.cell? ⟨bx, 4, none⟩ = some (.slice a3 n.pb.length c3) := hx.get 4; have x5 : w.cell? ⟨bx, 5, none⟩ = some (.slice a4 n.bufs.length c4) := hx.get 5; have x6 : w.cell? ⟨bx, 6, none⟩ = some (.slice a5 n.owners.length c5) := hx.get 6; have x7 : w.cell? ⟨bx, 7, none⟩ = some (.slice a6 n.turns.length c6) := hx.get 7; have x8 : w.cell? ⟨bx, 8, none⟩ = some (.slice a7 n.srcs.length c7) := hx.get 8; have x9 : w.cell? ⟨bx, 9, none⟩ = some (.slice a8 n.arrs.length c8) := hx.get 9; have x10 : w.cell? ⟨bx, 10, none⟩ = some (.int .i64 n.time) := hx.get 10; clear hx
 go_enter Tryz.func90, Tryz.ntmps90
 go_wp2
 go_loopw [5, 7] (fun v i wr => ∃ p : Nat, i = .int .i64 p ∧ p ≤ 5 ∧ kG.R 76 wr w.heap.size (fun _ => True) v (gst n a p).2 ∧ UB 145 wr (w.heap.size + 1) (gst n a p).1 ∧ Below w.heap.size w wr) (fun _ i _ => 5 - (intOf i).toNat)
 case atStart => exact ⟨0, rfl, Nat.zero_le _, Kd.R_below (R_empty kG 76 (W0 := w) (W := w) (Nat.le_refl _)) (bw_alloc _ (bw_refl _)), ⟨rfl, Blk.new (w.alloc (.cells #[] 76)) _ _ _ (by rw [World.size_alloc])⟩, bel⟩
 case round =>
  obtain ⟨p, rfl, hp, HO, HU, HB⟩ := hrel
  obtain ⟨Ao, co, rfl⟩ := Kd.R_slice HO
  have hlen := gst_len n a p
  have husl := gst_us n a p
  obtain ⟨hcr, hfr, hzr⟩ := bcell HB
  have hul := HU.2.lt
  by_cases hlt : p < 5
  ·have p0 : (p : Int) ≤ 4 := by omega
   obtain ⟨t0, t1, t2, t3⟩ := turn_range OK.out ND.out p hlt
   obtain ⟨b6, o6, rfl, hb6, r6⟩ := rdI_int Rtu (5 * a + (p : Int)) t0 t1
   obtain ⟨us, eus⟩ : ∃ us, (gst n a p).1 = us := ⟨_, rfl⟩
   obtain ⟨k0, k1⟩ := pick_range n a p us
   have hsm := left_small n a p us
   have hll := left_len n a p us
   obtain ⟨k, hk⟩ : ∃ k, pick n a p us = k := ⟨_, rfl⟩
   rw [hk] at k0 k1
   rw [eus] at HU husl
   have HK := Lib.hid hk
   have HE := Lib.hid (show pick n a p (gst n a p).1 = k by rw [eus]; exact hk)
   have EUS := Lib.hid eus
   have HSM := Lib.hid hsm
   have HUH := Lib.hid HU
   have HUSL := Lib.hid husl
   clear hk eus HU hsm husl
   have HWo := within_R HO
   go_wp2_with fail
   refine (impl_requests n _ bx a p _ (R.out.below bel) (X.out.below bel) OK.out ND.out).mono ?_
   rintro e w1 ⟨hg1, hb1⟩
   obtain ⟨v1, rfl, HO1⟩ := hg1
   obtain ⟨A1, d1, rfl⟩ := Kd.R_slice HO1
   have HU1 := HUH.out.below hb1
   have HOA := Kd.R_below HO hb1
   have HB1 := bw_then HB hb1
   have s1 := bw_size hb1
   have HO1H := Lib.hid HO1
   have w1w := within_R HO1
   have HAP := apart_lt HWo w1w (Nat.le_refl _)
   have HOH := Lib.hid HOA
   have HUH1 := Lib.hid HU1
   clear HUH HO HOA hb1 HO1 hcr hfr hzr HU1
   go_wp2_with fail
   refine (slices_DeleteFunc (requestsN n a p) us (w.heap.size + 1) A1 d1 wr.heap.size _ HO1H.out (Nat.le_trans (requestsTo_len n a p 10) (by decide)) (smallL_mem (requests_small n a p)) HUH1.out (by omega)).mono ?_
   rintro e w2 ⟨⟨v2, rfl, HO2⟩, hg2⟩
   obtain ⟨A2, d2, rfl⟩ := Kd.R_slice HO2
   have s2 := hg2.size
   have HB2 : Below w.heap.size w w2 := HB1.grown hg2 (bw_size HB1) (fun k hk => by have := w1w k hk; have := bw_size HB; omega)
   have HU2 := HUH1.out.grown hg2 (fun e => by have := w1w _ e.symm; omega)
   have HOA2 := R_grownF HOH.out hg2 HAP
   have HC2 := Lib.hid (Kd.R_row HO2).2.2
   have HU2H := Lib.hid HU2
   have HO2H := Lib.hid HOA2
   obtain ⟨hc2, hf2, hz2⟩ := bcell HB2
   clear HUH1 HOH HO1H HAP HWo w1w hg2 HO2 HU2 HOA2
   go_wp2_with fail
   refine (impl_FirstFrom ((requestsN n a p).filter (keepU us)) (ri n.turns (5 * a + (p : Int))) A2 d2 _ HC2.out (Nat.le_trans (left_len n a p us) (by decide)) (smallL_mem HSM.out) t2 t3).mono ?_
   rintro e w' ⟨he, rfl⟩
   rw [show firstFrom ((requestsN n a p).filter (keepU us)) (ri n.turns (5 * a + (p : Int))) = k from HK.out] at he
   subst he
   by_cases hk0 : 0 ≤ k
   ·have HS := Lib.hid (gst_yes HE.out hk0)
    have j0 : 0 ≤ k / 2 := by omega
    have j1 : k / 2 < 5 := by omega
    have c9 := HU2H.out.cell hk0 k1
    have f9 := HU2H.out.2.frozen (k / 2).toNat
    have HRS := Lib.hid (Kd.R_set HO2H.out HU2H.out.2 (by decide) (k / 2).toNat (.bool true))
    have HUS : Hid (UB 145 (w2.setCell ⟨w.heap.size + 1, (k / 2).toNat, none⟩ (.bool true)) (w.heap.size + 1) (us.set (k / 2).toNat true)) := Lib.hid ⟨by rw [List.length_set]; exact HUSL.out, by have h := HU2H.out.2.set (k / 2).toNat (.bool true); rwa [uCells_set] at h⟩
    have HBS : Below w.heap.size w (w2.setCell ⟨w.heap.size + 1, (k / 2).toNat, none⟩ (.bool true)) := bw_set _ HB2 (by omega)
    go_wp2_with (at_builtin; refine app_G (W0 := w) rfl (.tmp 39) (.tmp 44) rfl _ (gst n a p).2 ⟨a, p, k⟩ rfl (by first | rfl | exact congrArg (fun z => Value.slice (some ⟨z, 0, none⟩) 1 1) (by simp only [szs])) HRS.out HBS (by omega) ?_; intro v3 w3 HO3 HB3 hg3)
    go_roundw
    case rel => exact ⟨p + 1, by go_num, by omega, by rw [HS.out]; exact HO3, by rw [HS.out, EUS.out]; exact HUS.out.grown hg3 (Kd.R_ne HRS.out HUS.out.2 (by decide)), HB3⟩
    case measure => simp [intOf]; omega
   ·have HS := Lib.hid (gst_no HE.out (by omega))
    go_wp2
    go_roundw
    case rel => exact ⟨p + 1, by go_num, by omega, by rw [HS.out]; exact HO2H.out, by rw [HS.out, EUS.out]; exact HU2H.out, HB2⟩
    case measure => simp [intOf]; omega
  ·have p0 : ¬ (p : Int) ≤ 4 := by omega
   obtain rfl : p = 5 := by omega
   go_wp2
   go_ret
   exact ⟨⟨_, rfl, HO⟩, HB⟩
set_option maxHeartbeats 4000000 in
theorem impl_allGrants (n : Net) (q : NA) (bx : Nat) (w : World) (hr : NetR 121 w n q) (hx : Box w bx (netCells n q)) (ok : netOk n = true) :
    Calls Tryz.prog 49 #[.pointer (some ⟨bx, 0, none⟩)] w fun e w' => GotG w w' (allGrants n) e ∧ Below w.heap.size w w' := by
  have R := Lib.hid hr
  have X := Lib.hid hx
  have OK := Lib.hid ok
  obtain ⟨s16, sn⟩ := srcs_len ok
  have HN : Hid (allGrants n = allTo n n.srcs.length) := Lib.hid (by rw [allGrants, ← sn]; rfl)
  have HND : Hid (∀ k : Nat, k < n.srcs.length → isNode n.mesh.g k = true) := Lib.hid (fun k hk => (src_buf OK.out k hk).1)
  clear ok sn
  obtain ⟨a1, a2, a3, a4, a5, a6, a7, a8, c1, c2, c3, c4, c5, c6, c7, c8⟩ := q; obtain ⟨Rbr, Rpa, Rpb, Rbu, Row, Rtu, Rso, Rar, L1, L2, L3, L4, L5, L6, L7, L8, L9, L10, L11⟩ := hr; have M9 := Lib.hid L9; have M10 := Lib.hid L10; have M11 := Lib.hid L11; clear L9 L10 L11; dsimp only [netCells] at *
  have xl := hx.lt; have x0 : w.cell? ⟨bx, 0, none⟩ = some (.int .i64 n.mesh.g.w) := hx.get 0; have x1 : w.cell? ⟨bx, 1, none⟩ = some (.int .i64 n.mesh.g.h) := hx.get 1; have x2 : w.cell? ⟨bx, 2, none⟩ = some (.slice a1 n.mesh.br.length c1) := hx.get 2; have x3 : w.cell? ⟨bx, 3, none⟩ = some (.slice a2 n.pa.length c2) := hx.get 3; have x4 : w.cell? ⟨bx, 4, none⟩ = some (.slice a3 n.pb.length c3) := hx.get 4; have x5 : w.cell? ⟨bx, 5, none⟩ = some (.slice a4 n.bufs.length c4) := hx.get 5; have x6 : w.cell? ⟨bx, 6, none⟩ = some (.slice a5 n.owners.length c5) := hx.get 6; have x7 : w.cell? ⟨bx, 7, none⟩ = some (.slice a6 n.turns.length c6) := hx.get 7; have x8 : w.cell? ⟨bx, 8, none⟩ = some (.slice a7 n.srcs.length c7) := hx.get 8; have x9 : w.cell? ⟨bx, 9, none⟩ = some (.slice a8 n.arrs.length c8) := hx.get 9; have x10 : w.cell? ⟨bx, 10, none⟩ = some (.int .i64 n.time) := hx.get 10; clear hx
  go_enter Tryz.func49, Tryz.ntmps49
  go_wp2
  go_loopw [3, 11] (fun v i wr => ∃ k : Nat, i = .int .i64 k ∧ k ≤ n.srcs.length ∧ kG.R 76 wr w.heap.size (fun _ => True) v (allTo n k) ∧ Below w.heap.size w wr) (fun _ i _ => n.srcs.length - (intOf i).toNat)
  case atStart => exact ⟨0, rfl, Nat.zero_le _, R_empty (W0 := w) _ _ (bw_size bel), bel⟩
  case round =>
    obtain ⟨k, rfl, hk, HO, HB⟩ := hrel
    obtain ⟨Ao, co, rfl⟩ := Kd.R_slice HO
    have hlen := allTo_len n k
    obtain ⟨hcr, hfr, hzr⟩ := bcell HB
    by_cases hlt : k < n.srcs.length
    · have i0 : (k : Int) < (n.srcs.length : Int) := by omega
      have HS := Lib.hid (allTo_succ n k)
      have gl := gst_len n k 5
      go_wp2_with (first | (go_at_call 90; refine (impl_grants n _ bx k _ (R.out.below bel) (X.out.below bel) OK.out (HND.out k hlt)).mono ?_; rintro e w1 ⟨hg1, hb1⟩; obtain ⟨A1, d1, rfl, hk1, hC1⟩ := hg1.read; obtain ⟨hc1, hf1, hz1⟩ := bcell hb1; (try simp only [szs] at hz1); have hb2 := (by first | exact bw_then hb2 hb1 | exact bw_then (bw_drewN _ hb2) hb1 | exact bw_then (bw_alloc _ hb2) hb1 | exact bw_then (bw_drew hb2) hb1 | exact bw_then HB hb1 | exact bw_then (bw_drewN _ HB) hb1 | exact bw_then (bw_alloc _ HB) hb1 | exact bw_then (bw_drew HB) hb1 | exact hb1); obtain ⟨hc2, hf2, hz2⟩ := bcell hb2; (try simp only [szs] at hz2); try (first | obtain ⟨hy1, hy2, hy3, hy4⟩ := lts4 hz2 | obtain ⟨hy1, hy2, hy3⟩ := lts3 hz2 | obtain ⟨hy1, hy2⟩ := lts2 hz2 | have hy1 := lts1 hz2); have hb9 := hb1) | (at_builtin; refine apps_G (W0 := w) rfl (.tmp 14) (.tmp 17) rfl _ (allTo n k) (grantsN n k) A1 d1 rfl rfl (by exact Kd.R_below HO bel) hC1 bel (by unfold grantsN; omega) ?_; intro v2 w2 HO2 HB2))
      go_roundw
      case rel => exact ⟨k + 1, by go_num, by omega, by rw [HS.out]; exact HO2, HB2⟩
      case measure => simp [intOf]; omega
    · have i0 : ¬ (k : Int) < (n.srcs.length : Int) := by omega
      obtain rfl : k = n.srcs.length := by omega
      go_wp2
      go_ret
      exact ⟨by rw [HN.out]; exact ⟨_, rfl, HO⟩, HB⟩
end Go.Proofs.YtmkbmddgkdoaiaaGreat
/- Grants of a valid network: the reference's side. -/
set_option linter.unusedVariables false
set_option linter.unusedSimpArgs false
namespace Go.Proofs.YtmkbmddgkdoaiaaGreat
open Go.RowKit Go.Proofs.YtmkbmddgkdoaiaaGreatW.PrintWords
open NoC

theorem info_b : (Tryz.prog.info? 4).map (fun i => (i.zero, i.size, i.bytes)) = some (some (.bool false), 1, 1) := by kernel_rfl
set_option maxHeartbeats 8000000 in
set_option maxRecDepth 100000 in
theorem spec_l18Grants (n : Net) (q : NA) (a : Int) (w : World) (hr : NetR 121 w n q) (ok : netOk n = true) (nd : isNode n.mesh.g a = true) :
  Calls Tryz.prog 125 #[.agg (netCells n q), .int .i64 a] w fun e w' => GotG w w' (grantsN n a) e ∧ Below w.heap.size w w' := by
 have R := Lib.hid hr
 have OK := Lib.hid ok
 have ND := Lib.hid nd
 obtain ⟨_, _, _, a15⟩ := node_bounds nd
 have a0 := (isNode_iff.1 nd).1
 obtain ⟨u0, u1, _, _⟩ := turn_range ok nd 0 (by omega)
 clear ok nd
 obtain ⟨a1, a2, a3, a4, a5, a6, a7, a8, c1, c2, c3, c4, c5, c6, c7, c8⟩ := q; obtain ⟨Rbr, Rpa, Rpb, Rbu, Row, Rtu, Rso, Rar, L1, L2, L3, L4, L5, L6, L7, L8, L9, L10, L11⟩ := hr; have M9 := Lib.hid L9; have M10 := Lib.hid L10; have M11 := Lib.hid L11; clear L9 L10 L11; dsimp only [netCells] at *
 obtain ⟨b6, o6, rfl, hb6, r6⟩ := rdI_all Rtu (by omega)
 obtain ⟨z1, z2, z3, z4, z5, z6⟩ := more hb6
 have R6 := Lib.hid r6
 clear r6 u0 u1
 have mk : ∀ W : World, (Instr.makeSlice 161 (.int .i64 5) (.int .i64 5)).run Tryz.prog W = .ok (.slice (some ⟨W.heap.size, 0, none⟩) 5 5) (W.alloc (.cells (uCells [false, false, false, false, false]) 4)) :=
  fun W => by
   have h := print_make_int (P := Tryz.prog) 161 4 (.bool false) 1 Tryz.underlying161 info_b rfl (by omega) 5 (by omega) (by decide) W
   rw [show (5 : Int).toNat = 5 from rfl, show madeCells #[.bool false] 5 = uCells [false, false, false, false, false] by first | rfl | kernel_rfl | (apply Array.ext'; simp [madeCells, uCells]; rfl)] at h
   exact h
 go_enter Tryz.func125, Tryz.ntmps125
 go_wp2
 go_loopw [5, 7] (fun v i wr => ∃ p : Nat, i = .int .i64 p ∧ p ≤ 5 ∧ kG.R 76 wr (w.alloc (.cells #[.int .i64 n.mesh.g.w, .int .i64 n.mesh.g.h, .slice a1 n.mesh.br.length c1, .slice a2 n.pa.length c2, .slice a3 n.pb.length c3, .slice a4 n.bufs.length c4, .slice a5 n.owners.length c5, .slice (some ⟨b6, o6, none⟩) n.turns.length c6, .slice a7 n.srcs.length c7, .slice a8 n.arrs.length c8, .int .i64 n.time] 44)).heap.size (fun _ => True) v (gst n a p).2 ∧ UB 4 wr (w.heap.size + 1 + 1) (gst n a p).1 ∧ Below (w.alloc (.cells #[.int .i64 n.mesh.g.w, .int .i64 n.mesh.g.h, .slice a1 n.mesh.br.length c1, .slice a2 n.pa.length c2, .slice a3 n.pb.length c3, .slice a4 n.bufs.length c4, .slice a5 n.owners.length c5, .slice (some ⟨b6, o6, none⟩) n.turns.length c6, .slice a7 n.srcs.length c7, .slice a8 n.arrs.length c8, .int .i64 n.time] 44)).heap.size (w.alloc (.cells #[.int .i64 n.mesh.g.w, .int .i64 n.mesh.g.h, .slice a1 n.mesh.br.length c1, .slice a2 n.pa.length c2, .slice a3 n.pb.length c3, .slice a4 n.bufs.length c4, .slice a5 n.owners.length c5, .slice (some ⟨b6, o6, none⟩) n.turns.length c6, .slice a7 n.srcs.length c7, .slice a8 n.arrs.length c8, .int .i64 n.time] 44)) wr) (fun _ i _ => 5 - (intOf i).toNat)
 case atStart => exact ⟨0, rfl, Nat.zero_le _, Kd.R_below (R_empty' kG 76 (W0 := w.alloc (.cells #[.int .i64 n.mesh.g.w, .int .i64 n.mesh.g.h, .slice a1 n.mesh.br.length c1, .slice a2 n.pa.length c2, .slice a3 n.pb.length c3, .slice a4 n.bufs.length c4, .slice a5 n.owners.length c5, .slice (some ⟨b6, o6, none⟩) n.turns.length c6, .slice a7 n.srcs.length c7, .slice a8 n.arrs.length c8, .int .i64 n.time] 44)) (W := w.alloc (.cells #[.int .i64 n.mesh.g.w, .int .i64 n.mesh.g.h, .slice a1 n.mesh.br.length c1, .slice a2 n.pa.length c2, .slice a3 n.pb.length c3, .slice a4 n.bufs.length c4, .slice a5 n.owners.length c5, .slice (some ⟨b6, o6, none⟩) n.turns.length c6, .slice a7 n.srcs.length c7, .slice a8 n.arrs.length c8, .int .i64 n.time] 44)) (Nat.le_refl _) (w.heap.size + 1) (by simp only [szs])) (bw_alloc _ (bw_refl _)), ⟨rfl, Blk.new ((w.alloc (.cells #[.int .i64 n.mesh.g.w, .int .i64 n.mesh.g.h, .slice a1 n.mesh.br.length c1, .slice a2 n.pa.length c2, .slice a3 n.pb.length c3, .slice a4 n.bufs.length c4, .slice a5 n.owners.length c5, .slice (some ⟨b6, o6, none⟩) n.turns.length c6, .slice a7 n.srcs.length c7, .slice a8 n.arrs.length c8, .int .i64 n.time] 44)).alloc (.cells #[] 76)) _ _ _ (by simp only [szs])⟩, bel⟩
 case round =>
  obtain ⟨p, rfl, hp, HO, HU, HB⟩ := hrel
  obtain ⟨Ao, co, rfl⟩ := Kd.R_slice HO
  have hlen := gst_len n a p
  have husl := gst_us n a p
  obtain ⟨hcr, hfr, hzr⟩ := bcell HB
  simp only [szs] at hzr
  have yy1 := lts1 hzr
  have hul := HU.2.lt
  by_cases hlt : p < 5
  ·have p0 : (p : Int) ≤ 4 := by omega
   obtain ⟨t0, t1, t2, t3⟩ := turn_range OK.out ND.out p hlt
   have r6 := R6.out (5 * a + (p : Int)) t0 t1
   obtain ⟨us, eus⟩ : ∃ us, (gst n a p).1 = us := ⟨_, rfl⟩
   obtain ⟨k0, k1⟩ := pick_range n a p us
   obtain ⟨k, hk⟩ : ∃ k, pick n a p us = k := ⟨_, rfl⟩
   rw [hk] at k0 k1
   rw [eus] at HU husl
   have HK := Lib.hid hk
   have HE := Lib.hid (show pick n a p (gst n a p).1 = k by rw [eus]; exact hk)
   have EUS := Lib.hid eus
   have HUSL := Lib.hid husl
   have HUH := Lib.hid HU
   have HOH := Lib.hid HO
   clear hk eus husl HU HO
   obtain ⟨wo, rfl⟩ : ∃ x, x = wr := ⟨_, rfl⟩
   go_wp2
   go_loopw [8, 9] (fun v j wr => ∃ k : Nat, j = .int .i64 k ∧ k ≤ 10 ∧ Kd.R (Kd.int .i64) 3 wr wo.heap.size (fun _ => True) v (freeTo n a p us k) ∧ Below wo.heap.size wo wr) (fun _ j _ => 10 - (intOf j).toNat)
   case atStart => exact ⟨0, rfl, Nat.zero_le _, R_empty (W0 := wo) _ _ (bw_size (bw_refl wo)), bel⟩
   case round =>
    obtain ⟨x, rfl, hx, HF, HI⟩ := hrel
    obtain ⟨Af, cf, rfl⟩ := Kd.R_slice HF
    have flen := freeTo_len n a p us x
    obtain ⟨hci, hfi, hzi⟩ := bcell HI
    have hwi := bw_then HB HI
    obtain ⟨hcj, hfj, hzj⟩ := bcell hwi
    simp only [szs] at hzj
    have yy2 := lts1 hzj
    have HUI := Lib.hid (HUH.out.below HI)
    by_cases hlx : x < 10
    ·have i0 : (x : Int) < 10 := by omega
     have cx : wo.cell? ⟨w.heap.size + 1 + 1, x / 2, none⟩ = some (.bool (usedAt us (x : Int))) := by
      have h := HUH.out.cell (x := (x : Int)) (by omega) (by omega)
      rwa [show ((x : Int) / 2).toNat = x / 2 by omega] at h
     have j2 : x / 2 < 5 := by omega
     have j0 : 0 ≤ (x : Int) / 2 := by omega
     have j1 : (x : Int) / 2 < 5 := by omega
     have HIN := Lib.hid (reqI_in (n := n) (a := a) (i := (x : Int)) (p := (p : Int)) (by omega) p0)
     cases hux : usedAt us x
     ·rw [hux] at cx
      have HUX := Lib.hid hux
      clear hux
      cases hq : requestN n a x p
      ·have HS := Lib.hid (freeTo_no2 (us := us) (HIN.out.trans hq))
       go_wp2_with (go_at_call 157; refine (spec_l17Request n _ a x p _ (R.out.below bel) ⟨OK.out, ND.out, by omega, by omega⟩ (by omega) p0).mono ?_; rintro e w1 ⟨rfl, hb1⟩; obtain ⟨hc1, hf1, hz1⟩ := bcell hb1; (try simp only [szs] at hz1); have hb2 := (by first | exact bw_then hb2 hb1 | exact bw_then (bw_drewN _ hb2) hb1 | exact bw_then (bw_alloc _ hb2) hb1 | exact bw_then (bw_drew hb2) hb1 | exact bw_then HB hb1 | exact bw_then (bw_drewN _ HB) hb1 | exact bw_then (bw_alloc _ HB) hb1 | exact bw_then (bw_drew HB) hb1 | exact hb1); obtain ⟨hc2, hf2, hz2⟩ := bcell hb2; (try simp only [szs] at hz2); try (first | obtain ⟨hy1, hy2, hy3, hy4⟩ := lts4 hz2 | obtain ⟨hy1, hy2, hy3⟩ := lts3 hz2 | obtain ⟨hy1, hy2⟩ := lts2 hz2 | have hy1 := lts1 hz2); have hb9 := hb1)
       go_roundw
       case rel => exact ⟨x + 1, by go_num, by omega, by rw [HS.out]; exact Kd.R_below HF hb1, bw_then HI hb1⟩
       case measure => simp [intOf]; omega
      ·have HS := Lib.hid (freeTo_yes (us := us) HUX.out (HIN.out.trans hq))
       go_wp2_with (first | (go_at_call 157; refine (spec_l17Request n _ a x p _ (R.out.below bel) ⟨OK.out, ND.out, by omega, by omega⟩ (by omega) p0).mono ?_; rintro e w1 ⟨rfl, hb1⟩; obtain ⟨hc1, hf1, hz1⟩ := bcell hb1; (try simp only [szs] at hz1); have hb2 := (by first | exact bw_then hb2 hb1 | exact bw_then (bw_drewN _ hb2) hb1 | exact bw_then (bw_alloc _ hb2) hb1 | exact bw_then (bw_drew hb2) hb1 | exact bw_then HB hb1 | exact bw_then (bw_drewN _ HB) hb1 | exact bw_then (bw_alloc _ HB) hb1 | exact bw_then (bw_drew HB) hb1 | exact hb1); obtain ⟨hc2, hf2, hz2⟩ := bcell hb2; (try simp only [szs] at hz2); try (first | obtain ⟨hy1, hy2, hy3, hy4⟩ := lts4 hz2 | obtain ⟨hy1, hy2, hy3⟩ := lts3 hz2 | obtain ⟨hy1, hy2⟩ := lts2 hz2 | have hy1 := lts1 hz2); have hb9 := hb1) | (at_builtin; refine app_int (W0 := wo) rfl (.tmp 35) (.tmp 37) 24 3 rfl Tryz.underlying24 info_int _ (freeTo n a p us x) _ rfl (by first | rfl | exact congrArg (fun z => Value.slice (some ⟨z, 0, none⟩) 1 1) (World.size_alloc _ _).symm) (Kd.R_below HF hb1) (bw_then HI hb1) (by omega) ?_; intro v1 w1 HO1 HB1))
       go_roundw
       case rel => exact ⟨x + 1, by go_num, by omega, by rw [HS.out]; exact HO1, HB1⟩
       case measure => simp [intOf]; omega
     ·rw [hux] at cx
      have HS := Lib.hid (freeTo_no1 (n := n) (a := a) (p := (p : Int)) hux)
      clear hux
      go_wp2
      go_roundw
      case rel => exact ⟨x + 1, by go_num, by omega, by rw [HS.out]; exact HF, HI⟩
      case measure => simp [intOf]; omega
    ·have i0 : ¬ (x : Int) < 10 := by omega
     obtain rfl : x = 10 := by omega
     have HC2 := Lib.hid (Kd.R_row HF).2.2
     have HO2 := Lib.hid (Kd.R_below HOH.out HI)
     have HSM : Hid (smallL (freeTo n a p us 10)) := Lib.hid (smallL_mem (left_small n a p us))
     clear HF
     go_wp2_with fail
     refine (spec_FirstFrom (freeTo n a p us 10) (ri n.turns (5 * a + (p : Int))) Af cf _ HC2.out (by omega) HSM.out t2 t3).mono ?_
     rintro e w' ⟨he, rfl⟩
     rw [show firstFrom (freeTo n a p us 10) (ri n.turns (5 * a + (p : Int))) = k from HK.out] at he
     subst he
     by_cases hk0 : 0 ≤ k
     ·have HS := Lib.hid (gst_yes HE.out hk0)
      have j0 : 0 ≤ k / 2 := by omega
      have j1 : k / 2 < 5 := by omega
      have c9 := HUH.out.cell hk0 k1
      have f9 := HUH.out.2.frozen (k / 2).toNat
      have HRS := Lib.hid (Kd.R_set HO2.out HUI.out.2 (by decide) (k / 2).toNat (.bool true))
      have HUS : Hid (UB 4 (wr.setCell ⟨w.heap.size + 1 + 1, (k / 2).toNat, none⟩ (.bool true)) (w.heap.size + 1 + 1) (us.set (k / 2).toNat true)) := Lib.hid ⟨by rw [List.length_set]; exact HUSL.out, by have h := HUI.out.2.set (k / 2).toNat (.bool true); rwa [uCells_set] at h⟩
      have HBS : Below (w.alloc (.cells #[.int .i64 n.mesh.g.w, .int .i64 n.mesh.g.h, .slice a1 n.mesh.br.length c1, .slice a2 n.pa.length c2, .slice a3 n.pb.length c3, .slice a4 n.bufs.length c4, .slice a5 n.owners.length c5, .slice (some ⟨b6, o6, none⟩) n.turns.length c6, .slice a7 n.srcs.length c7, .slice a8 n.arrs.length c8, .int .i64 n.time] 44)).heap.size (w.alloc (.cells #[.int .i64 n.mesh.g.w, .int .i64 n.mesh.g.h, .slice a1 n.mesh.br.length c1, .slice a2 n.pa.length c2, .slice a3 n.pb.length c3, .slice a4 n.bufs.length c4, .slice a5 n.owners.length c5, .slice (some ⟨b6, o6, none⟩) n.turns.length c6, .slice a7 n.srcs.length c7, .slice a8 n.arrs.length c8, .int .i64 n.time] 44)) (wr.setCell ⟨w.heap.size + 1 + 1, (k / 2).toNat, none⟩ (.bool true)) := bw_set _ hwi (by simp only [szs]; omega)
      go_wp2_with (at_builtin; refine app_G (W0 := w.alloc (.cells #[.int .i64 n.mesh.g.w, .int .i64 n.mesh.g.h, .slice a1 n.mesh.br.length c1, .slice a2 n.pa.length c2, .slice a3 n.pb.length c3, .slice a4 n.bufs.length c4, .slice a5 n.owners.length c5, .slice (some ⟨b6, o6, none⟩) n.turns.length c6, .slice a7 n.srcs.length c7, .slice a8 n.arrs.length c8, .int .i64 n.time] 44)) rfl (.tmp 55) (.tmp 60) rfl _ (gst n a p).2 ⟨a, p, k⟩ rfl (by first | rfl | exact congrArg (fun z => Value.slice (some ⟨z, 0, none⟩) 1 1) (by simp only [szs])) HRS.out HBS (by omega) ?_; intro v3 w3 HO3 HB3 hg3)
      go_roundw
      case rel => exact ⟨p + 1, by go_num, by omega, by rw [HS.out]; exact HO3, by rw [HS.out, EUS.out]; exact HUS.out.grown hg3 (Kd.R_ne HRS.out HUS.out.2 (by decide)), HB3⟩
      case measure => simp [intOf]; omega
     ·have HS := Lib.hid (gst_no HE.out (by omega))
      go_wp2
      go_roundw
      case rel => exact ⟨p + 1, by go_num, by omega, by rw [HS.out]; exact HO2.out, by rw [HS.out, EUS.out]; exact HUI.out, hwi⟩
      case measure => simp [intOf]; omega
  ·have p0 : ¬ (p : Int) ≤ 4 := by omega
   obtain rfl : p = 5 := by omega
   go_wp2
   go_ret
   exact ⟨⟨_, rfl, Kd.R_lower HO (by simp only [szs]; omega)⟩, bel⟩
set_option maxHeartbeats 4000000 in
set_option maxRecDepth 100000 in
theorem spec_l18All (n : Net) (q : NA) (w : World) (hr : NetR 121 w n q) (ok : netOk n = true) :
    Calls Tryz.prog 80 #[.agg (netCells n q)] w fun e w' => GotG w w' (allGrants n) e ∧ Below w.heap.size w w' := by
  have R := Lib.hid hr
  have OK := Lib.hid ok
  obtain ⟨n0, n1⟩ := count_le n.mesh.g
  obtain ⟨N, hN⟩ : ∃ N : Nat, nodeCount n.mesh.g = (N : Int) := ⟨(nodeCount n.mesh.g).toNat, by omega⟩
  have N16 : N ≤ 16 := by omega
  have HN : Hid (allGrants n = allTo n N) := Lib.hid (by rw [allGrants, hN]; rfl)
  have HC := Lib.hid hN
  have HND : Hid (∀ k : Nat, k < N → isNode n.mesh.g k = true) := Lib.hid (fun k hk => isNode_iff.2 ⟨by omega, by rw [HC.out]; omega⟩)
  clear ok hN n0 n1
  obtain ⟨a1, a2, a3, a4, a5, a6, a7, a8, c1, c2, c3, c4, c5, c6, c7, c8⟩ := q
  clear hr
  dsimp only [netCells]
  go_enter Tryz.func80, Tryz.ntmps80
  go_wp2
  go_loopw [3, 4] (fun v i wr => ∃ k : Nat, i = .int .i64 k ∧ k ≤ N ∧ kG.R 76 wr (w.alloc (.cells #[.int .i64 n.mesh.g.w, .int .i64 n.mesh.g.h, .slice a1 n.mesh.br.length c1, .slice a2 n.pa.length c2, .slice a3 n.pb.length c3, .slice a4 n.bufs.length c4, .slice a5 n.owners.length c5, .slice a6 n.turns.length c6, .slice a7 n.srcs.length c7, .slice a8 n.arrs.length c8, .int .i64 n.time] 44)).heap.size (fun _ => True) v (allTo n k) ∧ Below (w.alloc (.cells #[.int .i64 n.mesh.g.w, .int .i64 n.mesh.g.h, .slice a1 n.mesh.br.length c1, .slice a2 n.pa.length c2, .slice a3 n.pb.length c3, .slice a4 n.bufs.length c4, .slice a5 n.owners.length c5, .slice a6 n.turns.length c6, .slice a7 n.srcs.length c7, .slice a8 n.arrs.length c8, .int .i64 n.time] 44)).heap.size (w.alloc (.cells #[.int .i64 n.mesh.g.w, .int .i64 n.mesh.g.h, .slice a1 n.mesh.br.length c1, .slice a2 n.pa.length c2, .slice a3 n.pb.length c3, .slice a4 n.bufs.length c4, .slice a5 n.owners.length c5, .slice a6 n.turns.length c6, .slice a7 n.srcs.length c7, .slice a8 n.arrs.length c8, .int .i64 n.time] 44)) wr) (fun _ i _ => N - (intOf i).toNat)
  case atStart => exact ⟨0, rfl, Nat.zero_le _, R_empty' kG 76 (W0 := w.alloc (.cells #[.int .i64 n.mesh.g.w, .int .i64 n.mesh.g.h, .slice a1 n.mesh.br.length c1, .slice a2 n.pa.length c2, .slice a3 n.pb.length c3, .slice a4 n.bufs.length c4, .slice a5 n.owners.length c5, .slice a6 n.turns.length c6, .slice a7 n.srcs.length c7, .slice a8 n.arrs.length c8, .int .i64 n.time] 44)) (W := w.alloc (.cells #[.int .i64 n.mesh.g.w, .int .i64 n.mesh.g.h, .slice a1 n.mesh.br.length c1, .slice a2 n.pa.length c2, .slice a3 n.pb.length c3, .slice a4 n.bufs.length c4, .slice a5 n.owners.length c5, .slice a6 n.turns.length c6, .slice a7 n.srcs.length c7, .slice a8 n.arrs.length c8, .int .i64 n.time] 44)) (Nat.le_refl _) (w.heap.size + 1) (by simp only [szs]), bel⟩
  case round =>
    obtain ⟨k, rfl, hk, HO, HB⟩ := hrel
    obtain ⟨Ao, co, rfl⟩ := Kd.R_slice HO
    have hlen := allTo_len n k
    obtain ⟨hcr, hfr, hzr⟩ := bcell HB
    simp only [szs] at hzr
    have yy1 := lts1 hzr
    by_cases hlt : k < N
    · have i0 : (k : Int) < (N : Int) := by omega
      have HS := Lib.hid (allTo_succ n k)
      have gl := gst_len n k 5
      go_wp2_with (first | (go_at_call 78; refine (spec_NodeCount n.mesh.g _).mono ?_; rintro e w1 ⟨he, hb1⟩; rw [HC.out] at he; subst he; obtain ⟨hc1, hf1, hz1⟩ := bcell hb1; (try simp only [szs] at hz1); have hb2 := (by first | exact bw_then hb2 hb1 | exact bw_then (bw_drewN _ hb2) hb1 | exact bw_then (bw_alloc _ hb2) hb1 | exact bw_then (bw_drew hb2) hb1 | exact bw_then HB hb1 | exact bw_then (bw_drewN _ HB) hb1 | exact bw_then (bw_alloc _ HB) hb1 | exact bw_then (bw_drew HB) hb1 | exact hb1); obtain ⟨hc2, hf2, hz2⟩ := bcell hb2; (try simp only [szs] at hz2); try (first | obtain ⟨hy1, hy2, hy3, hy4⟩ := lts4 hz2 | obtain ⟨hy1, hy2, hy3⟩ := lts3 hz2 | obtain ⟨hy1, hy2⟩ := lts2 hz2 | have hy1 := lts1 hz2); have hb9 := hb1) | (go_at_call 125; refine (spec_l18Grants n _ k _ (R.out.below bel) OK.out (HND.out k hlt)).mono ?_; rintro e w1 ⟨hg1, hb1⟩; obtain ⟨A1, d1, rfl, hk1, hC1⟩ := hg1.read; obtain ⟨hc1, hf1, hz1⟩ := bcell hb1; (try simp only [szs] at hz1); have hb2 := (by first | exact bw_then hb2 hb1 | exact bw_then (bw_drewN _ hb2) hb1 | exact bw_then (bw_alloc _ hb2) hb1 | exact bw_then (bw_drew hb2) hb1 | exact bw_then HB hb1 | exact bw_then (bw_drewN _ HB) hb1 | exact bw_then (bw_alloc _ HB) hb1 | exact bw_then (bw_drew HB) hb1 | exact hb1); obtain ⟨hc2, hf2, hz2⟩ := bcell hb2; (try simp only [szs] at hz2); try (first | obtain ⟨hy1, hy2, hy3, hy4⟩ := lts4 hz2 | obtain ⟨hy1, hy2, hy3⟩ := lts3 hz2 | obtain ⟨hy1, hy2⟩ := lts2 hz2 | have hy1 := lts1 hz2); have hb9 := hb1) | (at_builtin; refine apps_G (W0 := w.alloc (.cells #[.int .i64 n.mesh.g.w, .int .i64 n.mesh.g.h, .slice a1 n.mesh.br.length c1, .slice a2 n.pa.length c2, .slice a3 n.pb.length c3, .slice a4 n.bufs.length c4, .slice a5 n.owners.length c5, .slice a6 n.turns.length c6, .slice a7 n.srcs.length c7, .slice a8 n.arrs.length c8, .int .i64 n.time] 44)) rfl (.tmp 14) (.tmp 17) rfl _ (allTo n k) (grantsN n k) A1 d1 rfl rfl (by exact Kd.R_below HO bel) hC1 bel (by unfold grantsN; omega) ?_; intro v2 w2 HO2 HB2))
      go_roundw
      case rel => exact ⟨k + 1, by go_num, by omega, by rw [HS.out]; exact HO2, HB2⟩
      case measure => simp [intOf]; omega
    · have i0 : ¬ (k : Int) < (N : Int) := by omega
      obtain rfl : k = N := by omega
      go_wp2_with (go_at_call 78; refine (spec_NodeCount n.mesh.g _).mono ?_; rintro e w1 ⟨he, hb1⟩; rw [HC.out] at he; subst he; obtain ⟨hc1, hf1, hz1⟩ := bcell hb1; (try simp only [szs] at hz1); have hb2 := (by first | exact bw_then hb2 hb1 | exact bw_then (bw_drewN _ hb2) hb1 | exact bw_then (bw_alloc _ hb2) hb1 | exact bw_then (bw_drew hb2) hb1 | exact bw_then HB hb1 | exact bw_then (bw_drewN _ HB) hb1 | exact bw_then (bw_alloc _ HB) hb1 | exact bw_then (bw_drew HB) hb1 | exact hb1); obtain ⟨hc2, hf2, hz2⟩ := bcell hb2; (try simp only [szs] at hz2); try (first | obtain ⟨hy1, hy2, hy3, hy4⟩ := lts4 hz2 | obtain ⟨hy1, hy2, hy3⟩ := lts3 hz2 | obtain ⟨hy1, hy2⟩ := lts2 hz2 | have hy1 := lts1 hz2); have hb9 := hb1)
      go_ret
      exact ⟨by rw [HN.out]; exact ⟨_, rfl, Kd.R_lower (by exact Kd.R_below HO bel) (by simp only [szs]; omega)⟩, bel⟩
end Go.Proofs.YtmkbmddgkdoaiaaGreat
/- Moves of a network: both sides. -/
set_option linter.unusedVariables false
set_option linter.unusedSimpArgs false
namespace Go.Proofs.YtmkbmddgkdoaiaaGreat
open Go.RowKit Go.Proofs.YtmkbmddgkdoaiaaGreatW.PrintWords
open NoC

theorem enters_0 {n : Net} {a : Nat} (h : ¬ 0 < (rl n.srcs a).length) : enters n a = false := by simp only [enters, decide_eq_false h, Bool.false_and]
theorem enters_1 {n : Net} {a : Nat} {t : Int} (h : 0 < (rl n.srcs a).length) (ht : 10 * (a : Int) + 8 + (rf (rl n.srcs a) 0).cls = t) : enters n a = decide ((rl n.bufs t).length < 3) := by simp only [enters, decide_eq_true h, Bool.true_and, ht]
set_option maxHeartbeats 8000000 in
set_option maxRecDepth 100000 in
theorem impl_entering (n : Net) (q : NA) (bx : Nat) (w : World) (hr : NetR 121 w n q) (hx : Box w bx (netCells n q)) (ok : netOk n = true) :
  Calls Tryz.prog 106 #[.pointer (some ⟨bx, 0, none⟩)] w fun e w' => GotI w w' (enteringN n) e ∧ Below w.heap.size w w' := by
 have OK := Lib.hid ok
 have s16 := (srcs_len ok).1
 clear ok
 obtain ⟨a1, a2, a3, a4, a5, a6, a7, a8, c1, c2, c3, c4, c5, c6, c7, c8⟩ := q; obtain ⟨Rbr, Rpa, Rpb, Rbu, Row, Rtu, Rso, Rar, L1, L2, L3, L4, L5, L6, L7, L8, L9, L10, L11⟩ := hr; have M9 := Lib.hid L9; have M10 := Lib.hid L10; have M11 := Lib.hid L11; clear L9 L10 L11; dsimp only [netCells] at *
 have xl := hx.lt; have x0 : w.cell? ⟨bx, 0, none⟩ = some (.int .i64 n.mesh.g.w) := hx.get 0; have x1 : w.cell? ⟨bx, 1, none⟩ = some (.int .i64 n.mesh.g.h) := hx.get 1; have x2 : w.cell? ⟨bx, 2, none⟩ = some (.slice a1 n.mesh.br.length c1) := hx.get 2; have x3 : w.cell? ⟨bx, 3, none⟩ = some (.slice a2 n.pa.length c2) := hx.get 3; have x4 : w.cell? ⟨bx, 4, none⟩ = some (.slice a3 n.pb.length c3) := hx.get 4; have x5 : w.cell? ⟨bx, 5, none⟩ = some (.slice a4 n.bufs.length c4) := hx.get 5; have x6 : w.cell? ⟨bx, 6, none⟩ = some (.slice a5 n.owners.length c5) := hx.get 6; have x7 : w.cell? ⟨bx, 7, none⟩ = some (.slice a6 n.turns.length c6) := hx.get 7; have x8 : w.cell? ⟨bx, 8, none⟩ = some (.slice a7 n.srcs.length c7) := hx.get 8; have x9 : w.cell? ⟨bx, 9, none⟩ = some (.slice a8 n.arrs.length c8) := hx.get 9; have x10 : w.cell? ⟨bx, 10, none⟩ = some (.int .i64 n.time) := hx.get 10; clear hx
 go_enter Tryz.func106, Tryz.ntmps106
 go_wp2
 go_loopw [3, 12] (fun v i wr => ∃ k : Nat, i = .int .i64 k ∧ k ≤ n.srcs.length ∧ Kd.R (Kd.int .i64) 3 wr w.heap.size (fun _ => True) v (enterTo n k) ∧ Below w.heap.size w wr) (fun _ i _ => n.srcs.length - (intOf i).toNat)
 case atStart => exact ⟨0, rfl, Nat.zero_le _, R_empty (W0 := w) _ _ (bw_size bel), bel⟩
 case round =>
  obtain ⟨k, rfl, hk, HO, HB⟩ := hrel
  obtain ⟨Ao, co, rfl⟩ := Kd.R_slice HO
  have hlen := enterTo_len n k
  obtain ⟨hcr, hfr, hzr⟩ := bcell HB
  by_cases hlt : k < n.srcs.length
  ·have i0 : (k : Int) < (n.srcs.length : Int) := by omega
   obtain ⟨b7, o7, rfl, hb7, Ai, ci, p0, hle, hCi⟩ := rdB_at Rso k hlt
   obtain ⟨hnd, h15, h60, hcl⟩ := src_buf OK.out k hlt
   clear hnd
   have yx : bx < wr.heap.size := by omega
   have y7 : b7 < wr.heap.size := by omega
   by_cases hl0 : 0 < (rl n.srcs k).length
   ·obtain ⟨d0, d1, d2⟩ := hcl hl0
    obtain ⟨b1, o1, rfl, hb1, q0, q1, q2, q3, q4⟩ := rdFl_0 hCi hl0
    have hl1 : (0 : Int) < ((rl n.srcs k).length : Int) := by omega
    have HE := Lib.hid (fun t => enters_1 (n := n) (a := k) (t := t) hl0)
    obtain ⟨d, hd⟩ : ∃ d, (rf (rl n.srcs k) 0).cls = d := ⟨_, rfl⟩
    rw [hd] at HE d0 d1 d2 q2
    obtain ⟨t, ht⟩ : ∃ t, 10 * (k : Int) + 8 + d = t := ⟨_, rfl⟩
    have HV := Lib.hid (HE.out t ht)
    have t0 : 0 ≤ t := by omega
    have t1 : t < (n.bufs.length : Int) := by omega
    have HT : Hid (10 * (k : Int) + 2 * 4 + d = t) := Lib.hid (by omega)
    obtain ⟨b4, o4, rfl, hb4, Bi, di, r0, hlf, hDi⟩ := rdB_int Rbu t t0 t1
    have y1 : b1 < wr.heap.size := by omega
    have y4 : b4 < wr.heap.size := by omega
    clear hd ht hcl HE
    by_cases h3 : (rl n.bufs t).length < 3
    ·have f3 : ((rl n.bufs t).length : Int) < 3 := by omega
     have HS := Lib.hid (enterTo_yes (n := n) (k := k) (by rw [HV.out]; exact decide_eq_true h3))
     go_wp2_with fail
     refine wp_region_far (wr) (by kernel_rfl) (by kernel_rfl) bel ?_
     have hqc := far_cell (wr)
     have hqf := far_frozen (wr)
     repeat (first | go_big_quiet_step ((go_at_call 108; exact far_same (Calls.says (impl_BufferAt k 4 d _ (by omega) (by omega) (by omega) (by omega) d0 d1) (congrArg (Value.int .i64) HT.out)))) | quiet_step ((go_at_call 108; exact far_same (Calls.says (impl_BufferAt k 4 d _ (by omega) (by omega) (by omega) (by omega) d0 d1) (congrArg (Value.int .i64) HT.out)))))
     refine wpQuiet_nil ?_
     intro wq hbq
     clear hqc hqf
     obtain ⟨hcq, hfq, hzq⟩ := bcell hbq
     try simp only [szs] at hzq
     go_wp2_with (at_builtin; refine app_int (W0 := w) rfl (.tmp 36) (.tmp 38) 24 3 rfl Tryz.underlying24 info_int _ (enterTo n k) _ rfl (by first | rfl | exact congrArg (fun z => Value.slice (some ⟨z, 0, none⟩) 1 1) (World.size_alloc _ _).symm) (by exact Kd.R_below HO bel) bel (by omega) ?_; intro v1 w1 HO1 HB1; obtain ⟨hc1, hf1, hz1⟩ := bcell HB1; (try simp only [szs] at hz1); have hb2 := HB1; have hb9 := HB1)
     go_roundw
     case rel => exact ⟨k + 1, by go_num, by omega, by rw [HS.out]; exact (by exact Kd.R_below HO1 bel), bel⟩
     case measure => simp [intOf]; omega
    ·have f3 : ¬ ((rl n.bufs t).length : Int) < 3 := by omega
     have HS := Lib.hid (enterTo_no (n := n) (k := k) (by rw [HV.out]; exact decide_eq_false h3))
     go_wp2_with fail
     refine wp_region_far (wr) (by kernel_rfl) (by kernel_rfl) bel ?_
     have hqc := far_cell (wr)
     have hqf := far_frozen (wr)
     repeat (first | go_big_quiet_step ((go_at_call 108; exact far_same (Calls.says (impl_BufferAt k 4 d _ (by omega) (by omega) (by omega) (by omega) d0 d1) (congrArg (Value.int .i64) HT.out)))) | quiet_step ((go_at_call 108; exact far_same (Calls.says (impl_BufferAt k 4 d _ (by omega) (by omega) (by omega) (by omega) d0 d1) (congrArg (Value.int .i64) HT.out)))))
     refine wpQuiet_nil ?_
     intro wq hbq
     clear hqc hqf
     obtain ⟨hcq, hfq, hzq⟩ := bcell hbq
     try simp only [szs] at hzq
     go_wp2
     go_roundw
     case rel => exact ⟨k + 1, by go_num, by omega, by rw [HS.out]; exact (by exact Kd.R_below HO bel), bel⟩
     case measure => simp [intOf]; omega
   ·have hl1 : ¬ (0 : Int) < ((rl n.srcs k).length : Int) := by omega
    have HS := Lib.hid (enterTo_no (enters_0 hl0))
    go_wp2_with fail
    refine wp_region_far (wr) (by kernel_rfl) (by kernel_rfl) bel ?_
    have hqc := far_cell (wr)
    have hqf := far_frozen (wr)
    repeat (first | go_big_quiet_step (fail) | quiet_step (fail))
    refine wpQuiet_nil ?_
    intro wq hbq
    clear hqc hqf
    obtain ⟨hcq, hfq, hzq⟩ := bcell hbq
    try simp only [szs] at hzq
    go_wp2
    go_roundw
    case rel => exact ⟨k + 1, by go_num, by omega, by rw [HS.out]; exact (by exact Kd.R_below HO bel), bel⟩
    case measure => simp [intOf]; omega
  ·have i0 : ¬ (k : Int) < (n.srcs.length : Int) := by omega
   obtain rfl : k = n.srcs.length := by omega
   go_wp2
   go_ret
   exact ⟨⟨_, rfl, HO⟩, HB⟩
set_option maxHeartbeats 8000000 in
set_option maxRecDepth 100000 in
theorem spec_l19Entering (n : Net) (q : NA) (w : World) (hr : NetR 121 w n q) (ok : netOk n = true) :
  Calls Tryz.prog 99 #[.agg (netCells n q)] w fun e w' => GotI w w' (enteringN n) e ∧ Below w.heap.size w w' := by
 have OK := Lib.hid ok
 have s16 := (srcs_len ok).1
 clear ok
 obtain ⟨a1, a2, a3, a4, a5, a6, a7, a8, c1, c2, c3, c4, c5, c6, c7, c8⟩ := q; obtain ⟨Rbr, Rpa, Rpb, Rbu, Row, Rtu, Rso, Rar, L1, L2, L3, L4, L5, L6, L7, L8, L9, L10, L11⟩ := hr; have M9 := Lib.hid L9; have M10 := Lib.hid L10; have M11 := Lib.hid L11; clear L9 L10 L11; dsimp only [netCells] at *
 go_enter Tryz.func99, Tryz.ntmps99
 go_wp2
 go_loopw [3, 4] (fun v i wr => ∃ k : Nat, i = .int .i64 k ∧ k ≤ n.srcs.length ∧ Kd.R (Kd.int .i64) 3 wr (w.alloc (.cells #[.int .i64 n.mesh.g.w, .int .i64 n.mesh.g.h, .slice a1 n.mesh.br.length c1, .slice a2 n.pa.length c2, .slice a3 n.pb.length c3, .slice a4 n.bufs.length c4, .slice a5 n.owners.length c5, .slice a6 n.turns.length c6, .slice a7 n.srcs.length c7, .slice a8 n.arrs.length c8, .int .i64 n.time] 44)).heap.size (fun _ => True) v (enterTo n k) ∧ Below (w.alloc (.cells #[.int .i64 n.mesh.g.w, .int .i64 n.mesh.g.h, .slice a1 n.mesh.br.length c1, .slice a2 n.pa.length c2, .slice a3 n.pb.length c3, .slice a4 n.bufs.length c4, .slice a5 n.owners.length c5, .slice a6 n.turns.length c6, .slice a7 n.srcs.length c7, .slice a8 n.arrs.length c8, .int .i64 n.time] 44)).heap.size (w.alloc (.cells #[.int .i64 n.mesh.g.w, .int .i64 n.mesh.g.h, .slice a1 n.mesh.br.length c1, .slice a2 n.pa.length c2, .slice a3 n.pb.length c3, .slice a4 n.bufs.length c4, .slice a5 n.owners.length c5, .slice a6 n.turns.length c6, .slice a7 n.srcs.length c7, .slice a8 n.arrs.length c8, .int .i64 n.time] 44)) wr) (fun _ i _ => n.srcs.length - (intOf i).toNat)
 case atStart => exact ⟨0, rfl, Nat.zero_le _, R_empty' (Kd.int .i64) 3 (W0 := w.alloc (.cells #[.int .i64 n.mesh.g.w, .int .i64 n.mesh.g.h, .slice a1 n.mesh.br.length c1, .slice a2 n.pa.length c2, .slice a3 n.pb.length c3, .slice a4 n.bufs.length c4, .slice a5 n.owners.length c5, .slice a6 n.turns.length c6, .slice a7 n.srcs.length c7, .slice a8 n.arrs.length c8, .int .i64 n.time] 44)) (W := w.alloc (.cells #[.int .i64 n.mesh.g.w, .int .i64 n.mesh.g.h, .slice a1 n.mesh.br.length c1, .slice a2 n.pa.length c2, .slice a3 n.pb.length c3, .slice a4 n.bufs.length c4, .slice a5 n.owners.length c5, .slice a6 n.turns.length c6, .slice a7 n.srcs.length c7, .slice a8 n.arrs.length c8, .int .i64 n.time] 44)) (Nat.le_refl _) (w.heap.size + 1) (by simp only [szs]), bel⟩
 case round =>
  obtain ⟨k, rfl, hk, HO, HB⟩ := hrel
  obtain ⟨Ao, co, rfl⟩ := Kd.R_slice HO
  have hlen := enterTo_len n k
  obtain ⟨hcr, hfr, hzr⟩ := bcell HB
  simp only [szs] at hzr
  have yy1 := lts1 hzr
  by_cases hlt : k < n.srcs.length
  ·have i0 : (k : Int) < (n.srcs.length : Int) := by omega
   have k0 : (0 : Int) ≤ (k : Int) := by omega
   obtain ⟨b7, o7, rfl, hb7, Ai, ci, p0, hle, hCi⟩ := rdB_at Rso k hlt
   obtain ⟨hnd, h15, h60, hcl⟩ := src_buf OK.out k hlt
   clear hnd
   have y7 : b7 < wr.heap.size := by omega
   have z7 : b7 < w.heap.size + 1 := by omega
   by_cases hl0 : 0 < (rl n.srcs k).length
   ·obtain ⟨d0, d1, d2⟩ := hcl hl0
    obtain ⟨b1, o1, rfl, hb1, q0, q1, q2, q3, q4⟩ := rdFl_0 hCi hl0
    have hl1 : (0 : Int) < ((rl n.srcs k).length : Int) := by omega
    have HE := Lib.hid (fun t => enters_1 (n := n) (a := k) (t := t) hl0)
    obtain ⟨d, hd⟩ : ∃ d, (rf (rl n.srcs k) 0).cls = d := ⟨_, rfl⟩
    rw [hd] at HE d0 d1 d2 q2
    have HV := Lib.hid (HE.out _ rfl)
    have t0 : 0 ≤ 10 * (k : Int) + 8 + d := by omega
    obtain ⟨b4, o4, rfl, hb4, Bi, di, r0, hlf, hDi⟩ := rdB_int Rbu (10 * (k : Int) + 8 + d) t0 d2
    have y1 : b1 < wr.heap.size := by omega
    have y4 : b4 < wr.heap.size := by omega
    have z1 : b1 < w.heap.size + 1 := by omega
    have z4 : b4 < w.heap.size + 1 := by omega
    have x5 : wr.cell? ⟨w.heap.size, 5, none⟩ = some (.slice (some ⟨b4, o4, none⟩) n.bufs.length c4) := (hcr _ 5 (by simp only [szs]; omega)).trans ((Box.new w _ #[.int .i64 n.mesh.g.w, .int .i64 n.mesh.g.h, .slice a1 n.mesh.br.length c1, .slice a2 n.pa.length c2, .slice a3 n.pb.length c3, .slice (some ⟨b4, o4, none⟩) n.bufs.length c4, .slice a5 n.owners.length c5, .slice a6 n.turns.length c6, .slice (some ⟨b7, o7, none⟩) n.srcs.length c7, .slice a8 n.arrs.length c8, .int .i64 n.time] 44 rfl).get 5)
    have x8 : wr.cell? ⟨w.heap.size, 8, none⟩ = some (.slice (some ⟨b7, o7, none⟩) n.srcs.length c7) := (hcr _ 8 (by simp only [szs]; omega)).trans ((Box.new w _ #[.int .i64 n.mesh.g.w, .int .i64 n.mesh.g.h, .slice a1 n.mesh.br.length c1, .slice a2 n.pa.length c2, .slice a3 n.pb.length c3, .slice (some ⟨b4, o4, none⟩) n.bufs.length c4, .slice a5 n.owners.length c5, .slice a6 n.turns.length c6, .slice (some ⟨b7, o7, none⟩) n.srcs.length c7, .slice a8 n.arrs.length c8, .int .i64 n.time] 44 rfl).get 8)
    clear hd hcl HE
    by_cases h3 : (rl n.bufs (10 * (k : Int) + 8 + d)).length < 3
    ·have f3 : ((rl n.bufs (10 * (k : Int) + 8 + d)).length : Int) < 3 := by omega
     have HS := Lib.hid (enterTo_yes (n := n) (k := k) (by rw [HV.out]; exact decide_eq_true h3))
     go_wp2_with fail
     refine wp_region_far (wr) (by kernel_rfl) (by kernel_rfl) bel ?_
     have hqc := far_cell (wr)
     have hqf := far_frozen (wr)
     repeat (first | go_big_quiet_step (fail) | quiet_step (fail))
     refine wpQuiet_nil ?_
     intro wq hbq
     clear hqc hqf
     obtain ⟨hcq, hfq, hzq⟩ := bcell hbq
     try simp only [szs] at hzq
     go_wp2_with (at_builtin; refine app_int (W0 := w.alloc (.cells #[.int .i64 n.mesh.g.w, .int .i64 n.mesh.g.h, .slice a1 n.mesh.br.length c1, .slice a2 n.pa.length c2, .slice a3 n.pb.length c3, .slice (some ⟨b4, o4, none⟩) n.bufs.length c4, .slice a5 n.owners.length c5, .slice a6 n.turns.length c6, .slice (some ⟨b7, o7, none⟩) n.srcs.length c7, .slice a8 n.arrs.length c8, .int .i64 n.time] 44)) rfl (.tmp 40) (.tmp 42) 24 3 rfl Tryz.underlying24 info_int _ (enterTo n k) _ rfl (by first | rfl | exact congrArg (fun z => Value.slice (some ⟨z, 0, none⟩) 1 1) (World.size_alloc _ _).symm) (by exact Kd.R_below HO bel) bel (by omega) ?_; intro v1 w1 HO1 HB1; obtain ⟨hc1, hf1, hz1⟩ := bcell HB1; (try simp only [szs] at hz1); have hb2 := HB1; have hb9 := HB1)
     go_roundw
     case rel => exact ⟨k + 1, by go_num, by omega, by rw [HS.out]; exact (by exact Kd.R_below HO1 bel), bel⟩
     case measure => simp [intOf]; omega
    ·have f3 : ¬ ((rl n.bufs (10 * (k : Int) + 8 + d)).length : Int) < 3 := by omega
     have HS := Lib.hid (enterTo_no (n := n) (k := k) (by rw [HV.out]; exact decide_eq_false h3))
     go_wp2_with fail
     refine wp_region_far (wr) (by kernel_rfl) (by kernel_rfl) bel ?_
     have hqc := far_cell (wr)
     have hqf := far_frozen (wr)
     repeat (first | go_big_quiet_step (fail) | quiet_step (fail))
     refine wpQuiet_nil ?_
     intro wq hbq
     clear hqc hqf
     obtain ⟨hcq, hfq, hzq⟩ := bcell hbq
     try simp only [szs] at hzq
     go_wp2
     go_roundw
     case rel => exact ⟨k + 1, by go_num, by omega, by rw [HS.out]; exact (by exact Kd.R_below HO bel), bel⟩
     case measure => simp [intOf]; omega
   ·have hl1 : ¬ (0 : Int) < ((rl n.srcs k).length : Int) := by omega
    have x8 : wr.cell? ⟨w.heap.size, 8, none⟩ = some (.slice (some ⟨b7, o7, none⟩) n.srcs.length c7) := (hcr _ 8 (by simp only [szs]; omega)).trans ((Box.new w _ #[.int .i64 n.mesh.g.w, .int .i64 n.mesh.g.h, .slice a1 n.mesh.br.length c1, .slice a2 n.pa.length c2, .slice a3 n.pb.length c3, .slice a4 n.bufs.length c4, .slice a5 n.owners.length c5, .slice a6 n.turns.length c6, .slice (some ⟨b7, o7, none⟩) n.srcs.length c7, .slice a8 n.arrs.length c8, .int .i64 n.time] 44 rfl).get 8)
    have HS := Lib.hid (enterTo_no (enters_0 hl0))
    go_wp2_with fail
    refine wp_region_far (wr) (by kernel_rfl) (by kernel_rfl) bel ?_
    have hqc := far_cell (wr)
    have hqf := far_frozen (wr)
    repeat (first | go_big_quiet_step (fail) | quiet_step (fail))
    refine wpQuiet_nil ?_
    intro wq hbq
    clear hqc hqf
    obtain ⟨hcq, hfq, hzq⟩ := bcell hbq
    try simp only [szs] at hzq
    go_wp2
    go_roundw
    case rel => exact ⟨k + 1, by go_num, by omega, by rw [HS.out]; exact (by exact Kd.R_below HO bel), bel⟩
    case measure => simp [intOf]; omega
  ·have i0 : ¬ (k : Int) < (n.srcs.length : Int) := by omega
   obtain rfl : k = n.srcs.length := by omega
   go_wp2
   go_ret
   exact ⟨⟨_, rfl, Kd.R_lower (by exact Kd.R_below HO bel) (by simp only [szs]; omega)⟩, bel⟩
theorem moves_wrap {n : Net} (ok : netOk n = true) : IntKind.i64.wrap (((allGrants n).length : Int) + ((enteringN n).length : Int)) = ((allGrants n).length : Int) + ((enteringN n).length : Int) ∧ wrap64 (((allGrants n).length : Int) + ((enteringN n).length : Int)) = ((allGrants n).length : Int) + ((enteringN n).length : Int) := by
  have h1 := allTo_len n (nodeCount n.mesh.g).toNat
  have h2 := count_le n.mesh.g
  have g1 : (allGrants n).length ≤ 80 := by unfold allGrants; omega
  have g2 : (enteringN n).length ≤ 16 := Nat.le_trans (enterTo_len n n.srcs.length) (srcs_len ok).1
  exact ⟨IntWalk.i64_in _ (by omega), by unfold wrap64; omega⟩
theorem allGrants_len (n : Net) : (allGrants n).length ≤ 80 := by
  have h1 := allTo_len n (nodeCount n.mesh.g).toNat
  have h2 := count_le n.mesh.g
  unfold allGrants
  omega
set_option maxHeartbeats 2000000 in
theorem impl_moves (n : Net) (q : NA) (bx : Nat) (w : World) (hr : NetR 121 w n q) (hx : Box w bx (netCells n q)) (ok : netOk n = true) :
    Calls Tryz.prog 105 #[.pointer (some ⟨bx, 0, none⟩)] w fun e w' => e = .returned (.int .i64 (((allGrants n).length : Int) + ((enteringN n).length : Int))) ∧ Below w.heap.size w w' := by
  have R := Lib.hid hr
  have X := Lib.hid hx
  have OK := Lib.hid ok
  have HW := Lib.hid (moves_wrap ok)
  clear hr hx ok
  go_enter Tryz.func105, Tryz.ntmps105
  go_wp2_with (first | (go_at_call 49; refine (impl_allGrants n q bx _ (R.out.below bel) (X.out.below bel) OK.out).mono ?_; rintro e w1 ⟨hg1, hb1⟩; obtain ⟨A1, d1, rfl, hk1, hC1⟩ := hg1.read; obtain ⟨hc1, hf1, hz1⟩ := bcell hb1; (try simp only [szs] at hz1); have hb2 := (by first | exact bw_then hb2 hb1 | exact bw_then (bw_drewN _ hb2) hb1 | exact bw_then (bw_alloc _ hb2) hb1 | exact bw_then (bw_drew hb2) hb1 | exact bw_then HB hb1 | exact bw_then (bw_drewN _ HB) hb1 | exact bw_then (bw_alloc _ HB) hb1 | exact bw_then (bw_drew HB) hb1 | exact hb1); obtain ⟨hc2, hf2, hz2⟩ := bcell hb2; (try simp only [szs] at hz2); try (first | obtain ⟨hy1, hy2, hy3, hy4⟩ := lts4 hz2 | obtain ⟨hy1, hy2, hy3⟩ := lts3 hz2 | obtain ⟨hy1, hy2⟩ := lts2 hz2 | have hy1 := lts1 hz2); have hb9 := hb1) | (go_at_call 106; refine (impl_entering n q bx _ (R.out.below bel) (X.out.below bel) OK.out).mono ?_; rintro e w1 ⟨hg1, hb1⟩; obtain ⟨A1, c1, rfl, hk1, hr1⟩ := hg1.read; obtain ⟨hc1, hf1, hz1⟩ := bcell hb1; (try simp only [szs] at hz1); have hb2 := (by first | exact bw_then hb2 hb1 | exact bw_then (bw_drewN _ hb2) hb1 | exact bw_then (bw_alloc _ hb2) hb1 | exact bw_then (bw_drew hb2) hb1 | exact bw_then HB hb1 | exact bw_then (bw_drewN _ HB) hb1 | exact bw_then (bw_alloc _ HB) hb1 | exact bw_then (bw_drew HB) hb1 | exact hb1); obtain ⟨hc2, hf2, hz2⟩ := bcell hb2; (try simp only [szs] at hz2); try (first | obtain ⟨hy1, hy2, hy3, hy4⟩ := lts4 hz2 | obtain ⟨hy1, hy2, hy3⟩ := lts3 hz2 | obtain ⟨hy1, hy2⟩ := lts2 hz2 | have hy1 := lts1 hz2); have hb9 := hb1))
  go_ret
  exact ⟨ret_int (by first | rfl | exact HW.out.1 | exact HW.out.2), bel⟩
end Go.Proofs.YtmkbmddgkdoaiaaGreat
/- Rows of rows of one's own: the outer row and the inner rows, no two the same; what stays of them where a stretch of blocks is written. -/
set_option linter.unusedVariables false
set_option linter.unusedSimpArgs false
namespace Go.Proofs.YtmkbmddgkdoaiaaGreat
open Go.RowKit Go.Proofs.YtmkbmddgkdoaiaaGreatW.PrintWords
open NoC

structure Chg (lo hi : Nat) (w w1 : World) : Prop where
  os : w1.os = w.os
  tape : w1.tape = w.tape
  output : w1.output = w.output
  size : w.heap.size ≤ w1.heap.size
  block : ∀ i, i < w.heap.size → (i < lo ∨ hi ≤ i) → w1.heap[i]? = w.heap[i]?
theorem Chg.refl (lo hi : Nat) (w : World) : Chg lo hi w w := ⟨rfl, rfl, rfl, Nat.le_refl _, fun _ _ _ => rfl⟩
theorem Chg.trans {lo hi : Nat} {w w1 w2 : World} (h : Chg lo hi w w1) (k : Chg lo hi w1 w2) : Chg lo hi w w2 :=
  ⟨k.os.trans h.os, k.tape.trans h.tape, k.output.trans h.output, Nat.le_trans h.size k.size, fun i hi ho => (k.block i (Nat.lt_of_lt_of_le hi h.size) ho).trans (h.block i hi ho)⟩
theorem Chg.wide {lo hi lo' hi' : Nat} {w w1 : World} (h : Chg lo hi w w1) (hl : lo' ≤ lo) (hh : hi ≤ hi') : Chg lo' hi' w w1 :=
  ⟨h.os, h.tape, h.output, h.size, fun i hi ho => h.block i hi (by omega)⟩
theorem Chg.below {lo hi : Nat} {w0 w w1 : World} (hb : Below w0.heap.size w0 w) (h : Chg lo hi w w1) (hl : w0.heap.size ≤ lo) : Below w0.heap.size w0 w1 :=
  ⟨h.os.trans hb.os, h.tape.trans hb.tape, h.output.trans hb.output, Nat.le_trans hb.size h.size, fun i hi => (h.block i (Nat.lt_of_lt_of_le hi hb.size) (.inl (by omega))).trans (hb.block i hi)⟩
def RU {α : Type} (d : Kd α) (e : Nat) (w : World) (lo hi : Nat) (v : Value) (xs : List α) : Prop := d.R e w lo (fun k => k < hi) v xs
theorem RU.of {α : Type} {d : Kd α} {e : Nat} {w : World} {base lo hi : Nat} {v : Value} {xs : List α} (h : d.R e w base (fun _ => True) v xs) (hl : lo ≤ base) (hh : w.heap.size ≤ hi) : RU d e w lo hi v xs :=
  Kd.R_lower (Kd.R_mono (Kd.R_bound h) (fun k hk => by have := hk.2.2.1; omega)) hl
theorem RU.row {α : Type} {d : Kd α} {e : Nat} {w : World} {lo hi : Nat} {v : Value} {xs : List α} (h : RU d e w lo hi v xs) : d.R e w lo (fun _ => True) v xs := Kd.R_mono h (fun _ _ => trivial)
theorem RU.step {α : Type} {d : Kd α} {e : Nat} {w w1 : World} {lo hi : Nat} {v : Value} {xs : List α} (h : RU d e w lo hi v xs) (hm : ∀ k, lo ≤ k → k < hi → k < w.heap.size → w1.heap[k]? = w.heap[k]?) : RU d e w1 lo hi v xs :=
  Kd.R_mono (Kd.R_move (Kd.R_bound h) (fun k hk => hm k hk.2.1 hk.1 hk.2.2.1)) (fun _ hk => hk.1)
theorem RU.below {α : Type} {d : Kd α} {e : Nat} {w w1 : World} {lo hi : Nat} {v : Value} {xs : List α} (h : RU d e w lo hi v xs) (hb : Below w.heap.size w w1) : RU d e w1 lo hi v xs := Kd.R_below h hb
theorem RU.within {α : Type} {d : Kd α} {e : Nat} {w : World} {lo hi : Nat} {v : Value} {xs : List α} (h : RU d e w lo hi v xs) : Within v lo hi := fun k hk => ⟨Kd.R_base h k hk, h.1 k hk⟩
theorem RU.reads {α : Type} {d : Kd α} {e : Nat} {w : World} {lo hi : Nat} {A : Option Addr} {m c : Nat} {xs : List α} (h : RU d e w lo hi (.slice A m c) xs) : m = xs.length ∧ m ≤ c ∧ d.C w A m xs := Kd.R_rowX h.row
theorem RU.wide {α : Type} {d : Kd α} {e : Nat} {w : World} {lo hi lo' hi' : Nat} {v : Value} {xs : List α} (h : RU d e w lo hi v xs) (hl : lo' ≤ lo) (hh : hi ≤ hi') : RU d e w lo' hi' v xs :=
  Kd.R_lower (Kd.R_mono h (fun k hk => by omega)) hl
def vr (vs : List Value) (i : Nat) : Value := vs.getD i (.slice none 0 0)
theorem vr_set {vs : List Value} {k : Nat} {v : Value} (hk : k < vs.length) (j : Nat) : vr (vs.set k v) j = if j = k then v else vr vs j := by
  by_cases e : j = k
  · subst e; simp [vr, List.getD_eq_getElem?_getD, hk]
  · have e' : ¬ k = j := fun h => e h.symm
    simp [vr, List.getD_eq_getElem?_getD, e, e']
theorem vr_get {vs : List Value} {k : Nat} (hk : k < vs.length) : vs[k]? = some (vr vs k) := by
  simp [vr, List.getD_eq_getElem?_getD, hk]
structure OB (w : World) (lo hi : Nat) (v : Value) (l : List (List Flit)) (vs : List Value) : Prop where
  own : w.ownsRow lo 108 1 v l.length vs
  top : ∀ k, v.ownBlock = some k → k < hi
  row : ∀ i : Nat, i < l.length → RU kF 121 w lo hi (vr vs i) (rl l i)
  apart : ∀ i j : Nat, i < j → j < l.length → Apart (vr vs i) (vr vs j)
theorem OB.len {w : World} {lo hi : Nat} {v : Value} {l : List (List Flit)} {vs : List Value} (h : OB w lo hi v l vs) : vs.length = l.length := by
  have := h.own.1
  omega
theorem OB.apart' {w : World} {lo hi : Nat} {v : Value} {l : List (List Flit)} {vs : List Value} (h : OB w lo hi v l vs) {i j : Nat} (hne : i ≠ j) (hi' : i < l.length) (hj : j < l.length) : Apart (vr vs i) (vr vs j) := by
  rcases Nat.lt_or_gt_of_ne hne with h1 | h1
  · exact h.apart i j h1 hj
  · exact apart_comm (h.apart j i h1 hi')
theorem OB.step {w w1 : World} {lo hi : Nat} {v : Value} {l : List (List Flit)} {vs : List Value} (h : OB w lo hi v l vs) (hm : ∀ k, lo ≤ k → k < hi → k < w.heap.size → w1.heap[k]? = w.heap[k]?) : OB w1 lo hi v l vs :=
  ⟨own_move h.own (fun k hk => hm k (own_base h.own k hk) (h.top k hk) (own_lt h.own k hk)), h.top, fun i hi' => (h.row i hi').step hm, h.apart⟩
theorem OB.below {w w1 : World} {lo hi : Nat} {v : Value} {l : List (List Flit)} {vs : List Value} (h : OB w lo hi v l vs) (hb : Below w.heap.size w w1) : OB w1 lo hi v l vs := h.step (fun k _ _ h3 => hb.block k h3)
theorem OB.wide {w : World} {lo hi lo' hi' : Nat} {v : Value} {l : List (List Flit)} {vs : List Value} (h : OB w lo hi v l vs) (hl : lo' ≤ lo) (hh : hi ≤ hi') : OB w lo' hi' v l vs :=
  ⟨own_weaken h.own hl, fun k hk => by have := h.top k hk; omega, fun i hi => (h.row i hi).wide hl hh, h.apart⟩
theorem OB.form {w : World} {lo hi : Nat} {v : Value} {l : List (List Flit)} {vs : List Value} (h : OB w lo hi v l vs) (h0 : 0 < l.length) : ∃ g cap, v = .slice (some ⟨g, 0, none⟩) l.length cap ∧ lo ≤ g ∧ g < hi ∧ g < w.heap.size ∧ l.length ≤ cap ∧ ∃ cells, w.heap[g]? = some (.cells cells 108 (0, 0)) := by
  obtain ⟨g, cap, e, hb, hl⟩ := h.own.form h0
  obtain ⟨cells, hc⟩ := own_typed h.own g (by rw [e]; rfl)
  have hown := h.own
  rw [e] at hown
  exact ⟨g, cap, e, hb, h.top g (by rw [e]; rfl), hl, own_cap hown, cells, hc⟩
theorem OB.cell {w : World} {lo hi g n cap : Nat} {l : List (List Flit)} {vs : List Value} (h : OB w lo hi (.slice (some ⟨g, 0, none⟩) n cap) l vs) (k : Nat) (hk : k < l.length) : w.cell? ⟨g, k, none⟩ = some (vr vs k) ∧ w.frozen? ⟨g, k, none⟩ = false := by
  have hl := h.len
  have hn : n = l.length := by
    rcases h.own.2 with ⟨e, _⟩ | ⟨g', cap', cur, e, _⟩
    · cases e
    · injection e with _ e2 _
  have ho := h.own
  constructor
  · have hc := ho.cells (g := g) rfl k (vr vs k) (vr_get (by omega))
    rwa [add_plain] at hc
  · obtain ⟨cells, hc⟩ := own_typed ho g rfl
    unfold World.frozen?
    rw [hc]
    simp
theorem OB.rows {w : World} {lo hi : Nat} {v : Value} {l : List (List Flit)} {vs : List Value} (h : OB w lo hi v l vs) : (kB 121).R 108 w lo (fun k => k < hi) v l := by
  have hl := h.len
  refine ⟨h.top, vs, h.own, by show vs.length = l.length * 1; omega, fun j p hj => ?_⟩
  have hlt := (List.getElem?_eq_some_iff.1 hj).1
  have hp : rl l j = p := by simp [rl, List.getD_eq_getElem?_getD, hj]
  have hr := h.row j hlt
  rw [hp] at hr
  refine ⟨vr vs j, ?_, ?_⟩
  · have hjv : j < vs.length := by omega
    have e : vr vs j = vs[j] := by simp [vr, List.getD_eq_getElem?_getD, hjv]
    show (vs.drop (j * 1)).take 1 = _
    rw [e, Nat.mul_one, List.drop_eq_getElem_cons hjv]
    rfl
  · cases hv : v.ownBlock with
    | none => exact Kd.R_mono hr (fun k hk => ⟨hk, by simp⟩)
    | some g =>
      obtain ⟨cells, hc⟩ := own_typed h.own g hv
      refine Kd.R_mono (Kd.R_types hr hc (by decide)) (fun k hk => ⟨hk.1, fun e => hk.2 (Option.some.inj e)⟩)
theorem OB.reads {w : World} {lo hi : Nat} {A : Option Addr} {m c : Nat} {l : List (List Flit)} {vs : List Value} (h : OB w lo hi (.slice A m c) l vs) : m = l.length ∧ m ≤ c ∧ (kB 121).C w A m l := Kd.R_rowX (Kd.R_mono h.rows (fun _ _ => trivial))
theorem OB.slice {w : World} {lo hi : Nat} {v : Value} {l : List (List Flit)} {vs : List Value} (h : OB w lo hi v l vs) : ∃ A c, v = .slice A l.length c := own_slice h.own
theorem OB.made (W : World) (lo m : Nat) (hl : lo ≤ W.heap.size) (hm : m ≤ 1000000000) : OB (W.alloc (.cells (madeCells #[.slice none 0 0] m) 108)) lo (W.heap.size + 1) (.slice (some ⟨W.heap.size, 0, none⟩) m m) (List.replicate m []) (List.replicate m (.slice none 0 0)) := by
  have h := own_made_of' (enc := fun _ : Unit => Value.slice none 0 0) (d := ()) W lo 108 m hl (by omega)
  have hr : ∀ i : Nat, vr (List.replicate m (Value.slice none 0 0)) i = .slice none 0 0 := by
    intro i
    simp only [vr, List.getD_eq_getElem?_getD, List.getElem?_replicate]
    split <;> rfl
  have hq : ∀ i : Nat, rl (List.replicate m []) i = [] := by
    intro i
    simp only [rl, List.getD_eq_getElem?_getD, List.getElem?_replicate]
    split <;> rfl
  refine ⟨?_, fun k hk => ?_, fun i _ => ?_, fun i j _ _ => ?_⟩
  · simpa [encs] using h
  · simp only [Value.ownBlock] at hk
    have := Option.some.inj hk
    omega
  · rw [hr, hq]; exact Kd.R_nil _ _ _ _ _
  · rw [hr]; exact .inl rfl
theorem OB.put {w : World} {lo hi B g n cap : Nat} {l : List (List Flit)} {vs : List Value} (h : OB w lo hi (.slice (some ⟨g, 0, none⟩) n cap) l vs) (k : Nat) (hk : k < l.length) (u : Value) (y : List Flit) (hu : kF.R 121 w B (fun _ => True) u y) (hB : hi ≤ B) (hlo : lo ≤ hi) (hhi : hi ≤ w.heap.size) :
    OB (w.setCell ⟨g, k, none⟩ u) lo w.heap.size (.slice (some ⟨g, 0, none⟩) n cap) (l.set k y) (vs.set k u) := by
  have hl := h.len
  have hn : n = l.length := by
    rcases h.own.2 with ⟨e, _⟩ | ⟨g', cap', cur, e, _⟩
    · cases e
    · injection e with _ e2 _
  subst hn
  have hg := h.top g rfl
  have hgw := own_lt h.own g rfl
  obtain ⟨cells, hc⟩ := own_typed h.own g rfl
  have far : ∀ {lo' hi' : Nat} {v' : Value} {ys : List Flit}, RU kF 121 w lo' hi' v' ys → RU kF 121 (w.setCell ⟨g, k, none⟩ u) lo' hi' v' ys := fun hr =>
    Kd.R_set hr hc (by decide) k u
  have hst := h.own.stored k u
  refine ⟨?_, fun q hq => ?_, fun i hi' => ?_, fun i j hij hj => ?_⟩
  · rw [List.length_set]
    exact hst.1
  · have : g = q := Option.some.inj hq
    omega
  · rw [List.length_set] at hi'
    rw [vr_set (by omega)]
    rw [set_getB (by omega) i (by omega)]
    by_cases e : i = k
    · subst e
      rw [if_pos rfl, if_pos rfl]
      exact far (RU.of hu (by omega) (Nat.le_refl _))
    · rw [if_neg e, if_neg (fun h => e h.symm)]
      exact far ((h.row i hi').wide (Nat.le_refl _) (by omega))
  · rw [List.length_set] at hj
    rw [vr_set (by omega), vr_set (by omega)]
    by_cases e1 : i = k
    · rw [if_pos e1, if_neg (by omega)]
      exact apart_gt (within_R hu) (h.row j hj).within hB
    · rw [if_neg e1]
      by_cases e2 : j = k
      · rw [if_pos e2]
        exact apart_lt (h.row i (by omega)).within (within_R hu) hB
      · rw [if_neg e2]
        exact h.apart i j hij hj
end Go.Proofs.YtmkbmddgkdoaiaaGreat
/- The laws' marks on meshes, tables and classes. For all rows of at most a million elements. -/
set_option linter.unusedVariables false
set_option linter.unusedSimpArgs false
namespace Go.Proofs.YtmkbmddgkdoaiaaGreat
open Go.RowKit Go.Proofs.YtmkbmddgkdoaiaaGreatW.PrintWords
open NoC

end Go.Proofs.YtmkbmddgkdoaiaaGreat
/- The laws' marks on flits, rows of rows and networks: what is written lies in the network's own stretch of blocks. -/
set_option linter.unusedVariables false
set_option linter.unusedSimpArgs false
namespace Go.Proofs.YtmkbmddgkdoaiaaGreat
open Go.RowKit Go.Proofs.YtmkbmddgkdoaiaaGreatW.PrintWords
open NoC

theorem OB.upd {w w1 : World} {lo hi : Nat} {v : Value} {l : List (List Flit)} {vs : List Value} (h : OB w lo hi v l vs) (k : Nat) (hk : k < l.length) (hg : w.grownBy w1 (vr vs k).ownBlock) {y : List Flit} (hy : RU kF 121 w1 lo hi (vr vs k) y) : OB w1 lo hi v (l.set k y) vs := by
  have hl := h.len
  obtain ⟨inner, hin⟩ := Kd.R_own (h.row k hk)
  refine ⟨?_, h.top, fun i hi' => ?_, fun i j hij hj => h.apart i j hij (by rwa [List.length_set] at hj)⟩
  · rw [List.length_set]
    exact h.own.kept hg (own_type_ne h.own hin (by decide))
  · rw [List.length_set] at hi'
    rw [set_getB hk i hi']
    by_cases e : k = i
    · subst e
      rw [if_pos rfl]
      exact hy
    · rw [if_neg e]
      obtain ⟨h0, inner', ho, hr⟩ := h.row i hi'
      exact ⟨h0, inner', ho.kept hg (h.apart' (fun h => e h.symm) hi' hk), hr⟩
def totTo (l : List (List Flit)) : Nat → Nat
  | 0 => 0
  | i + 1 => totTo l i + (rl l i).length
theorem totTo_le {l : List (List Flit)} (h : ∀ x ∈ l, x.length ≤ 2097152) : ∀ i, i ≤ l.length → totTo l i ≤ 2097152 * i := by
  intro i
  induction i with
  | zero => intro _; simp [totTo]
  | succ i ih =>
    intro hi
    have h1 := ih (by omega)
    have h2 := h _ (rl_mem (show i < l.length by omega))
    simp only [totTo]
    omega
structure NetI (w : World) (a b : Nat → Nat) (n : Net) (q : NA) (v4 v7 v8 : List Value) : Prop where
  br : RU (Kd.int .i64) 3 w (a 0) (b 0) (.slice q.a1 n.mesh.br.length q.c1) n.mesh.br
  pa : RU (Kd.int .i64) 3 w (a 1) (b 1) (.slice q.a2 n.pa.length q.c2) n.pa
  pb : RU (Kd.int .i64) 3 w (a 1) (b 1) (.slice q.a3 n.pb.length q.c3) n.pb
  ap : Apart (.slice q.a3 n.pb.length q.c3) (.slice q.a2 n.pa.length q.c2)
  bufs : OB w (a 2) (b 2) (.slice q.a4 n.bufs.length q.c4) n.bufs v4
  owners : RU (Kd.int .i64) 3 w (a 3) (b 3) (.slice q.a5 n.owners.length q.c5) n.owners
  turns : RU (Kd.int .i64) 3 w (a 4) (b 4) (.slice q.a6 n.turns.length q.c6) n.turns
  srcs : OB w (a 5) (b 5) (.slice q.a7 n.srcs.length q.c7) n.srcs v7
  arrs : OB w (a 6) (b 6) (.slice q.a8 n.arrs.length q.c8) n.arrs v8
structure Lay (lo hi : Nat) (a b : Nat → Nat) : Prop where
  inn : ∀ i, i < 7 → lo ≤ a i ∧ a i ≤ b i ∧ b i ≤ hi
  dis : ∀ i j, i < 7 → j < 7 → i ≠ j → b i ≤ a j ∨ b j ≤ a i
def GotNI (w w' : World) (n : Net) (e : Ending) : Prop := ∃ q a b v4 v7 v8, e = .returned (.agg (netCells n q)) ∧ Lay w.heap.size w'.heap.size a b ∧ NetI w' a b n q v4 v7 v8
theorem NetI.reads {w : World} {a b : Nat → Nat} {n : Net} {q : NA} {v4 v7 v8 : List Value} {w0 : World} {q0 : NA} {e0 : Nat} (h : NetI w a b n q v4 v7 v8) (k : NetR e0 w0 n q0) : NetR 121 w n q :=
  ⟨h.br.reads.2.2, h.pa.reads.2.2, h.pb.reads.2.2, h.bufs.reads.2.2, h.owners.reads.2.2, h.turns.reads.2.2, h.srcs.reads.2.2, h.arrs.reads.2.2, k.h1, k.h2, k.h3, k.h4, k.h5, k.h6, k.h7, k.h8, k.h9, k.h10, k.h11⟩
theorem NetI.below {w w1 : World} {a b : Nat → Nat} {n : Net} {q : NA} {v4 v7 v8 : List Value} (h : NetI w a b n q v4 v7 v8) (hb : Below w.heap.size w w1) : NetI w1 a b n q v4 v7 v8 :=
  ⟨h.br.below hb, h.pa.below hb, h.pb.below hb, h.ap, h.bufs.below hb, h.owners.below hb, h.turns.below hb, h.srcs.below hb, h.arrs.below hb⟩
def seven (x0 x1 x2 x3 x4 x5 x6 : Nat) (i : Nat) : Nat := match i with | 0 => x0 | 1 => x1 | 2 => x2 | 3 => x3 | 4 => x4 | 5 => x5 | _ => x6
theorem lay_seq {t0 t1 t2 t3 t4 t5 t6 t7 : Nat} (h0 : t0 ≤ t1) (h1 : t1 ≤ t2) (h2 : t2 ≤ t3) (h3 : t3 ≤ t4) (h4 : t4 ≤ t5) (h5 : t5 ≤ t6) (h6 : t6 ≤ t7) {lo hi : Nat} (hl : lo ≤ t0) (hh : t7 ≤ hi) : Lay lo hi (seven t0 t1 t2 t3 t4 t5 t6) (seven t1 t2 t3 t4 t5 t6 t7) := by
  refine ⟨fun i hi => ?_, fun i j hi hj hne => ?_⟩
  · rcases (by omega : i = 0 ∨ i = 1 ∨ i = 2 ∨ i = 3 ∨ i = 4 ∨ i = 5 ∨ i = 6) with rfl | rfl | rfl | rfl | rfl | rfl | rfl <;> (simp only [seven]; omega)
  · rcases (by omega : i = 0 ∨ i = 1 ∨ i = 2 ∨ i = 3 ∨ i = 4 ∨ i = 5 ∨ i = 6) with rfl | rfl | rfl | rfl | rfl | rfl | rfl <;> rcases (by omega : j = 0 ∨ j = 1 ∨ j = 2 ∨ j = 3 ∨ j = 4 ∨ j = 5 ∨ j = 6) with rfl | rfl | rfl | rfl | rfl | rfl | rfl <;> first | exact absurd rfl hne | (simp only [seven]; omega)
def GotOB (w w' : World) (l : List (List Flit)) (e : Ending) : Prop := ∃ v vs, e = .returned v ∧ OB w' w.heap.size w'.heap.size v l vs
set_option maxHeartbeats 2000000 in
theorem laws_toFlitSS2 (l : List (List Flit)) (A : Option Addr) (c : Nat) (w : World) (hr : (kB 121).C w A l.length l) (hn : l.length ≤ 2097152) (hm : Hid (∀ x ∈ l, x.length ≤ 2097152)) :
    Calls Tryz.prog 44 #[.slice A l.length c] w fun e w' => GotOB w w' l e ∧ Below w.heap.size w w' := by
  have mk := print_make_int (P := Tryz.prog) 42 108 (.slice none 0 0) 24 Tryz.underlying42 info_B rfl (by omega) (l.length : Int) (by omega) (by simp; omega)
  simp only [Int.toNat_natCast] at mk
  have HM := Lib.hid (OB.made w w.heap.size l.length (Nat.le_refl _) (by omega))
  go_enter Tryz.func44, Tryz.ntmps44
  go_wp2
  go_loopw [4] (fun i wr => ∃ (k : Nat) (x : List (List Flit)) (vs : List Value), i = .int .i64 k ∧ k ≤ l.length ∧ Hid (x.length = l.length) ∧ Hid (∀ j : Nat, j < k → rl x j = rl l j) ∧ OB wr w.heap.size wr.heap.size (.slice (some ⟨w.heap.size, 0, none⟩) l.length l.length) x vs ∧ Below w.heap.size w wr ∧ w.heap.size < wr.heap.size) (fun i _ => l.length - (intOf i).toNat)
  case atStart => exact ⟨0, List.replicate l.length [], List.replicate l.length (.slice none 0 0), rfl, Nat.zero_le _, Lib.hid (by simp), Lib.hid fun j h => absurd h (Nat.not_lt_zero _), HM.out.wide (Nat.le_refl _) (by simp), bel, by simp⟩
  case round =>
    obtain ⟨k, x, vs, rfl, hk, HL, HA, HO, HB, hsz⟩ := hrel
    obtain ⟨hc0, hf0, hz0⟩ := bcell HB
    by_cases hlt : k < l.length
    · obtain ⟨b, off, rfl, hb, Ai, ci, p0, hle, hCi⟩ := rdB_at hr k hlt
      have hki := hm.out _ (rl_mem hlt)
      obtain ⟨hx9, hf9⟩ := HO.cell k (by have := HL.out; omega)
      have HOH := Lib.hid HO
      clear HO
      go_wp2_with (first | (go_at_call 83; refine (laws_toFlitS (rl l k) Ai ci _ (by exact Kd.C_below hCi bel) hki).mono ?_; rintro e w1 ⟨hg1, hb1⟩; obtain ⟨v2, rfl, HO2⟩ := hg1; obtain ⟨A2, c2, rfl⟩ := Kd.R_slice HO2; obtain ⟨hc1, hf1, hz1⟩ := bcell hb1; (try simp only [szs] at hz1); have hb2 := (by first | exact bw_then hb2 hb1 | exact bw_then (bw_drewN _ hb2) hb1 | exact bw_then (bw_alloc _ hb2) hb1 | exact bw_then (bw_drew hb2) hb1 | exact bw_then HB hb1 | exact bw_then (bw_drewN _ HB) hb1 | exact bw_then (bw_alloc _ HB) hb1 | exact bw_then (bw_drew HB) hb1 | exact hb1); obtain ⟨hc2, hf2, hz2⟩ := bcell hb2; (try simp only [szs] at hz2); try (first | obtain ⟨hy1, hy2, hy3, hy4⟩ := lts4 hz2 | obtain ⟨hy1, hy2, hy3⟩ := lts3 hz2 | obtain ⟨hy1, hy2⟩ := lts2 hz2 | have hy1 := lts1 hz2); have hb9 := hb1))
      go_roundw
      case rel =>
        have hz3 := hb1.size
        have H2 := (HOH.out.below hb1).put k (by have := HL.out; omega) _ (rl l k) HO2 (Nat.le_refl _) (by omega) (by omega)
        exact ⟨k + 1, x.set k (rl l k), vs.set k (.slice A2 (rl l k).length c2), by go_num, by omega, Lib.hid (by rw [List.length_set]; exact HL.out), Lib.hid (upto (fun j hj => by rw [set_getB (by have := HL.out; omega) j (by have := HL.out; omega), if_neg (by omega)]; exact HA.out j hj) (by rw [set_getB (by have := HL.out; omega) k (by have := HL.out; omega), if_pos rfl])), by simpa only [szs] using H2, bw_set _ (bw_then HB hb1) (Nat.le_refl _), by simp only [szs]; omega⟩
      case measure => simp [intOf]; omega
    · go_wp2
      go_ret
      have e : x = l := same_getB HL.out (fun j hj => HA.out j (by omega))
      subst e
      exact ⟨⟨_, _, rfl, HO⟩, bel⟩
end Go.Proofs.YtmkbmddgkdoaiaaGreat
