/- What arrived from a node at a node: both sides. -/
import Derived.Test.YtinnfahmfggghaaAmong
set_option linter.unusedVariables false
set_option linter.unusedSimpArgs false
namespace Go.Proofs.Ytinnfahmfggghaa
open Go.RowKit Go.Proofs.YtinnfahmfggghaaW.PrintWords
open NoC

def arrIds (n : Net) (a c : Int) : List Int := if (netOk n && isNode n.mesh.g a && inside c 0 1) = true then wholeP (arrF n a c) else []
def arrB (n : Net) (a c : Int) : Bool := (netOk n && isNode n.mesh.g a && inside c 0 1) && wholeB (arrF n a c)
def GotArr (w w' : World) (n : Net) (a c : Int) (e : Ending) : Prop := ∃ v, e = .returned (.tuple #[v, .bool (arrB n a c)]) ∧ Kd.R (Kd.int .i64) 3 w' w.heap.size (fun _ => True) v (arrIds n a c)
def fromN (n : Net) (l : List Packet) (a b c : Int) : List Int := amongTo (arrIds n b c) l a b c (arrIds n b c).length
theorem arr_no {n : Net} {a c : Int} (h : (netOk n && isNode n.mesh.g a && inside c 0 1) = false) : arrIds n a c = [] ∧ arrB n a c = false := by simp only [arrIds, arrB, h]; exact ⟨if_neg (by decide), rfl⟩
theorem arr_yes {n : Net} {a c : Int} (h : (netOk n && isNode n.mesh.g a && inside c 0 1) = true) : arrIds n a c = wholeP (arrF n a c) ∧ arrB n a c = wholeB (arrF n a c) := ⟨by rw [arrIds, if_pos h], by rw [arrB, h, Bool.true_and]⟩
theorem wholeP_len (l : List Flit) : (wholeP l).length ≤ l.length := by
  unfold wholeP
  split
  · simp
  · exact (wpAt_le l l.length).2
theorem arrF_len (n : Net) (a c : Int) : (arrF n a c).length ≤ (rl n.arrs a).length := by
  unfold arrF trimF
  rw [List.length_take]
  have h1 := trimTo_le (clsOnly (rl n.arrs a) c) (clsOnly (rl n.arrs a) c).length
  have h2 := clsOnly_len (rl n.arrs a) c
  omega
theorem arrIds_len {e : Nat} {n : Net} {q : NA} {w : World} (hr : NetR e w n q) (a c : Int) : (arrIds n a c).length ≤ 1048576 := by
  unfold arrIds
  split
  · rename_i h
    simp only [Bool.and_eq_true] at h
    obtain ⟨i0, i1⟩ := node_arrs h.1.1 h.1.2
    obtain ⟨_, _, _, _, _, _, _, _, _, _, _, _, _, _, _, _, _, _, L11⟩ := hr
    have h1 := L11 _ (rl_memI i0 i1)
    have h2 := arrF_len n a c
    have h3 := wholeP_len (arrF n a c)
    omega
  · simp
theorem fromN_len {e : Nat} {n : Net} {q : NA} {w : World} (hr : NetR e w n q) (l : List Packet) (a b c : Int) : (fromN n l a b c).length ≤ 1048576 :=
  Nat.le_trans (among_len _ _ _ _ _ _) (arrIds_len hr b c)
theorem ArrivedFrom_len {e : Nat} {n : Net} {q : NA} {w : World} (hr : NetR e w n q) (l : List Packet) (a b c : Int) : (fromN n l a b c).length ≤ 1048576 := fromN_len hr l a b c
set_option maxHeartbeats 4000000 in
set_option maxRecDepth 100000 in
theorem impl_ArrivedAt (n : Net) (q : NA) (a c : Int) (w : World) (hr : NetR 142 w n q) :
    Calls Try.prog 96 #[.agg (netCells n q), .int .i64 a, .int .i64 c] w fun e w' => GotArr w w' n a c e ∧ Below w.heap.size w w' := by
  have R := Lib.hid hr
  obtain ⟨a1, a2, a3, a4, a5, a6, a7, a8, c1, c2, c3, c4, c5, c6, c7, c8⟩ := q
  clear hr
  dsimp only [netCells]
  have X := fun (W : World) hb => Box.below (w1 := W) (Box.new w _ #[.int .i64 n.mesh.g.w, .int .i64 n.mesh.g.h, .slice a1 n.mesh.br.length c1, .slice a2 n.pa.length c2, .slice a3 n.pb.length c3, .slice a4 n.bufs.length c4, .slice a5 n.owners.length c5, .slice a6 n.turns.length c6, .slice a7 n.srcs.length c7, .slice a8 n.arrs.length c8, .int .i64 n.time] 33 rfl) hb
  have hin : inside (0 : Int) 0 4 = true := rfl
  cases hk : (netOk n && isNode n.mesh.g a)
  · have HE := Lib.hid (arr_no (n := n) (a := a) (c := c) (by rw [hk]; rfl))
    have HK : Hid ((netOk n && isNode n.mesh.g a) = false) := Lib.hid (by rw [hk]; try rfl)
    clear hk X
    go_enter Try.func96, Try.ntmps96
    go_wp2_with (first | (go_at_call 68; refine (impl_isPlace n _ a _ (R.out.below (by with_reducible repeat (first | assumption | exact bw_refl _ | apply bw_alloc | apply bw_drew | apply bw_drewN | refine bw_set _ ?_ (by omega) | refine bw_then ?_ (by assumption))))).mono ?_; rintro e w1 ⟨he, hb1⟩; rw [HK.out] at he; subst he; obtain ⟨hc1, hf1, hz1⟩ := bcell hb1; (try simp only [World.size_alloc, World.size_setCell, World.size_drew, sz_drewN] at hz1); have hb2 := (by first | exact bw_then hb2 hb1 | exact bw_then (bw_drewN _ hb2) hb1 | exact bw_then (bw_alloc _ hb2) hb1 | exact bw_then (bw_drew hb2) hb1 | exact bw_then HB hb1 | exact bw_then (bw_drewN _ HB) hb1 | exact bw_then (bw_alloc _ HB) hb1 | exact bw_then (bw_drew HB) hb1 | exact hb1); obtain ⟨hc2, hf2, hz2⟩ := bcell hb2; (try simp only [World.size_alloc, World.size_setCell, World.size_drew, sz_drewN] at hz2); try (first | obtain ⟨hy1, hy2, hy3, hy4⟩ := lts4 hz2 | obtain ⟨hy1, hy2, hy3⟩ := lts3 hz2 | obtain ⟨hy1, hy2⟩ := lts2 hz2 | have hy1 := lts1 hz2); have hb9 := hb1))
    exact bodyPost_ret (v := .tuple #[.slice none 0 0, .bool false]) (by simp [results, Try.results96, go_sem]) rfl ⟨⟨_, by rw [HE.out.2], by rw [HE.out.1]; exact R_nil' _ _ w _⟩, (by with_reducible repeat (first | assumption | exact bw_refl _ | apply bw_alloc | apply bw_drew | apply bw_drewN | refine bw_set _ ?_ (by omega) | refine bw_then ?_ (by assumption)))⟩
  have HK : Hid ((netOk n && isNode n.mesh.g a) = true) := Lib.hid (by rw [hk]; try rfl)
  cases hi : inside c 0 1
  · have HE := Lib.hid (arr_no (n := n) (a := a) (c := c) (by rw [hi, Bool.and_false]))
    have HI := Lib.hid hi
    clear hk hi X
    go_enter Try.func96, Try.ntmps96
    go_wp2_with (first | (go_at_call 68; refine (impl_isPlace n _ a _ (R.out.below (by with_reducible repeat (first | assumption | exact bw_refl _ | apply bw_alloc | apply bw_drew | apply bw_drewN | refine bw_set _ ?_ (by omega) | refine bw_then ?_ (by assumption))))).mono ?_; rintro e w1 ⟨he, hb1⟩; rw [HK.out] at he; subst he; obtain ⟨hc1, hf1, hz1⟩ := bcell hb1; (try simp only [World.size_alloc, World.size_setCell, World.size_drew, sz_drewN] at hz1); have hb2 := (by first | exact bw_then hb2 hb1 | exact bw_then (bw_drewN _ hb2) hb1 | exact bw_then (bw_alloc _ hb2) hb1 | exact bw_then (bw_drew hb2) hb1 | exact bw_then HB hb1 | exact bw_then (bw_drewN _ HB) hb1 | exact bw_then (bw_alloc _ HB) hb1 | exact bw_then (bw_drew HB) hb1 | exact hb1); obtain ⟨hc2, hf2, hz2⟩ := bcell hb2; (try simp only [World.size_alloc, World.size_setCell, World.size_drew, sz_drewN] at hz2); try (first | obtain ⟨hy1, hy2, hy3, hy4⟩ := lts4 hz2 | obtain ⟨hy1, hy2, hy3⟩ := lts3 hz2 | obtain ⟨hy1, hy2⟩ := lts2 hz2 | have hy1 := lts1 hz2); have hb9 := hb1) | (go_at_call 135; refine (impl_inside c 0 1 _).mono ?_; rintro e w' ⟨he, rfl⟩; rw [HI.out] at he; subst he))
    exact bodyPost_ret (v := .tuple #[.slice none 0 0, .bool false]) (by simp [results, Try.results96, go_sem]) rfl ⟨⟨_, by rw [HE.out.2], by rw [HE.out.1]; exact R_nil' _ _ w _⟩, (by with_reducible repeat (first | assumption | exact bw_refl _ | apply bw_alloc | apply bw_drew | apply bw_drewN | refine bw_set _ ?_ (by omega) | refine bw_then ?_ (by assumption)))⟩
  · have HE := Lib.hid (arr_yes (n := n) (a := a) (c := c) (by rw [hk, hi]; rfl))
    have HI := Lib.hid hi
    rw [Bool.and_eq_true] at hk
    have HK2 := Lib.hid hk
    clear hk hi
    go_enter Try.func96, Try.ntmps96
    go_wp2_with (first | (go_at_call 68; refine (impl_isPlace n _ a _ (R.out.below (by with_reducible repeat (first | assumption | exact bw_refl _ | apply bw_alloc | apply bw_drew | apply bw_drewN | refine bw_set _ ?_ (by omega) | refine bw_then ?_ (by assumption))))).mono ?_; rintro e w1 ⟨he, hb1⟩; rw [HK.out] at he; subst he; obtain ⟨hc1, hf1, hz1⟩ := bcell hb1; (try simp only [World.size_alloc, World.size_setCell, World.size_drew, sz_drewN] at hz1); have hb2 := (by first | exact bw_then hb2 hb1 | exact bw_then (bw_drewN _ hb2) hb1 | exact bw_then (bw_alloc _ hb2) hb1 | exact bw_then (bw_drew hb2) hb1 | exact bw_then HB hb1 | exact bw_then (bw_drewN _ HB) hb1 | exact bw_then (bw_alloc _ HB) hb1 | exact bw_then (bw_drew HB) hb1 | exact hb1); obtain ⟨hc2, hf2, hz2⟩ := bcell hb2; (try simp only [World.size_alloc, World.size_setCell, World.size_drew, sz_drewN] at hz2); try (first | obtain ⟨hy1, hy2, hy3, hy4⟩ := lts4 hz2 | obtain ⟨hy1, hy2, hy3⟩ := lts3 hz2 | obtain ⟨hy1, hy2⟩ := lts2 hz2 | have hy1 := lts1 hz2); have hb9 := hb1) | (go_at_call 135; refine (impl_inside c 0 1 _).mono ?_; rintro e w' ⟨he, rfl⟩; rw [HI.out] at he; subst he) | (go_at_call 77; refine (impl_arrived n _ _ a c _ (R.out.below (by with_reducible repeat (first | assumption | exact bw_refl _ | apply bw_alloc | apply bw_drew | apply bw_drewN | refine bw_set _ ?_ (by omega) | refine bw_then ?_ (by assumption)))) (X _ (by with_reducible repeat (first | assumption | exact bw_refl _ | apply bw_alloc | apply bw_drew | apply bw_drewN | refine bw_set _ ?_ (by omega) | refine bw_then ?_ (by assumption)))) HK2.out.1 HK2.out.2).mono ?_; rintro e w1 ⟨hg1, hb1⟩; obtain ⟨v1, rfl, HO1⟩ := hg1; obtain ⟨hc1, hf1, hz1⟩ := bcell hb1; (try simp only [World.size_alloc, World.size_setCell, World.size_drew, sz_drewN] at hz1); have hb2 := (by first | exact bw_then hb2 hb1 | exact bw_then (bw_drewN _ hb2) hb1 | exact bw_then (bw_alloc _ hb2) hb1 | exact bw_then (bw_drew hb2) hb1 | exact bw_then HB hb1 | exact bw_then (bw_drewN _ HB) hb1 | exact bw_then (bw_alloc _ HB) hb1 | exact bw_then (bw_drew HB) hb1 | exact hb1); obtain ⟨hc2, hf2, hz2⟩ := bcell hb2; (try simp only [World.size_alloc, World.size_setCell, World.size_drew, sz_drewN] at hz2); try (first | obtain ⟨hy1, hy2, hy3, hy4⟩ := lts4 hz2 | obtain ⟨hy1, hy2, hy3⟩ := lts3 hz2 | obtain ⟨hy1, hy2⟩ := lts2 hz2 | have hy1 := lts1 hz2); have hb9 := hb1))
    exact bodyPost_ret (v := .tuple #[v1, .bool (wholeB (arrF n a c))]) (by simp [results, Try.results96, go_sem]) rfl ⟨⟨v1, by rw [HE.out.2], by rw [HE.out.1]; exact Kd.R_lower (by exact Kd.R_below HO1 (by with_reducible repeat (first | assumption | exact bw_refl _ | apply bw_alloc | apply bw_drew | apply bw_drewN | refine bw_set _ ?_ (by omega) | refine bw_then ?_ (by assumption)))) (by first | omega | (simp only [World.size_alloc, World.size_setCell, World.size_drew, sz_drewN]; omega))⟩, (by with_reducible repeat (first | assumption | exact bw_refl _ | apply bw_alloc | apply bw_drew | apply bw_drewN | refine bw_set _ ?_ (by omega) | refine bw_then ?_ (by assumption)))⟩
set_option maxHeartbeats 4000000 in
set_option maxRecDepth 100000 in
theorem impl_ArrivedFrom (n : Net) (l : List Packet) (a b c : Int) (q : NA) (D : Option Addr) (d : Nat) (w : World) (hr : NetR 142 w n q) (hp : kP.C w D l.length l) (hkl : l.length ≤ 1048576) :
    Calls Try.prog 37 #[.agg (netCells n q), .slice D l.length d, .int .i64 a, .int .i64 b, .int .i64 c] w fun e w' => GotI w w' (fromN n l a b c) e ∧ Below w.heap.size w w' := by
  have R := Lib.hid hr
  have P := Lib.hid hp
  have hil := arrIds_len hr b c
  obtain ⟨a1, a2, a3, a4, a5, a6, a7, a8, c1, c2, c3, c4, c5, c6, c7, c8⟩ := q
  clear hr hp
  dsimp only [netCells]
  obtain ⟨ids, hids⟩ : ∃ ids, arrIds n b c = ids := ⟨_, rfl⟩
  have HE : Hid (fromN n l a b c = amongTo ids l a b c ids.length) := Lib.hid (by rw [fromN, hids])
  rw [hids] at hil
  have HI := Lib.hid hids
  clear hids
  go_enter Try.func37, Try.ntmps37
  go_wp2_with (first | (go_at_call 96; refine (impl_ArrivedAt n _ b c _ (R.out.below (by with_reducible repeat (first | assumption | exact bw_refl _ | apply bw_alloc | apply bw_drew | apply bw_drewN | refine bw_set _ ?_ (by omega) | refine bw_then ?_ (by assumption))))).mono ?_; rintro e w1 ⟨hg1, hb1⟩; obtain ⟨v1, rfl, HO1⟩ := hg1; rw [HI.out] at HO1; obtain ⟨A1, d1, rfl, hk1, hC1⟩ := Kd.R_reads HO1; obtain ⟨hc1, hf1, hz1⟩ := bcell hb1; (try simp only [World.size_alloc, World.size_setCell, World.size_drew, sz_drewN] at hz1); have hb2 := (by first | exact bw_then hb2 hb1 | exact bw_then (bw_drewN _ hb2) hb1 | exact bw_then (bw_alloc _ hb2) hb1 | exact bw_then (bw_drew hb2) hb1 | exact bw_then HB hb1 | exact bw_then (bw_drewN _ HB) hb1 | exact bw_then (bw_alloc _ HB) hb1 | exact bw_then (bw_drew HB) hb1 | exact hb1); obtain ⟨hc2, hf2, hz2⟩ := bcell hb2; (try simp only [World.size_alloc, World.size_setCell, World.size_drew, sz_drewN] at hz2); try (first | obtain ⟨hy1, hy2, hy3, hy4⟩ := lts4 hz2 | obtain ⟨hy1, hy2, hy3⟩ := lts3 hz2 | obtain ⟨hy1, hy2⟩ := lts2 hz2 | have hy1 := lts1 hz2); have hb9 := hb1) | (go_at_call 79; refine (impl_sentAmong ids l a b c A1 D _ _ _ (by exact Kd.C_below hC1 (by with_reducible repeat (first | assumption | exact bw_refl _ | apply bw_alloc | apply bw_drew | apply bw_drewN | refine bw_set _ ?_ (by omega) | refine bw_then ?_ (by assumption)))) (by exact Kd.C_below P.out (by with_reducible repeat (first | assumption | exact bw_refl _ | apply bw_alloc | apply bw_drew | apply bw_drewN | refine bw_set _ ?_ (by omega) | refine bw_then ?_ (by assumption)))) hkl hil).mono ?_; rintro e w1 ⟨hg1, hb1⟩; obtain ⟨v1, rfl, HO1⟩ := hg1; obtain ⟨A1, c1, rfl⟩ := Kd.R_slice HO1; obtain ⟨hc1, hf1, hz1⟩ := bcell hb1; (try simp only [World.size_alloc, World.size_setCell, World.size_drew, sz_drewN] at hz1); have hb2 := (by first | exact bw_then hb2 hb1 | exact bw_then (bw_drewN _ hb2) hb1 | exact bw_then (bw_alloc _ hb2) hb1 | exact bw_then (bw_drew hb2) hb1 | exact bw_then HB hb1 | exact bw_then (bw_drewN _ HB) hb1 | exact bw_then (bw_alloc _ HB) hb1 | exact bw_then (bw_drew HB) hb1 | exact hb1); obtain ⟨hc2, hf2, hz2⟩ := bcell hb2; (try simp only [World.size_alloc, World.size_setCell, World.size_drew, sz_drewN] at hz2); try (first | obtain ⟨hy1, hy2, hy3, hy4⟩ := lts4 hz2 | obtain ⟨hy1, hy2, hy3⟩ := lts3 hz2 | obtain ⟨hy1, hy2⟩ := lts2 hz2 | have hy1 := lts1 hz2); have hb9 := hb1))
  go_ret
  exact ⟨by rw [HE.out]; exact ⟨_, rfl, Kd.R_lower (by exact Kd.R_below HO1 (by with_reducible repeat (first | assumption | exact bw_refl _ | apply bw_alloc | apply bw_drew | apply bw_drewN | refine bw_set _ ?_ (by omega) | refine bw_then ?_ (by assumption)))) (by first | omega | (simp only [World.size_alloc, World.size_setCell, World.size_drew, sz_drewN]; omega))⟩, (by with_reducible repeat (first | assumption | exact bw_refl _ | apply bw_alloc | apply bw_drew | apply bw_drewN | refine bw_set _ ?_ (by omega) | refine bw_then ?_ (by assumption)))⟩
set_option maxHeartbeats 4000000 in
set_option maxRecDepth 100000 in
theorem spec_ArrivedAt (n : Net) (q : NA) (a c : Int) (w : World) (hr : NetR 142 w n q) :
    Calls Try.prog 95 #[.agg (netCells n q), .int .i64 a, .int .i64 c] w fun e w' => GotArr w w' n a c e ∧ Below w.heap.size w w' := by
  have R := Lib.hid hr
  obtain ⟨a1, a2, a3, a4, a5, a6, a7, a8, c1, c2, c3, c4, c5, c6, c7, c8⟩ := q
  clear hr
  dsimp only [netCells]
  have X := fun (W : World) hb => Box.below (w1 := W) (Box.new w _ #[.int .i64 n.mesh.g.w, .int .i64 n.mesh.g.h, .slice a1 n.mesh.br.length c1, .slice a2 n.pa.length c2, .slice a3 n.pb.length c3, .slice a4 n.bufs.length c4, .slice a5 n.owners.length c5, .slice a6 n.turns.length c6, .slice a7 n.srcs.length c7, .slice a8 n.arrs.length c8, .int .i64 n.time] 33 rfl) hb
  have hin : inside (0 : Int) 0 4 = true := rfl
  cases hk : (netOk n && isNode n.mesh.g a)
  · have HE := Lib.hid (arr_no (n := n) (a := a) (c := c) (by rw [hk]; rfl))
    have HK : Hid ((netOk n && isNode n.mesh.g a && inside 0 0 4) = false) := Lib.hid (by rw [hk]; try rfl)
    clear hk X
    go_enter Try.func95, Try.ntmps95
    go_wp2_with (first | (go_at_call 62; refine (spec_l17Ok n _ a 0 _ (R.out.below (by with_reducible repeat (first | assumption | exact bw_refl _ | apply bw_alloc | apply bw_drew | apply bw_drewN | refine bw_set _ ?_ (by omega) | refine bw_then ?_ (by assumption))))).mono ?_; rintro e w1 ⟨he, hb1⟩; rw [HK.out] at he; subst he; obtain ⟨hc1, hf1, hz1⟩ := bcell hb1; (try simp only [World.size_alloc, World.size_setCell, World.size_drew, sz_drewN] at hz1); have hb2 := (by first | exact bw_then hb2 hb1 | exact bw_then (bw_drewN _ hb2) hb1 | exact bw_then (bw_alloc _ hb2) hb1 | exact bw_then (bw_drew hb2) hb1 | exact bw_then HB hb1 | exact bw_then (bw_drewN _ HB) hb1 | exact bw_then (bw_alloc _ HB) hb1 | exact bw_then (bw_drew HB) hb1 | exact hb1); obtain ⟨hc2, hf2, hz2⟩ := bcell hb2; (try simp only [World.size_alloc, World.size_setCell, World.size_drew, sz_drewN] at hz2); try (first | obtain ⟨hy1, hy2, hy3, hy4⟩ := lts4 hz2 | obtain ⟨hy1, hy2, hy3⟩ := lts3 hz2 | obtain ⟨hy1, hy2⟩ := lts2 hz2 | have hy1 := lts1 hz2); have hb9 := hb1))
    exact bodyPost_ret (v := .tuple #[.slice (some ⟨w1.heap.size, 0, none⟩) 0 0, .bool false]) (by simp [results, Try.results95, go_sem]) rfl ⟨⟨_, by rw [HE.out.2], by rw [HE.out.1]; exact R_empty (W0 := w) _ _ (bw_size (by with_reducible repeat (first | assumption | exact bw_refl _ | apply bw_alloc | apply bw_drew | apply bw_drewN | refine bw_set _ ?_ (by omega) | refine bw_then ?_ (by assumption))))⟩, (by with_reducible repeat (first | assumption | exact bw_refl _ | apply bw_alloc | apply bw_drew | apply bw_drewN | refine bw_set _ ?_ (by omega) | refine bw_then ?_ (by assumption)))⟩
  have HK : Hid ((netOk n && isNode n.mesh.g a && inside 0 0 4) = true) := Lib.hid (by rw [hk]; try rfl)
  cases hi : inside c 0 1
  · have HE := Lib.hid (arr_no (n := n) (a := a) (c := c) (by rw [hi, Bool.and_false]))
    have HI := Lib.hid hi
    clear hk hi X
    go_enter Try.func95, Try.ntmps95
    go_wp2_with (first | (go_at_call 62; refine (spec_l17Ok n _ a 0 _ (R.out.below (by with_reducible repeat (first | assumption | exact bw_refl _ | apply bw_alloc | apply bw_drew | apply bw_drewN | refine bw_set _ ?_ (by omega) | refine bw_then ?_ (by assumption))))).mono ?_; rintro e w1 ⟨he, hb1⟩; rw [HK.out] at he; subst he; obtain ⟨hc1, hf1, hz1⟩ := bcell hb1; (try simp only [World.size_alloc, World.size_setCell, World.size_drew, sz_drewN] at hz1); have hb2 := (by first | exact bw_then hb2 hb1 | exact bw_then (bw_drewN _ hb2) hb1 | exact bw_then (bw_alloc _ hb2) hb1 | exact bw_then (bw_drew hb2) hb1 | exact bw_then HB hb1 | exact bw_then (bw_drewN _ HB) hb1 | exact bw_then (bw_alloc _ HB) hb1 | exact bw_then (bw_drew HB) hb1 | exact hb1); obtain ⟨hc2, hf2, hz2⟩ := bcell hb2; (try simp only [World.size_alloc, World.size_setCell, World.size_drew, sz_drewN] at hz2); try (first | obtain ⟨hy1, hy2, hy3, hy4⟩ := lts4 hz2 | obtain ⟨hy1, hy2, hy3⟩ := lts3 hz2 | obtain ⟨hy1, hy2⟩ := lts2 hz2 | have hy1 := lts1 hz2); have hb9 := hb1) | (go_at_call 122; refine (spec_l01In c 0 1 _).mono ?_; rintro e w' ⟨he, rfl⟩; rw [HI.out] at he; subst he))
    exact bodyPost_ret (v := .tuple #[.slice (some ⟨w1.heap.size, 0, none⟩) 0 0, .bool false]) (by simp [results, Try.results95, go_sem]) rfl ⟨⟨_, by rw [HE.out.2], by rw [HE.out.1]; exact R_empty (W0 := w) _ _ (bw_size (by with_reducible repeat (first | assumption | exact bw_refl _ | apply bw_alloc | apply bw_drew | apply bw_drewN | refine bw_set _ ?_ (by omega) | refine bw_then ?_ (by assumption))))⟩, (by with_reducible repeat (first | assumption | exact bw_refl _ | apply bw_alloc | apply bw_drew | apply bw_drewN | refine bw_set _ ?_ (by omega) | refine bw_then ?_ (by assumption)))⟩
  · have HE := Lib.hid (arr_yes (n := n) (a := a) (c := c) (by rw [hk, hi]; rfl))
    have HI := Lib.hid hi
    rw [Bool.and_eq_true] at hk
    have HK2 := Lib.hid hk
    clear hk hi
    go_enter Try.func95, Try.ntmps95
    go_wp2_with (first | (go_at_call 62; refine (spec_l17Ok n _ a 0 _ (R.out.below (by with_reducible repeat (first | assumption | exact bw_refl _ | apply bw_alloc | apply bw_drew | apply bw_drewN | refine bw_set _ ?_ (by omega) | refine bw_then ?_ (by assumption))))).mono ?_; rintro e w1 ⟨he, hb1⟩; rw [HK.out] at he; subst he; obtain ⟨hc1, hf1, hz1⟩ := bcell hb1; (try simp only [World.size_alloc, World.size_setCell, World.size_drew, sz_drewN] at hz1); have hb2 := (by first | exact bw_then hb2 hb1 | exact bw_then (bw_drewN _ hb2) hb1 | exact bw_then (bw_alloc _ hb2) hb1 | exact bw_then (bw_drew hb2) hb1 | exact bw_then HB hb1 | exact bw_then (bw_drewN _ HB) hb1 | exact bw_then (bw_alloc _ HB) hb1 | exact bw_then (bw_drew HB) hb1 | exact hb1); obtain ⟨hc2, hf2, hz2⟩ := bcell hb2; (try simp only [World.size_alloc, World.size_setCell, World.size_drew, sz_drewN] at hz2); try (first | obtain ⟨hy1, hy2, hy3, hy4⟩ := lts4 hz2 | obtain ⟨hy1, hy2, hy3⟩ := lts3 hz2 | obtain ⟨hy1, hy2⟩ := lts2 hz2 | have hy1 := lts1 hz2); have hb9 := hb1) | (go_at_call 122; refine (spec_l01In c 0 1 _).mono ?_; rintro e w' ⟨he, rfl⟩; rw [HI.out] at he; subst he) | (go_at_call 72; refine (spec_l22At n _ a c _ (R.out.below (by with_reducible repeat (first | assumption | exact bw_refl _ | apply bw_alloc | apply bw_drew | apply bw_drewN | refine bw_set _ ?_ (by omega) | refine bw_then ?_ (by assumption)))) HK2.out.1 HK2.out.2).mono ?_; rintro e w1 ⟨hg1, hb1⟩; obtain ⟨v1, rfl, HO1⟩ := hg1; obtain ⟨hc1, hf1, hz1⟩ := bcell hb1; (try simp only [World.size_alloc, World.size_setCell, World.size_drew, sz_drewN] at hz1); have hb2 := (by first | exact bw_then hb2 hb1 | exact bw_then (bw_drewN _ hb2) hb1 | exact bw_then (bw_alloc _ hb2) hb1 | exact bw_then (bw_drew hb2) hb1 | exact bw_then HB hb1 | exact bw_then (bw_drewN _ HB) hb1 | exact bw_then (bw_alloc _ HB) hb1 | exact bw_then (bw_drew HB) hb1 | exact hb1); obtain ⟨hc2, hf2, hz2⟩ := bcell hb2; (try simp only [World.size_alloc, World.size_setCell, World.size_drew, sz_drewN] at hz2); try (first | obtain ⟨hy1, hy2, hy3, hy4⟩ := lts4 hz2 | obtain ⟨hy1, hy2, hy3⟩ := lts3 hz2 | obtain ⟨hy1, hy2⟩ := lts2 hz2 | have hy1 := lts1 hz2); have hb9 := hb1))
    exact bodyPost_ret (v := .tuple #[v1, .bool (wholeB (arrF n a c))]) (by simp [results, Try.results95, go_sem]) rfl ⟨⟨v1, by rw [HE.out.2], by rw [HE.out.1]; exact Kd.R_lower (by exact Kd.R_below HO1 (by with_reducible repeat (first | assumption | exact bw_refl _ | apply bw_alloc | apply bw_drew | apply bw_drewN | refine bw_set _ ?_ (by omega) | refine bw_then ?_ (by assumption)))) (by first | omega | (simp only [World.size_alloc, World.size_setCell, World.size_drew, sz_drewN]; omega))⟩, (by with_reducible repeat (first | assumption | exact bw_refl _ | apply bw_alloc | apply bw_drew | apply bw_drewN | refine bw_set _ ?_ (by omega) | refine bw_then ?_ (by assumption)))⟩
set_option maxHeartbeats 4000000 in
set_option maxRecDepth 100000 in
theorem spec_ArrivedFrom (n : Net) (l : List Packet) (a b c : Int) (q : NA) (D : Option Addr) (d : Nat) (w : World) (hr : NetR 142 w n q) (hp : kP.C w D l.length l) (hkl : l.length ≤ 1048576) :
    Calls Try.prog 36 #[.agg (netCells n q), .slice D l.length d, .int .i64 a, .int .i64 b, .int .i64 c] w fun e w' => GotI w w' (fromN n l a b c) e ∧ Below w.heap.size w w' := by
  have R := Lib.hid hr
  have P := Lib.hid hp
  have hil := arrIds_len hr b c
  obtain ⟨a1, a2, a3, a4, a5, a6, a7, a8, c1, c2, c3, c4, c5, c6, c7, c8⟩ := q
  clear hr hp
  dsimp only [netCells]
  obtain ⟨ids, hids⟩ : ∃ ids, arrIds n b c = ids := ⟨_, rfl⟩
  have HE : Hid (fromN n l a b c = amongTo ids l a b c ids.length) := Lib.hid (by rw [fromN, hids])
  rw [hids] at hil
  have HI := Lib.hid hids
  clear hids
  go_enter Try.func36, Try.ntmps36
  go_wp2_with (first | (go_at_call 95; refine (spec_ArrivedAt n _ b c _ (R.out.below (by with_reducible repeat (first | assumption | exact bw_refl _ | apply bw_alloc | apply bw_drew | apply bw_drewN | refine bw_set _ ?_ (by omega) | refine bw_then ?_ (by assumption))))).mono ?_; rintro e w1 ⟨hg1, hb1⟩; obtain ⟨v1, rfl, HO1⟩ := hg1; rw [HI.out] at HO1; obtain ⟨A1, d1, rfl, hk1, hC1⟩ := Kd.R_reads HO1; obtain ⟨hc1, hf1, hz1⟩ := bcell hb1; (try simp only [World.size_alloc, World.size_setCell, World.size_drew, sz_drewN] at hz1); have hb2 := (by first | exact bw_then hb2 hb1 | exact bw_then (bw_drewN _ hb2) hb1 | exact bw_then (bw_alloc _ hb2) hb1 | exact bw_then (bw_drew hb2) hb1 | exact bw_then HB hb1 | exact bw_then (bw_drewN _ HB) hb1 | exact bw_then (bw_alloc _ HB) hb1 | exact bw_then (bw_drew HB) hb1 | exact hb1); obtain ⟨hc2, hf2, hz2⟩ := bcell hb2; (try simp only [World.size_alloc, World.size_setCell, World.size_drew, sz_drewN] at hz2); try (first | obtain ⟨hy1, hy2, hy3, hy4⟩ := lts4 hz2 | obtain ⟨hy1, hy2, hy3⟩ := lts3 hz2 | obtain ⟨hy1, hy2⟩ := lts2 hz2 | have hy1 := lts1 hz2); have hb9 := hb1) | (go_at_call 74; refine (spec_l22From ids l a b c A1 D _ _ _ (by exact Kd.C_below hC1 (by with_reducible repeat (first | assumption | exact bw_refl _ | apply bw_alloc | apply bw_drew | apply bw_drewN | refine bw_set _ ?_ (by omega) | refine bw_then ?_ (by assumption)))) (by exact Kd.C_below P.out (by with_reducible repeat (first | assumption | exact bw_refl _ | apply bw_alloc | apply bw_drew | apply bw_drewN | refine bw_set _ ?_ (by omega) | refine bw_then ?_ (by assumption)))) hkl hil).mono ?_; rintro e w1 ⟨hg1, hb1⟩; obtain ⟨v1, rfl, HO1⟩ := hg1; obtain ⟨A1, c1, rfl⟩ := Kd.R_slice HO1; obtain ⟨hc1, hf1, hz1⟩ := bcell hb1; (try simp only [World.size_alloc, World.size_setCell, World.size_drew, sz_drewN] at hz1); have hb2 := (by first | exact bw_then hb2 hb1 | exact bw_then (bw_drewN _ hb2) hb1 | exact bw_then (bw_alloc _ hb2) hb1 | exact bw_then (bw_drew hb2) hb1 | exact bw_then HB hb1 | exact bw_then (bw_drewN _ HB) hb1 | exact bw_then (bw_alloc _ HB) hb1 | exact bw_then (bw_drew HB) hb1 | exact hb1); obtain ⟨hc2, hf2, hz2⟩ := bcell hb2; (try simp only [World.size_alloc, World.size_setCell, World.size_drew, sz_drewN] at hz2); try (first | obtain ⟨hy1, hy2, hy3, hy4⟩ := lts4 hz2 | obtain ⟨hy1, hy2, hy3⟩ := lts3 hz2 | obtain ⟨hy1, hy2⟩ := lts2 hz2 | have hy1 := lts1 hz2); have hb9 := hb1))
  go_ret
  exact ⟨by rw [HE.out]; exact ⟨_, rfl, Kd.R_lower (by exact Kd.R_below HO1 (by with_reducible repeat (first | assumption | exact bw_refl _ | apply bw_alloc | apply bw_drew | apply bw_drewN | refine bw_set _ ?_ (by omega) | refine bw_then ?_ (by assumption)))) (by first | omega | (simp only [World.size_alloc, World.size_setCell, World.size_drew, sz_drewN]; omega))⟩, (by with_reducible repeat (first | assumption | exact bw_refl _ | apply bw_alloc | apply bw_drew | apply bw_drewN | refine bw_set _ ?_ (by omega) | refine bw_then ?_ (by assumption)))⟩
end Go.Proofs.Ytinnfahmfggghaa
