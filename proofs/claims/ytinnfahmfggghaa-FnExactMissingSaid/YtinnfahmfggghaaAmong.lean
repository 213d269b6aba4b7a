/- Which ids belong to packets of one flow: both sides. -/
import Derived.Test.YtinnfahmfggghaaArr
import Derived.Test.YtinnfahmfggghaaLawP
set_option linter.unusedVariables false
set_option linter.unusedSimpArgs false
namespace Go.Proofs.Ytinnfahmfggghaa
open Go.RowKit Go.Proofs.YtinnfahmfggghaaW.PrintWords
open NoC

def hitP (p : Packet) (id a b c : Int) : Bool := p.id == id && p.src == a && p.dst == b && p.cls == c
def sHit (l : List Packet) (id a b c : Int) : Nat → Bool
  | 0 => false
  | k + 1 => sHit l id a b c k || hitP (rp l k) id a b c
theorem sHit_more {l : List Packet} {id a b c : Int} {k : Nat} : ∀ j : Nat, k ≤ j → sHit l id a b c k = true → sHit l id a b c j = true := by
  intro j
  induction j with
  | zero =>
    intro h h1
    have : k = 0 := by omega
    rwa [this] at h1
  | succ j ih =>
    intro h h1
    by_cases e : k = j + 1
    · subst e; exact h1
    · simp [sHit, ih (by omega) h1]
theorem sHit_hit {l : List Packet} {id a b c : Int} {k : Nat} (hk : k < l.length) (h : hitP (rp l k) id a b c = true) : sHit l id a b c l.length = true :=
  sHit_more (k := k + 1) l.length (by omega) (by simp [sHit, h])
theorem sHit_on {l : List Packet} {id a b c : Int} {k : Nat} (h0 : sHit l id a b c k = false) (h : hitP (rp l k) id a b c = false) : sHit l id a b c (k + 1) = false := by simp [sHit, h0, h]
def amongTo (ids : List Int) (l : List Packet) (a b c : Int) (k : Nat) : List Int := ((List.range k).filter (fun j : Nat => sHit l (ri ids j) a b c l.length)).map (fun j : Nat => ri ids j)
theorem among_yes {ids : List Int} {l : List Packet} {a b c : Int} {k : Nat} (h : sHit l (ri ids k) a b c l.length = true) : amongTo ids l a b c (k + 1) = amongTo ids l a b c k ++ [ri ids k] := by simp [amongTo, List.range_succ, List.filter_append, h]
theorem among_no {ids : List Int} {l : List Packet} {a b c : Int} {k : Nat} (h : sHit l (ri ids k) a b c l.length = false) : amongTo ids l a b c (k + 1) = amongTo ids l a b c k := by simp [amongTo, List.range_succ, List.filter_append, h]
theorem among_len (ids : List Int) (l : List Packet) (a b c : Int) (k : Nat) : (amongTo ids l a b c k).length ≤ k := by
  unfold amongTo
  rw [List.length_map]
  exact Nat.le_trans (List.length_filter_le _ _) (by simp)
set_option maxHeartbeats 2000000 in
theorem impl_isSent (l : List Packet) (id x y z : Int) (D : Option Addr) (n : Nat) (w : World) (hp : kP.C w D l.length l) (hkl : l.length ≤ 1048576) :
    Calls Try.prog 138 #[.slice D l.length n, .int .i64 id, .int .i64 x, .int .i64 y, .int .i64 z] w fun e w' => e = .returned (.bool (sHit l id x y z l.length)) ∧ Below w.heap.size w w' := by
  have P := Lib.hid hp
  clear hp
  go_enter Try.func138, Try.ntmps138
  go_wp2
  go_loopw [15] (fun i wr => ∃ j : Nat, i = .int .i64 j ∧ j ≤ l.length ∧ Hid (sHit l id x y z j = false) ∧ Below w.heap.size w wr) (fun i _ => l.length - (intOf i).toNat)
  case atStart => exact ⟨0, rfl, Nat.zero_le _, Lib.hid rfl, (by with_reducible repeat (first | assumption | exact bw_refl _ | apply bw_alloc | apply bw_drew | apply bw_drewN | refine bw_set _ ?_ (by omega) | refine bw_then ?_ (by assumption)))⟩
  case round =>
    obtain ⟨j, rfl, hj, HS, HB⟩ := hrel
    obtain ⟨hc0, hf0, hz0⟩ := bcell HB
    by_cases hlt : j < l.length
    · obtain ⟨b, off, rfl, hbl, p0, p1, p2, p3, p4⟩ := rdP_at P.out j hlt
      by_cases e0 : (rp l j).id = id
      · have f0 : ((rp l j).id == id) = true := beq_iff_eq.2 e0
        by_cases e1 : (rp l j).src = x
        · have f1 : ((rp l j).src == x) = true := beq_iff_eq.2 e1
          by_cases e2 : (rp l j).dst = y
          · have f2 : ((rp l j).dst == y) = true := beq_iff_eq.2 e2
            by_cases e3 : (rp l j).cls = z
            · have f3 : ((rp l j).cls == z) = true := beq_iff_eq.2 e3
              have HV := Lib.hid (sHit_hit (id := id) (a := x) (b := y) (c := z) hlt (by simp [hitP, e0, e1, e2, e3]))
              clear e0 e1 e2 e3 HS
              go_wp2
              go_ret
              exact ⟨ret_bool HV.out.symm, (by with_reducible repeat (first | assumption | exact bw_refl _ | apply bw_alloc | apply bw_drew | apply bw_drewN | refine bw_set _ ?_ (by omega) | refine bw_then ?_ (by assumption)))⟩
            · have f3 : ((rp l j).cls == z) = false := beq_eq_false_iff_ne.2 e3
              have HV := Lib.hid (sHit_on HS.out (by simp [hitP, e3]))
              clear e0 e1 e2 e3 HS
              go_wp2
              go_roundw
              case rel => exact ⟨j + 1, by go_num, by omega, HV, (by with_reducible repeat (first | assumption | exact bw_refl _ | apply bw_alloc | apply bw_drew | apply bw_drewN | refine bw_set _ ?_ (by omega) | refine bw_then ?_ (by assumption)))⟩
              case measure => simp [intOf]; omega
          · have f2 : ((rp l j).dst == y) = false := beq_eq_false_iff_ne.2 e2
            have HV := Lib.hid (sHit_on HS.out (by simp [hitP, e2]))
            clear e0 e1 e2 HS
            go_wp2
            go_roundw
            case rel => exact ⟨j + 1, by go_num, by omega, HV, (by with_reducible repeat (first | assumption | exact bw_refl _ | apply bw_alloc | apply bw_drew | apply bw_drewN | refine bw_set _ ?_ (by omega) | refine bw_then ?_ (by assumption)))⟩
            case measure => simp [intOf]; omega
        · have f1 : ((rp l j).src == x) = false := beq_eq_false_iff_ne.2 e1
          have HV := Lib.hid (sHit_on HS.out (by simp [hitP, e1]))
          clear e0 e1 HS
          go_wp2
          go_roundw
          case rel => exact ⟨j + 1, by go_num, by omega, HV, (by with_reducible repeat (first | assumption | exact bw_refl _ | apply bw_alloc | apply bw_drew | apply bw_drewN | refine bw_set _ ?_ (by omega) | refine bw_then ?_ (by assumption)))⟩
          case measure => simp [intOf]; omega
      · have f0 : ((rp l j).id == id) = false := beq_eq_false_iff_ne.2 e0
        have HV := Lib.hid (sHit_on HS.out (by simp [hitP, e0]))
        clear e0 HS
        go_wp2
        go_roundw
        case rel => exact ⟨j + 1, by go_num, by omega, HV, (by with_reducible repeat (first | assumption | exact bw_refl _ | apply bw_alloc | apply bw_drew | apply bw_drewN | refine bw_set _ ?_ (by omega) | refine bw_then ?_ (by assumption)))⟩
        case measure => simp [intOf]; omega
    · obtain rfl : j = l.length := by omega
      go_wp2
      go_ret
      exact ⟨ret_bool HS.out.symm, (by with_reducible repeat (first | assumption | exact bw_refl _ | apply bw_alloc | apply bw_drew | apply bw_drewN | refine bw_set _ ?_ (by omega) | refine bw_then ?_ (by assumption)))⟩
set_option maxHeartbeats 2000000 in
theorem impl_sentAmong (ids : List Int) (l : List Packet) (x y z : Int) (A D : Option Addr) (c n : Nat) (w : World) (hi : Kd.C (Kd.int .i64) w A ids.length ids) (hp : kP.C w D l.length l) (hkl : l.length ≤ 1048576) (hil : ids.length ≤ 1048576) :
    Calls Try.prog 79 #[.slice A ids.length c, .slice D l.length n, .int .i64 x, .int .i64 y, .int .i64 z] w fun e w' => GotI w w' (amongTo ids l x y z ids.length) e ∧ Below w.heap.size w w' := by
  have P := Lib.hid hp
  have I := Lib.hid hi
  clear hp hi
  go_enter Try.func79, Try.ntmps79
  go_wp2
  go_loopw [11, 17] (fun v i wr => ∃ j : Nat, i = .int .i64 j ∧ j ≤ ids.length ∧ Kd.R (Kd.int .i64) 3 wr w.heap.size (fun _ => True) v (amongTo ids l x y z j) ∧ Below w.heap.size w wr) (fun _ i _ => ids.length - (intOf i).toNat)
  case atStart => exact ⟨0, rfl, Nat.zero_le _, R_empty (W0 := w) _ _ (bw_size (by with_reducible repeat (first | assumption | exact bw_refl _ | apply bw_alloc | apply bw_drew | apply bw_drewN | refine bw_set _ ?_ (by omega) | refine bw_then ?_ (by assumption)))), (by with_reducible repeat (first | assumption | exact bw_refl _ | apply bw_alloc | apply bw_drew | apply bw_drewN | refine bw_set _ ?_ (by omega) | refine bw_then ?_ (by assumption)))⟩
  case round =>
    obtain ⟨j, rfl, hj, HO, HB⟩ := hrel
    obtain ⟨Ao, co, rfl⟩ := Kd.R_slice HO
    have hlen := among_len ids l x y z j
    obtain ⟨hc0, hf0, hz0⟩ := bcell HB
    by_cases hlt : j < ids.length
    · obtain ⟨b, off, rfl, hbl, hx⟩ := rdI_at I.out j hlt
      have hxj := hx j hlt
      clear hx
      obtain ⟨u, hu⟩ : ∃ u, ri ids (j : Int) = u := ⟨_, rfl⟩
      rw [hu] at hxj
      have HU := Lib.hid hu
      clear hu
      cases hs : sHit l u x y z l.length
      · have HV := Lib.hid (among_no (ids := ids) (k := j) (by rw [HU.out]; exact hs))
        have H2 := Lib.hid hs
        clear hs
        go_wp2_with (go_at_call 138; refine (impl_isSent l u x y z D _ _ (by exact Kd.C_below P.out (by with_reducible repeat (first | assumption | exact bw_refl _ | apply bw_alloc | apply bw_drew | apply bw_drewN | refine bw_set _ ?_ (by omega) | refine bw_then ?_ (by assumption)))) hkl).mono ?_; rintro e w1 ⟨he, hb1⟩; rw [H2.out] at he; subst he; obtain ⟨hc1, hf1, hz1⟩ := bcell hb1; (try simp only [World.size_alloc, World.size_setCell, World.size_drew, sz_drewN] at hz1); have hb2 := (by first | exact bw_then hb2 hb1 | exact bw_then (bw_drewN _ hb2) hb1 | exact bw_then (bw_alloc _ hb2) hb1 | exact bw_then (bw_drew hb2) hb1 | exact bw_then HB hb1 | exact bw_then (bw_drewN _ HB) hb1 | exact bw_then (bw_alloc _ HB) hb1 | exact bw_then (bw_drew HB) hb1 | exact hb1); obtain ⟨hc2, hf2, hz2⟩ := bcell hb2; (try simp only [World.size_alloc, World.size_setCell, World.size_drew, sz_drewN] at hz2); try (first | obtain ⟨hy1, hy2, hy3, hy4⟩ := lts4 hz2 | obtain ⟨hy1, hy2, hy3⟩ := lts3 hz2 | obtain ⟨hy1, hy2⟩ := lts2 hz2 | have hy1 := lts1 hz2); have hb9 := hb1)
        go_roundw
        case rel => exact ⟨j + 1, by go_num, by omega, by rw [HV.out]; exact (by exact Kd.R_below HO (by with_reducible repeat (first | assumption | exact bw_refl _ | apply bw_alloc | apply bw_drew | apply bw_drewN | refine bw_set _ ?_ (by omega) | refine bw_then ?_ (by assumption)))), (by with_reducible repeat (first | assumption | exact bw_refl _ | apply bw_alloc | apply bw_drew | apply bw_drewN | refine bw_set _ ?_ (by omega) | refine bw_then ?_ (by assumption)))⟩
        case measure => simp [intOf]; omega
      · have HV := Lib.hid (among_yes (ids := ids) (k := j) (by rw [HU.out]; exact hs))
        rw [HU.out] at HV
        have H2 := Lib.hid hs
        clear hs
        go_wp2_with (first | (go_at_call 138; refine (impl_isSent l u x y z D _ _ (by exact Kd.C_below P.out (by with_reducible repeat (first | assumption | exact bw_refl _ | apply bw_alloc | apply bw_drew | apply bw_drewN | refine bw_set _ ?_ (by omega) | refine bw_then ?_ (by assumption)))) hkl).mono ?_; rintro e w1 ⟨he, hb1⟩; rw [H2.out] at he; subst he; obtain ⟨hc1, hf1, hz1⟩ := bcell hb1; (try simp only [World.size_alloc, World.size_setCell, World.size_drew, sz_drewN] at hz1); have hb2 := (by first | exact bw_then hb2 hb1 | exact bw_then (bw_drewN _ hb2) hb1 | exact bw_then (bw_alloc _ hb2) hb1 | exact bw_then (bw_drew hb2) hb1 | exact bw_then HB hb1 | exact bw_then (bw_drewN _ HB) hb1 | exact bw_then (bw_alloc _ HB) hb1 | exact bw_then (bw_drew HB) hb1 | exact hb1); obtain ⟨hc2, hf2, hz2⟩ := bcell hb2; (try simp only [World.size_alloc, World.size_setCell, World.size_drew, sz_drewN] at hz2); try (first | obtain ⟨hy1, hy2, hy3, hy4⟩ := lts4 hz2 | obtain ⟨hy1, hy2, hy3⟩ := lts3 hz2 | obtain ⟨hy1, hy2⟩ := lts2 hz2 | have hy1 := lts1 hz2); have hb9 := hb1) | (at_builtin; refine app_int (W0 := w) rfl (.tmp 27) (.tmp 29) 24 3 rfl Try.underlying24 info_int _ (amongTo ids l x y z j) u rfl (by first | rfl | exact congrArg (fun z => Value.slice (some ⟨z, 0, none⟩) 1 1) (World.size_alloc _ _).symm) (by exact Kd.R_below HO (by with_reducible repeat (first | assumption | exact bw_refl _ | apply bw_alloc | apply bw_drew | apply bw_drewN | refine bw_set _ ?_ (by omega) | refine bw_then ?_ (by assumption)))) (by with_reducible repeat (first | assumption | exact bw_refl _ | apply bw_alloc | apply bw_drew | apply bw_drewN | refine bw_set _ ?_ (by omega) | refine bw_then ?_ (by assumption))) (by omega) ?_; intro v1 w1 HO1 HB1; obtain ⟨hc1, hf1, hz1⟩ := bcell HB1; (try simp only [World.size_alloc, World.size_setCell, World.size_drew, sz_drewN] at hz1); have hb2 := HB1; have hb9 := HB1))
        go_roundw
        case rel => exact ⟨j + 1, by go_num, by omega, by rw [HV.out]; exact (by exact Kd.R_below HO1 (by with_reducible repeat (first | assumption | exact bw_refl _ | apply bw_alloc | apply bw_drew | apply bw_drewN | refine bw_set _ ?_ (by omega) | refine bw_then ?_ (by assumption)))), (by with_reducible repeat (first | assumption | exact bw_refl _ | apply bw_alloc | apply bw_drew | apply bw_drewN | refine bw_set _ ?_ (by omega) | refine bw_then ?_ (by assumption)))⟩
        case measure => simp [intOf]; omega
    · obtain rfl : j = ids.length := by omega
      go_wp2
      go_ret
      exact ⟨⟨_, rfl, (by exact Kd.R_below HO (by with_reducible repeat (first | assumption | exact bw_refl _ | apply bw_alloc | apply bw_drew | apply bw_drewN | refine bw_set _ ?_ (by omega) | refine bw_then ?_ (by assumption))))⟩, (by with_reducible repeat (first | assumption | exact bw_refl _ | apply bw_alloc | apply bw_drew | apply bw_drewN | refine bw_set _ ?_ (by omega) | refine bw_then ?_ (by assumption)))⟩
set_option maxHeartbeats 4000000 in
theorem spec_l22From (ids : List Int) (l : List Packet) (x y z : Int) (A D : Option Addr) (c n : Nat) (w : World) (hi : Kd.C (Kd.int .i64) w A ids.length ids) (hp : kP.C w D l.length l) (hkl : l.length ≤ 1048576) (hil : ids.length ≤ 1048576) :
    Calls Try.prog 74 #[.slice A ids.length c, .slice D l.length n, .int .i64 x, .int .i64 y, .int .i64 z] w fun e w' => GotI w w' (amongTo ids l x y z ids.length) e ∧ Below w.heap.size w w' := by
  have P := Lib.hid hp
  have I := Lib.hid hi
  clear hp hi
  go_enter Try.func74, Try.ntmps74
  go_wp2
  go_loopw [11, 12] (fun v i wr => ∃ j : Nat, i = .int .i64 j ∧ j ≤ ids.length ∧ Kd.R (Kd.int .i64) 3 wr w.heap.size (fun _ => True) v (amongTo ids l x y z j) ∧ Below w.heap.size w wr) (fun _ i _ => ids.length - (intOf i).toNat)
  case atStart => exact ⟨0, rfl, Nat.zero_le _, R_empty (W0 := w) _ _ (bw_size (by with_reducible repeat (first | assumption | exact bw_refl _ | apply bw_alloc | apply bw_drew | apply bw_drewN | refine bw_set _ ?_ (by omega) | refine bw_then ?_ (by assumption)))), (by with_reducible repeat (first | assumption | exact bw_refl _ | apply bw_alloc | apply bw_drew | apply bw_drewN | refine bw_set _ ?_ (by omega) | refine bw_then ?_ (by assumption)))⟩
  case round =>
    obtain ⟨j, rfl, hj, HO, HB⟩ := hrel
    obtain ⟨wo, ewo⟩ : ∃ t, t = wr := ⟨_, rfl⟩
    subst ewo
    obtain ⟨Ao, co, rfl⟩ := Kd.R_slice HO
    have hlen := among_len ids l x y z j
    by_cases hlt : j < ids.length
    · obtain ⟨u, hu⟩ : ∃ u, ri ids (j : Int) = u := ⟨_, rfl⟩
      have HU := Lib.hid hu
      clear hu
      go_wp2
      go_loopw [11, 13] (fun v k wr => ∃ i : Nat, k = .int .i64 i ∧ i ≤ l.length ∧ v = .slice Ao (amongTo ids l x y z j).length co ∧ Hid (sHit l u x y z i = false) ∧ Kd.R (Kd.int .i64) 3 wr w.heap.size (fun _ => True) (.slice Ao (amongTo ids l x y z j).length co) (amongTo ids l x y z j) ∧ Below w.heap.size w wr) (fun _ k _ => l.length - (intOf k).toNat)
      case atStart => exact ⟨0, rfl, Nat.zero_le _, rfl, Lib.hid rfl, HO, HB⟩
      case round =>
        clear HO HB
        obtain ⟨i, rfl, hi, rfl, HS, HO, HB⟩ := hrel
        by_cases hli : i < l.length
        · obtain ⟨b, off, rfl, hbl, p0, p1, p2, p3, p4⟩ := rdP_at (Kd.C_below P.out HB) i hli
          obtain ⟨b5, o5, rfl, hb5, hx⟩ := rdI_at (Kd.C_below I.out HB) j hlt
          have hxj := hx j hlt
          rw [HU.out] at hxj
          clear hx
          obtain ⟨z1, z2, z3, z4, z5, z6⟩ := more hb5
          by_cases e0 : (rp l i).id = u
          · have f0 : ((rp l i).id == u) = true := beq_iff_eq.2 e0
            by_cases e1 : (rp l i).src = x
            · have f1 : ((rp l i).src == x) = true := beq_iff_eq.2 e1
              by_cases e2 : (rp l i).dst = y
              · have f2 : ((rp l i).dst == y) = true := beq_iff_eq.2 e2
                by_cases e3 : (rp l i).cls = z
                · have f3 : ((rp l i).cls == z) = true := beq_iff_eq.2 e3
                  have hs := sHit_hit (id := u) (a := x) (b := y) (c := z) hli (by simp [hitP, e0, e1, e2, e3])
                  have HV := Lib.hid (among_yes (ids := ids) (k := j) (by rw [HU.out]; exact hs))
                  rw [HU.out] at HV
                  clear e0 e1 e2 e3 HS hs
                  go_wp2
                  go_quiet (fail)
                  go_wp2_with (at_builtin; refine app_int (W0 := w) rfl (.tmp 57) (.tmp 62) 24 3 rfl Try.underlying24 info_int _ (amongTo ids l x y z j) u rfl (by first | rfl | exact congrArg (fun z => Value.slice (some ⟨z, 0, none⟩) 1 1) (World.size_alloc _ _).symm) (by exact Kd.R_below HO (by with_reducible repeat (first | assumption | exact bw_refl _ | apply bw_alloc | apply bw_drew | apply bw_drewN | refine bw_set _ ?_ (by omega) | refine bw_then ?_ (by assumption)))) (by with_reducible repeat (first | assumption | exact bw_refl _ | apply bw_alloc | apply bw_drew | apply bw_drewN | refine bw_set _ ?_ (by omega) | refine bw_then ?_ (by assumption))) (by omega) ?_; intro v1 w1 HO1 HB1; obtain ⟨hc1, hf1, hz1⟩ := bcell HB1; (try simp only [World.size_alloc, World.size_setCell, World.size_drew, sz_drewN] at hz1); have hb2 := HB1; have hb9 := HB1)
                  go_roundw
                  case rel => exact ⟨j + 1, by go_num, by omega, by rw [HV.out]; exact (by exact Kd.R_below HO1 (by with_reducible repeat (first | assumption | exact bw_refl _ | apply bw_alloc | apply bw_drew | apply bw_drewN | refine bw_set _ ?_ (by omega) | refine bw_then ?_ (by assumption)))), (by with_reducible repeat (first | assumption | exact bw_refl _ | apply bw_alloc | apply bw_drew | apply bw_drewN | refine bw_set _ ?_ (by omega) | refine bw_then ?_ (by assumption)))⟩
                  case measure => simp [intOf]; omega
                · have f3 : ((rp l i).cls == z) = false := beq_eq_false_iff_ne.2 e3
                  have HV := Lib.hid (sHit_on HS.out (by simp [hitP, e3]))
                  clear e0 e1 e2 e3 HS
                  go_wp2
                  go_quiet (fail)
                  go_wp2
                  go_roundw
                  case rel => exact ⟨i + 1, by go_num, by omega, rfl, HV, (by exact Kd.R_below HO (by with_reducible repeat (first | assumption | exact bw_refl _ | apply bw_alloc | apply bw_drew | apply bw_drewN | refine bw_set _ ?_ (by omega) | refine bw_then ?_ (by assumption)))), (by with_reducible repeat (first | assumption | exact bw_refl _ | apply bw_alloc | apply bw_drew | apply bw_drewN | refine bw_set _ ?_ (by omega) | refine bw_then ?_ (by assumption)))⟩
                  case measure => simp [intOf]; omega
              · have f2 : ((rp l i).dst == y) = false := beq_eq_false_iff_ne.2 e2
                have HV := Lib.hid (sHit_on HS.out (by simp [hitP, e2]))
                clear e0 e1 e2 HS
                go_wp2
                go_quiet (fail)
                go_wp2
                go_roundw
                case rel => exact ⟨i + 1, by go_num, by omega, rfl, HV, (by exact Kd.R_below HO (by with_reducible repeat (first | assumption | exact bw_refl _ | apply bw_alloc | apply bw_drew | apply bw_drewN | refine bw_set _ ?_ (by omega) | refine bw_then ?_ (by assumption)))), (by with_reducible repeat (first | assumption | exact bw_refl _ | apply bw_alloc | apply bw_drew | apply bw_drewN | refine bw_set _ ?_ (by omega) | refine bw_then ?_ (by assumption)))⟩
                case measure => simp [intOf]; omega
            · have f1 : ((rp l i).src == x) = false := beq_eq_false_iff_ne.2 e1
              have HV := Lib.hid (sHit_on HS.out (by simp [hitP, e1]))
              clear e0 e1 HS
              go_wp2
              go_quiet (fail)
              go_wp2
              go_roundw
              case rel => exact ⟨i + 1, by go_num, by omega, rfl, HV, (by exact Kd.R_below HO (by with_reducible repeat (first | assumption | exact bw_refl _ | apply bw_alloc | apply bw_drew | apply bw_drewN | refine bw_set _ ?_ (by omega) | refine bw_then ?_ (by assumption)))), (by with_reducible repeat (first | assumption | exact bw_refl _ | apply bw_alloc | apply bw_drew | apply bw_drewN | refine bw_set _ ?_ (by omega) | refine bw_then ?_ (by assumption)))⟩
              case measure => simp [intOf]; omega
          · have f0 : ((rp l i).id == u) = false := beq_eq_false_iff_ne.2 e0
            have HV := Lib.hid (sHit_on HS.out (by simp [hitP, e0]))
            clear e0 HS
            go_wp2
            go_quiet (fail)
            go_wp2
            go_roundw
            case rel => exact ⟨i + 1, by go_num, by omega, rfl, HV, (by exact Kd.R_below HO (by with_reducible repeat (first | assumption | exact bw_refl _ | apply bw_alloc | apply bw_drew | apply bw_drewN | refine bw_set _ ?_ (by omega) | refine bw_then ?_ (by assumption)))), (by with_reducible repeat (first | assumption | exact bw_refl _ | apply bw_alloc | apply bw_drew | apply bw_drewN | refine bw_set _ ?_ (by omega) | refine bw_then ?_ (by assumption)))⟩
            case measure => simp [intOf]; omega
        · obtain rfl : i = l.length := by omega
          have HV := Lib.hid (among_no (ids := ids) (k := j) (by rw [HU.out]; exact HS.out))
          go_wp2
          go_roundw
          case rel => exact ⟨j + 1, by go_num, by omega, by rw [HV.out]; exact (by exact Kd.R_below HO (by with_reducible repeat (first | assumption | exact bw_refl _ | apply bw_alloc | apply bw_drew | apply bw_drewN | refine bw_set _ ?_ (by omega) | refine bw_then ?_ (by assumption)))), (by with_reducible repeat (first | assumption | exact bw_refl _ | apply bw_alloc | apply bw_drew | apply bw_drewN | refine bw_set _ ?_ (by omega) | refine bw_then ?_ (by assumption)))⟩
          case measure => simp [intOf]; omega
    · obtain rfl : j = ids.length := by omega
      go_wp2
      go_ret
      exact ⟨⟨_, rfl, (by exact Kd.R_below HO (by with_reducible repeat (first | assumption | exact bw_refl _ | apply bw_alloc | apply bw_drew | apply bw_drewN | refine bw_set _ ?_ (by omega) | refine bw_then ?_ (by assumption))))⟩, (by with_reducible repeat (first | assumption | exact bw_refl _ | apply bw_alloc | apply bw_drew | apply bw_drewN | refine bw_set _ ?_ (by omega) | refine bw_then ?_ (by assumption)))⟩
end Go.Proofs.Ytinnfahmfggghaa
